/- The plain law: every part of a reach that is let lies in a frame; no condition. -/
import Derived.Test.YtlafdnbjkkbmfaaPl8
namespace Go.Proofs.Ytlafdnbjkkbmfaa
theorem parts_thr {T : List (Int × Ent)} {F : List (Int × Tak)} {R : List (Int × Int)} {q : Int} {whose : Nat → Int} {pages : Nat} (h : MemInv T F R q whose pages) {o m : Int} {a n : Nat} (hr : allReach T o m a n = true) :
    ∀ p ∈ partsL a n, thrE F (2 * q) (frP T p) (p.2.1 : Int) (p.2.2 : Int) = 0 := by
  intro p hp
  have h1 := List.all_eq_true.1 hr p hp
  obtain ⟨k1, k2, k3, k4⟩ := partsF_ok n a (a + n) p hp
  unfold reachB at h1
  simp only [Bool.and_eq_true] at h1
  obtain ⟨x, hx⟩ := Option.isSome_iff_exists.1 h1.1
  obtain ⟨b1, b2, b3, b4, b5, b6, b7, b8⟩ := h.rng _ _ hx
  have hf : frP T p = x.frame := by
    show ((getL T (p.1 : Int)).getD ent0).frame = x.frame
    rw [hx]; rfl
  rw [hf]
  unfold thrE
  rw [if_neg (by simp; omega), if_neg (by simp; omega), if_neg (by cases hg : getL F x.frame <;> simp_all)]
theorem askE_all {T : List (Int × Ent)} {o m : Int} {a n : Nat} (h : askE T o m a n = 0) : allReach T o m a n = true := by
  unfold askE at h
  split at h
  · split at h
    · split at h
      · split at h
        · assumption
        · cases h
      · cases h
    · cases h
  · cases h
end Go.Proofs.Ytlafdnbjkkbmfaa
