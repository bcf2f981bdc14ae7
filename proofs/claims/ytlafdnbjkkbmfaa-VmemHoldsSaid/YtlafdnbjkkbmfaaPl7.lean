/- The plain law: what is wrong with a reach; no condition. -/
import Derived.Test.YtlafdnbjkkbmfaaPl6
import Derived.Test.YtlafdnbjkkbmfaaVm7
namespace Go.Proofs.Ytlafdnbjkkbmfaa
theorem reach_law {T : List (Int × Ent)} {F : List (Int × Tak)} {R : List (Int × Int)} {q : Int} {whose : Nat → Int} {pages : Nat} (h : MemInv T F R q whose pages) {o m : Int} (ho : o = 1 ∨ o = 2) (hm : m = 1 ∨ m = 2) {g : Nat} (hg : g < pages) :
    reachB T o m (g : Int) = true ↔ whose g = o := by
  unfold reachB
  cases hx : getL T (g : Int) with
  | none =>
    have := h.no g hg hx
    simp
    omega
  | some x =>
    obtain ⟨b1, b2, b3, b4, b5, b6, b7, b8⟩ := h.rng _ _ hx
    simp only [Int.toNat_natCast] at b4
    simp [b3, ← b4]
    omega
end Go.Proofs.Ytlafdnbjkkbmfaa
