/- The plain law: the bytes through Map and Unmap; no condition. -/
import Derived.Test.YtlafdnbjkkbmfaaPl5
namespace Go.Proofs.Ytlafdnbjkkbmfaa
theorem pgI_map {T : List (Int × Ent)} {F : List (Int × Tak)} {now : List UInt8} {n : Nat} {f p m : Int} (hI : PgI T F now) (hl : 256 * n + 256 ≤ now.length) (hf : getL F f = none) (hT : ∀ g x, getL T g = some x → (getL F x.frame).isSome = true) :
    PgI (putL T n ⟨p, m, f⟩) (putL F f (tak1 p)) (splice now (256 * n) (List.replicate 256 0)) := by
  intro g x hx
  have hsp := splice_get now (256 * n) (List.replicate 256 (0 : UInt8)) (by rw [List.length_replicate]; omega)
  rw [List.length_replicate] at hsp
  rw [getL_putL] at hx
  rw [getL_putL]
  split at hx
  · rename_i e
    cases hx
    rw [if_pos rfl]
    simp only [Option.getD_some, tak1]
    apply List.ext_getElem?
    intro j
    rw [page_get?, hsp]
    by_cases hj : j < 256
    · rw [if_pos hj, if_pos (by omega), List.getElem?_replicate, if_pos hj, List.getElem?_replicate, if_pos (by omega)]
    · rw [if_neg hj, List.getElem?_replicate, if_neg hj]
  · rename_i e
    have hne : f ≠ x.frame := fun he => by
      have := hT _ _ hx
      rw [← he, hf] at this
      cases this
    rw [if_neg hne, hI g x hx]
    apply List.ext_getElem?
    intro j
    rw [page_get?, page_get?, hsp]
    by_cases hj : j < 256
    · rw [if_pos hj, if_pos hj, if_neg (by omega)]
    · rw [if_neg hj, if_neg hj]
theorem pgI_unmap {T : List (Int × Ent)} {F : List (Int × Tak)} {now : List UInt8} {n : Int} {x : Ent} (hI : PgI T F now) (ht : (T.map (·.1)).Nodup) (hf : (F.map (·.1)).Nodup) (hx : getL T n = some x)
    (hinj : ∀ g h x y, getL T g = some x → getL T h = some y → x.frame = y.frame → g = h) : PgI (delL T n) (delL F x.frame) now := by
  intro g y hy
  rw [getL_delL ht] at hy
  split at hy
  · cases hy
  · rename_i e
    rw [getL_delL hf, if_neg (fun he => e (hinj _ _ _ _ hx hy he))]
    exact hI g y hy
end Go.Proofs.Ytlafdnbjkkbmfaa
