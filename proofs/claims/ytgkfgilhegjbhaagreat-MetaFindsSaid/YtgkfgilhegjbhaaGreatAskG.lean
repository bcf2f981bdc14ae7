/- asked: questions as a list; no condition. -/
import Derived.ScopeJumps
import Derived.WalkMore
import Derived.Test.YtgkfgilhegjbhaaGreatLib
namespace Go.Proofs.YtgkfgilhegjbhaaGreat
open Go.RowKit
attribute [local go_sem] run_mf
def askC (qs : List (Value × Int × Bool)) : Array Value := (qs.flatMap fun q => [q.1, .int .i64 q.2.1]).toArray
theorem askC_cell : ∀ (qs : List (Value × Int × Bool)) (k : Nat) (h : k < qs.length), (askC qs)[k * 2]? = some qs[k].1 ∧ (askC qs)[k * 2 + 1]? = some (.int .i64 qs[k].2.1)
  | [], _, h => by simp at h
  | q :: qs, 0, _ => by simp [askC]
  | q :: qs, k + 1, h => by
    have := askC_cell qs k (by simpa using h)
    simp only [askC, List.flatMap_cons] at this ⊢
    rw [show (k + 1) * 2 = k * 2 + 2 by omega]
    simpa using this
theorem firstE_drop {qs : List (Value × Int × Bool)} {k : Nat} (h : k < qs.length) : firstE (qs.drop k) = if qs[k].2.2 = true then qs[k].2.1 else firstE (qs.drop (k + 1)) := by
  rw [List.drop_eq_getElem_cons h]; rfl
theorem QL_drop {P : Program} {w : World} {qs : List (Value × Int × Bool)} {k : Nat} (h : k < qs.length) (hq : QL P w (qs.drop k)) : Q P w qs[k].1 (.bool qs[k].2.2) ∧ (qs[k].2.2 = false → QL P w (qs.drop (k + 1))) := by
  rw [List.drop_eq_getElem_cons h] at hq; exact hq
end Go.Proofs.YtgkfgilhegjbhaaGreat
