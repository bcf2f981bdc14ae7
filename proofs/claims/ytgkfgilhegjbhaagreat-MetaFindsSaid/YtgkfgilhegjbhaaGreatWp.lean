/- package window: the places, one after another; no condition. -/
import Derived.Test.YtgkfgilhegjbhaaGreatWf
import Derived.Test.YtgkfgilhegjbhaaGreatRal
import Derived.RangeFuncBound
import Derived.LoopIn
namespace Go.Proofs.YtgkfgilhegjbhaaGreat
open Go.RowKit
attribute [local go_sem] run_mf
attribute [local go_sem ↓] Go.wp_at_zero Go.wp_at_succ
attribute [local go_sem] Oper.semAt_some wide_fn wide_depth wide_round
section
variable {w : World}
def four : List (Fin 4) := [0, 1, 2, 3]
def encF (x : Fin 4) : Value := .agg #[.int .i64 (x.val : Int)]
theorem four_pre {k : Nat} (h : k < 4) : four.take k ++ [⟨k, h⟩] = four.take (k + 1) := by
  rcases (show k = 0 ∨ k = 1 ∨ k = 2 ∨ k = 3 by omega) with rfl | rfl | rfl | rfl <;> rfl
set_option maxRecDepth 100000 in
set_option maxHeartbeats 1000000 in
theorem wi_places1 : SeqStopsK Fence.wide 9 Tryz.prog 54 #[] (fun x => #[encF x]) (fun _ _ => True) (fun xs => xs = four) (fun pre => pre <+: four) 4 w := by
  intro l J Jx W hW hJ hJx hY h0
  refine callsIn_of_wp Tryz.func54 rfl trivial ?_ rfl
  simp only [Tryz.ntmps54, List.size_toArray, List.length_cons, List.length_nil, Nat.reduceAdd, Nat.reduceSub, Array.replicate_succ, Array.replicate_zero, List.push_toArray, List.append_toArray, List.nil_append, List.cons_append]
  have HY := Lib.hid hY
  clear hY hJ hJx
  gi_wp2
  gi_loopw [3] (fun i wr => ∃ k : Nat, i = .int .i64 (k : Int) ∧ k ≤ 4 ∧ J (four.take k) wr) (fun i _ => 4 - (intOf i).toNat)
  case atStart => exact ⟨0, rfl, Nat.zero_le _, h0⟩
  case round =>
    obtain ⟨k, rfl, hk, hJs⟩ := hrel
    by_cases hlt : k < 4
    · obtain ⟨fn, tmps, assign, body, hy, hR⟩ := HY.out (four.take k) ⟨k, hlt⟩ wr hJs (by simp [four]; omega)
      unfold encF at hy
      simp only at hy
      gi_wp2
      refine hR.mono ?_
      rintro e W3 (⟨rfl, hJ3, _⟩ | ⟨rfl, hJx3⟩)
      · rw [four_pre hlt] at hJ3
        gi_wp2
        go_roundw
        case rel => exact ⟨k + 1, by go_num, by omega, hJ3⟩
        case measure => simp [intOf]; omega
      · rw [four_pre hlt] at hJx3
        gi_wp2
        refine bodyPost_ret (results_none rfl _ _ _) rfl ?_
        exact ⟨⟨_, rfl⟩, .inr ⟨_, List.take_prefix _ _, hJx3⟩⟩
    · obtain rfl : k = 4 := by omega
      gi_wp2
      go_end0
      exact ⟨⟨_, rfl⟩, .inl hJs⟩
end
end Go.Proofs.YtgkfgilhegjbhaaGreat
