/- package page: none, Get; no condition. -/
import Derived.Test.YtgkfgilhegjbhaaGreatMem
namespace Go.Proofs.YtgkfgilhegjbhaaGreat
open Go.RowKit
attribute [local go_sem] run_mf
section
variable {w : World} {tb eb : Nat} {T : List (Int × Ent)}
set_option maxRecDepth 100000 in
set_option maxHeartbeats 1000000 in
theorem page_none (h : TabAt w tb eb T) : Calls Tryz.prog 96 #[.pointer (some ⟨tb, 0, none⟩)] w fun e w' => e = .returned (.bool false) ∧ w = w' := by
  have h0 := h.c0
  have hm := run_eql_map_nil (P := Tryz.prog) w 112 _ _ (some eb) Tryz.underlying112
  go_enter Tryz.func96, Tryz.ntmps96
  go_wp2
  go_ret
  exact ⟨rfl, rfl⟩
def ent0 : Ent := ⟨0, 0, 0⟩
theorem lookE1 (h : TabAt w tb eb T) (n : Int) : (Instr.lookup 112 (.map (some eb)) (.int .i64 n) true).run Tryz.prog w = .ok (.tuple #[encE ((getL T n).getD ent0), .bool (getL T n).isSome]) w :=
  h.en.look1 Tryz.underlying112 Tryz.underlying3 Tryz.zeroValue137 n (by cases getL T n <;> rfl) rfl
theorem lookE0 (h : TabAt w tb eb T) (n : Int) : (Instr.lookup 112 (.map (some eb)) (.int .i64 n) false).run Tryz.prog w = .ok (encE ((getL T n).getD ent0)) w :=
  h.en.look0 Tryz.underlying112 Tryz.underlying3 Tryz.zeroValue137 n (by cases getL T n <;> rfl)
set_option maxRecDepth 100000 in
set_option maxHeartbeats 1000000 in
theorem page_get (h : TabAt w tb eb T) (n : Int) : Calls Tryz.prog 101 #[.pointer (some ⟨tb, 0, none⟩), .int .i64 n] w fun e w' => e = .returned (.tuple #[encE ((getL T n).getD ent0), .bool (getL T n).isSome]) ∧ Ext w w' := by
  have hx1 : Ext w (w.alloc (.cells #[.int .i64 0, .int .i64 0, .int .i64 0] 137)) := ext_n _ (Ext.refl _)
  have h1 := h.ext hx1
  have h0 := h1.c0
  have hl := lookE1 h1 n
  unfold encE at hl ⊢
  go_enter Tryz.func101, Tryz.ntmps101
  go_wp2_with (go_at_call 96; refine (page_none h1).mono ?_; rintro e w' ⟨rfl, rfl⟩)
  refine bodyPost_ret (v := .tuple #[.agg #[.int .i64 ((getL T n).getD ent0).owner, .int .i64 ((getL T n).getD ent0).may, .int .i64 ((getL T n).getD ent0).frame], .bool (getL T n).isSome]) ?_ rfl ⟨rfl, ext_n _ (ext_n _ (Ext.refl _))⟩
  simp [results, Tryz.results101, go_sem]
end
end Go.Proofs.YtgkfgilhegjbhaaGreat
