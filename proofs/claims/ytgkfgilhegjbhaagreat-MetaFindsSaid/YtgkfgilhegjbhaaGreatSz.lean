/- package size, and its reference: what a class has; no condition. -/
import Derived.Test.YtgkfgilhegjbhaaGreatMem
import Derived.Test.YtgkfgilhegjbhaaGreatReg
namespace Go.Proofs.YtgkfgilhegjbhaaGreat
open Go.RowKit
attribute [local go_sem] run_mf
attribute [local go_sem ↓] Go.wp_at_zero Go.wp_at_succ
theorem ret_int {k : IntKind} {a b : Int} (h : a = b) : Ending.returned (.int k a) = .returned (.int k b) := by rw [h]
/-- a class's payload, slot, count -/
def payI (c : Int) : Int := if c = 0 then 16 else if c = 1 then 32 else if c = 2 then 48 else if c = 3 then 64 else if c = 4 then 96 else if c = 5 then 128 else if c = 6 then 192 else 256
def sloI (c : Int) : Int := payI c + 32
def cntI (c : Int) : Int := 4096 / sloI c
def inB (k n : Int) : Bool := decide (0 ≤ n) && decide (n < k)
theorem inB_iff {k n : Int} : inB k n = true ↔ 0 ≤ n ∧ n < k := by simp [inB]
theorem eight {c : Int} (h0 : 0 ≤ c) (h8 : c < 8) : c = 0 ∨ c = 1 ∨ c = 2 ∨ c = 3 ∨ c = 4 ∨ c = 5 ∨ c = 6 ∨ c = 7 := by omega
theorem sloI_pos (c : Int) : 48 ≤ sloI c ∧ sloI c ≤ 288 := by
  unfold sloI payI; repeat' split
  all_goals omega
section
variable {w : World}
set_option maxRecDepth 100000 in
set_option maxHeartbeats 1000000 in
theorem sz_payloads : Calls Tryz.prog 75 #[] w fun e w' => e = .returned (.agg #[.int .i64 16, .int .i64 32, .int .i64 48, .int .i64 64, .int .i64 96, .int .i64 128, .int .i64 192, .int .i64 256]) ∧ Ext w w' := by
  go_enter Tryz.func75, Tryz.ntmps75
  go_wp2
  refine bodyPost_ret (v := .agg #[.int .i64 16, .int .i64 32, .int .i64 48, .int .i64 64, .int .i64 96, .int .i64 128, .int .i64 192, .int .i64 256]) (by simp [results, Tryz.results75, go_sem]) rfl ⟨rfl, ext_n _ (Ext.refl _)⟩
theorem sz_idx {c : Int} (h0 : 0 ≤ c) (h8 : c < 8) (w : World) : (Instr.index 125 (.agg #[.int .i64 16, .int .i64 32, .int .i64 48, .int .i64 64, .int .i64 96, .int .i64 128, .int .i64 192, .int .i64 256]) (.int .i64 c)).run Tryz.prog w = .ok (.int .i64 (payI c)) w := by
  rcases eight h0 h8 with rfl | rfl | rfl | rfl | rfl | rfl | rfl | rfl <;> kernel_rfl
set_option maxRecDepth 100000 in
set_option maxHeartbeats 1000000 in
theorem sz_payload {c : Int} (h0 : 0 ≤ c) (h8 : c < 8) : Calls Tryz.prog 53 #[.agg #[.int .i64 c]] w fun e w' => e = .returned (.int .i64 (payI c)) ∧ Ext w w' := by
  have hx1 : Ext w (w.alloc (.cells #[.int .i64 c] 75)) := ext_n _ (Ext.refl _)
  obtain ⟨W, hW⟩ : ∃ W, w.alloc (.cells #[.int .i64 c] 75) = W := ⟨_, rfl⟩
  have hb : ∀ w2, Ext W w2 → w2.cell? ⟨w.heap.size, 0, none⟩ = some (.int .i64 c) := fun w2 hx => cell_new1 (hW ▸ hx)
  rw [hW] at hx1
  have HB := Lib.hid hb
  have HW := Lib.hid hW
  clear hb hW
  have hix := sz_idx h0 h8
  go_enter Tryz.func53, Tryz.ntmps53
  go_wp2_with fail
  rw [HW.out]
  refine rg_begin ((fun w' => Ext W w')) (by kernel_rfl) ?_
  have hS : Ext W W.drew := ext_drew (Ext.refl _)
  refine rg_held 1 (some 4) (v := ?v1) rfl rfl (by kernel_rfl) (by kernel_rfl) (by kernel_rfl) (fun _ _ _ h => h) (by rfl) ?h1 hS ?_
  case h1 => (intro w' hS'; (skip); go_simp; try with_reducible rfl)
  simp only [Act.put, List.setIfInBounds_toArray, List.set_cons_zero, List.set_cons_succ]
  refine rg_held 2 (some 5) (v := ?v2) rfl rfl (by kernel_rfl) (by kernel_rfl) (by kernel_rfl) (fun _ _ _ h => h) (by rfl) ?h2 hS ?_
  case h2 => (intro w' hS'; (have c0 := HB.out _ hS'); go_simp; try with_reducible rfl)
  simp only [Act.put, List.setIfInBounds_toArray, List.set_cons_zero, List.set_cons_succ]
  refine rg_call 0 (some 3) rfl rfl (by kernel_rfl) rfl (by rfl) Tryz.call75 (sz_payloads.mono ?_)
  rintro e w2 ⟨rfl, hx2⟩
  refine ⟨_, rfl, Ext.trans hS hx2, ?_⟩
  replace hS : Ext W w2 := Ext.trans hS hx2
  simp only [Act.put, List.setIfInBounds_toArray, List.set_cons_zero, List.set_cons_succ]
  refine rg_held 3 (some 6) (v := ?v3) rfl rfl (by kernel_rfl) (by kernel_rfl) (by kernel_rfl) (fun _ _ _ h => h) (by rfl) ?h3 hS ?_
  case h3 => (intro w' hS'; (skip); go_simp; try with_reducible rfl)
  simp only [Act.put, List.setIfInBounds_toArray, List.set_cons_zero, List.set_cons_succ]
  refine rg_held 4 (some 2) (v := ?v4) rfl rfl (by kernel_rfl) (by kernel_rfl) (by kernel_rfl) (fun _ _ _ h => h) (by rfl) ?h4 hS ?_
  case h4 => (intro w' hS'; (skip); go_simp; try with_reducible rfl)
  simp only [Act.put, List.setIfInBounds_toArray, List.set_cons_zero, List.set_cons_succ]
  refine rg_done (by kernel_rfl) ?_
  go_wp2
  go_ret
  exact ⟨rfl, Ext.trans hx1 hS⟩
end
end Go.Proofs.YtgkfgilhegjbhaaGreat
