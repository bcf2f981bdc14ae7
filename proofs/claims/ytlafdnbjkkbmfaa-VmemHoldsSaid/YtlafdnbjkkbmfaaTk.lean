/- package frame: a frame's bytes asked for, Give, Take's question; no condition. -/
import Derived.Test.YtlafdnbjkkbmfaaRes
namespace Go.Proofs.Ytlafdnbjkkbmfaa
open Go.RowKit
attribute [local go_sem] run_mf
attribute [local go_sem ↓] Go.wp_at_zero Go.wp_at_succ
attribute [local go_sem ↓] st_tak wp_load_tak
attribute [local go_sem] takC_zero
def tak0 : Tak := ⟨0, List.replicate 256 0⟩
theorem tak0_size : (takC tak0).size = 257 := by kernel_rfl
theorem tak0_cells : Try.zeroCells96 = takC tak0 := by kernel_rfl
section
variable {w : World} {pb fb rb : Nat} {many : Int} {F : List (Int × Tak)} {R : List (Int × Int)}
theorem tak_ok (hF : FOk F) (n : Int) : (takC ((getL F n).getD tak0)).size = 257 := by
  cases hg : getL F n with
  | none => exact tak0_size
  | some t => exact hF.1 _ (getL_mem hg)
theorem lookF1 (h : PoolAt w pb fb rb many F R) (n : Int) : (Instr.lookup 66 (.map (some fb)) (.int .i64 n) true).run Try.prog w = .ok (.tuple #[.agg (takC ((getL F n).getD tak0)), .bool (getL F n).isSome]) w :=
  h.fr.look1 Try.underlying66 Try.underlying3 Try.zeroValue96 n (by cases getL F n; exact congrArg Value.agg tak0_cells; rfl) rfl
theorem lookF0 (h : PoolAt w pb fb rb many F R) (n : Int) : (Instr.lookup 66 (.map (some fb)) (.int .i64 n) false).run Try.prog w = .ok (.agg (takC ((getL F n).getD tak0))) w :=
  h.fr.look0 Try.underlying66 Try.underlying3 Try.zeroValue96 n (by cases getL F n; exact congrArg Value.agg tak0_cells; rfl)
set_option maxRecDepth 100000 in
set_option maxHeartbeats 1000000 in
theorem frame_tk1 {c d : Nat} {who : Int} (h : PoolAt w pb fb rb many F R) (hF : FOk F) (h2 : w.cell? ⟨c, 0, none⟩ = some (.pointer (some ⟨pb, 0, none⟩))) (h3 : w.cell? ⟨d, 0, none⟩ = some (.int .i64 who)) :
    Calls Try.prog 51 #[.pointer (some ⟨c, 0, none⟩), .pointer (some ⟨d, 0, none⟩)] w fun e w' => e = .returned (.bool (decide ((getL R who).getD 0 ≤ (hasN F who : Nat)))) ∧ Ext w w' := by
  have hc := World.block_lt_of_cell? w _ h2
  have hd := World.block_lt_of_cell? w _ h3
  obtain ⟨rv, hrv⟩ : ∃ rv, rv = (getL R who).getD 0 := ⟨_, rfl⟩
  have hhas := frame_has (h.ext (ext_drew (Ext.refl _))) hF who
  obtain ⟨hn, hhn⟩ : ∃ hn : Int, hn = (hasN F who : Nat) := ⟨_, rfl⟩
  rw [← hrv, ← hhn]
  rw [← hhn] at hhas
  have hkeep : ∀ w2, Ext w.drew w2 → w2.cell? ⟨c, 0, none⟩ = some (.pointer (some ⟨pb, 0, none⟩)) ∧ w2.cell? ⟨d, 0, none⟩ = some (.int .i64 who) ∧ w2.cell? ⟨pb, 1, none⟩ = some (.map (some rb)) ∧
      (Instr.lookup 67 (.map (some rb)) (.int .i64 who) false).run Try.prog w2 = .ok (.int .i64 rv) w2 := fun w2 hx2 => by
    have hx : Ext w w2 := Ext.trans (ext_drew (Ext.refl _)) hx2
    refine ⟨(hx2.cell (p := ⟨c, 0, none⟩) hc).trans h2, (hx2.cell (p := ⟨d, 0, none⟩) hd).trans h3, (h.ext hx).c1, ?_⟩
    rw [hrv]; exact look_res (h.ext hx) who
  clear hrv hhn
  go_enter Try.func51, Try.ntmps51
  go_wp2_with fail
  go_region_held3 (fun w' => w'.cell? ⟨c, 0, none⟩ = some (.pointer (some ⟨pb, 0, none⟩)) ∧ w'.cell? ⟨d, 0, none⟩ = some (.int .i64 who) ∧ w'.cell? ⟨pb, 1, none⟩ = some (.map (some rb)) ∧ (Instr.lookup 67 (.map (some rb)) (.int .i64 who) false).run Try.prog w' = .ok (.int .i64 rv) w')
    (first | exact hkeep _ (Ext.refl _) | exact hkeep _ hx2)
    ((go_at_call 36; refine hhas.mono ?_; rintro e w2 ⟨rfl, hx2⟩))
  all_goals (go_wp2; go_ret; exact ⟨rfl, Ext.trans (ext_drew (Ext.refl _)) hx2⟩)
set_option maxRecDepth 100000 in
set_option maxHeartbeats 1000000 in
theorem frame_there3 {b c : Nat} {n : Int} (h : PoolAt w pb fb rb many F R) (hF : FOk F) (h2 : w.cell? ⟨c, 0, none⟩ = some (.pointer (some ⟨pb, 0, none⟩))) (h1 : w.cell? ⟨b, 0, none⟩ = some (.int .i64 n)) :
    Calls Try.prog 74 #[.pointer (some ⟨c, 0, none⟩), .pointer (some ⟨b, 0, none⟩)] w fun e w' => e = .returned (.bool (getL F n).isNone) ∧ Ext w w' := by
  have hb := World.block_lt_of_cell? w _ h1
  have hc := World.block_lt_of_cell? w _ h2
  have ht := tak_ok hF n
  have hB : ∀ w2, Ext w w2 → w2.cell? ⟨b, 0, none⟩ = some (.int .i64 n) ∧ w2.cell? ⟨c, 0, none⟩ = some (.pointer (some ⟨pb, 0, none⟩)) ∧ w2.cell? ⟨pb, 0, none⟩ = some (.map (some fb)) ∧
    (Instr.lookup 66 (.map (some fb)) (.int .i64 n) true).run Try.prog w2 = .ok (.tuple #[.agg (takC ((getL F n).getD tak0)), .bool (getL F n).isSome]) w2 := fun w2 hx =>
    ⟨(hx.cell (p := ⟨b, 0, none⟩) hb).trans h1, (hx.cell (p := ⟨c, 0, none⟩) hc).trans h2, (h.ext hx).c0, lookF1 (h.ext hx) n⟩
  obtain ⟨t, htt⟩ : ∃ t, t = (getL F n).getD tak0 := ⟨_, rfl⟩
  rw [← htt] at ht
  simp only [← htt] at hB
  clear htt
  have HB := Lib.hid hB
  clear hB
  go_enter Try.func74, Try.ntmps74
  go_wp2_with fail
  refine rg_begin ((fun w' => Ext w w')) (by kernel_rfl) ?_
  have hS : Ext w w.drew := ext_drew (Ext.refl _)
  generalize w.drew = W1 at hS ⊢
  refine rg_held 0 (some 6) (v := ?v1) rfl rfl (by kernel_rfl) (by kernel_rfl) (by kernel_rfl) (fun _ _ _ h => h) (by rfl) ?h1 hS ?_
  case h1 => (intro w' hS'; (obtain ⟨c0, c1, c2, c3⟩ := HB.out _ hS'); go_simp; try with_reducible rfl)
  simp only [Act.put, List.setIfInBounds_toArray, List.set_cons_zero, List.set_cons_succ]
  refine rg_held 1 (some 7) (v := ?v2) rfl rfl (by kernel_rfl) (by kernel_rfl) (by kernel_rfl) (fun _ _ _ h => h) (by rfl) ?h2 hS ?_
  case h2 => (intro w' hS'; (skip); go_simp; try with_reducible rfl)
  simp only [Act.put, List.setIfInBounds_toArray, List.set_cons_zero, List.set_cons_succ]
  refine rg_held 2 (some 8) (v := ?v3) rfl rfl (by kernel_rfl) (by kernel_rfl) (by kernel_rfl) (fun _ _ _ h => h) (by rfl) ?h3 hS ?_
  case h3 => (intro w' hS'; (skip); go_simp; try with_reducible rfl)
  simp only [Act.put, List.setIfInBounds_toArray, List.set_cons_zero, List.set_cons_succ]
  refine rg_held 3 (some 9) (v := ?v4) rfl rfl (by kernel_rfl) (by kernel_rfl) (by kernel_rfl) (fun _ _ _ h => h) (by rfl) ?h4 hS ?_
  case h4 => (intro w' hS'; (skip); go_simp; try with_reducible rfl)
  simp only [Act.put, List.setIfInBounds_toArray, List.set_cons_zero, List.set_cons_succ]
  refine rg_held 4 (some 10) (v := ?v5) rfl rfl (by kernel_rfl) (by kernel_rfl) (by kernel_rfl) (fun _ _ _ h => h) (by rfl) ?h5 hS ?_
  case h5 => (intro w' hS'; (obtain ⟨c0, c1, c2, c3⟩ := HB.out _ hS'); go_simp; try with_reducible rfl)
  simp only [Act.put, List.setIfInBounds_toArray, List.set_cons_zero, List.set_cons_succ]
  refine rg_held 5 (some 11) (v := ?v6) rfl rfl (by kernel_rfl) (by kernel_rfl) (by kernel_rfl) (fun _ _ _ h => h) (by rfl) ?h6 hS ?_
  case h6 => (intro w' hS'; (obtain ⟨c0, c1, c2, c3⟩ := HB.out _ hS'); go_simp; try with_reducible rfl)
  simp only [Act.put, List.setIfInBounds_toArray, List.set_cons_zero, List.set_cons_succ]
  refine rg_held 6 (some 12) (v := ?v7) rfl rfl (by kernel_rfl) (by kernel_rfl) (by kernel_rfl) (fun _ _ _ h => h) (by rfl) ?h7 hS ?_
  case h7 => (intro w' hS'; (obtain ⟨c0, c1, c2, c3⟩ := HB.out _ hS'); go_simp; try with_reducible rfl)
  simp only [Act.put, List.setIfInBounds_toArray, List.set_cons_zero, List.set_cons_succ]
  refine rg_held 7 (some 5) (v := ?v8) rfl rfl (by kernel_rfl) (by kernel_rfl) (by kernel_rfl) (fun _ _ _ h => h) (by rfl) ?h8 hS ?_
  case h8 => (intro w' hS'; (skip); go_simp; try with_reducible rfl)
  simp only [Act.put, List.setIfInBounds_toArray, List.set_cons_zero, List.set_cons_succ]
  refine rg_held 8 (some 13) (v := ?v9) rfl rfl (by kernel_rfl) (by kernel_rfl) (by kernel_rfl) (fun _ _ _ h => h) (by rfl) ?h9 hS ?_
  case h9 => (intro w' hS'; (skip); go_simp; try with_reducible rfl)
  simp only [Act.put, List.setIfInBounds_toArray, List.set_cons_zero, List.set_cons_succ]
  refine rg_held 9 (some 14) (v := ?v10) rfl rfl (by kernel_rfl) (by kernel_rfl) (by kernel_rfl) (fun _ _ _ h => h) (by rfl) ?h10 hS ?_
  case h10 => (intro w' hS'; (skip); go_simp; try with_reducible rfl)
  simp only [Act.put, List.setIfInBounds_toArray, List.set_cons_zero, List.set_cons_succ]
  refine rg_value 10 (some 3) (v := ?v12) (w' := ?w12) rfl rfl (by kernel_rfl) (by rfl) ?h12 ?s12 ?_
  case h12 => ((skip); go_simp; try (first | with_reducible rfl | (refine ⟨?_, ?_⟩ <;> with_reducible rfl)))
  case s12 => exact ext_n _ hS
  simp only [Act.put, List.setIfInBounds_toArray, List.set_cons_zero, List.set_cons_succ]
  refine rg_unit 11 none (w' := ?w13) rfl rfl (by kernel_rfl) (by rfl) ?h13 ?s13 ?_
  case h13 => ((skip); go_simp; try with_reducible rfl)
  case s13 => exact ext_n _ hS
  simp only [Act.put]
  replace hS : Ext w (W1.alloc (.cells (takC t) 96)) := ext_n _ hS
  refine rg_held 12 (some 4) (v := ?v11) rfl rfl (by kernel_rfl) (by kernel_rfl) (by kernel_rfl) (fun _ _ _ h => h) (by rfl) ?h11 hS ?_
  case h11 => (intro w' hS'; (skip); go_simp; try with_reducible rfl)
  simp only [Act.put, List.setIfInBounds_toArray, List.set_cons_zero, List.set_cons_succ]
  refine rg_done (by kernel_rfl) ?_
  go_wp2
  go_ret
  exact ⟨by simp, hS⟩
/-- what there answers -/
def thrE (F : List (Int × Tak)) (many n i k : Int) : Int :=
  if (decide (n < 0) || decide (many ≤ n)) = true then 4 else if (decide (i < 0) || decide (256 < i) || decide (k < 0) || decide (256 - i < k)) = true then 4 else if (getL F n).isNone = true then 5 else 0
def thrQ (F : List (Int × Tak)) (many n i k : Int) (B : Nat) (v1 : Value) : List (Value × Int × Bool) :=
  [(v1, 1, false), (.func (.func 72) #[] #[.pointer (some ⟨B + 1, 0, none⟩), .pointer (some ⟨B, 0, none⟩)], 4, decide (n < 0) || decide (many ≤ n)),
   (.func (.func 73) #[] #[.pointer (some ⟨B + 2, 0, none⟩), .pointer (some ⟨B + 3, 0, none⟩)], 4, decide (i < 0) || decide (256 < i) || decide (k < 0) || decide (256 - i < k)),
   (.func (.func 74) #[] #[.pointer (some ⟨B, 0, none⟩), .pointer (some ⟨B + 1, 0, none⟩)], 5, (getL F n).isNone)]
theorem thrQ_E (n i k : Int) (B : Nat) (v1 : Value) : firstE (thrQ F many n i k B v1) = thrE F many n i k := by
  simp [thrQ, firstE, thrE]
set_option maxRecDepth 100000 in
set_option maxHeartbeats 1000000 in
theorem frame_there {n i k : Int} (h : PoolAt w pb fb rb many F R) (hF : FOk F) :
    Calls Try.prog 53 #[.pointer (some ⟨pb, 0, none⟩), .int .i64 n, .int .i64 i, .int .i64 k] w fun e w' => e = .returned (.int .i64 (thrE F many n i k)) ∧ Ext w w' := by
  obtain ⟨L, hL⟩ : ∃ L, L = [(Value.pointer (some ⟨pb, 0, none⟩), 45), (Value.int .i64 n, 3), (Value.int .i64 i, 3), (Value.int .i64 k, 3)] := ⟨_, rfl⟩
  obtain ⟨W, hW⟩ : ∃ W, boxes w L = W := ⟨_, rfl⟩
  have hxW : Ext w W := hW ▸ boxes_ext L w
  have hb : ∀ (w2 : World), Ext W w2 →
      w2.cell? ⟨w.heap.size, 0, none⟩ = some (.pointer (some ⟨pb, 0, none⟩)) ∧ w2.cell? ⟨w.heap.size + 1, 0, none⟩ = some (.int .i64 n) ∧ w2.cell? ⟨w.heap.size + 2, 0, none⟩ = some (.int .i64 i) ∧ w2.cell? ⟨w.heap.size + 3, 0, none⟩ = some (.int .i64 k) := fun w2 hx => by
    subst hW; subst hL
    exact ⟨boxes_cell _ w 0 (by simp) hx, boxes_cell _ w 1 (by simp) hx, boxes_cell _ w 2 (by simp) hx, boxes_cell _ w 3 (by simp) hx⟩
  have hP := h.ext hxW
  have hWl : (((w.alloc (.cells #[.pointer (some ⟨pb, 0, none⟩)] 45)).alloc (.cells #[.int .i64 n] 3)).alloc (.cells #[.int .i64 i] 3)).alloc (.cells #[.int .i64 k] 3) = W := by rw [← hW, hL]; rfl
  have hWlH := Lib.hid hWl
  clear hW hL hWl
  obtain ⟨r, hr⟩ : ∃ r, thrE F many n i k = r := ⟨_, rfl⟩
  have hask : ∀ (w2 : World) (v1 : Value), Ext W w2 → Q Try.prog w2 v1 (.bool false) →
      Calls Try.prog 31 #[.slice (some ⟨w2.heap.size, 0, none⟩) 4 4] (w2.alloc (.cells (askC (thrQ F many n i k w.heap.size v1)) 78)) fun e w' => e = .returned (.int .i64 r) ∧ Ext w2 w' := fun w2 v1 hx q1 => by
    rw [← hr, ← thrQ_E (F := F) (many := many) n i k w.heap.size v1]
    have hn : Ext w2 (w2.alloc (.cells (askC (thrQ F many n i k w.heap.size v1)) 78)) := ext_n _ (Ext.refl _)
    refine frame_asks' _ rfl rfl rfl (by decide) ⟨q1.later hn, fun _ => ⟨Q.mk Try.call72 fun w' hy => ?_, fun _ => ⟨Q.mk Try.call73 fun w' hy => ?_, fun _ => ⟨Q.mk Try.call74 fun w' hy => ?_, fun _ => trivial⟩⟩⟩⟩
    · obtain ⟨a0, a1, a2, a3⟩ := hb _ (Ext.trans hx (Ext.trans hn hy))
      exact frame_there1 (hP.ext (Ext.trans hx (Ext.trans hn hy))) a1 a0
    · obtain ⟨a0, a1, a2, a3⟩ := hb _ (Ext.trans hx (Ext.trans hn hy))
      exact (frame_there2 a2 a3).mono fun e w2 h => ⟨h.1, h.2 ▸ Ext.refl _⟩
    · obtain ⟨a0, a1, a2, a3⟩ := hb _ (Ext.trans hx (Ext.trans hn hy))
      exact frame_there3 (hP.ext (Ext.trans hx (Ext.trans hn hy))) hF a0 a1
  rw [hr]
  obtain ⟨a0, a1, a2, a3⟩ := hb _ (Ext.refl _)
  have HASK := Lib.hid hask
  clear hask hb hr a1 a2 a3
  go_enter Try.func53, Try.ntmps53
  go_wp2_with fail
  rw [hWlH.out]
  go_wp2_with fail
  refine (frame_is hP).mono ?_
  rintro e w2 ⟨v1, rfl, q1, x1⟩
  go_wp2_with fail
  refine (HASK.out w2 v1 x1 q1).mono ?_
  rintro e w3 ⟨rfl, x2⟩
  go_wp2
  go_ret
  exact ⟨rfl, Ext.trans hxW (Ext.trans x1 x2)⟩
set_option maxRecDepth 100000 in
set_option maxHeartbeats 1000000 in
theorem frame_give {n : Int} (h : PoolAt w pb fb rb many F R) (hF : FOk F) :
    Calls Try.prog 27 #[.pointer (some ⟨pb, 0, none⟩), .int .i64 n] w fun e w' => e = .returned (.int .i64 (thrE F many n 0 0)) ∧ Upd [fb] w w' ∧
      PoolAt w' pb fb rb many (if thrE F many n 0 0 = 0 then delL F n else F) R := by
  obtain ⟨r, hr⟩ : ∃ r, thrE F many n 0 0 = r := ⟨_, rfl⟩
  have hth := frame_there (n := n) (i := 0) (k := 0) h hF
  rw [hr] at hth ⊢
  clear hr
  go_enter Try.func27, Try.ntmps27
  go_wp2_with fail
  refine hth.mono ?_
  rintro e w2 ⟨rfl, hx⟩
  have h2 := h.ext hx
  by_cases h0 : r = 0
  · subst h0
    have c0 := h2.c0
    obtain ⟨o, hrun, ho⟩ := h2.fr.drop (P := Try.prog) Try.underlying66 Try.underlying3 n #[66, 3] 0 rfl
    go_wp2
    go_ret
    have hU : Upd [fb] w2 (w2.putObj fb o) := Upd.putObj _ _ _
    exact ⟨rfl, Upd.trans (Upd.of_ext hx) hU, h2.upd_fr hU (MapI.put ho (by have := h2.fr.lt; simpa using this))⟩
  · have hr0 : (r == 0) = false := by simp [h0]
    go_wp2
    go_ret
    exact ⟨rfl, Upd.of_ext hx, by first | exact h2 | (rw [if_neg h0]; exact h2)⟩
end
end Go.Proofs.Ytlafdnbjkkbmfaa
