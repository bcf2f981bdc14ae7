/- package window: what a page may be (a book's); no condition. -/
import Derived.Test.YtgkfgilhegjbhaaGreatWk
namespace Go.Proofs.YtgkfgilhegjbhaaGreat
open Go.RowKit
attribute [local go_sem] run_mf
attribute [local go_sem ↓] Go.wp_at_zero Go.wp_at_succ
section
variable {w : World}
set_option maxRecDepth 100000 in
set_option maxHeartbeats 1000000 in
theorem wi_k1 {s page f : Int} (s0 : 0 ≤ s) (s4 : s < 4) (p0 : 0 ≤ page) (p1 : page < 65536) :
    Calls Tryz.prog 55 #[.agg #[.int .i64 s], .int .i64 page, .int .i64 f] w fun e w' => e = .returned (.tuple #[siteV 0 0 0 (page - (64 * s + 1)), .bool (inB 48 (page - (64 * s + 1)))]) ∧ Ext w w' := by
  obtain ⟨W, hW⟩ : ∃ W, blocks w [(#[.int .i64 s], 69), (#[.int .i64 0, .int .i64 0, .int .i64 0, .int .i64 0], 56)] = W := ⟨_, rfl⟩
  have hxW : Ext w W := hW ▸ blocks_ext _ w
  have hb : ∀ w2, Ext W w2 → w2.cell? ⟨w.heap.size, 0, none⟩ = some (.int .i64 s) ∧ w2.heap[w.heap.size + 1]? = some (.cells #[.int .i64 0, .int .i64 0, .int .i64 0, .int .i64 0] 56 (0, 0)) := fun w2 hx => by
    subst hW
    exact ⟨cell_at (i := 0) (blocks_at _ w 0 (by simp) hx) rfl, blocks_at _ w 1 (by simp) hx⟩
  have hWl : (w.alloc (.cells #[.int .i64 s] 69)).alloc (.cells #[.int .i64 0, .int .i64 0, .int .i64 0, .int .i64 0] 56) = W := hW
  have hbk := fun w : World => wi_book (w := w) s0 s4
  have hfit := fun (w : World) (b : Nat) (hb : b = w.heap.size) => wi_fits_at (w := w) (k := 48) (n := page - (64 * s + 1)) hb
  rw [show (decide (0 ≤ page - (64 * s + 1)) && decide (page - (64 * s + 1) < 48)) = inB 48 (page - (64 * s + 1)) from rfl] at hfit
  obtain ⟨r, hr⟩ : ∃ r, inB 48 (page - (64 * s + 1)) = r := ⟨_, rfl⟩
  simp only [hr] at hfit ⊢
  have b0 : 1 ≤ 64 * s + 1 := by omega
  have b1 : 64 * s + 1 ≤ 193 := by omega
  obtain ⟨bk, hbk'⟩ : ∃ bk, 64 * s + 1 = bk := ⟨_, rfl⟩
  simp only [hbk'] at hbk hfit b0 b1 ⊢
  obtain ⟨d, hd⟩ : ∃ d, page - bk = d := ⟨_, rfl⟩
  have HD : IntKind.i64.wrap (page - bk) = d := by rw [hd]; exact IntWalk.i64_in _ (by omega)
  simp only [hd] at hfit ⊢
  have HW := Lib.hid hWl
  have HB := Lib.hid hb
  have hc : ∀ w2, Upd [w.heap.size + 1] W w2 → w2.cell? ⟨w.heap.size, 0, none⟩ = some (.int .i64 s) := fun w2 hu => by
    have h0 := (hb W (Ext.refl _)).1
    exact (hu.cell (World.block_lt_of_cell? _ _ h0) (by simp)).trans h0
  have HC := Lib.hid hc
  clear hc
  clear hr hbk' hW hWl hb hd b0 b1
  unfold siteV
  go_enter Tryz.func55, Tryz.ntmps55
  go_wp2_with fail
  rw [HW.out]
  refine rg_begin ((fun w' => Upd [w.heap.size + 1] W w')) (by kernel_rfl) ?_
  have hE : Ext W W.drew := ext_drew (Ext.refl _)
  have hS : Upd [w.heap.size + 1] W W.drew := Upd.of_ext hE
  refine rg_held 0 (some 8) (v := ?v1) rfl rfl (by kernel_rfl) (by kernel_rfl) (by kernel_rfl) (fun _ _ _ h => h) (by rfl) ?h1 hS ?_
  case h1 => (intro w' hS'; (skip); go_simp; try with_reducible rfl)
  simp only [Act.put, List.setIfInBounds_toArray, List.set_cons_zero, List.set_cons_succ]
  refine rg_held 1 (some 9) (v := ?v2) rfl rfl (by kernel_rfl) (by kernel_rfl) (by kernel_rfl) (fun _ _ _ h => h) (by rfl) ?h2 hS ?_
  case h2 => (intro w' hS'; (have c0 := HC.out _ hS'); go_simp; try with_reducible rfl)
  simp only [Act.put, List.setIfInBounds_toArray, List.set_cons_zero, List.set_cons_succ]
  refine rg_held 5 (some 13) (v := ?v3) rfl rfl (by kernel_rfl) (by kernel_rfl) (by kernel_rfl) (fun _ _ _ h => h) (by rfl) ?h3 hS ?_
  case h3 => (intro w' hS'; (skip); go_simp; try with_reducible rfl)
  simp only [Act.put, List.setIfInBounds_toArray, List.set_cons_zero, List.set_cons_succ]
  refine rg_held 6 (some 14) (v := ?v4) rfl rfl (by kernel_rfl) (by kernel_rfl) (by kernel_rfl) (fun _ _ _ h => h) (by rfl) ?h4 hS ?_
  case h4 => (intro w' hS'; (have c0 := HC.out _ hS'); go_simp; try with_reducible rfl)
  simp only [Act.put, List.setIfInBounds_toArray, List.set_cons_zero, List.set_cons_succ]
  refine rg_call 2 (some 10) rfl rfl (by kernel_rfl) rfl (by rfl) Tryz.call56 ((hbk _).mono ?_)
  rintro e w2 ⟨rfl, hx2⟩
  refine ⟨_, rfl, Upd.trans hS (Upd.of_ext hx2), ?_⟩
  replace hS : Upd [w.heap.size + 1] W w2 := Upd.trans hS (Upd.of_ext hx2)
  simp only [Act.put, List.setIfInBounds_toArray, List.set_cons_zero, List.set_cons_succ]
  refine rg_held 3 (some 11) (v := ?v5) rfl rfl (by kernel_rfl) (by kernel_rfl) (by kernel_rfl) (fun _ _ _ h => h) (by rfl) ?h5 hS ?_
  case h5 => (intro w' hS'; (skip); go_simp; try with_reducible rfl)
  simp only [Act.put, List.setIfInBounds_toArray, List.set_cons_zero, List.set_cons_succ]
  refine rg_held 4 (some 12) (v := ?v6) rfl rfl (by kernel_rfl) (by kernel_rfl) (by kernel_rfl) (fun _ _ _ h => h) (by rfl) ?h6 hS ?_
  case h6 => (intro w' hS'; (skip); go_simp; try with_reducible rfl)
  simp only [Act.put, List.setIfInBounds_toArray, List.set_cons_zero, List.set_cons_succ]
  refine rg_call 7 (some 15) rfl rfl (by kernel_rfl) rfl (by rfl) Tryz.call56 ((hbk _).mono ?_)
  rintro e w3 ⟨rfl, hx3⟩
  refine ⟨_, rfl, Upd.trans hS (Upd.of_ext hx3), ?_⟩
  replace hS : Upd [w.heap.size + 1] W w3 := Upd.trans hS (Upd.of_ext hx3)
  simp only [Act.put, List.setIfInBounds_toArray, List.set_cons_zero, List.set_cons_succ]
  refine rg_held 8 (some 16) (v := ?v7) rfl rfl (by kernel_rfl) (by kernel_rfl) (by kernel_rfl) (fun _ _ _ h => h) (by rfl) ?h7 hS ?_
  case h7 => (intro w' hS'; (skip); go_simp; try with_reducible rfl)
  simp only [Act.put, List.setIfInBounds_toArray, List.set_cons_zero, List.set_cons_succ]
  refine rg_value 9 (some 17) (v := ?v9) (w' := ?w9) rfl rfl (by kernel_rfl) (by rfl) ?h9 ?s9 ?_
  case h9 => ((skip); go_simp; try (first | with_reducible rfl | (refine ⟨?_, ?_⟩ <;> with_reducible rfl)))
  case s9 => exact upd_n _ hS
  simp only [Act.put, List.setIfInBounds_toArray, List.set_cons_zero, List.set_cons_succ]
  refine rg_call 10 (some 18) rfl rfl (by kernel_rfl) rfl (by rfl) Tryz.call32 ((hfit _ _ (by simp)).mono ?_)
  rintro e w4 ⟨rfl, hx4⟩
  refine ⟨_, rfl, Upd.trans hS (Upd.of_ext hx4), ?_⟩
  replace hS : Upd [w.heap.size + 1] W w4 := Upd.trans hS (Upd.of_ext hx4)
  simp only [Act.put, List.setIfInBounds_toArray, List.set_cons_zero, List.set_cons_succ]
  have hE4 : Ext W w4 := Ext.trans hE (Ext.trans hx2 (Ext.trans hx3 hx4))
  have hb4 := (HB.out _ hE4).2
  have HB4 := Lib.hid hb4
  have c0 := cell_at (i := 0) hb4 rfl
  have c1 := cell_at (i := 1) hb4 rfl
  have c2 := cell_at (i := 2) hb4 rfl
  have c3 := cell_at (i := 3) hb4 rfl
  have f0 := frz (i := 0) hb4
  have f1 := frz (i := 1) hb4
  have f2 := frz (i := 2) hb4
  have f3 := frz (i := 3) hb4
  clear hb4
  have hS5 : Upd [w.heap.size + 1] W ((((w4.setCell ⟨w.heap.size + 1, 0, none⟩ (.int .i64 0)).setCell ⟨w.heap.size + 1, 1, none⟩ (.int .i64 0)).setCell ⟨w.heap.size + 1, 2, none⟩ (.int .i64 0)).setCell ⟨w.heap.size + 1, 3, none⟩ (.int .i64 d)) :=
    upd_setc _ (upd_setc _ (upd_setc _ (upd_setc _ hS (by simp)) (by simp)) (by simp)) (by simp)
  refine rg_unit 11 none (w' := ?w10) rfl rfl (by kernel_rfl) (by rfl) ?h10 ?s10 ?_
  case h10 => ((skip); go_simp; try with_reducible rfl)
  case s10 => exact hS5
  simp only [Act.put]
  replace hS := hS5
  refine rg_held 12 (some 7) (v := ?v8) rfl rfl (by kernel_rfl) (by kernel_rfl) (by kernel_rfl) (fun _ _ _ h => h) (by rfl) ?h8 hS ?_
  case h8 => (intro w' hS'; (skip); go_simp; try with_reducible rfl)
  simp only [Act.put, List.setIfInBounds_toArray, List.set_cons_zero, List.set_cons_succ]
  refine rg_done (by kernel_rfl) ?_
  have hb5 := heap_set4 (b0 := .int .i64 0) (b1 := .int .i64 0) (b2 := .int .i64 0) (b3 := .int .i64 d) HB4.out
  have hxf : Ext w ((((w4.setCell ⟨w.heap.size + 1, 0, none⟩ (.int .i64 0)).setCell ⟨w.heap.size + 1, 1, none⟩ (.int .i64 0)).setCell ⟨w.heap.size + 1, 2, none⟩ (.int .i64 0)).setCell ⟨w.heap.size + 1, 3, none⟩ (.int .i64 d)) :=
    ext_set _ (ext_set _ (ext_set _ (ext_set _ (Ext.trans hxW hE4) (by simp)) (by simp)) (by simp)) (by simp)
  clear c0 c1 c2 c3 f0 f1 f2 f3
  obtain ⟨W3, hW3⟩ : ∃ W3, (((w4.setCell ⟨w.heap.size + 1, 0, none⟩ (.int .i64 0)).setCell ⟨w.heap.size + 1, 1, none⟩ (.int .i64 0)).setCell ⟨w.heap.size + 1, 2, none⟩ (.int .i64 0)).setCell ⟨w.heap.size + 1, 3, none⟩ (.int .i64 d) = W3 := ⟨_, rfl⟩
  rw [hW3] at hb5 hxf ⊢
  clear hW3
  have d0 := cell_at (i := 0) hb5 rfl
  have d1 := cell_at (i := 1) hb5 rfl
  have d2 := cell_at (i := 2) hb5 rfl
  have d3 := cell_at (i := 3) hb5 rfl
  go_wp2
  refine bodyPost_ret (v := .tuple #[.agg #[.int .i64 0, .int .i64 0, .int .i64 0, .int .i64 d], .bool r]) ?_ rfl ⟨rfl, hxf⟩
  clear hb5
  simp [results, Tryz.results55, go_sem, d0, d1, d2, d3]
end
end Go.Proofs.YtgkfgilhegjbhaaGreat
