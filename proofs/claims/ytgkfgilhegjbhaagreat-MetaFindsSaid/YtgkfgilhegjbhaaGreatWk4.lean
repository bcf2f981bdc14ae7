/- package window: what a page may be (a gap); no condition. -/
import Derived.Test.YtgkfgilhegjbhaaGreatWk
namespace Go.Proofs.YtgkfgilhegjbhaaGreat
open Go.RowKit
attribute [local go_sem] run_mf
attribute [local go_sem ↓] Go.wp_at_zero Go.wp_at_succ
section
variable {w : World}
set_option maxRecDepth 100000 in
set_option maxHeartbeats 1000000 in
theorem wi_k4 {s page f : Int} :
    Calls Tryz.prog 59 #[.agg #[.int .i64 s], .int .i64 page, .int .i64 f] w fun e w' => e = .returned (.tuple #[siteV 0 0 0 f, .bool (inB 4096 f)]) ∧ Ext w w' := by
  have hfit := fun (w : World) (b : Nat) (hb : b = w.heap.size) => wi_fits_at (w := w) (k := 4096) (n := f) hb
  rw [show (decide (0 ≤ f) && decide (f < 4096)) = inB 4096 f from rfl] at hfit
  obtain ⟨r, hr⟩ : ∃ r, inB 4096 f = r := ⟨_, rfl⟩
  simp only [hr] at hfit ⊢
  clear hr
  unfold siteV
  go_enter Tryz.func59, Tryz.ntmps59
  go_wp2_with fail
  refine (hfit _ _ (by simp)).mono ?_
  rintro e w2 ⟨rfl, hx⟩
  have hb4 : w2.heap[w.heap.size + 1]? = some (.cells #[.int .i64 0, .int .i64 0, .int .i64 0, .int .i64 0] 56 (0, 0)) := by
    have := World.alloc_heap_new (w.alloc (.cells #[.int .i64 s] 69)) (.cells #[.int .i64 0, .int .i64 0, .int .i64 0, .int .i64 0] 56)
    rw [World.size_alloc] at this
    exact (hx.block _ (by simp)).trans this
  have c0 := cell_at (i := 0) hb4 rfl
  have c1 := cell_at (i := 1) hb4 rfl
  have c2 := cell_at (i := 2) hb4 rfl
  have c3 := cell_at (i := 3) hb4 rfl
  have f0 := frz (i := 0) hb4
  have f1 := frz (i := 1) hb4
  have f2 := frz (i := 2) hb4
  have f3 := frz (i := 3) hb4
  have hx0 : Ext w w2 := ext_a (ext_a hx)
  have HB4 := Lib.hid hb4
  clear hb4 hfit
  go_wp2
  have hb5 := heap_set4 (b0 := .int .i64 0) (b1 := .int .i64 0) (b2 := .int .i64 0) (b3 := .int .i64 f) HB4.out
  have hxf : Ext w ((((w2.setCell ⟨w.heap.size + 1, 0, none⟩ (.int .i64 0)).setCell ⟨w.heap.size + 1, 1, none⟩ (.int .i64 0)).setCell ⟨w.heap.size + 1, 2, none⟩ (.int .i64 0)).setCell ⟨w.heap.size + 1, 3, none⟩ (.int .i64 f)) :=
    ext_set _ (ext_set _ (ext_set _ (ext_set _ hx0 (by simp)) (by simp)) (by simp)) (by simp)
  clear c0 c1 c2 c3 f0 f1 f2 f3
  obtain ⟨W3, hW3⟩ : ∃ W3, (((w2.setCell ⟨w.heap.size + 1, 0, none⟩ (.int .i64 0)).setCell ⟨w.heap.size + 1, 1, none⟩ (.int .i64 0)).setCell ⟨w.heap.size + 1, 2, none⟩ (.int .i64 0)).setCell ⟨w.heap.size + 1, 3, none⟩ (.int .i64 f) = W3 := ⟨_, rfl⟩
  rw [hW3] at hb5 hxf ⊢
  clear hW3
  have d0 := cell_at (i := 0) hb5 rfl
  have d1 := cell_at (i := 1) hb5 rfl
  have d2 := cell_at (i := 2) hb5 rfl
  have d3 := cell_at (i := 3) hb5 rfl
  refine bodyPost_ret (v := .tuple #[.agg #[.int .i64 0, .int .i64 0, .int .i64 0, .int .i64 f], .bool r]) ?_ rfl ⟨rfl, hxf⟩
  clear hb5 hx
  simp [results, Tryz.results59, go_sem, d0, d1, d2, d3]
end
end Go.Proofs.YtgkfgilhegjbhaaGreat
