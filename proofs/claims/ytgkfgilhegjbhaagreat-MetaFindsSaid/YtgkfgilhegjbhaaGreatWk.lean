/- package window: what a page may be; no condition. -/
import Derived.Test.YtgkfgilhegjbhaaGreatWi
namespace Go.Proofs.YtgkfgilhegjbhaaGreat
open Go.RowKit
attribute [local go_sem] run_mf
attribute [local go_sem ↓] Go.wp_at_zero Go.wp_at_succ
def siteV (k s c p : Int) : Value := .agg #[.int .i64 k, .int .i64 s, .int .i64 c, .int .i64 p]
theorem heap_set4 {w : World} {b : Nat} {t : TypeId} {a0 a1 a2 a3 b0 b1 b2 b3 : Value} (h : w.heap[b]? = some (.cells #[a0, a1, a2, a3] t (0, 0))) :
    ((((w.setCell ⟨b, 0, none⟩ b0).setCell ⟨b, 1, none⟩ b1).setCell ⟨b, 2, none⟩ b2).setCell ⟨b, 3, none⟩ b3).heap[b]? = some (.cells #[b0, b1, b2, b3] t (0, 0)) :=
  heap_setc (i := 3) (heap_setc (i := 2) (heap_setc (i := 1) (heap_setc (i := 0) h)))
section
variable {w : World}
set_option maxRecDepth 100000 in
set_option maxHeartbeats 1000000 in
theorem wi_k2p {s page f : Int} (f0 : 0 < f) (f1 : f ≤ 70000) :
    Calls Tryz.prog 57 #[.agg #[.int .i64 s], .int .i64 page, .int .i64 f] w fun e w' => e = .returned (.tuple #[siteV 0 0 ((f - 1) / 17) ((f - 1) % 17), .bool (decide ((f - 1) / 17 < 8) && decide ((f - 1) % 17 < 16))]) ∧ Ext w w' := by
  have hd : (f - 1).tdiv 17 = (f - 1) / 17 := Int.tdiv_eq_ediv_of_nonneg (by omega)
  have hx : ∀ o o' : Obj, Ext w ((w.alloc o).alloc o') := fun o o' => ext_n _ (ext_n _ (Ext.refl _))
  unfold siteV
  by_cases h1 : (f - 1) / 17 < 8
  · have h1' : decide ((f - 1) / 17 < 8) = true := by simpa using h1
    go_enter Tryz.func57, Tryz.ntmps57
    go_wp2
    refine bodyPost_ret (v := .tuple #[.agg #[.int .i64 0, .int .i64 0, .int .i64 ((f - 1) / 17), .int .i64 ((f - 1) % 17)], .bool (decide ((f - 1) % 17 < 16))]) ?_ rfl ⟨by first | rfl | rw [h1', Bool.true_and], hx _ _⟩
    simp [results, Tryz.results57, go_sem]
  · have h1' : decide ((f - 1) / 17 < 8) = false := by simpa using h1
    go_enter Tryz.func57, Tryz.ntmps57
    go_wp2
    refine bodyPost_ret (v := .tuple #[.agg #[.int .i64 0, .int .i64 0, .int .i64 ((f - 1) / 17), .int .i64 ((f - 1) % 17)], .bool false]) ?_ rfl ⟨by first | rfl | rw [h1', Bool.false_and], hx _ _⟩
    simp [results, Tryz.results57, go_sem]
set_option maxRecDepth 100000 in
set_option maxHeartbeats 1000000 in
theorem wi_k2n {s page f : Int} (f0 : f ≤ 0) (f1 : -20000 ≤ f) :
    Calls Tryz.prog 57 #[.agg #[.int .i64 s], .int .i64 page, .int .i64 f] w fun e w' => e = .returned (.tuple #[siteV 0 0 ((f - 1).tdiv 17) ((f - 1).tmod 17), .bool false]) ∧ Ext w w' := by
  unfold siteV
  go_enter Tryz.func57, Tryz.ntmps57
  go_wp2
  refine bodyPost_ret (v := .tuple #[.agg #[.int .i64 0, .int .i64 0, .int .i64 ((f - 1).tdiv 17), .int .i64 ((f - 1).tmod 17)], .bool false]) ?_ rfl ⟨rfl, ext_n _ (ext_n _ (Ext.refl _))⟩
  simp [results, Tryz.results57, go_sem]
set_option maxRecDepth 100000 in
set_option maxHeartbeats 1000000 in
theorem wi_k3 {s page f : Int} :
    Calls Tryz.prog 58 #[.agg #[.int .i64 s], .int .i64 page, .int .i64 f] w fun e w' => e = .returned (.tuple #[siteV 0 0 0 f, .bool (decide (256 ≤ f) && decide (f < 4096))]) ∧ Ext w w' := by
  have hx : ∀ o o' : Obj, Ext w ((w.alloc o).alloc o') := fun o o' => ext_n _ (ext_n _ (Ext.refl _))
  unfold siteV
  by_cases h1 : 256 ≤ f
  · have h1' : decide (256 ≤ f) = true := by simpa using h1
    go_enter Tryz.func58, Tryz.ntmps58
    go_wp2
    refine bodyPost_ret (v := .tuple #[.agg #[.int .i64 0, .int .i64 0, .int .i64 0, .int .i64 f], .bool (decide (f < 4096))]) ?_ rfl ⟨by first | rfl | rw [h1', Bool.true_and], hx _ _⟩
    simp [results, Tryz.results58, go_sem]
  · have h1' : decide (256 ≤ f) = false := by simpa using h1
    go_enter Tryz.func58, Tryz.ntmps58
    go_wp2
    refine bodyPost_ret (v := .tuple #[.agg #[.int .i64 0, .int .i64 0, .int .i64 0, .int .i64 f], .bool false]) ?_ rfl ⟨by first | rfl | rw [h1', Bool.false_and], hx _ _⟩
    simp [results, Tryz.results58, go_sem]
end
end Go.Proofs.YtgkfgilhegjbhaaGreat
