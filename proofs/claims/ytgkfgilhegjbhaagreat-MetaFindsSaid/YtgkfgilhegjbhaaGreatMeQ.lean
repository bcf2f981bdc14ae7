/- package meta: its questions on a spot; no condition. -/
import Derived.Test.YtgkfgilhegjbhaaGreatFitM
import Derived.Test.YtgkfgilhegjbhaaGreatSz2
import Derived.Test.YtgkfgilhegjbhaaGreatAskM
namespace Go.Proofs.YtgkfgilhegjbhaaGreat
open Go.RowKit
attribute [local go_sem] run_mf
attribute [local go_sem ↓] Go.wp_at_zero Go.wp_at_succ
theorem inB_le (k n : Int) : (decide (0 ≤ n) && decide (n ≤ k - 1)) = inB k n := by
  unfold inB
  congr 1
  simp
  omega
section
variable {w : World}
set_option maxRecDepth 100000 in
set_option maxHeartbeats 1000000 in
theorem me_who1 {b : Nat} {n : Int} (h : w.cell? ⟨b, 1, none⟩ = some (.int .i64 n)) : Calls Tryz.prog 26 #[.pointer (some ⟨b, 0, none⟩)] w fun e w' => e = .returned (.bool (!inB 4 n)) ∧ Ext w w' := by
  have hfit := fun w : World => me_fits_new (w := w) (k := 3) (n := n)
  rw [show (decide (0 ≤ n) && decide (n ≤ 3)) = inB 4 n from inB_le 4 n] at hfit
  obtain ⟨r, hr⟩ : ∃ r, inB 4 n = r := ⟨_, rfl⟩
  simp only [hr] at hfit ⊢
  clear hr
  go_enter Tryz.func26, Tryz.ntmps26
  go_wp2_with fail
  refine (hfit _).mono ?_
  rintro e w2 ⟨rfl, hx⟩
  go_wp2
  go_ret
  exact ⟨rfl, hx⟩
set_option maxRecDepth 100000 in
set_option maxHeartbeats 1000000 in
theorem me_who (m : Option Addr) (n : Int) : Calls Tryz.prog 12 #[.agg #[.pointer m, .int .i64 n]] w (AskR Tryz.prog w 2 (!inB 4 n)) := by
  go_enter Tryz.func12, Tryz.ntmps12
  go_wp2
  refine bodyPost_ret (v := .agg #[.func (.func 26) #[] #[.pointer (some ⟨w.heap.size, 0, none⟩)], .int .i64 2]) (by simp [results, Tryz.results12, go_sem]) rfl ⟨_, rfl, Q.mk Tryz.call26 (fun w' hx => ?_), ext_n _ (ext_n _ (Ext.refl _))⟩
  have hx1 := ext_a hx
  exact me_who1 (cell_at (i := 1) ((hx1.block _ (by simp)).trans (World.alloc_heap_new _ _)) rfl)
set_option maxRecDepth 100000 in
set_option maxHeartbeats 1000000 in
theorem me_class1 {b : Nat} {n : Int} (h : w.cell? ⟨b, 0, none⟩ = some (.int .i64 n)) : Calls Tryz.prog 28 #[.pointer (some ⟨b, 0, none⟩)] w fun e w' => e = .returned (.bool (!inB 8 n)) ∧ Ext w w' := by
  have hfit := fun w : World => me_fits_new (w := w) (k := 7) (n := n)
  rw [show (decide (0 ≤ n) && decide (n ≤ 7)) = inB 8 n from inB_le 8 n] at hfit
  obtain ⟨r, hr⟩ : ∃ r, inB 8 n = r := ⟨_, rfl⟩
  simp only [hr] at hfit ⊢
  clear hr
  go_enter Tryz.func28, Tryz.ntmps28
  go_wp2_with fail
  refine (hfit _).mono ?_
  rintro e w2 ⟨rfl, hx⟩
  go_wp2
  go_ret
  exact ⟨rfl, hx⟩
set_option maxRecDepth 100000 in
set_option maxHeartbeats 1000000 in
theorem me_class (n : Int) : Calls Tryz.prog 13 #[.int .i64 n] w (AskR Tryz.prog w 2 (!inB 8 n)) := by
  go_enter Tryz.func13, Tryz.ntmps13
  go_wp2
  refine bodyPost_ret (v := .agg #[.func (.func 28) #[] #[.pointer (some ⟨w.heap.size, 0, none⟩)], .int .i64 2]) (by simp [results, Tryz.results13, go_sem]) rfl ⟨_, rfl, Q.mk Tryz.call28 (fun w' hx => ?_), ext_n _ (ext_n _ (Ext.refl _))⟩
  exact me_class1 (cell_new1 (ext_a hx))
/-- how many slots a class has; none, of none -/
def cnt0 (c : Int) : Int := if inB 8 c = true then cntI c else 0
theorem cnt0_bound (c : Int) : 0 ≤ cnt0 c ∧ cnt0 c ≤ 85 := by
  unfold cnt0
  split
  · have := sloI_pos c
    unfold cntI
    refine ⟨Int.ediv_nonneg (by omega) (by omega), ?_⟩
    have h2 := Int.mul_ediv_self_le (x := 4096) (k := sloI c) (by omega)
    have h3 : 48 * (4096 / sloI c) ≤ sloI c * (4096 / sloI c) := Int.mul_le_mul_of_nonneg_right this.1 (Int.ediv_nonneg (by omega) (by omega))
    omega
  · omega
set_option maxRecDepth 100000 in
set_option maxHeartbeats 1000000 in
theorem me_index1 {b d : Nat} {k n : Int} (hk : 0 ≤ k ∧ k ≤ 85) (h : w.cell? ⟨b, 0, none⟩ = some (.int .i64 k)) (h2 : w.cell? ⟨d, 0, none⟩ = some (.int .i64 n)) :
    Calls Tryz.prog 30 #[.pointer (some ⟨b, 0, none⟩), .pointer (some ⟨d, 0, none⟩)] w fun e w' => e = .returned (.bool (!inB k n)) ∧ Ext w w' := by
  have hfit := fun w : World => me_fits_new (w := w) (k := k - 1) (n := n)
  rw [show (decide (0 ≤ n) && decide (n ≤ k - 1)) = inB k n from inB_le k n] at hfit
  obtain ⟨r, hr⟩ : ∃ r, inB k n = r := ⟨_, rfl⟩
  simp only [hr] at hfit ⊢
  obtain ⟨k0, k1⟩ := hk
  clear hr
  go_enter Tryz.func30, Tryz.ntmps30
  go_wp2_with fail
  refine (hfit _).mono ?_
  rintro e w2 ⟨rfl, hx⟩
  go_wp2
  go_ret
  exact ⟨rfl, hx⟩
set_option maxRecDepth 100000 in
set_option maxHeartbeats 1000000 in
theorem me_index (c i : Int) : Calls Tryz.prog 14 #[.int .i64 c, .int .i64 i] w (AskR Tryz.prog w 4 (!inB (cnt0 c) i)) := by
  have hb := cnt0_bound c
  have hcn := fun w : World => sz_Count (w := w) c
  rw [show (if inB 8 c = true then cntI c else 0) = cnt0 c from rfl] at hcn
  obtain ⟨k, hk⟩ : ∃ k, cnt0 c = k := ⟨_, rfl⟩
  obtain ⟨e0, he0⟩ : ∃ k : Int, (if inB 8 c = true then 0 else 2) = k := ⟨_, rfl⟩
  simp only [hk, he0] at hb hcn ⊢
  clear hk he0
  go_enter Tryz.func14, Tryz.ntmps14
  go_wp2_with fail
  refine (hcn _).mono ?_
  rintro e w2 ⟨rfl, hx⟩
  have hb4 : w2.heap[w.heap.size + 1]? = some (.cells #[.nilFunc, .int .i64 0] 39 (0, 0)) := by
    have := World.alloc_heap_new (w.alloc (.cells #[.int .i64 i] 3)) (.cells #[.nilFunc, .int .i64 0] 39)
    rw [World.size_alloc] at this
    exact (hx.block _ (by simp)).trans this
  have c0 := cell_at (i := 0) hb4 rfl
  have c1 := cell_at (i := 1) hb4 rfl
  have f0 := frz (i := 0) hb4
  have f1 := frz (i := 1) hb4
  have hz : w.heap.size + 1 < w2.heap.size := lt_of_block hb4
  have hx0 : Ext w w2 := ext_a (ext_a hx)
  have hi2 : w2.cell? ⟨w.heap.size, 0, none⟩ = some (.int .i64 i) := cell_new1 (ext_a hx)
  have HI := Lib.hid hi2
  have HB4 := Lib.hid hb4
  clear hcn hb4 hi2
  go_wp2
  obtain ⟨fv, hfv⟩ : ∃ fv : Value, fv = .func (.func 30) #[] #[.pointer (some ⟨w2.heap.size, 0, none⟩), .pointer (some ⟨w.heap.size, 0, none⟩)] := ⟨_, rfl⟩
  rw [← hfv]
  obtain ⟨W3, hW3⟩ : ∃ W3, ((w2.setCell ⟨w.heap.size + 1, 0, none⟩ fv).setCell ⟨w.heap.size + 1, 1, none⟩ (.int .i64 4)).alloc (.cells #[.int .i64 k] 3) = W3 := ⟨_, rfl⟩
  have hx23 : Ext w W3 := by rw [← hW3]; exact ext_n _ (ext_set _ (ext_set _ hx0 (by simp)) (by simp))
  have hb5 : W3.heap[w.heap.size + 1]? = some (.cells #[fv, .int .i64 4] 39 (0, 0)) := by
    rw [← hW3]
    exact (Below.heap_alloc _ _ _ (by simp; omega)).trans (heap_setc (i := 1) (u := .int .i64 4) (heap_setc (i := 0) (u := fv) HB4.out))
  have d0 := cell_at (i := 0) hb5 rfl
  have d1 := cell_at (i := 1) hb5 rfl
  have k3 : ∀ w', Ext W3 w' → w'.cell? ⟨w2.heap.size, 0, none⟩ = some (.int .i64 k) := fun w' hx' => by
    rw [← hW3] at hx'
    have := cell_new1 (w := (w2.setCell ⟨w.heap.size + 1, 0, none⟩ fv).setCell ⟨w.heap.size + 1, 1, none⟩ (.int .i64 4)) hx'
    simpa using this
  have i3 : ∀ w', Ext W3 w' → w'.cell? ⟨w.heap.size, 0, none⟩ = some (.int .i64 i) := fun w' hx' => by
    have h1 : W3.cell? ⟨w.heap.size, 0, none⟩ = w2.cell? ⟨w.heap.size, 0, none⟩ := by
      rw [← hW3]
      exact World.cell?_of_block (w := w2) ((Below.heap_alloc _ _ _ (by simp; omega)).trans ((Below.heap_setCell _ _ _ _ (by simp)).trans (Below.heap_setCell _ _ _ _ (by simp))))
    exact (hx'.cell (p := ⟨w.heap.size, 0, none⟩) (by have := lt_of_block hb5; simp; omega)).trans (h1.trans HI.out)
  rw [hW3]
  refine bodyPost_ret (v := .agg #[fv, .int .i64 4]) ?_ rfl ⟨fv, rfl, ?_, hx23⟩
  · clear hx c0 c1 f0 f1 hW3 hfv k3 i3 hb5 hx23
    simp [results, Tryz.results14, go_sem, d0, d1]
  · rw [hfv]
    exact Q.mk Tryz.call30 (fun w' hx' => me_index1 hb (k3 _ hx') (i3 _ hx'))
end
end Go.Proofs.YtgkfgilhegjbhaaGreat
