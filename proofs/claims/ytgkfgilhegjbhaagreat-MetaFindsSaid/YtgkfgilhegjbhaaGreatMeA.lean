/- package meta: At; no condition. -/
import Derived.Test.YtgkfgilhegjbhaaGreatMeQ
import Derived.Test.YtgkfgilhegjbhaaGreatWi
import Derived.Test.YtgkfgilhegjbhaaGreatR15
namespace Go.Proofs.YtgkfgilhegjbhaaGreat
open Go.RowKit
attribute [local go_sem] run_mf
attribute [local go_sem ↓] Go.wp_at_zero Go.wp_at_succ
theorem at_E {v1 v2 v3 : Value} (s c i : Int) : firstE [(v1, 2, !inB 4 s), (v2, 2, !inB 8 c), (v3, 4, !inB (cnt0 c) i)] = asksI s c i := by
  unfold asksI cnt0
  simp only [firstE]
  cases h1 : inB 4 s <;> cases h2 : inB 8 c <;> cases h3 : inB (cntI c) i <;> simp [h2, h3]
section
variable {w : World}
set_option maxRecDepth 100000 in
set_option maxHeartbeats 1000000 in
theorem me_At (s c i : Int) : Calls Tryz.prog 4 #[.agg #[.int .i64 s, .int .i64 c, .int .i64 i]] w fun e w' => e = .returned (.tuple #[.int .u32 (if asksI s c i = 0 then atI s c i else 0), .int .i64 (asksI s c i)]) ∧ Ext w w' := by
  obtain ⟨W, hW⟩ : ∃ W, w.alloc (.cells #[.int .i64 s, .int .i64 c, .int .i64 i] 23) = W := ⟨_, rfl⟩
  have hxW : Ext w W := hW ▸ ext_n _ (Ext.refl _)
  have hb : ∀ w2, Ext W w2 → w2.cell? ⟨w.heap.size, 0, none⟩ = some (.int .i64 s) ∧ w2.cell? ⟨w.heap.size, 1, none⟩ = some (.int .i64 c) ∧ w2.cell? ⟨w.heap.size, 2, none⟩ = some (.int .i64 i) := fun w2 hx => by
    have hbl : w2.heap[w.heap.size]? = some (.cells #[.int .i64 s, .int .i64 c, .int .i64 i] 23 (0, 0)) := by
      rw [← hW] at hx
      exact (hx.block _ (by simp)).trans (World.alloc_heap_new _ _)
    exact ⟨cell_at (i := 0) hbl rfl, cell_at (i := 1) hbl rfl, cell_at (i := 2) hbl rfl⟩
  obtain ⟨r, hr⟩ : ∃ r, asksI s c i = r := ⟨_, rfl⟩
  have hask : ∀ (w2 w3 w4 : World) (v1 v2 v3 : Value), Ext w2 w3 → Ext w3 w4 → Q Tryz.prog w2 v1 (.bool (!inB 4 s)) → Q Tryz.prog w3 v2 (.bool (!inB 8 c)) → Q Tryz.prog w4 v3 (.bool (!inB (cnt0 c) i)) →
      Calls Tryz.prog 11 #[.slice (some ⟨w4.heap.size, 0, none⟩) 3 3] (w4.alloc (.cells (askC [(v1, 2, !inB 4 s), (v2, 2, !inB 8 c), (v3, 4, !inB (cnt0 c) i)]) 39)) fun e w' => e = .returned (.int .i64 r) ∧ Ext w4 w' := fun w2 w3 w4 v1 v2 v3 h23 h34 q1 q2 q3 => by
    have hn : Ext w4 (w4.alloc (.cells (askC [(v1, 2, !inB 4 s), (v2, 2, !inB 8 c), (v3, 4, !inB (cnt0 c) i)]) 39)) := ext_n _ (Ext.refl _)
    have := meta_asks' [(v1, 2, !inB 4 s), (v2, 2, !inB 8 c), (v3, 4, !inB (cnt0 c) i)] (w := w4) rfl rfl rfl (by simp) ⟨q1.later (Ext.trans h23 (Ext.trans h34 hn)), fun _ => ⟨q2.later (Ext.trans h34 hn), fun _ => ⟨q3.later hn, fun _ => trivial⟩⟩⟩
    rw [at_E, hr] at this
    exact this
  have HOK := Lib.hid (fun h : r = 0 => asksI_ok.1 (hr.trans h))
  rw [hr]
  have HB := Lib.hid hb
  have HASK := Lib.hid hask
  have HW := Lib.hid hW
  clear hb hask hr hW
  go_enter Tryz.func4, Tryz.ntmps4
  go_wp2_with fail
  rw [HW.out]
  go_cut [4] (fun s4 wx => s4 = .int .i64 r ∧ Ext W wx)
  case first =>
    refine rg_begin ((fun w' => Ext W w')) (by kernel_rfl) ?_
    have hS : Ext W W.drew := ext_drew (Ext.refl _)
    refine rg_held 0 (some 9) (v := ?v1) rfl rfl (by kernel_rfl) (by kernel_rfl) (by kernel_rfl) (fun _ _ _ h => h) (by rfl) ?h1 hS ?_
    case h1 => (intro w' hS'; (skip); go_simp; try with_reducible rfl)
    simp only [Act.put, List.setIfInBounds_toArray, List.set_cons_zero, List.set_cons_succ]
    refine rg_held 1 (some 10) (v := ?v2) rfl rfl (by kernel_rfl) (by kernel_rfl) (by kernel_rfl) (fun _ _ _ h => h) (by rfl) ?h2 hS ?_
    case h2 => (intro w' hS'; (obtain ⟨c0, c1, c2⟩ := HB.out _ hS'); go_simp; try with_reducible rfl)
    simp only [Act.put, List.setIfInBounds_toArray, List.set_cons_zero, List.set_cons_succ]
    refine rg_held 2 (some 11) (v := ?v3) rfl rfl (by kernel_rfl) (by kernel_rfl) (by kernel_rfl) (fun _ _ _ h => h) (by rfl) ?h3 hS ?_
    case h3 => (intro w' hS'; (skip); go_simp; try with_reducible rfl)
    simp only [Act.put, List.setIfInBounds_toArray, List.set_cons_zero, List.set_cons_succ]
    refine rg_held 4 (some 13) (v := ?v4) rfl rfl (by kernel_rfl) (by kernel_rfl) (by kernel_rfl) (fun _ _ _ h => h) (by rfl) ?h4 hS ?_
    case h4 => (intro w' hS'; (skip); go_simp; try with_reducible rfl)
    simp only [Act.put, List.setIfInBounds_toArray, List.set_cons_zero, List.set_cons_succ]
    refine rg_held 5 (some 14) (v := ?v5) rfl rfl (by kernel_rfl) (by kernel_rfl) (by kernel_rfl) (fun _ _ _ h => h) (by rfl) ?h5 hS ?_
    case h5 => (intro w' hS'; (obtain ⟨c0, c1, c2⟩ := HB.out _ hS'); go_simp; try with_reducible rfl)
    simp only [Act.put, List.setIfInBounds_toArray, List.set_cons_zero, List.set_cons_succ]
    refine rg_held 7 (some 16) (v := ?v6) rfl rfl (by kernel_rfl) (by kernel_rfl) (by kernel_rfl) (fun _ _ _ h => h) (by rfl) ?h6 hS ?_
    case h6 => (intro w' hS'; (skip); go_simp; try with_reducible rfl)
    simp only [Act.put, List.setIfInBounds_toArray, List.set_cons_zero, List.set_cons_succ]
    refine rg_held 8 (some 17) (v := ?v7) rfl rfl (by kernel_rfl) (by kernel_rfl) (by kernel_rfl) (fun _ _ _ h => h) (by rfl) ?h7 hS ?_
    case h7 => (intro w' hS'; (obtain ⟨c0, c1, c2⟩ := HB.out _ hS'); go_simp; try with_reducible rfl)
    simp only [Act.put, List.setIfInBounds_toArray, List.set_cons_zero, List.set_cons_succ]
    refine rg_held 9 (some 18) (v := ?v8) rfl rfl (by kernel_rfl) (by kernel_rfl) (by kernel_rfl) (fun _ _ _ h => h) (by rfl) ?h8 hS ?_
    case h8 => (intro w' hS'; (skip); go_simp; try with_reducible rfl)
    simp only [Act.put, List.setIfInBounds_toArray, List.set_cons_zero, List.set_cons_succ]
    refine rg_held 10 (some 19) (v := ?v9) rfl rfl (by kernel_rfl) (by kernel_rfl) (by kernel_rfl) (fun _ _ _ h => h) (by rfl) ?h9 hS ?_
    case h9 => (intro w' hS'; (obtain ⟨c0, c1, c2⟩ := HB.out _ hS'); go_simp; try with_reducible rfl)
    simp only [Act.put, List.setIfInBounds_toArray, List.set_cons_zero, List.set_cons_succ]
    refine rg_call 3 (some 12) rfl rfl (by kernel_rfl) rfl (by rfl) Tryz.call12 ((me_who none s).mono ?_)
    rintro e w2 ⟨v1, rfl, hq1, hx1⟩
    refine ⟨_, rfl, Ext.trans hS hx1, ?_⟩
    replace hS : Ext W w2 := Ext.trans hS hx1
    simp only [Act.put, List.setIfInBounds_toArray, List.set_cons_zero, List.set_cons_succ]
    refine rg_call 6 (some 15) rfl rfl (by kernel_rfl) rfl (by rfl) Tryz.call13 ((me_class c).mono ?_)
    rintro e w3 ⟨v2, rfl, hq2, hx2⟩
    refine ⟨_, rfl, Ext.trans hS hx2, ?_⟩
    replace hS : Ext W w3 := Ext.trans hS hx2
    simp only [Act.put, List.setIfInBounds_toArray, List.set_cons_zero, List.set_cons_succ]
    refine rg_call 11 (some 20) rfl rfl (by kernel_rfl) rfl (by rfl) Tryz.call14 ((me_index c i).mono ?_)
    rintro e w4 ⟨v3, rfl, hq3, hx3⟩
    refine ⟨_, rfl, Ext.trans hS hx3, ?_⟩
    replace hS : Ext W w4 := Ext.trans hS hx3
    simp only [Act.put, List.setIfInBounds_toArray, List.set_cons_zero, List.set_cons_succ]
    refine rg_value 12 (some 21) (v := ?v11) (w' := ?w11) rfl rfl (by kernel_rfl) (by rfl) ?h11 ?s11 ?_
    case h11 => ((skip); go_simp; try (first | with_reducible rfl | (refine ⟨?_, ?_⟩ <;> with_reducible rfl)))
    case s11 => exact ext_n _ hS
    simp only [Act.put, List.setIfInBounds_toArray, List.set_cons_zero, List.set_cons_succ]
    refine rg_call 13 (some 22) rfl rfl (by kernel_rfl) rfl (by rfl) Tryz.call11 ((HASK.out _ _ _ v1 v2 v3 hx2 hx3 hq1 hq2 hq3).mono ?_)
    rintro e w5 ⟨rfl, hx5⟩
    refine ⟨_, rfl, Ext.trans hS hx5, ?_⟩
    replace hS : Ext W w5 := Ext.trans hS hx5
    refine rg_held 14 (some 4) (v := ?v10) rfl rfl (by kernel_rfl) (by kernel_rfl) (by kernel_rfl) (fun _ _ _ h => h) (by rfl) ?h10 hS ?_
    case h10 => (intro w' hS'; (skip); go_simp; try with_reducible rfl)
    simp only [Act.put, List.setIfInBounds_toArray, List.set_cons_zero, List.set_cons_succ]
    refine rg_done (by kernel_rfl) ?_
    go_wp2_with fail
    go_meet
    exact ⟨rfl, hS⟩
  case rest =>
    obtain ⟨rfl, hx⟩ := hcut
    clear HASK
    obtain ⟨c0, c1, c2⟩ := HB.out _ hx
    by_cases h0 : r = 0
    · obtain ⟨s0, s4, c0', c8, i0, iN⟩ := HOK.out h0
      have hmul := (HOK.out h0).mul
      have hat : atI s c i = regI s c * 256 + i * sloI c + 16 := by unfold atI; omega
      have hrg : 4097 ≤ regI s c ∧ regI s c ≤ 20000 := by unfold regI; omega
      have hsl := sloI_pos c
      have hreg := fun w : World => wi_Region (w := w) s c
      have hslo := fun w : World => sz_Slot (w := w) c
      have hi1 : inB 4 s = true := inB_iff.2 ⟨s0, s4⟩
      have hi2 : inB 8 c = true := inB_iff.2 ⟨c0', c8⟩
      simp only [hi1, hi2, Bool.true_and, if_true] at hreg hslo
      obtain ⟨p, hp⟩ : ∃ p, sloI c = p := ⟨_, rfl⟩
      obtain ⟨g, hg⟩ : ∃ p, regI s c = p := ⟨_, rfl⟩
      obtain ⟨m, hm⟩ : ∃ m, i * p = m := ⟨_, rfl⟩
      simp only [hp, hg] at hreg hslo hsl hrg hat hmul
      rw [hm] at hat hmul
      obtain ⟨m1, m2⟩ := hmul
      obtain ⟨g1, g2⟩ := hrg
      obtain ⟨p1, p2⟩ := hsl
      have HAT := Lib.hid hat
      have HBB := Lib.hid HB.out
      subst h0
      clear hat hp hg hi1 hi2 HOK iN
      go_wp2_with fail
      refine (hreg _).mono ?_
      rintro e w2 ⟨rfl, hx2⟩
      obtain ⟨c0, c1, c2⟩ := HB.out _ (Ext.trans hx hx2)
      go_wp2_with fail
      refine (hslo _).mono ?_
      rintro e w3 ⟨rfl, hx3⟩
      obtain ⟨c0, c1, c2⟩ := HB.out _ (Ext.trans hx (Ext.trans hx2 hx3))
      go_wp2
      go_ret2
      refine ⟨?_, Ext.trans hxW (Ext.trans hx (Ext.trans hx2 hx3))⟩
      show Ending.returned (.tuple #[.int .u32 (g * 256 + m + 16), .int .i64 0]) = _
      first | rw [HAT.out] | rw [if_pos rfl, HAT.out]
    · have hr0 : (r != 0) = true := by simp [h0]
      clear HOK
      go_wp2
      go_ret2
      exact ⟨by first | rfl | (rw [if_neg h0]; rfl), Ext.trans hxW hx⟩
end
end Go.Proofs.YtgkfgilhegjbhaaGreat
