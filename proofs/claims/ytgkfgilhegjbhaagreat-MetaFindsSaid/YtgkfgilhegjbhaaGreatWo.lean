/- package window: the first kind that a page is; no condition. -/
import Derived.Test.YtgkfgilhegjbhaaGreatWk1
import Derived.Test.YtgkfgilhegjbhaaGreatWk4
import Derived.Test.YtgkfgilhegjbhaaGreatRal
namespace Go.Proofs.YtgkfgilhegjbhaaGreat
open Go.RowKit
attribute [local go_sem] run_mf
attribute [local go_sem ↓] Go.wp_at_zero Go.wp_at_succ
/-- what kind k tells of a page of slot s's window: class, place, is it? -/
def kC (k s page : Int) : Int := if k = 2 then (if 0 < page - 4096 * (s + 1) then (page - 4096 * (s + 1) - 1) / 17 else (page - 4096 * (s + 1) - 1).tdiv 17) else 0
def kP (k s page : Int) : Int := if k = 1 then page - (64 * s + 1) else if k = 2 then (if 0 < page - 4096 * (s + 1) then (page - 4096 * (s + 1) - 1) % 17 else (page - 4096 * (s + 1) - 1).tmod 17) else page - 4096 * (s + 1)
def kB (k s page : Int) : Bool :=
  if k = 1 then inB 48 (page - (64 * s + 1)) else if k = 2 then decide (0 < page - 4096 * (s + 1)) && (decide ((page - 4096 * (s + 1) - 1) / 17 < 8) && decide ((page - 4096 * (s + 1) - 1) % 17 < 16))
  else if k = 3 then decide (256 ≤ page - 4096 * (s + 1)) && decide (page - 4096 * (s + 1) < 4096) else inB 4096 (page - 4096 * (s + 1))
/-- the kinds' functions -/
def kF (k : Int) : FuncId := if k = 1 then 55 else if k = 2 then 57 else if k = 3 then 58 else 59
section
variable {w : World}
theorem wi_kind {k s page : Int} (hk : k = 1 ∨ k = 2 ∨ k = 3 ∨ k = 4) (s0 : 0 ≤ s) (s4 : s < 4) (p0 : 0 ≤ page) (p1 : page < 65536) :
    Calls Tryz.prog (kF k) #[.agg #[.int .i64 s], .int .i64 page, .int .i64 (page - 4096 * (s + 1))] w fun e w' => e = .returned (.tuple #[siteV 0 0 (kC k s page) (kP k s page), .bool (kB k s page)]) ∧ Ext w w' := by
  rcases hk with rfl | rfl | rfl | rfl
  · exact wi_k1 s0 s4 p0 p1
  · by_cases hf : 0 < page - 4096 * (s + 1)
    · have h := wi_k2p (w := w) (s := s) (page := page) hf (by omega)
      simp only [kF, kC, kP, kB]
      simp only [show ((2 : Int) = 1) = False by simp, if_false, if_true, if_pos hf, decide_eq_true hf, Bool.true_and]
      exact h
    · have h := wi_k2n (w := w) (s := s) (page := page) (f := page - 4096 * (s + 1)) (by omega) (by omega)
      simp only [kF, kC, kP, kB]
      simp only [show ((2 : Int) = 1) = False by simp, if_false, if_true, if_neg hf, decide_eq_false hf, Bool.false_and]
      exact h
  · exact wi_k3
  · exact wi_k4
theorem kF_enter {k : Int} (hk : k = 1 ∨ k = 2 ∨ k = 3 ∨ k = 4) : ∀ a w, (callFunc (kF k) a).run Tryz.prog w = .ok (.enter (kF k) a) w := by
  rcases hk with rfl | rfl | rfl | rfl
  · exact Tryz.call55
  · exact Tryz.call57
  · exact Tryz.call58
  · exact Tryz.call59
set_option maxRecDepth 100000 in
set_option maxHeartbeats 1000000 in
theorem wi_of1 {pb gb : Nat} {k s page : Int} (hk : k = 1 ∨ k = 2 ∨ k = 3 ∨ k = 4) (s0 : 0 ≤ s) (s4 : s < 4) (p0 : 0 ≤ page) (p1 : page < 65536)
    (h1 : w.cell? ⟨pb, 0, none⟩ = some (.int .i64 s)) (h2 : w.cell? ⟨gb, 0, none⟩ = some (.int .i64 page)) :
    Calls Tryz.prog 41 #[.agg #[.int .i64 k, .func (.func (kF k)) #[] #[]], .pointer (some ⟨pb, 0, none⟩), .pointer (some ⟨gb, 0, none⟩)] w fun e w' => e = .returned (.tuple #[siteV k s (kC k s page) (kP k s page), .bool (kB k s page)]) ∧ Ext w w' := by
  have hkd := fun w : World => wi_kind (w := w) hk s0 s4 p0 p1
  have hen := kF_enter hk
  obtain ⟨f, hf⟩ : ∃ f, kF k = f := ⟨_, rfl⟩
  obtain ⟨c, hc⟩ : ∃ c, kC k s page = c := ⟨_, rfl⟩
  obtain ⟨p, hp⟩ : ∃ c, kP k s page = c := ⟨_, rfl⟩
  obtain ⟨b, hb⟩ : ∃ c, kB k s page = c := ⟨_, rfl⟩
  simp only [hf, hc, hp, hb] at hkd hen ⊢
  clear hf hc hp hb
  unfold siteV at hkd ⊢
  obtain ⟨W, hW⟩ : ∃ W, blocks w [(#[.int .i64 k, .func (.func f) #[] #[]], 83), (#[.int .i64 0, .int .i64 0, .int .i64 0, .int .i64 0], 56)] = W := ⟨_, rfl⟩
  have hxW : Ext w W := hW ▸ blocks_ext _ w
  have hb : ∀ w2, Ext W w2 → w2.cell? ⟨pb, 0, none⟩ = some (.int .i64 s) ∧ w2.cell? ⟨gb, 0, none⟩ = some (.int .i64 page) ∧ w2.cell? ⟨w.heap.size, 0, none⟩ = some (.int .i64 k) ∧ w2.cell? ⟨w.heap.size, 1, none⟩ = some (.func (.func f) #[] #[]) := fun w2 hx => by
    have hx' := Ext.trans hxW hx
    have hb0 : w2.heap[w.heap.size]? = some (.cells #[.int .i64 k, .func (.func f) #[] #[]] 83 (0, 0)) := by
      rw [← hW] at hx
      exact blocks_at _ w 0 (by simp) hx
    exact ⟨(hx'.cell (p := ⟨pb, 0, none⟩) (World.block_lt_of_cell? _ _ h1)).trans h1, (hx'.cell (p := ⟨gb, 0, none⟩) (World.block_lt_of_cell? _ _ h2)).trans h2, cell_at (i := 0) hb0 rfl, cell_at (i := 1) hb0 rfl⟩
  have hr : W.heap[w.heap.size + 1]? = some (.cells #[.int .i64 0, .int .i64 0, .int .i64 0, .int .i64 0] 56 (0, 0)) := by
    rw [← hW]
    exact blocks_at _ w 1 (by simp) (Ext.refl _)
  have hWl : (w.alloc (.cells #[.int .i64 k, .func (.func f) #[] #[]] 83)).alloc (.cells #[.int .i64 0, .int .i64 0, .int .i64 0, .int .i64 0] 56) = W := hW
  have HW := Lib.hid hWl
  have HB := Lib.hid hb
  have HR := Lib.hid hr
  have hwr : IntKind.i64.wrap (page - 4096 * (s + 1)) = page - 4096 * (s + 1) := IntWalk.i64_in _ (by omega)
  clear hW hWl hb hr h1 h2 hk
  go_enter Tryz.func41, Tryz.ntmps41
  go_wp2_with fail
  rw [HW.out]
  go_cut [6, 7] (fun s6 s7 wx => ∃ xb, s6 = .pointer (some ⟨xb, 0, none⟩) ∧ s7 = .bool b ∧ Ext W wx ∧ wx.heap[xb]? = some (.cells #[.int .i64 0, .int .i64 0, .int .i64 c, .int .i64 p] 56 (0, 0)) ∧ W.heap.size ≤ xb)
  case first =>
    refine rg_begin ((fun w' => Ext W w')) (by kernel_rfl) ?_
    have hS : Ext W W.drew := ext_drew (Ext.refl _)
    refine rg_held 0 (some 9) (v := ?v1) rfl rfl (by kernel_rfl) (by kernel_rfl) (by kernel_rfl) (fun _ _ _ h => h) (by rfl) ?h1 hS ?_
    case h1 => (intro w' hS'; (skip); go_simp; try with_reducible rfl)
    simp only [Act.put, List.setIfInBounds_toArray, List.set_cons_zero, List.set_cons_succ]
    refine rg_held 1 (some 10) (v := ?v2) rfl rfl (by kernel_rfl) (by kernel_rfl) (by kernel_rfl) (fun _ _ _ h => h) (by rfl) ?h2 hS ?_
    case h2 => (intro w' hS'; (obtain ⟨c0, c1, c2, c3⟩ := HB.out _ hS'); go_simp; try with_reducible rfl)
    simp only [Act.put, List.setIfInBounds_toArray, List.set_cons_zero, List.set_cons_succ]
    refine rg_held 2 (some 11) (v := ?v3) rfl rfl (by kernel_rfl) (by kernel_rfl) (by kernel_rfl) (fun _ _ _ h => h) (by rfl) ?h3 hS ?_
    case h3 => (intro w' hS'; (obtain ⟨c0, c1, c2, c3⟩ := HB.out _ hS'); go_simp; try with_reducible rfl)
    simp only [Act.put, List.setIfInBounds_toArray, List.set_cons_zero, List.set_cons_succ]
    refine rg_held 3 (some 12) (v := ?v4) rfl rfl (by kernel_rfl) (by kernel_rfl) (by kernel_rfl) (fun _ _ _ h => h) (by rfl) ?h4 hS ?_
    case h4 => (intro w' hS'; (obtain ⟨c0, c1, c2, c3⟩ := HB.out _ hS'); go_simp; try with_reducible rfl)
    simp only [Act.put, List.setIfInBounds_toArray, List.set_cons_zero, List.set_cons_succ]
    refine rg_held 4 (some 13) (v := ?v5) rfl rfl (by kernel_rfl) (by kernel_rfl) (by kernel_rfl) (fun _ _ _ h => h) (by rfl) ?h5 hS ?_
    case h5 => (intro w' hS'; (obtain ⟨c0, c1, c2, c3⟩ := HB.out _ hS'); go_simp; try with_reducible rfl)
    simp only [Act.put, List.setIfInBounds_toArray, List.set_cons_zero, List.set_cons_succ]
    refine rg_held 5 (some 14) (v := ?v6) rfl rfl (by kernel_rfl) (by kernel_rfl) (by kernel_rfl) (fun _ _ _ h => h) (by rfl) ?h6 hS ?_
    case h6 => (intro w' hS'; (obtain ⟨c0, c1, c2, c3⟩ := HB.out _ hS'); go_simp; try with_reducible rfl)
    simp only [Act.put, List.setIfInBounds_toArray, List.set_cons_zero, List.set_cons_succ]
    refine rg_two 6 12 (by kernel_rfl) ?_ ?_
    · refine op_call 6 (some 15) rfl rfl rfl (by rfl) Tryz.call42 ((wi_base s0 s4).mono ?_)
      rintro e w2 ⟨rfl, hx2⟩
      refine ⟨_, rfl, Ext.trans hS hx2, ?_⟩
      replace hS : Ext W w2 := Ext.trans hS hx2
      simp only [Act.put, List.setIfInBounds_toArray, List.set_cons_zero, List.set_cons_succ]
      refine rg_held 7 (some 16) (v := ?v7) rfl rfl (by kernel_rfl) (by kernel_rfl) (by kernel_rfl) (fun _ _ _ h => h) (by rfl) ?h7 hS ?_
      case h7 => (intro w' hS'; (skip); go_simp; try with_reducible rfl)
      simp only [Act.put, List.setIfInBounds_toArray, List.set_cons_zero, List.set_cons_succ]
      refine rg_two 8 12 (by kernel_rfl) ?_ ?_
      · refine op_callv 8 (some 17) rfl rfl rfl rfl (by rfl) hen ((hkd _).mono ?_)
        rintro e w3 ⟨rfl, hx3⟩
        refine ⟨_, rfl, Ext.trans hS hx3, ?_⟩
        replace hS : Ext W w3 := Ext.trans hS hx3
        simp only [Act.put, List.setIfInBounds_toArray, List.set_cons_zero, List.set_cons_succ]
        refine rg_held 9 (some 8) (v := ?v8) rfl rfl (by kernel_rfl) (by kernel_rfl) (by kernel_rfl) (fun _ _ _ h => h) (by rfl) ?h8 hS ?_
        case h8 => (intro w' hS'; (skip); go_simp; try with_reducible rfl)
        simp only [Act.put, List.setIfInBounds_toArray, List.set_cons_zero, List.set_cons_succ]
        refine rg_held 10 (some 18) (v := ?v9) rfl rfl (by kernel_rfl) (by kernel_rfl) (by kernel_rfl) (fun _ _ _ h => h) (by rfl) ?h9 hS ?_
        case h9 => (intro w' hS'; (skip); go_simp; try with_reducible rfl)
        simp only [Act.put, List.setIfInBounds_toArray, List.set_cons_zero, List.set_cons_succ]
        refine rg_held 11 (some 19) (v := ?v10) rfl rfl (by kernel_rfl) (by kernel_rfl) (by kernel_rfl) (fun _ _ _ h => h) (by rfl) ?h10 hS ?_
        case h10 => (intro w' hS'; (skip); go_simp; try with_reducible rfl)
        simp only [Act.put, List.setIfInBounds_toArray, List.set_cons_zero, List.set_cons_succ]
        refine rg_one 12 (by kernel_rfl) ?_
        refine op_value 12 (some 6) (w' := w3.alloc (.cells #[.int .i64 0, .int .i64 0, .int .i64 0, .int .i64 0] 56)) (v := .pointer (some ⟨w3.heap.size, 0, none⟩)) rfl rfl rfl ?hh1 ?kk1
        case hh1 => (go_simp; try (first | with_reducible rfl | (refine ⟨?_, ?_⟩ <;> with_reducible rfl)))
        case kk1 =>
          refine ⟨ext_n _ hS, ?_⟩
          have hyb : (w3.alloc (.cells #[.int .i64 0, .int .i64 0, .int .i64 0, .int .i64 0] 56)).heap[w3.heap.size]? = some (.cells #[.int .i64 0, .int .i64 0, .int .i64 0, .int .i64 0] 56 (0, 0)) := World.alloc_heap_new _ _
          have hxb : W.heap.size ≤ w3.heap.size := hS.size
          replace hS : Ext W (w3.alloc (.cells #[.int .i64 0, .int .i64 0, .int .i64 0, .int .i64 0] 56)) := ext_n _ hS
          obtain ⟨xb, hxe⟩ : ∃ xb, w3.heap.size = xb := ⟨_, rfl⟩
          rw [hxe] at hyb hxb ⊢
          obtain ⟨V, hV⟩ : ∃ V, w3.alloc (.cells #[.int .i64 0, .int .i64 0, .int .i64 0, .int .i64 0] 56) = V := ⟨_, rfl⟩
          rw [hV] at hyb hS ⊢
          clear hV hxe
          simp only [Act.put, List.setIfInBounds_toArray, List.set_cons_zero, List.set_cons_succ]
          have b0 := cell_at (i := 0) hyb rfl
          have b1 := cell_at (i := 1) hyb rfl
          have b2 := cell_at (i := 2) hyb rfl
          have b3 := cell_at (i := 3) hyb rfl
          have f0 := frz (i := 0) hyb
          have f1 := frz (i := 1) hyb
          have f2 := frz (i := 2) hyb
          have f3 := frz (i := 3) hyb
          have hS7 := ext_set (.int .i64 p) (a := ⟨xb, 3, none⟩) (ext_set (.int .i64 c) (a := ⟨xb, 2, none⟩) (ext_set (.int .i64 0) (a := ⟨xb, 1, none⟩) (ext_set (.int .i64 0) (a := ⟨xb, 0, none⟩) hS hxb) hxb) hxb) hxb
          refine rg_unit 13 none (w' := ?w27) rfl rfl (by kernel_rfl) (by rfl) ?h27 ?s27 ?_
          case h27 => ((skip); go_simp; try with_reducible rfl)
          case s27 => exact hS7
          simp only [Act.put]
          have hyb7 := heap_set4 (b0 := .int .i64 0) (b1 := .int .i64 0) (b2 := .int .i64 c) (b3 := .int .i64 p) hyb
          replace hS := hS7
          refine rg_held 14 (some 7) (v := ?v11) rfl rfl (by kernel_rfl) (by kernel_rfl) (by kernel_rfl) (fun _ _ _ h => h) (by rfl) ?h11 hS ?_
          case h11 => (intro w' hS'; (skip); go_simp; try with_reducible rfl)
          simp only [Act.put, List.setIfInBounds_toArray, List.set_cons_zero, List.set_cons_succ]
          refine rg_done (by kernel_rfl) ?_
          go_wp2_with fail
          go_meet
          exact ⟨xb, rfl, rfl, hS, hyb7, hxb⟩
      · refine op_value 12 (some 6) (w' := w2.alloc (.cells #[.int .i64 0, .int .i64 0, .int .i64 0, .int .i64 0] 56)) (v := .pointer (some ⟨w2.heap.size, 0, none⟩)) rfl rfl rfl ?hh2 ?kk2
        case hh2 => (go_simp; try (first | with_reducible rfl | (refine ⟨?_, ?_⟩ <;> with_reducible rfl)))
        case kk2 =>
          refine ⟨ext_n _ hS, ?_⟩
          have hyb : (w2.alloc (.cells #[.int .i64 0, .int .i64 0, .int .i64 0, .int .i64 0] 56)).heap[w2.heap.size]? = some (.cells #[.int .i64 0, .int .i64 0, .int .i64 0, .int .i64 0] 56 (0, 0)) := World.alloc_heap_new _ _
          have hxb : W.heap.size ≤ w2.heap.size := hS.size
          replace hS : Ext W (w2.alloc (.cells #[.int .i64 0, .int .i64 0, .int .i64 0, .int .i64 0] 56)) := ext_n _ hS
          obtain ⟨xb, hxe⟩ : ∃ xb, w2.heap.size = xb := ⟨_, rfl⟩
          rw [hxe] at hyb hxb ⊢
          obtain ⟨V, hV⟩ : ∃ V, w2.alloc (.cells #[.int .i64 0, .int .i64 0, .int .i64 0, .int .i64 0] 56) = V := ⟨_, rfl⟩
          rw [hV] at hyb hS ⊢
          clear hV hxe
          simp only [Act.put, List.setIfInBounds_toArray, List.set_cons_zero, List.set_cons_succ]
          refine rg_callv 8 (some 17) rfl rfl (by kernel_rfl) rfl rfl (by rfl) hen ((hkd _).mono ?_)
          rintro e w3 ⟨rfl, hx3⟩
          refine ⟨_, rfl, Ext.trans hS hx3, ?_⟩
          replace hS : Ext W w3 := Ext.trans hS hx3
          simp only [Act.put, List.setIfInBounds_toArray, List.set_cons_zero, List.set_cons_succ]
          replace hyb := (hx3.block _ (lt_of_block hyb)).trans hyb
          refine rg_held 9 (some 8) (v := ?v12) rfl rfl (by kernel_rfl) (by kernel_rfl) (by kernel_rfl) (fun _ _ _ h => h) (by rfl) ?h12 hS ?_
          case h12 => (intro w' hS'; (skip); go_simp; try with_reducible rfl)
          simp only [Act.put, List.setIfInBounds_toArray, List.set_cons_zero, List.set_cons_succ]
          refine rg_held 10 (some 18) (v := ?v13) rfl rfl (by kernel_rfl) (by kernel_rfl) (by kernel_rfl) (fun _ _ _ h => h) (by rfl) ?h13 hS ?_
          case h13 => (intro w' hS'; (skip); go_simp; try with_reducible rfl)
          simp only [Act.put, List.setIfInBounds_toArray, List.set_cons_zero, List.set_cons_succ]
          refine rg_held 11 (some 19) (v := ?v14) rfl rfl (by kernel_rfl) (by kernel_rfl) (by kernel_rfl) (fun _ _ _ h => h) (by rfl) ?h14 hS ?_
          case h14 => (intro w' hS'; (skip); go_simp; try with_reducible rfl)
          simp only [Act.put, List.setIfInBounds_toArray, List.set_cons_zero, List.set_cons_succ]
          have b0 := cell_at (i := 0) hyb rfl
          have b1 := cell_at (i := 1) hyb rfl
          have b2 := cell_at (i := 2) hyb rfl
          have b3 := cell_at (i := 3) hyb rfl
          have f0 := frz (i := 0) hyb
          have f1 := frz (i := 1) hyb
          have f2 := frz (i := 2) hyb
          have f3 := frz (i := 3) hyb
          have hS7 := ext_set (.int .i64 p) (a := ⟨xb, 3, none⟩) (ext_set (.int .i64 c) (a := ⟨xb, 2, none⟩) (ext_set (.int .i64 0) (a := ⟨xb, 1, none⟩) (ext_set (.int .i64 0) (a := ⟨xb, 0, none⟩) hS hxb) hxb) hxb) hxb
          refine rg_unit 13 none (w' := ?w28) rfl rfl (by kernel_rfl) (by rfl) ?h28 ?s28 ?_
          case h28 => ((skip); go_simp; try with_reducible rfl)
          case s28 => exact hS7
          simp only [Act.put]
          have hyb7 := heap_set4 (b0 := .int .i64 0) (b1 := .int .i64 0) (b2 := .int .i64 c) (b3 := .int .i64 p) hyb
          replace hS := hS7
          refine rg_held 14 (some 7) (v := ?v15) rfl rfl (by kernel_rfl) (by kernel_rfl) (by kernel_rfl) (fun _ _ _ h => h) (by rfl) ?h15 hS ?_
          case h15 => (intro w' hS'; (skip); go_simp; try with_reducible rfl)
          simp only [Act.put, List.setIfInBounds_toArray, List.set_cons_zero, List.set_cons_succ]
          refine rg_done (by kernel_rfl) ?_
          go_wp2_with fail
          go_meet
          exact ⟨xb, rfl, rfl, hS, hyb7, hxb⟩
    · refine op_value 12 (some 6) (w' := W.drew.alloc (.cells #[.int .i64 0, .int .i64 0, .int .i64 0, .int .i64 0] 56)) (v := .pointer (some ⟨W.drew.heap.size, 0, none⟩)) rfl rfl rfl ?hh3 ?kk3
      case hh3 => (go_simp; try (first | with_reducible rfl | (refine ⟨?_, ?_⟩ <;> with_reducible rfl)))
      case kk3 =>
        refine ⟨ext_n _ hS, ?_⟩
        have hyb : (W.drew.alloc (.cells #[.int .i64 0, .int .i64 0, .int .i64 0, .int .i64 0] 56)).heap[W.drew.heap.size]? = some (.cells #[.int .i64 0, .int .i64 0, .int .i64 0, .int .i64 0] 56 (0, 0)) := World.alloc_heap_new _ _
        have hxb : W.heap.size ≤ W.drew.heap.size := hS.size
        replace hS : Ext W (W.drew.alloc (.cells #[.int .i64 0, .int .i64 0, .int .i64 0, .int .i64 0] 56)) := ext_n _ hS
        obtain ⟨xb, hxe⟩ : ∃ xb, W.drew.heap.size = xb := ⟨_, rfl⟩
        rw [hxe] at hyb hxb ⊢
        obtain ⟨V, hV⟩ : ∃ V, W.drew.alloc (.cells #[.int .i64 0, .int .i64 0, .int .i64 0, .int .i64 0] 56) = V := ⟨_, rfl⟩
        rw [hV] at hyb hS ⊢
        clear hV hxe
        simp only [Act.put, List.setIfInBounds_toArray, List.set_cons_zero, List.set_cons_succ]
        refine rg_call 6 (some 15) rfl rfl (by kernel_rfl) rfl (by rfl) Tryz.call42 ((wi_base s0 s4).mono ?_)
        rintro e w2 ⟨rfl, hx2⟩
        refine ⟨_, rfl, Ext.trans hS hx2, ?_⟩
        replace hS : Ext W w2 := Ext.trans hS hx2
        simp only [Act.put, List.setIfInBounds_toArray, List.set_cons_zero, List.set_cons_succ]
        refine rg_held 7 (some 16) (v := ?v16) rfl rfl (by kernel_rfl) (by kernel_rfl) (by kernel_rfl) (fun _ _ _ h => h) (by rfl) ?h16 hS ?_
        case h16 => (intro w' hS'; (skip); go_simp; try with_reducible rfl)
        simp only [Act.put, List.setIfInBounds_toArray, List.set_cons_zero, List.set_cons_succ]
        refine rg_callv 8 (some 17) rfl rfl (by kernel_rfl) rfl rfl (by rfl) hen ((hkd _).mono ?_)
        rintro e w3 ⟨rfl, hx3⟩
        refine ⟨_, rfl, Ext.trans hS hx3, ?_⟩
        replace hS : Ext W w3 := Ext.trans hS hx3
        simp only [Act.put, List.setIfInBounds_toArray, List.set_cons_zero, List.set_cons_succ]
        replace hyb := (hx3.block _ (by have := hx2.size; have := lt_of_block hyb; omega)).trans ((hx2.block _ (lt_of_block hyb)).trans hyb)
        refine rg_held 9 (some 8) (v := ?v17) rfl rfl (by kernel_rfl) (by kernel_rfl) (by kernel_rfl) (fun _ _ _ h => h) (by rfl) ?h17 hS ?_
        case h17 => (intro w' hS'; (skip); go_simp; try with_reducible rfl)
        simp only [Act.put, List.setIfInBounds_toArray, List.set_cons_zero, List.set_cons_succ]
        refine rg_held 10 (some 18) (v := ?v18) rfl rfl (by kernel_rfl) (by kernel_rfl) (by kernel_rfl) (fun _ _ _ h => h) (by rfl) ?h18 hS ?_
        case h18 => (intro w' hS'; (skip); go_simp; try with_reducible rfl)
        simp only [Act.put, List.setIfInBounds_toArray, List.set_cons_zero, List.set_cons_succ]
        refine rg_held 11 (some 19) (v := ?v19) rfl rfl (by kernel_rfl) (by kernel_rfl) (by kernel_rfl) (fun _ _ _ h => h) (by rfl) ?h19 hS ?_
        case h19 => (intro w' hS'; (skip); go_simp; try with_reducible rfl)
        simp only [Act.put, List.setIfInBounds_toArray, List.set_cons_zero, List.set_cons_succ]
        have b0 := cell_at (i := 0) hyb rfl
        have b1 := cell_at (i := 1) hyb rfl
        have b2 := cell_at (i := 2) hyb rfl
        have b3 := cell_at (i := 3) hyb rfl
        have f0 := frz (i := 0) hyb
        have f1 := frz (i := 1) hyb
        have f2 := frz (i := 2) hyb
        have f3 := frz (i := 3) hyb
        have hS7 := ext_set (.int .i64 p) (a := ⟨xb, 3, none⟩) (ext_set (.int .i64 c) (a := ⟨xb, 2, none⟩) (ext_set (.int .i64 0) (a := ⟨xb, 1, none⟩) (ext_set (.int .i64 0) (a := ⟨xb, 0, none⟩) hS hxb) hxb) hxb) hxb
        refine rg_unit 13 none (w' := ?w29) rfl rfl (by kernel_rfl) (by rfl) ?h29 ?s29 ?_
        case h29 => ((skip); go_simp; try with_reducible rfl)
        case s29 => exact hS7
        simp only [Act.put]
        have hyb7 := heap_set4 (b0 := .int .i64 0) (b1 := .int .i64 0) (b2 := .int .i64 c) (b3 := .int .i64 p) hyb
        replace hS := hS7
        refine rg_held 14 (some 7) (v := ?v20) rfl rfl (by kernel_rfl) (by kernel_rfl) (by kernel_rfl) (fun _ _ _ h => h) (by rfl) ?h20 hS ?_
        case h20 => (intro w' hS'; (skip); go_simp; try with_reducible rfl)
        simp only [Act.put, List.setIfInBounds_toArray, List.set_cons_zero, List.set_cons_succ]
        refine rg_done (by kernel_rfl) ?_
        go_wp2_with fail
        go_meet
        exact ⟨xb, rfl, rfl, hS, hyb7, hxb⟩
  case rest =>
    obtain ⟨xb, rfl, rfl, hx, hyb, hxb⟩ := hcut
    have hr2 := (hx.block _ (lt_of_block HR.out)).trans HR.out
    have hltr := lt_of_block HR.out
    have hc : ∀ w2, Upd [xb] wc w2 → w2.cell? ⟨pb, 0, none⟩ = some (.int .i64 s) ∧ w2.cell? ⟨w.heap.size, 0, none⟩ = some (.int .i64 k) := fun w2 hu => by
      obtain ⟨c0, _, c2, _⟩ := HB.out _ (Ext.refl W)
      have l0 := World.block_lt_of_cell? _ _ c0
      have l2 := World.block_lt_of_cell? _ _ c2
      obtain ⟨d0, _, d2, _⟩ := HB.out _ hx
      exact ⟨(hu.cell (World.block_lt_of_cell? _ _ d0) (by simp; simp at l0; omega)).trans d0, (hu.cell (World.block_lt_of_cell? _ _ d2) (by simp; simp at l2; omega)).trans d2⟩
    have HC := Lib.hid hc
    have e0 := cell_at (i := 0) hyb rfl
    have e1 := cell_at (i := 1) hyb rfl
    have f0 := frz (i := 0) hyb
    have f1 := frz (i := 1) hyb
    have HY := Lib.hid hyb
    have HR2 := Lib.hid hr2
    clear hc hyb hr2 hkd hen HB HR HW
    go_wp2_with fail
    refine rg_begin ((fun x => Upd [xb] wc x)) (by kernel_rfl) ?_
    have hS : Upd [xb] wc wc.drew := Upd.of_ext (ext_drew (Ext.refl _))
    refine rg_held 0 (some 20) (v := ?v21) rfl rfl (by kernel_rfl) (by kernel_rfl) (by kernel_rfl) (fun _ _ _ h => h) (by rfl) ?h21 hS ?_
    case h21 => (intro w' hS'; (skip); go_simp; try with_reducible rfl)
    simp only [Act.put, List.setIfInBounds_toArray, List.set_cons_zero, List.set_cons_succ]
    refine rg_held 1 (some 21) (v := ?v22) rfl rfl (by kernel_rfl) (by kernel_rfl) (by kernel_rfl) (fun _ _ _ h => h) (by rfl) ?h22 hS ?_
    case h22 => (intro w' hS'; (obtain ⟨c0, c1⟩ := HC.out _ hS'); go_simp; try with_reducible rfl)
    simp only [Act.put, List.setIfInBounds_toArray, List.set_cons_zero, List.set_cons_succ]
    refine rg_held 2 (some 22) (v := ?v23) rfl rfl (by kernel_rfl) (by kernel_rfl) (by kernel_rfl) (fun _ _ _ h => h) (by rfl) ?h23 hS ?_
    case h23 => (intro w' hS'; (skip); go_simp; try with_reducible rfl)
    simp only [Act.put, List.setIfInBounds_toArray, List.set_cons_zero, List.set_cons_succ]
    refine rg_held 3 (some 23) (v := ?v24) rfl rfl (by kernel_rfl) (by kernel_rfl) (by kernel_rfl) (fun _ _ _ h => h) (by rfl) ?h24 hS ?_
    case h24 => (intro w' hS'; (obtain ⟨c0, c1⟩ := HC.out _ hS'); go_simp; try with_reducible rfl)
    simp only [Act.put, List.setIfInBounds_toArray, List.set_cons_zero, List.set_cons_succ]
    refine rg_held 4 (some 24) (v := ?v25) rfl rfl (by kernel_rfl) (by kernel_rfl) (by kernel_rfl) (fun _ _ _ h => h) (by rfl) ?h25 hS ?_
    case h25 => (intro w' hS'; (skip); go_simp; try with_reducible rfl)
    simp only [Act.put, List.setIfInBounds_toArray, List.set_cons_zero, List.set_cons_succ]
    have hu1 : Upd [xb] wc (wc.drew.setCell ⟨xb, 0, none⟩ (.int .i64 k)) := upd_setc _ hS (by simp)
    refine rg_unit 5 none (w' := ?w30) rfl rfl (by kernel_rfl) (by rfl) ?h30 ?s30 ?_
    case h30 => ((skip); go_simp; try with_reducible rfl)
    case s30 => exact hu1
    simp only [Act.put]
    replace hS := hu1
    refine rg_held 6 (some 25) (v := ?v26) rfl rfl (by kernel_rfl) (by kernel_rfl) (by kernel_rfl) (fun _ _ _ h => h) (by rfl) ?h26 hS ?_
    case h26 => (intro w' hS'; (skip); go_simp; try with_reducible rfl)
    simp only [Act.put, List.setIfInBounds_toArray, List.set_cons_zero, List.set_cons_succ]
    have hu2 : Upd [xb] wc ((wc.drew.setCell ⟨xb, 0, none⟩ (.int .i64 k)).setCell ⟨xb, 1, none⟩ (.int .i64 s)) := upd_setc _ hS (by simp)
    refine rg_unit 7 none (w' := ?w31) rfl rfl (by kernel_rfl) (by rfl) ?h31 ?s31 ?_
    case h31 => ((skip); go_simp; try with_reducible rfl)
    case s31 => exact hu2
    simp only [Act.put]
    refine rg_done (by kernel_rfl) ?_
    replace hu2 : Upd [xb] wc ((wc.setCell ⟨xb, 0, none⟩ (.int .i64 k)).setCell ⟨xb, 1, none⟩ (.int .i64 s)).drew := hu2
    have hyb9 : ((wc.setCell ⟨xb, 0, none⟩ (.int .i64 k)).setCell ⟨xb, 1, none⟩ (.int .i64 s)).drew.heap[xb]? = some (.cells #[.int .i64 k, .int .i64 s, .int .i64 c, .int .i64 p] 56 (0, 0)) := heap_setc (i := 1) (heap_setc (i := 0) (w := wc.drew) HY.out)
    obtain ⟨V, hV⟩ : ∃ V, ((wc.setCell ⟨xb, 0, none⟩ (.int .i64 k)).setCell ⟨xb, 1, none⟩ (.int .i64 s)).drew = V := ⟨_, rfl⟩
    rw [hV] at hu2 hyb9 ⊢
    have hrb : V.heap[w.heap.size + 1]? = some (.cells #[.int .i64 0, .int .i64 0, .int .i64 0, .int .i64 0] 56 (0, 0)) := (hu2.block _ (lt_of_block HR2.out) (by simp; omega)).trans HR2.out
    have g0 := cell_at (i := 0) hyb9 rfl
    have g1 := cell_at (i := 1) hyb9 rfl
    have g2 := cell_at (i := 2) hyb9 rfl
    have g3 := cell_at (i := 3) hyb9 rfl
    have i0 := frz (i := 0) hrb
    have i1 := frz (i := 1) hrb
    have i2 := frz (i := 2) hrb
    have i3 := frz (i := 3) hrb
    have j0 := cell_at (i := 0) hrb rfl
    have j1 := cell_at (i := 1) hrb rfl
    have j2 := cell_at (i := 2) hrb rfl
    have j3 := cell_at (i := 3) hrb rfl
    have hrb4 := heap_set4 (b0 := .int .i64 k) (b1 := .int .i64 s) (b2 := .int .i64 c) (b3 := .int .i64 p) hrb
    have hxV : Ext w V := hV ▸ ext_drew (ext_set _ (ext_set _ (Ext.trans hxW hx) (by simp; omega)) (by simp; omega))
    have hxf : Ext w ((((V.setCell ⟨w.heap.size + 1, 0, none⟩ (.int .i64 k)).setCell ⟨w.heap.size + 1, 1, none⟩ (.int .i64 s)).setCell ⟨w.heap.size + 1, 2, none⟩ (.int .i64 c)).setCell ⟨w.heap.size + 1, 3, none⟩ (.int .i64 p)) :=
      ext_set _ (ext_set _ (ext_set _ (ext_set _ hxV (by simp)) (by simp)) (by simp)) (by simp)
    clear hV hyb9 hrb hu1 hu2 hS hxV e0 e1 f0 f1
    go_wp2_with fail
    clear g0 g1 g2 g3 i0 i1 i2 i3 j0 j1 j2 j3
    have d0 := cell_at (i := 0) hrb4 rfl
    have d1 := cell_at (i := 1) hrb4 rfl
    have d2 := cell_at (i := 2) hrb4 rfl
    have d3 := cell_at (i := 3) hrb4 rfl
    clear hrb4
    refine bodyPost_ret (v := .tuple #[.agg #[.int .i64 k, .int .i64 s, .int .i64 c, .int .i64 p], .bool b]) ?_ rfl ⟨rfl, hxf⟩
    simp [results, Tryz.results41, go_sem, d0, d1, d2, d3]
end
end Go.Proofs.YtgkfgilhegjbhaaGreat
