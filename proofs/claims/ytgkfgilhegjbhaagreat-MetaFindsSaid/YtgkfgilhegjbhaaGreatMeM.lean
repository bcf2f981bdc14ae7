/- package meta: a memory's questions; no condition. -/
import Derived.Test.YtgkfgilhegjbhaaGreatMeQ
import Derived.Test.YtgkfgilhegjbhaaGreatWi
import Derived.Test.YtgkfgilhegjbhaaGreatMat
import Derived.Test.YtgkfgilhegjbhaaGreatGt
import Derived.Test.YtgkfgilhegjbhaaGreatRal
namespace Go.Proofs.YtgkfgilhegjbhaaGreat
open Go.RowKit
attribute [local go_sem] run_mf
attribute [local go_sem ↓] Go.wp_at_zero Go.wp_at_succ
section
variable {w w' : World} {mb tb eb pb fb rb : Nat} {many : Int} {T : List (Int × Ent)} {F : List (Int × Tak)} {R : List (Int × Int)}
set_option maxRecDepth 100000 in
set_option maxHeartbeats 1000000 in
theorem vm_none_nil : Calls Tryz.prog 84 #[.pointer none] w fun e w' => e = .returned (.bool true) ∧ w = w' := by
  go_enter Tryz.func84, Tryz.ntmps84
  go_wp2
  go_ret
  exact ⟨rfl, rfl⟩
set_option maxRecDepth 100000 in
set_option maxHeartbeats 1000000 in
theorem vm_same_nil (h : MemAt w mb tb eb pb fb rb many T F R) : Calls Tryz.prog 77 #[.pointer (some ⟨mb, 0, none⟩), .pointer none] w fun e w' => e = .returned (.bool false) ∧ w = w' := by
  have h1 := vm_none h
  go_enter Tryz.func77, Tryz.ntmps77
  go_wp2_with fail
  refine h1.mono ?_
  rintro e w2 ⟨rfl, rfl⟩
  go_wp2_with fail
  refine vm_none_nil.mono ?_
  rintro e w2 ⟨rfl, rfl⟩
  go_wp2_with fail
  refine h1.mono ?_
  rintro e w2 ⟨rfl, rfl⟩
  go_wp2
  go_ret
  exact ⟨rfl, rfl⟩
set_option maxRecDepth 100000 in
set_option maxHeartbeats 1000000 in
theorem vm_getpage (h : MemAt w mb tb eb pb fb rb many T F R) (n : Int) : Calls Tryz.prog 87 #[.pointer (some ⟨mb, 0, none⟩), .int .i64 n] w fun e w' => e = .returned (.tuple #[.agg #[.int .i64 ((getL T n).getD ent0).owner, .int .i64 ((getL T n).getD ent0).may, .int .i64 ((getL T n).getD ent0).frame], .bool (getL T n).isSome]) ∧ Ext w w' := by
  obtain ⟨y, hy⟩ : ∃ y, y = (getL T n).getD ent0 := ⟨_, rfl⟩
  obtain ⟨is, his⟩ : ∃ is, is = (getL T n).isSome := ⟨_, rfl⟩
  have hxn : Ext w (w.alloc (.cells #[.int .i64 0, .int .i64 0, .int .i64 0] 137)) := ext_n _ (Ext.refl _)
  have hget := page_get (h.ext hxn).tab n
  rw [← hy, ← his] at hget ⊢
  have hno := vm_none (h.ext hxn)
  have c0 := (h.ext hxn).c0
  clear hy his
  go_enter Tryz.func87, Tryz.ntmps87
  go_wp2_with (go_at_call 84; refine hno.mono ?_; rintro e w' ⟨rfl, rfl⟩)
  refine hget.mono ?_
  rintro e w2 ⟨rfl, hx⟩
  have hx2 := Ext.trans hxn hx
  have hr := (hx.block _ (by simp)).trans (World.alloc_heap_new w (.cells #[.int .i64 0, .int .i64 0, .int .i64 0] 137))
  have f0 := frz (i := 0) hr
  have f1 := frz (i := 1) hr
  have f2 := frz (i := 2) hr
  have b0 := cell_at (i := 0) hr rfl
  have b1 := cell_at (i := 1) hr rfl
  have b2 := cell_at (i := 2) hr rfl
  have z := heap_setc (i := 2) (u := .int .i64 y.frame) (heap_setc (i := 1) (u := .int .i64 y.may) (heap_setc (i := 0) (u := .int .i64 y.owner) hr))
  have z0 := cell_at (i := 0) z rfl
  have z1 := cell_at (i := 1) z rfl
  have z2 := cell_at (i := 2) z rfl
  clear hr z hget hno c0
  unfold encE
  go_wp2
  refine bodyPost_ret (v := .tuple #[.agg #[.int .i64 y.owner, .int .i64 y.may, .int .i64 y.frame], .bool is]) ?_ rfl ⟨rfl, ext_set _ (ext_set _ (ext_set _ hx2 (by simp)) (by simp)) (by simp)⟩
  clear f0 f1 f2 b0 b1 b2
  simp [results, Tryz.results87, go_sem, z0, z1, z2]
/-- a tenant's book's first page -/
def baseI (s : Int) : Int := if inB 4 s = true then 64 * s + 1 else 0
/-- is a tenant's book open? -/
def openB (T : List (Int × Ent)) (s : Int) : Bool := (getL T (baseI s)).isSome && decide (((getL T (baseI s)).getD ent0).owner = -1)
set_option maxRecDepth 100000 in
set_option maxHeartbeats 1000000 in
theorem me_base (m : Option Addr) (s : Int) : Calls Tryz.prog 64 #[.agg #[.pointer m, .int .i64 s]] w fun e w' => e = .returned (.int .i64 (baseI s)) ∧ Ext w w' := by
  have hbk := fun w : World => wi_Book (w := w) s
  have hx1 : Ext w (w.alloc (.cells #[.pointer m, .int .i64 s] 42)) := ext_n _ (Ext.refl _)
  unfold baseI
  obtain ⟨b, hb⟩ : ∃ b, (if inB 4 s = true then 64 * s + 1 else 0) = b := ⟨_, rfl⟩
  obtain ⟨r, hr⟩ : ∃ r, (if inB 4 s = true then (0 : Int) else 2) = r := ⟨_, rfl⟩
  simp only [hb, hr] at hbk ⊢
  clear hb hr
  go_enter Tryz.func64, Tryz.ntmps64
  go_wp2_with fail
  refine (hbk _).mono ?_
  rintro e w2 ⟨rfl, hx⟩
  go_wp2
  go_ret
  exact ⟨rfl, Ext.trans hx1 hx⟩
set_option maxRecDepth 100000 in
set_option maxHeartbeats 1000000 in
theorem me_is1 {b : Nat} (h : MemAt w mb tb eb pb fb rb many T F R) (hb : w.cell? ⟨b, 0, none⟩ = some (.pointer (some ⟨mb, 0, none⟩))) : Calls Tryz.prog 76 #[.pointer (some ⟨b, 0, none⟩)] w fun e w' => e = .returned (.bool false) ∧ Ext w w' := by
  have hs := vm_same_nil h
  go_enter Tryz.func76, Tryz.ntmps76
  go_wp2_with fail
  refine hs.mono ?_
  rintro e w2 ⟨rfl, rfl⟩
  go_wp2
  go_ret
  exact ⟨rfl, Ext.refl _⟩
set_option maxRecDepth 100000 in
set_option maxHeartbeats 1000000 in
theorem me_is (h : MemAt w mb tb eb pb fb rb many T F R) (s : Int) : Calls Tryz.prog 61 #[.agg #[.pointer (some ⟨mb, 0, none⟩), .int .i64 s]] w (AskR Tryz.prog w 1 false) := by
  go_enter Tryz.func61, Tryz.ntmps61
  go_wp2
  refine bodyPost_ret (v := .agg #[.func (.func 76) #[] #[.pointer (some ⟨w.heap.size, 0, none⟩)], .int .i64 1]) (by simp [results, Tryz.results61, go_sem]) rfl ⟨_, rfl, Q.mk Tryz.call76 (fun w' hx => ?_), ext_n _ (ext_n _ (Ext.refl _))⟩
  have hx1 := ext_a hx
  exact me_is1 (h.ext (Ext.trans (ext_n _ (ext_n _ (Ext.refl _))) hx)) (cell_at (i := 0) ((hx1.block _ (by simp)).trans (World.alloc_heap_new _ _)) rfl)
set_option maxRecDepth 100000 in
set_option maxHeartbeats 1000000 in
theorem me_open (h : MemAt w mb tb eb pb fb rb many T F R) (s : Int) : Calls Tryz.prog 79 #[.agg #[.pointer (some ⟨mb, 0, none⟩), .int .i64 s]] w fun e w' => e = .returned (.bool (openB T s)) ∧ Ext w w' := by
  obtain ⟨W, hW⟩ : ∃ W, w.alloc (.cells #[.pointer (some ⟨mb, 0, none⟩), .int .i64 s] 42) = W := ⟨_, rfl⟩
  have hxW : Ext w W := hW ▸ ext_n _ (Ext.refl _)
  have hb : ∀ w2, Ext W w2 → w2.cell? ⟨w.heap.size, 0, none⟩ = some (.pointer (some ⟨mb, 0, none⟩)) ∧ w2.cell? ⟨w.heap.size, 1, none⟩ = some (.int .i64 s) := fun w2 hx => by
    have hbl : w2.heap[w.heap.size]? = some (.cells #[.pointer (some ⟨mb, 0, none⟩), .int .i64 s] 42 (0, 0)) := by
      rw [← hW] at hx
      exact (hx.block _ (by simp)).trans (World.alloc_heap_new _ _)
    exact ⟨cell_at (i := 0) hbl rfl, cell_at (i := 1) hbl rfl⟩
  have hgt : ∀ w2, Ext W w2 → Calls Tryz.prog 87 #[.pointer (some ⟨mb, 0, none⟩), .int .i64 (baseI s)] w2 fun e w3 => e = .returned (.tuple #[.agg #[.int .i64 ((getL T (baseI s)).getD ent0).owner, .int .i64 ((getL T (baseI s)).getD ent0).may, .int .i64 ((getL T (baseI s)).getD ent0).frame], .bool (getL T (baseI s)).isSome]) ∧ Ext w2 w3 := fun w2 hx => vm_getpage (h.ext (Ext.trans hxW hx)) _
  have hbs := fun w : World => me_base (w := w) (some ⟨mb, 0, none⟩) s
  unfold openB
  obtain ⟨o, ho⟩ : ∃ o, ((getL T (baseI s)).getD ent0).owner = o := ⟨_, rfl⟩
  obtain ⟨y, hy⟩ : ∃ o, ((getL T (baseI s)).getD ent0).may = o := ⟨_, rfl⟩
  obtain ⟨z, hz⟩ : ∃ o, ((getL T (baseI s)).getD ent0).frame = o := ⟨_, rfl⟩
  obtain ⟨is, his⟩ : ∃ o, (getL T (baseI s)).isSome = o := ⟨_, rfl⟩
  obtain ⟨bs, hbb⟩ : ∃ o, baseI s = o := ⟨_, rfl⟩
  simp only [ho, hy, hz, his] at hgt ⊢
  simp only [hbb] at hgt hbs
  clear ho hy hz his hbb h
  have HB := Lib.hid hb
  have HG := Lib.hid hgt
  have HW := Lib.hid hW
  have HBS := Lib.hid hbs
  clear hb hgt hW hbs
  go_enter Tryz.func79, Tryz.ntmps79
  go_wp2_with fail
  rw [HW.out]
  go_cut [3, 4] (fun s3 s4 wx => ∃ yb, s3 = .pointer (some ⟨yb, 0, none⟩) ∧ s4 = .bool is ∧ Ext W wx ∧ wx.heap[yb]? = some (.cells #[.int .i64 o, .int .i64 y, .int .i64 z] 137 (0, 0)))
  case first =>
    refine rg_begin ((fun w' => Ext W w')) (by kernel_rfl) ?_
    have hS : Ext W W.drew := ext_drew (Ext.refl _)
    refine rg_held 0 (some 6) (v := ?v1) rfl rfl (by kernel_rfl) (by kernel_rfl) (by kernel_rfl) (fun _ _ _ h => h) (by rfl) ?h1 hS ?_
    case h1 => (intro w' hS'; (skip); go_simp; try with_reducible rfl)
    simp only [Act.put, List.setIfInBounds_toArray, List.set_cons_zero, List.set_cons_succ]
    refine rg_held 1 (some 7) (v := ?v2) rfl rfl (by kernel_rfl) (by kernel_rfl) (by kernel_rfl) (fun _ _ _ h => h) (by rfl) ?h2 hS ?_
    case h2 => (intro w' hS'; (obtain ⟨c0, c1⟩ := HB.out _ hS'); go_simp; try with_reducible rfl)
    simp only [Act.put, List.setIfInBounds_toArray, List.set_cons_zero, List.set_cons_succ]
    refine rg_held 2 (some 8) (v := ?v3) rfl rfl (by kernel_rfl) (by kernel_rfl) (by kernel_rfl) (fun _ _ _ h => h) (by rfl) ?h3 hS ?_
    case h3 => (intro w' hS'; (obtain ⟨c0, c1⟩ := HB.out _ hS'); go_simp; try with_reducible rfl)
    simp only [Act.put, List.setIfInBounds_toArray, List.set_cons_zero, List.set_cons_succ]
    refine rg_two 3 8 (by kernel_rfl) ?_ ?_
    · refine op_call 3 (some 9) rfl rfl rfl (by rfl) Tryz.call64 ((HBS.out _).mono ?_)
      rintro e w3 ⟨rfl, hxw3⟩
      refine ⟨_, rfl, Ext.trans hS hxw3, ?_⟩
      replace hS : Ext W w3 := Ext.trans hS hxw3
      simp only [Act.put, List.setIfInBounds_toArray, List.set_cons_zero, List.set_cons_succ]
      refine rg_two 4 8 (by kernel_rfl) ?_ ?_
      · refine op_call 4 (some 10) rfl rfl rfl (by rfl) Tryz.call87 ((HG.out _ hS).mono ?_)
        rintro e w4 ⟨rfl, hxw4⟩
        refine ⟨_, rfl, Ext.trans hS hxw4, ?_⟩
        replace hS : Ext W w4 := Ext.trans hS hxw4
        simp only [Act.put, List.setIfInBounds_toArray, List.set_cons_zero, List.set_cons_succ]
        refine rg_held 5 (some 5) (v := ?v4) rfl rfl (by kernel_rfl) (by kernel_rfl) (by kernel_rfl) (fun _ _ _ h => h) (by rfl) ?h4 hS ?_
        case h4 => (intro w' hS'; (skip); go_simp; try with_reducible rfl)
        simp only [Act.put, List.setIfInBounds_toArray, List.set_cons_zero, List.set_cons_succ]
        refine rg_held 6 (some 11) (v := ?v5) rfl rfl (by kernel_rfl) (by kernel_rfl) (by kernel_rfl) (fun _ _ _ h => h) (by rfl) ?h5 hS ?_
        case h5 => (intro w' hS'; (skip); go_simp; try with_reducible rfl)
        simp only [Act.put, List.setIfInBounds_toArray, List.set_cons_zero, List.set_cons_succ]
        refine rg_held 7 (some 12) (v := ?v6) rfl rfl (by kernel_rfl) (by kernel_rfl) (by kernel_rfl) (fun _ _ _ h => h) (by rfl) ?h6 hS ?_
        case h6 => (intro w' hS'; (skip); go_simp; try with_reducible rfl)
        simp only [Act.put, List.setIfInBounds_toArray, List.set_cons_zero, List.set_cons_succ]
        refine rg_one 8 (by kernel_rfl) ?_
        refine op_value 8 (some 3) (w' := w4.alloc (.cells #[.int .i64 0, .int .i64 0, .int .i64 0] 137)) (v := .pointer (some ⟨w4.heap.size, 0, none⟩)) rfl rfl rfl ?hh1 ?kk1
        case hh1 => (go_simp; try (first | with_reducible rfl | (refine ⟨?_, ?_⟩ <;> with_reducible rfl)))
        case kk1 =>
          refine ⟨ext_n _ hS, ?_⟩
          have hyb : (w4.alloc (.cells #[.int .i64 0, .int .i64 0, .int .i64 0] 137)).heap[w4.heap.size]? = some (.cells #[.int .i64 0, .int .i64 0, .int .i64 0] 137 (0, 0)) := World.alloc_heap_new _ _
          have hxb : W.heap.size ≤ w4.heap.size := hS.size
          replace hS : Ext W (w4.alloc (.cells #[.int .i64 0, .int .i64 0, .int .i64 0] 137)) := ext_n _ hS
          obtain ⟨xb, hxe⟩ : ∃ xb, w4.heap.size = xb := ⟨_, rfl⟩
          rw [hxe] at hyb hxb ⊢
          obtain ⟨V, hV⟩ : ∃ V, w4.alloc (.cells #[.int .i64 0, .int .i64 0, .int .i64 0] 137) = V := ⟨_, rfl⟩
          rw [hV] at hyb hS ⊢
          clear hV hxe
          simp only [Act.put, List.setIfInBounds_toArray, List.set_cons_zero, List.set_cons_succ]
          have b0 := cell_at (i := 0) hyb rfl
          have b1 := cell_at (i := 1) hyb rfl
          have b2 := cell_at (i := 2) hyb rfl
          have f0 := frz (i := 0) hyb
          have f1 := frz (i := 1) hyb
          have f2 := frz (i := 2) hyb
          have hS7 := ext_set (.int .i64 z) (a := ⟨xb, 2, none⟩) (ext_set (.int .i64 y) (a := ⟨xb, 1, none⟩) (ext_set (.int .i64 o) (a := ⟨xb, 0, none⟩) hS hxb) hxb) hxb
          refine rg_unit 9 none (w' := ?w16) rfl rfl (by kernel_rfl) (by rfl) ?h16 ?s16 ?_
          case h16 => ((skip); go_simp; try with_reducible rfl)
          case s16 => exact hS7
          simp only [Act.put]
          have hyb7 := heap_setc (i := 2) (u := .int .i64 z) (heap_setc (i := 1) (u := .int .i64 y) (heap_setc (i := 0) (u := .int .i64 o) hyb))
          replace hS := hS7
          refine rg_held 10 (some 4) (v := ?v7) rfl rfl (by kernel_rfl) (by kernel_rfl) (by kernel_rfl) (fun _ _ _ h => h) (by rfl) ?h7 hS ?_
          case h7 => (intro w' hS'; (skip); go_simp; try with_reducible rfl)
          simp only [Act.put, List.setIfInBounds_toArray, List.set_cons_zero, List.set_cons_succ]
          refine rg_done (by kernel_rfl) ?_
          go_wp2_with fail
          go_meet
          exact ⟨xb, rfl, rfl, hS, hyb7⟩
      · refine op_value 8 (some 3) (w' := w3.alloc (.cells #[.int .i64 0, .int .i64 0, .int .i64 0] 137)) (v := .pointer (some ⟨w3.heap.size, 0, none⟩)) rfl rfl rfl ?hh2 ?kk2
        case hh2 => (go_simp; try (first | with_reducible rfl | (refine ⟨?_, ?_⟩ <;> with_reducible rfl)))
        case kk2 =>
          refine ⟨ext_n _ hS, ?_⟩
          have hyb : (w3.alloc (.cells #[.int .i64 0, .int .i64 0, .int .i64 0] 137)).heap[w3.heap.size]? = some (.cells #[.int .i64 0, .int .i64 0, .int .i64 0] 137 (0, 0)) := World.alloc_heap_new _ _
          have hxb : W.heap.size ≤ w3.heap.size := hS.size
          replace hS : Ext W (w3.alloc (.cells #[.int .i64 0, .int .i64 0, .int .i64 0] 137)) := ext_n _ hS
          obtain ⟨xb, hxe⟩ : ∃ xb, w3.heap.size = xb := ⟨_, rfl⟩
          rw [hxe] at hyb hxb ⊢
          obtain ⟨V, hV⟩ : ∃ V, w3.alloc (.cells #[.int .i64 0, .int .i64 0, .int .i64 0] 137) = V := ⟨_, rfl⟩
          rw [hV] at hyb hS ⊢
          clear hV hxe
          simp only [Act.put, List.setIfInBounds_toArray, List.set_cons_zero, List.set_cons_succ]
          refine rg_call 4 (some 10) rfl rfl (by kernel_rfl) rfl (by rfl) Tryz.call87 ((HG.out _ hS).mono ?_)
          rintro e w4 ⟨rfl, hxw4⟩
          refine ⟨_, rfl, Ext.trans hS hxw4, ?_⟩
          replace hS : Ext W w4 := Ext.trans hS hxw4
          simp only [Act.put, List.setIfInBounds_toArray, List.set_cons_zero, List.set_cons_succ]
          replace hyb := (hxw4.block _ (lt_of_block hyb)).trans hyb
          refine rg_held 5 (some 5) (v := ?v8) rfl rfl (by kernel_rfl) (by kernel_rfl) (by kernel_rfl) (fun _ _ _ h => h) (by rfl) ?h8 hS ?_
          case h8 => (intro w' hS'; (skip); go_simp; try with_reducible rfl)
          simp only [Act.put, List.setIfInBounds_toArray, List.set_cons_zero, List.set_cons_succ]
          refine rg_held 6 (some 11) (v := ?v9) rfl rfl (by kernel_rfl) (by kernel_rfl) (by kernel_rfl) (fun _ _ _ h => h) (by rfl) ?h9 hS ?_
          case h9 => (intro w' hS'; (skip); go_simp; try with_reducible rfl)
          simp only [Act.put, List.setIfInBounds_toArray, List.set_cons_zero, List.set_cons_succ]
          refine rg_held 7 (some 12) (v := ?v10) rfl rfl (by kernel_rfl) (by kernel_rfl) (by kernel_rfl) (fun _ _ _ h => h) (by rfl) ?h10 hS ?_
          case h10 => (intro w' hS'; (skip); go_simp; try with_reducible rfl)
          simp only [Act.put, List.setIfInBounds_toArray, List.set_cons_zero, List.set_cons_succ]
          have b0 := cell_at (i := 0) hyb rfl
          have b1 := cell_at (i := 1) hyb rfl
          have b2 := cell_at (i := 2) hyb rfl
          have f0 := frz (i := 0) hyb
          have f1 := frz (i := 1) hyb
          have f2 := frz (i := 2) hyb
          have hS7 := ext_set (.int .i64 z) (a := ⟨xb, 2, none⟩) (ext_set (.int .i64 y) (a := ⟨xb, 1, none⟩) (ext_set (.int .i64 o) (a := ⟨xb, 0, none⟩) hS hxb) hxb) hxb
          refine rg_unit 9 none (w' := ?w17) rfl rfl (by kernel_rfl) (by rfl) ?h17 ?s17 ?_
          case h17 => ((skip); go_simp; try with_reducible rfl)
          case s17 => exact hS7
          simp only [Act.put]
          have hyb7 := heap_setc (i := 2) (u := .int .i64 z) (heap_setc (i := 1) (u := .int .i64 y) (heap_setc (i := 0) (u := .int .i64 o) hyb))
          replace hS := hS7
          refine rg_held 10 (some 4) (v := ?v11) rfl rfl (by kernel_rfl) (by kernel_rfl) (by kernel_rfl) (fun _ _ _ h => h) (by rfl) ?h11 hS ?_
          case h11 => (intro w' hS'; (skip); go_simp; try with_reducible rfl)
          simp only [Act.put, List.setIfInBounds_toArray, List.set_cons_zero, List.set_cons_succ]
          refine rg_done (by kernel_rfl) ?_
          go_wp2_with fail
          go_meet
          exact ⟨xb, rfl, rfl, hS, hyb7⟩
    · refine op_value 8 (some 3) (w' := W.drew.alloc (.cells #[.int .i64 0, .int .i64 0, .int .i64 0] 137)) (v := .pointer (some ⟨W.drew.heap.size, 0, none⟩)) rfl rfl rfl ?hh3 ?kk3
      case hh3 => (go_simp; try (first | with_reducible rfl | (refine ⟨?_, ?_⟩ <;> with_reducible rfl)))
      case kk3 =>
        refine ⟨ext_n _ hS, ?_⟩
        have hyb : (W.drew.alloc (.cells #[.int .i64 0, .int .i64 0, .int .i64 0] 137)).heap[W.drew.heap.size]? = some (.cells #[.int .i64 0, .int .i64 0, .int .i64 0] 137 (0, 0)) := World.alloc_heap_new _ _
        have hxb : W.heap.size ≤ W.drew.heap.size := hS.size
        replace hS : Ext W (W.drew.alloc (.cells #[.int .i64 0, .int .i64 0, .int .i64 0] 137)) := ext_n _ hS
        obtain ⟨xb, hxe⟩ : ∃ xb, W.drew.heap.size = xb := ⟨_, rfl⟩
        rw [hxe] at hyb hxb ⊢
        obtain ⟨V, hV⟩ : ∃ V, W.drew.alloc (.cells #[.int .i64 0, .int .i64 0, .int .i64 0] 137) = V := ⟨_, rfl⟩
        rw [hV] at hyb hS ⊢
        clear hV hxe
        simp only [Act.put, List.setIfInBounds_toArray, List.set_cons_zero, List.set_cons_succ]
        refine rg_call 3 (some 9) rfl rfl (by kernel_rfl) rfl (by rfl) Tryz.call64 ((HBS.out _).mono ?_)
        rintro e w3 ⟨rfl, hxw3⟩
        refine ⟨_, rfl, Ext.trans hS hxw3, ?_⟩
        replace hS : Ext W w3 := Ext.trans hS hxw3
        simp only [Act.put, List.setIfInBounds_toArray, List.set_cons_zero, List.set_cons_succ]
        refine rg_call 4 (some 10) rfl rfl (by kernel_rfl) rfl (by rfl) Tryz.call87 ((HG.out _ hS).mono ?_)
        rintro e w4 ⟨rfl, hxw4⟩
        refine ⟨_, rfl, Ext.trans hS hxw4, ?_⟩
        replace hS : Ext W w4 := Ext.trans hS hxw4
        simp only [Act.put, List.setIfInBounds_toArray, List.set_cons_zero, List.set_cons_succ]
        replace hyb := (hxw4.block _ (by have := hxw3.size; have := lt_of_block hyb; omega)).trans ((hxw3.block _ (lt_of_block hyb)).trans hyb)
        refine rg_held 5 (some 5) (v := ?v12) rfl rfl (by kernel_rfl) (by kernel_rfl) (by kernel_rfl) (fun _ _ _ h => h) (by rfl) ?h12 hS ?_
        case h12 => (intro w' hS'; (skip); go_simp; try with_reducible rfl)
        simp only [Act.put, List.setIfInBounds_toArray, List.set_cons_zero, List.set_cons_succ]
        refine rg_held 6 (some 11) (v := ?v13) rfl rfl (by kernel_rfl) (by kernel_rfl) (by kernel_rfl) (fun _ _ _ h => h) (by rfl) ?h13 hS ?_
        case h13 => (intro w' hS'; (skip); go_simp; try with_reducible rfl)
        simp only [Act.put, List.setIfInBounds_toArray, List.set_cons_zero, List.set_cons_succ]
        refine rg_held 7 (some 12) (v := ?v14) rfl rfl (by kernel_rfl) (by kernel_rfl) (by kernel_rfl) (fun _ _ _ h => h) (by rfl) ?h14 hS ?_
        case h14 => (intro w' hS'; (skip); go_simp; try with_reducible rfl)
        simp only [Act.put, List.setIfInBounds_toArray, List.set_cons_zero, List.set_cons_succ]
        have b0 := cell_at (i := 0) hyb rfl
        have b1 := cell_at (i := 1) hyb rfl
        have b2 := cell_at (i := 2) hyb rfl
        have f0 := frz (i := 0) hyb
        have f1 := frz (i := 1) hyb
        have f2 := frz (i := 2) hyb
        have hS7 := ext_set (.int .i64 z) (a := ⟨xb, 2, none⟩) (ext_set (.int .i64 y) (a := ⟨xb, 1, none⟩) (ext_set (.int .i64 o) (a := ⟨xb, 0, none⟩) hS hxb) hxb) hxb
        refine rg_unit 9 none (w' := ?w18) rfl rfl (by kernel_rfl) (by rfl) ?h18 ?s18 ?_
        case h18 => ((skip); go_simp; try with_reducible rfl)
        case s18 => exact hS7
        simp only [Act.put]
        have hyb7 := heap_setc (i := 2) (u := .int .i64 z) (heap_setc (i := 1) (u := .int .i64 y) (heap_setc (i := 0) (u := .int .i64 o) hyb))
        replace hS := hS7
        refine rg_held 10 (some 4) (v := ?v15) rfl rfl (by kernel_rfl) (by kernel_rfl) (by kernel_rfl) (fun _ _ _ h => h) (by rfl) ?h15 hS ?_
        case h15 => (intro w' hS'; (skip); go_simp; try with_reducible rfl)
        simp only [Act.put, List.setIfInBounds_toArray, List.set_cons_zero, List.set_cons_succ]
        refine rg_done (by kernel_rfl) ?_
        go_wp2_with fail
        go_meet
        exact ⟨xb, rfl, rfl, hS, hyb7⟩
  case rest =>
    obtain ⟨yb, rfl, rfl, hx, hyb⟩ := hcut
    have e0 := cell_at (i := 0) hyb rfl
    clear hyb HB HG HW HBS
    cases is with
    | false =>
      go_wp2
      go_ret
      exact ⟨rfl, Ext.trans hxW hx⟩
    | true =>
      go_wp2
      go_ret
      exact ⟨by first | rfl | (simp; rfl), Ext.trans hxW hx⟩
set_option maxRecDepth 100000 in
set_option maxHeartbeats 1000000 in
theorem me_opened1 {b : Nat} {s : Int} (h : MemAt w mb tb eb pb fb rb many T F R) (h0 : w.cell? ⟨b, 0, none⟩ = some (.pointer (some ⟨mb, 0, none⟩))) (h1 : w.cell? ⟨b, 1, none⟩ = some (.int .i64 s)) : Calls Tryz.prog 78 #[.pointer (some ⟨b, 0, none⟩)] w fun e w' => e = .returned (.bool (!openB T s)) ∧ Ext w w' := by
  have hs := me_open h s
  obtain ⟨r, hr⟩ : ∃ r, openB T s = r := ⟨_, rfl⟩
  simp only [hr] at hs ⊢
  clear hr
  go_enter Tryz.func78, Tryz.ntmps78
  go_wp2_with fail
  refine hs.mono ?_
  rintro e w2 ⟨rfl, hx⟩
  go_wp2
  go_ret
  exact ⟨rfl, hx⟩
set_option maxRecDepth 100000 in
set_option maxHeartbeats 1000000 in
theorem me_opened (h : MemAt w mb tb eb pb fb rb many T F R) (s : Int) : Calls Tryz.prog 62 #[.agg #[.pointer (some ⟨mb, 0, none⟩), .int .i64 s]] w (AskR Tryz.prog w 5 (!openB T s)) := by
  go_enter Tryz.func62, Tryz.ntmps62
  go_wp2
  refine bodyPost_ret (v := .agg #[.func (.func 78) #[] #[.pointer (some ⟨w.heap.size, 0, none⟩)], .int .i64 5]) (by simp [results, Tryz.results62, go_sem]) rfl ⟨_, rfl, Q.mk Tryz.call78 (fun w' hx => ?_), ext_n _ (ext_n _ (Ext.refl _))⟩
  have hx1 := ext_a hx
  have hb := (hx1.block _ (by simp)).trans (World.alloc_heap_new w (.cells #[.pointer (some ⟨mb, 0, none⟩), .int .i64 s] 42))
  exact me_opened1 (h.ext (Ext.trans (ext_n _ (ext_n _ (Ext.refl _))) hx)) (cell_at (i := 0) hb rfl) (cell_at (i := 1) hb rfl)
end
end Go.Proofs.YtgkfgilhegjbhaaGreat
