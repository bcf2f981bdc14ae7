/- package meta: put of what is not to be put; no condition. -/
import Derived.Test.YtgkfgilhegjbhaaGreatMePu
namespace Go.Proofs.YtgkfgilhegjbhaaGreat
open Go.RowKit
attribute [local go_sem] run_mf
attribute [local go_sem ↓] Go.wp_at_zero Go.wp_at_succ
section
variable {w w' : World} {mb tb eb pb fb rb : Nat} {many : Int} {T : List (Int × Ent)} {F : List (Int × Tak)} {R : List (Int × Int)}
/-- the first error of a put's questions -/
def putE (T : List (Int × Ent)) (s st sz e1 e2 : Int) (b1 b2 : Bool) : Int :=
  firstE [(undef, 1, false), (undef, 2, !inB 4 s), (undef, 2, !rightB st sz), (undef, e1, b1), (undef, e2, b2), (undef, 5, !openB T s)]
theorem ask_cells {b : Nat} {qs : List (Value × Int × Bool)} (h : AsksIn w b qs) : ∀ k (hk : k < qs.length), w.cell? ⟨b, k * 2, none⟩ = some qs[k].1 ∧ w.cell? ⟨b, k * 2 + 1, none⟩ = some (.int .i64 qs[k].2.1) := fun k hk => by
  obtain ⟨k1, k2⟩ := askC_cell qs k hk
  rw [askC_toArray] at k1 k2
  exact ⟨h.2 _ _ (by simpa using k1), h.2 _ _ (by simpa using k2)⟩
set_option maxRecDepth 100000 in
set_option maxHeartbeats 1000000 in
theorem me_putNo {sb lb : Nat} {s st sz nn at' e1 e2 r : Int} {b1 b2 : Bool} {v1 v2 : Value} (h : MemAt w mb tb eb pb fb rb many T F R) (hl : AsksIn w lb [(v1, e1, b1), (v2, e2, b2)]) (hq1 : Q Tryz.prog w v1 (.bool b1)) (hq2 : Q Tryz.prog w v2 (.bool b2))
    (hr : putE T s st sz e1 e2 b1 b2 = r) (hr0 : r ≠ 0) :
    Calls Tryz.prog 45 #[.agg #[.pointer (some ⟨mb, 0, none⟩), .int .i64 s], recS sb, .agg #[.int .i64 st, .int .i64 sz, .int .u32 nn], .int .i64 at', .slice (some ⟨lb, 0, none⟩) 2 2] w fun e w' => e = .returned (.int .i64 r) ∧ Ext w w' := by
  unfold recS
  obtain ⟨v3, hv3⟩ : ∃ v : Value, .func (.func 60) #[] #[.pointer (some ⟨w.heap.size + 1, 0, none⟩), .pointer (some ⟨w.heap.size + 1 + 1, 0, none⟩)] = v := ⟨_, rfl⟩
  obtain ⟨L, hL⟩ : ∃ L : List (Array Value × TypeId), L = [(#[.pointer (some ⟨mb, 0, none⟩), .int .i64 s], 42), (#[.slice (some ⟨sb, 0, none⟩) 4 4, .func (.func 72) #[] #[]], 100), (#[.int .i64 st, .int .i64 sz, .int .u32 nn], 64), (#[v3, .int .i64 2], 39)] := ⟨_, rfl⟩
  obtain ⟨W, hW⟩ : ∃ W, blocks w L = W := ⟨_, rfl⟩
  have hxW : Ext w W := hW ▸ blocks_ext L w
  have hb : ∀ w2, Ext W w2 → (w2.cell? ⟨w.heap.size, 0, none⟩ = some (.pointer (some ⟨mb, 0, none⟩)) ∧ w2.cell? ⟨w.heap.size, 1, none⟩ = some (.int .i64 s)) ∧ (w2.cell? ⟨w.heap.size + 1, 1, none⟩ = some (.func (.func 72) #[] #[]) ∧ w2.heap[w.heap.size + 1 + 1]? = some (.cells #[.int .i64 st, .int .i64 sz, .int .u32 nn] 64 (0, 0))) ∧ (w2.cell? ⟨w.heap.size + 1 + 1 + 1, 0, none⟩ = some v3 ∧ w2.cell? ⟨w.heap.size + 1 + 1 + 1, 1, none⟩ = some (.int .i64 2)) := fun w2 hx => by
    rw [← hW] at hx
    subst hL
    have k0 := blocks_at _ w 0 (by simp) hx
    have k1 := blocks_at _ w 1 (by simp) hx
    have k2 : w2.heap[w.heap.size + 1 + 1]? = _ := blocks_at _ w 2 (by simp) hx
    have k3 : w2.heap[w.heap.size + 1 + 1 + 1]? = _ := blocks_at _ w 3 (by simp) hx
    exact ⟨⟨cell_at (i := 0) k0 rfl, cell_at (i := 1) k0 rfl⟩, ⟨cell_at (i := 1) k1 rfl, k2⟩, cell_at (i := 0) k3 rfl, cell_at (i := 1) k3 rfl⟩
  have hWl : (((w.alloc (.cells #[.pointer (some ⟨mb, 0, none⟩), .int .i64 s] 42)).alloc (.cells #[.slice (some ⟨sb, 0, none⟩) 4 4, .func (.func 72) #[] #[]] 100)).alloc (.cells #[.int .i64 st, .int .i64 sz, .int .u32 nn] 64)).alloc (.cells #[v3, .int .i64 2] 39) = W := by rw [← hW, hL]; rfl
  have hq3 : Q Tryz.prog W v3 (.bool (!rightB st sz)) := by
    rw [← hv3]
    refine Q.mk Tryz.call60 (fun w2 hx => ?_)
    obtain ⟨_, ⟨k1, k2⟩, _⟩ := hb w2 hx
    exact me_put1 k1 k2
  have hvf : ∃ f a b, v3 = .func f a b := ⟨_, _, _, hv3.symm⟩
  have HW := Lib.hid (And.intro hv3 hWl)
  have HB := Lib.hid hb
  have HQ := Lib.hid (And.intro hq1 (And.intro hq2 hq3))
  have HR := Lib.hid (And.intro hr (And.intro hr0 (And.intro h hl)))
  clear hW hL hb hv3 hWl hq3 hq1 hq2 hr hr0 h hl
  go_enter Tryz.func45, Tryz.ntmps45
  go_wp2_with fail
  rw [HW.out.1, HW.out.2]
  go_cut [12] (fun s12 wx => s12 = .int .i64 r ∧ Ext W wx)
  case first =>
    have his : ∀ w2, Ext W w2 → Calls Tryz.prog 61 #[.agg #[.pointer (some ⟨mb, 0, none⟩), .int .i64 s]] w2 (AskR Tryz.prog w2 1 false) := fun w2 hx => me_is (HR.out.2.2.1.ext (Ext.trans hxW hx)) s
    have hop : ∀ w2, Ext W w2 → Calls Tryz.prog 62 #[.agg #[.pointer (some ⟨mb, 0, none⟩), .int .i64 s]] w2 (AskR Tryz.prog w2 5 (!openB T s)) := fun w2 hx => me_opened (HR.out.2.2.1.ext (Ext.trans hxW hx)) s
    have HIS := Lib.hid his
    have HOP := Lib.hid hop
    clear his hop
    refine rg_begin ((fun w' => Ext W w')) (by kernel_rfl) ?_
    have hS : Ext W W.drew := ext_drew (Ext.refl _)
    have hF : AsksIn W.drew lb [(v1, e1, b1), (v2, e2, b2)] := (HR.out.2.2.2.ext hxW).ext hS
    have hq1 := (HQ.out.1.later hxW).later hS
    have hq2 := (HQ.out.2.1.later hxW).later hS
    have hq3 := HQ.out.2.2.later hS
    refine rg_held 0 (some 15) (v := ?v1) rfl rfl (by kernel_rfl) (by kernel_rfl) (by kernel_rfl) (fun _ _ _ h => h) (by rfl) ?h1 hS ?_
    case h1 => (intro w' hS'; (obtain ⟨⟨c0, c1⟩, _⟩ := HB.out _ hS'); go_simp; try with_reducible rfl)
    simp only [Act.put, List.setIfInBounds_toArray, List.set_cons_zero, List.set_cons_succ]
    refine rg_held 2 (some 17) (v := ?v2) rfl rfl (by kernel_rfl) (by kernel_rfl) (by kernel_rfl) (fun _ _ _ h => h) (by rfl) ?h2 hS ?_
    case h2 => (intro w' hS'; (obtain ⟨⟨c0, c1⟩, _⟩ := HB.out _ hS'); go_simp; try with_reducible rfl)
    simp only [Act.put, List.setIfInBounds_toArray, List.set_cons_zero, List.set_cons_succ]
    refine rg_held 4 (some 19) (v := ?v3) rfl rfl (by kernel_rfl) (by kernel_rfl) (by kernel_rfl) (fun _ _ _ h => h) (by rfl) ?h3 hS ?_
    case h3 => (intro w' hS'; (obtain ⟨_, _, c0, c1⟩ := HB.out _ hS'); go_simp; try with_reducible rfl)
    simp only [Act.put, List.setIfInBounds_toArray, List.set_cons_zero, List.set_cons_succ]
    refine rg_held 6 (some 21) (v := ?v4) rfl rfl (by kernel_rfl) (by kernel_rfl) (by kernel_rfl) (fun _ _ _ h => h) (by rfl) ?h4 hS ?_
    case h4 => (intro w' hS'; (skip); go_simp; try with_reducible rfl)
    simp only [Act.put, List.setIfInBounds_toArray, List.set_cons_zero, List.set_cons_succ]
    refine rg_held 7 (some 22) (v := ?v5) rfl rfl (by kernel_rfl) (by kernel_rfl) (by kernel_rfl) (fun _ _ _ h => h) (by rfl) ?h5 hS ?_
    case h5 => (intro w' hS'; (obtain ⟨⟨c0, c1⟩, _⟩ := HB.out _ hS'); go_simp; try with_reducible rfl)
    simp only [Act.put, List.setIfInBounds_toArray, List.set_cons_zero, List.set_cons_succ]
    refine rg_call 1 (some 16) rfl rfl (by kernel_rfl) rfl (by rfl) Tryz.call61 ((HIS.out _ hS).mono ?_)
    rintro e w2 ⟨vi, rfl, hqi, hx2⟩
    refine ⟨_, rfl, Ext.trans hS hx2, ?_⟩
    replace hS : Ext W w2 := Ext.trans hS hx2
    simp only [Act.put, List.setIfInBounds_toArray, List.set_cons_zero, List.set_cons_succ]
    replace hF := hF.ext hx2
    replace hq1 := hq1.later hx2
    replace hq2 := hq2.later hx2
    replace hq3 := hq3.later hx2
    refine rg_call 3 (some 18) rfl rfl (by kernel_rfl) rfl (by rfl) Tryz.call12 ((me_who (some ⟨mb, 0, none⟩) s).mono ?_)
    rintro e w3 ⟨vw, rfl, hqw, hx3⟩
    refine ⟨_, rfl, Ext.trans hS hx3, ?_⟩
    replace hS : Ext W w3 := Ext.trans hS hx3
    simp only [Act.put, List.setIfInBounds_toArray, List.set_cons_zero, List.set_cons_succ]
    replace hF := hF.ext hx3
    replace hq1 := hq1.later hx3
    replace hq2 := hq2.later hx3
    replace hq3 := hq3.later hx3
    replace hqi := hqi.later hx3
    -- ORDERS
    refine rg_two 5 8 (by kernel_rfl) ?_ ?_
    · refine op_value 5 (some 20) (w' := w3.alloc (.cells #[vi, .int .i64 1, vw, .int .i64 2, v3, .int .i64 2] 39)) (v := .slice (some ⟨w3.heap.size, 0, none⟩) 3 3) rfl rfl rfl ?hh1 ?kk1
      case hh1 => (go_simp; try (first | with_reducible rfl | (refine ⟨?_, ?_⟩ <;> with_reducible rfl)))
      case kk1 =>
        refine ⟨ext_n _ hS, ?_⟩
        have hxVa0 : Ext w3 (w3.alloc (.cells #[vi, .int .i64 1, vw, .int .i64 2, v3, .int .i64 2] 39)) := ext_n _ (Ext.refl _)
        have hAa : AsksIn (w3.alloc (.cells #[vi, .int .i64 1, vw, .int .i64 2, v3, .int .i64 2] 39)) w3.heap.size [(vi, 1, false), (vw, 2, !inB 4 s), (v3, 2, !rightB st sz)] := asksIn_new [(vi, 1, false), (vw, 2, !inB 4 s), (v3, 2, !rightB st sz)]
        replace hS : Ext W (w3.alloc (.cells #[vi, .int .i64 1, vw, .int .i64 2, v3, .int .i64 2] 39)) := ext_n _ hS
        replace hF := hF.ext hxVa0
        replace hq1 := hq1.later hxVa0
        replace hq2 := hq2.later hxVa0
        replace hq3 := hq3.later hxVa0
        replace hqi := hqi.later hxVa0
        replace hqw := hqw.later hxVa0
        obtain ⟨ba, hba⟩ : ∃ b, w3.heap.size = b := ⟨_, rfl⟩
        rw [hba] at hAa ⊢
        clear hxVa0
        obtain ⟨Va, hVa⟩ : ∃ V, w3.alloc (.cells #[vi, .int .i64 1, vw, .int .i64 2, v3, .int .i64 2] 39) = V := ⟨_, rfl⟩
        rw [hVa] at hAa hS hF hq1 hq2 hq3 hqi hqw ⊢
        clear hVa hba
        simp only [Act.put, List.setIfInBounds_toArray, List.set_cons_zero, List.set_cons_succ]
        refine rg_call 8 (some 23) rfl rfl (by kernel_rfl) rfl (by rfl) Tryz.call62 ((HOP.out _ hS).mono ?_)
        rintro e w8 ⟨vo, rfl, hqo, hxw8⟩
        refine ⟨_, rfl, Ext.trans hS hxw8, ?_⟩
        replace hS : Ext W w8 := Ext.trans hS hxw8
        replace hF := hF.ext hxw8
        replace hq1 := hq1.later hxw8
        replace hq2 := hq2.later hxw8
        replace hq3 := hq3.later hxw8
        replace hqi := hqi.later hxw8
        replace hqw := hqw.later hxw8
        replace hAa := hAa.ext hxw8
        simp only [Act.put, List.setIfInBounds_toArray, List.set_cons_zero, List.set_cons_succ]
        refine rg_value 9 (some 24) (w' := w8.alloc (.cells #[vo, .int .i64 5] 39)) (v := .slice (some ⟨w8.heap.size, 0, none⟩) 1 1) rfl rfl (by kernel_rfl) (by rfl) ?hh2 ?ss2 ?_
        case hh2 => (go_simp; try (first | with_reducible rfl | (refine ⟨?_, ?_⟩ <;> with_reducible rfl)))
        case ss2 => exact ext_n _ hS
        have hxVc0 : Ext w8 (w8.alloc (.cells #[vo, .int .i64 5] 39)) := ext_n _ (Ext.refl _)
        have hAc : AsksIn (w8.alloc (.cells #[vo, .int .i64 5] 39)) w8.heap.size [(vo, 5, !openB T s)] := asksIn_new [(vo, 5, !openB T s)]
        replace hS : Ext W (w8.alloc (.cells #[vo, .int .i64 5] 39)) := ext_n _ hS
        replace hF := hF.ext hxVc0
        replace hq1 := hq1.later hxVc0
        replace hq2 := hq2.later hxVc0
        replace hq3 := hq3.later hxVc0
        replace hqi := hqi.later hxVc0
        replace hqw := hqw.later hxVc0
        replace hAa := hAa.ext hxVc0
        replace hqo := hqo.later hxVc0
        obtain ⟨bc, hbc⟩ : ∃ b, w8.heap.size = b := ⟨_, rfl⟩
        rw [hbc] at hAc ⊢
        clear hxVc0
        obtain ⟨Vc, hVc⟩ : ∃ V, w8.alloc (.cells #[vo, .int .i64 5] 39) = V := ⟨_, rfl⟩
        rw [hVc] at hAc hS hF hq1 hq2 hq3 hqi hqw hAa hqo ⊢
        clear hVc hbc
        simp only [Act.put, List.setIfInBounds_toArray, List.set_cons_zero, List.set_cons_succ]
        obtain ⟨bd, capd, wd, hrund, hxwd, hAd⟩ := app_asks (c1 := 2) (c2 := 1) hF hAc (by simp) (by simp)
        have hrund' : (Builtin.append_ #[65, 65] 65 #[.slice (some ⟨lb, 0, none⟩) 2 2, .slice (some ⟨bc, 0, none⟩) 1 1]).run Tryz.prog Vc = .ok (.slice (some ⟨bd, 0, none⟩) 3 capd) wd := hrund
        clear hrund
        refine rg_value 10 (some 25) (w' := wd) (v := .slice (some ⟨bd, 0, none⟩) 3 capd) rfl rfl (by kernel_rfl) (by rfl) ?hh3 ?ss3 ?_
        case hh3 => (simp [execOp, resolve, invoke, builtin, Act.eval, hrund', Result.andThen])
        case ss3 => exact Ext.trans hS hxwd
        clear hrund'
        replace hS : Ext W wd := Ext.trans hS hxwd
        replace hF := hF.ext hxwd
        replace hq1 := hq1.later hxwd
        replace hq2 := hq2.later hxwd
        replace hq3 := hq3.later hxwd
        replace hqi := hqi.later hxwd
        replace hqw := hqw.later hxwd
        replace hAa := hAa.ext hxwd
        replace hqo := hqo.later hxwd
        replace hAc := hAc.ext hxwd
        simp only [Act.put, List.setIfInBounds_toArray, List.set_cons_zero, List.set_cons_succ]
        obtain ⟨be, cape, we, hrune, hxwe, hAe⟩ := app_asks (c1 := 3) (c2 := capd) hAa hAd (by simp) (by simp)
        have hrune' : (Builtin.append_ #[65, 65] 65 #[.slice (some ⟨ba, 0, none⟩) 3 3, .slice (some ⟨bd, 0, none⟩) 3 capd]).run Tryz.prog wd = .ok (.slice (some ⟨be, 0, none⟩) 6 cape) we := hrune
        clear hrune
        refine rg_value 11 (some 26) (w' := we) (v := .slice (some ⟨be, 0, none⟩) 6 cape) rfl rfl (by kernel_rfl) (by rfl) ?hh4 ?ss4 ?_
        case hh4 => (simp [execOp, resolve, invoke, builtin, Act.eval, hrune', Result.andThen])
        case ss4 => exact Ext.trans hS hxwe
        clear hrune'
        replace hS : Ext W we := Ext.trans hS hxwe
        replace hF := hF.ext hxwe
        replace hq1 := hq1.later hxwe
        replace hq2 := hq2.later hxwe
        replace hq3 := hq3.later hxwe
        replace hqi := hqi.later hxwe
        replace hqw := hqw.later hxwe
        replace hAa := hAa.ext hxwe
        replace hqo := hqo.later hxwe
        replace hAc := hAc.ext hxwe
        replace hAd := hAd.ext hxwe
        simp only [Act.put, List.setIfInBounds_toArray, List.set_cons_zero, List.set_cons_succ]
        have hfin := meta_asked [(vi, 1, false), (vw, 2, !inB 4 s), (v3, 2, !rightB st sz), (v1, e1, b1), (v2, e2, b2), (vo, 5, !openB T s)] be _ hAe.1 (by simp) (n := cape) (ask_cells hAe) ⟨hqi, fun _ => ⟨hqw, fun _ => ⟨hq3, fun _ => ⟨hq1, fun _ => ⟨hq2, fun _ => ⟨hqo, fun _ => trivial⟩⟩⟩⟩⟩⟩
        rw [show firstE [(vi, 1, false), (vw, 2, !inB 4 s), (v3, 2, !rightB st sz), (v1, e1, b1), (v2, e2, b2), (vo, 5, !openB T s)] = r from HR.out.1] at hfin
        refine rg_call 12 (some 27) rfl rfl (by kernel_rfl) rfl (by rfl) Tryz.call11 (hfin.mono ?_)
        rintro e wz ⟨rfl, hxz⟩
        refine ⟨_, rfl, Ext.trans hS hxz, ?_⟩
        replace hS : Ext W wz := Ext.trans hS hxz
        simp only [Act.put, List.setIfInBounds_toArray, List.set_cons_zero, List.set_cons_succ]
        refine rg_held 13 (some 12) (v := ?v6) rfl rfl (by kernel_rfl) (by kernel_rfl) (by kernel_rfl) (fun _ _ _ h => h) (by rfl) ?h6 hS ?_
        case h6 => (intro w' hS'; (skip); go_simp; try with_reducible rfl)
        simp only [Act.put, List.setIfInBounds_toArray, List.set_cons_zero, List.set_cons_succ]
        refine rg_done (by kernel_rfl) ?_
        go_wp2_with fail
        go_meet
        exact ⟨rfl, hS⟩
    · refine op_call 8 (some 23) rfl rfl rfl (by rfl) Tryz.call62 ((HOP.out _ hS).mono ?_)
      rintro e w8 ⟨vo, rfl, hqo, hxw8⟩
      refine ⟨_, rfl, Ext.trans hS hxw8, ?_⟩
      replace hS : Ext W w8 := Ext.trans hS hxw8
      replace hF := hF.ext hxw8
      replace hq1 := hq1.later hxw8
      replace hq2 := hq2.later hxw8
      replace hq3 := hq3.later hxw8
      replace hqi := hqi.later hxw8
      replace hqw := hqw.later hxw8
      simp only [Act.put, List.setIfInBounds_toArray, List.set_cons_zero, List.set_cons_succ]
      refine rg_two 5 9 (by kernel_rfl) ?_ ?_
      · refine op_value 5 (some 20) (w' := w8.alloc (.cells #[vi, .int .i64 1, vw, .int .i64 2, v3, .int .i64 2] 39)) (v := .slice (some ⟨w8.heap.size, 0, none⟩) 3 3) rfl rfl rfl ?hh5 ?kk5
        case hh5 => (go_simp; try (first | with_reducible rfl | (refine ⟨?_, ?_⟩ <;> with_reducible rfl)))
        case kk5 =>
          refine ⟨ext_n _ hS, ?_⟩
          have hxVa0 : Ext w8 (w8.alloc (.cells #[vi, .int .i64 1, vw, .int .i64 2, v3, .int .i64 2] 39)) := ext_n _ (Ext.refl _)
          have hAa : AsksIn (w8.alloc (.cells #[vi, .int .i64 1, vw, .int .i64 2, v3, .int .i64 2] 39)) w8.heap.size [(vi, 1, false), (vw, 2, !inB 4 s), (v3, 2, !rightB st sz)] := asksIn_new [(vi, 1, false), (vw, 2, !inB 4 s), (v3, 2, !rightB st sz)]
          replace hS : Ext W (w8.alloc (.cells #[vi, .int .i64 1, vw, .int .i64 2, v3, .int .i64 2] 39)) := ext_n _ hS
          replace hF := hF.ext hxVa0
          replace hq1 := hq1.later hxVa0
          replace hq2 := hq2.later hxVa0
          replace hq3 := hq3.later hxVa0
          replace hqi := hqi.later hxVa0
          replace hqw := hqw.later hxVa0
          replace hqo := hqo.later hxVa0
          obtain ⟨ba, hba⟩ : ∃ b, w8.heap.size = b := ⟨_, rfl⟩
          rw [hba] at hAa ⊢
          clear hxVa0
          obtain ⟨Va, hVa⟩ : ∃ V, w8.alloc (.cells #[vi, .int .i64 1, vw, .int .i64 2, v3, .int .i64 2] 39) = V := ⟨_, rfl⟩
          rw [hVa] at hAa hS hF hq1 hq2 hq3 hqi hqw hqo ⊢
          clear hVa hba
          simp only [Act.put, List.setIfInBounds_toArray, List.set_cons_zero, List.set_cons_succ]
          refine rg_value 9 (some 24) (w' := Va.alloc (.cells #[vo, .int .i64 5] 39)) (v := .slice (some ⟨Va.heap.size, 0, none⟩) 1 1) rfl rfl (by kernel_rfl) (by rfl) ?hh6 ?ss6 ?_
          case hh6 => (go_simp; try (first | with_reducible rfl | (refine ⟨?_, ?_⟩ <;> with_reducible rfl)))
          case ss6 => exact ext_n _ hS
          have hxVc0 : Ext Va (Va.alloc (.cells #[vo, .int .i64 5] 39)) := ext_n _ (Ext.refl _)
          have hAc : AsksIn (Va.alloc (.cells #[vo, .int .i64 5] 39)) Va.heap.size [(vo, 5, !openB T s)] := asksIn_new [(vo, 5, !openB T s)]
          replace hS : Ext W (Va.alloc (.cells #[vo, .int .i64 5] 39)) := ext_n _ hS
          replace hF := hF.ext hxVc0
          replace hq1 := hq1.later hxVc0
          replace hq2 := hq2.later hxVc0
          replace hq3 := hq3.later hxVc0
          replace hqi := hqi.later hxVc0
          replace hqw := hqw.later hxVc0
          replace hqo := hqo.later hxVc0
          replace hAa := hAa.ext hxVc0
          obtain ⟨bc, hbc⟩ : ∃ b, Va.heap.size = b := ⟨_, rfl⟩
          rw [hbc] at hAc ⊢
          clear hxVc0
          obtain ⟨Vc, hVc⟩ : ∃ V, Va.alloc (.cells #[vo, .int .i64 5] 39) = V := ⟨_, rfl⟩
          rw [hVc] at hAc hS hF hq1 hq2 hq3 hqi hqw hqo hAa ⊢
          clear hVc hbc
          simp only [Act.put, List.setIfInBounds_toArray, List.set_cons_zero, List.set_cons_succ]
          obtain ⟨bd, capd, wd, hrund, hxwd, hAd⟩ := app_asks (c1 := 2) (c2 := 1) hF hAc (by simp) (by simp)
          have hrund' : (Builtin.append_ #[65, 65] 65 #[.slice (some ⟨lb, 0, none⟩) 2 2, .slice (some ⟨bc, 0, none⟩) 1 1]).run Tryz.prog Vc = .ok (.slice (some ⟨bd, 0, none⟩) 3 capd) wd := hrund
          clear hrund
          refine rg_value 10 (some 25) (w' := wd) (v := .slice (some ⟨bd, 0, none⟩) 3 capd) rfl rfl (by kernel_rfl) (by rfl) ?hh7 ?ss7 ?_
          case hh7 => (simp [execOp, resolve, invoke, builtin, Act.eval, hrund', Result.andThen])
          case ss7 => exact Ext.trans hS hxwd
          clear hrund'
          replace hS : Ext W wd := Ext.trans hS hxwd
          replace hF := hF.ext hxwd
          replace hq1 := hq1.later hxwd
          replace hq2 := hq2.later hxwd
          replace hq3 := hq3.later hxwd
          replace hqi := hqi.later hxwd
          replace hqw := hqw.later hxwd
          replace hqo := hqo.later hxwd
          replace hAa := hAa.ext hxwd
          replace hAc := hAc.ext hxwd
          simp only [Act.put, List.setIfInBounds_toArray, List.set_cons_zero, List.set_cons_succ]
          obtain ⟨be, cape, we, hrune, hxwe, hAe⟩ := app_asks (c1 := 3) (c2 := capd) hAa hAd (by simp) (by simp)
          have hrune' : (Builtin.append_ #[65, 65] 65 #[.slice (some ⟨ba, 0, none⟩) 3 3, .slice (some ⟨bd, 0, none⟩) 3 capd]).run Tryz.prog wd = .ok (.slice (some ⟨be, 0, none⟩) 6 cape) we := hrune
          clear hrune
          refine rg_value 11 (some 26) (w' := we) (v := .slice (some ⟨be, 0, none⟩) 6 cape) rfl rfl (by kernel_rfl) (by rfl) ?hh8 ?ss8 ?_
          case hh8 => (simp [execOp, resolve, invoke, builtin, Act.eval, hrune', Result.andThen])
          case ss8 => exact Ext.trans hS hxwe
          clear hrune'
          replace hS : Ext W we := Ext.trans hS hxwe
          replace hF := hF.ext hxwe
          replace hq1 := hq1.later hxwe
          replace hq2 := hq2.later hxwe
          replace hq3 := hq3.later hxwe
          replace hqi := hqi.later hxwe
          replace hqw := hqw.later hxwe
          replace hqo := hqo.later hxwe
          replace hAa := hAa.ext hxwe
          replace hAc := hAc.ext hxwe
          replace hAd := hAd.ext hxwe
          simp only [Act.put, List.setIfInBounds_toArray, List.set_cons_zero, List.set_cons_succ]
          have hfin := meta_asked [(vi, 1, false), (vw, 2, !inB 4 s), (v3, 2, !rightB st sz), (v1, e1, b1), (v2, e2, b2), (vo, 5, !openB T s)] be _ hAe.1 (by simp) (n := cape) (ask_cells hAe) ⟨hqi, fun _ => ⟨hqw, fun _ => ⟨hq3, fun _ => ⟨hq1, fun _ => ⟨hq2, fun _ => ⟨hqo, fun _ => trivial⟩⟩⟩⟩⟩⟩
          rw [show firstE [(vi, 1, false), (vw, 2, !inB 4 s), (v3, 2, !rightB st sz), (v1, e1, b1), (v2, e2, b2), (vo, 5, !openB T s)] = r from HR.out.1] at hfin
          refine rg_call 12 (some 27) rfl rfl (by kernel_rfl) rfl (by rfl) Tryz.call11 (hfin.mono ?_)
          rintro e wz ⟨rfl, hxz⟩
          refine ⟨_, rfl, Ext.trans hS hxz, ?_⟩
          replace hS : Ext W wz := Ext.trans hS hxz
          simp only [Act.put, List.setIfInBounds_toArray, List.set_cons_zero, List.set_cons_succ]
          refine rg_held 13 (some 12) (v := ?v7) rfl rfl (by kernel_rfl) (by kernel_rfl) (by kernel_rfl) (fun _ _ _ h => h) (by rfl) ?h7 hS ?_
          case h7 => (intro w' hS'; (skip); go_simp; try with_reducible rfl)
          simp only [Act.put, List.setIfInBounds_toArray, List.set_cons_zero, List.set_cons_succ]
          refine rg_done (by kernel_rfl) ?_
          go_wp2_with fail
          go_meet
          exact ⟨rfl, hS⟩
      · refine op_value 9 (some 24) (w' := w8.alloc (.cells #[vo, .int .i64 5] 39)) (v := .slice (some ⟨w8.heap.size, 0, none⟩) 1 1) rfl rfl rfl ?hh9 ?kk9
        case hh9 => (go_simp; try (first | with_reducible rfl | (refine ⟨?_, ?_⟩ <;> with_reducible rfl)))
        case kk9 =>
          refine ⟨ext_n _ hS, ?_⟩
          have hxVc0 : Ext w8 (w8.alloc (.cells #[vo, .int .i64 5] 39)) := ext_n _ (Ext.refl _)
          have hAc : AsksIn (w8.alloc (.cells #[vo, .int .i64 5] 39)) w8.heap.size [(vo, 5, !openB T s)] := asksIn_new [(vo, 5, !openB T s)]
          replace hS : Ext W (w8.alloc (.cells #[vo, .int .i64 5] 39)) := ext_n _ hS
          replace hF := hF.ext hxVc0
          replace hq1 := hq1.later hxVc0
          replace hq2 := hq2.later hxVc0
          replace hq3 := hq3.later hxVc0
          replace hqi := hqi.later hxVc0
          replace hqw := hqw.later hxVc0
          replace hqo := hqo.later hxVc0
          obtain ⟨bc, hbc⟩ : ∃ b, w8.heap.size = b := ⟨_, rfl⟩
          rw [hbc] at hAc ⊢
          clear hxVc0
          obtain ⟨Vc, hVc⟩ : ∃ V, w8.alloc (.cells #[vo, .int .i64 5] 39) = V := ⟨_, rfl⟩
          rw [hVc] at hAc hS hF hq1 hq2 hq3 hqi hqw hqo ⊢
          clear hVc hbc
          simp only [Act.put, List.setIfInBounds_toArray, List.set_cons_zero, List.set_cons_succ]
          refine rg_two 5 10 (by kernel_rfl) ?_ ?_
          · refine op_value 5 (some 20) (w' := Vc.alloc (.cells #[vi, .int .i64 1, vw, .int .i64 2, v3, .int .i64 2] 39)) (v := .slice (some ⟨Vc.heap.size, 0, none⟩) 3 3) rfl rfl rfl ?hh10 ?kk10
            case hh10 => (go_simp; try (first | with_reducible rfl | (refine ⟨?_, ?_⟩ <;> with_reducible rfl)))
            case kk10 =>
              refine ⟨ext_n _ hS, ?_⟩
              have hxVa0 : Ext Vc (Vc.alloc (.cells #[vi, .int .i64 1, vw, .int .i64 2, v3, .int .i64 2] 39)) := ext_n _ (Ext.refl _)
              have hAa : AsksIn (Vc.alloc (.cells #[vi, .int .i64 1, vw, .int .i64 2, v3, .int .i64 2] 39)) Vc.heap.size [(vi, 1, false), (vw, 2, !inB 4 s), (v3, 2, !rightB st sz)] := asksIn_new [(vi, 1, false), (vw, 2, !inB 4 s), (v3, 2, !rightB st sz)]
              replace hS : Ext W (Vc.alloc (.cells #[vi, .int .i64 1, vw, .int .i64 2, v3, .int .i64 2] 39)) := ext_n _ hS
              replace hF := hF.ext hxVa0
              replace hq1 := hq1.later hxVa0
              replace hq2 := hq2.later hxVa0
              replace hq3 := hq3.later hxVa0
              replace hqi := hqi.later hxVa0
              replace hqw := hqw.later hxVa0
              replace hqo := hqo.later hxVa0
              replace hAc := hAc.ext hxVa0
              obtain ⟨ba, hba⟩ : ∃ b, Vc.heap.size = b := ⟨_, rfl⟩
              rw [hba] at hAa ⊢
              clear hxVa0
              obtain ⟨Va, hVa⟩ : ∃ V, Vc.alloc (.cells #[vi, .int .i64 1, vw, .int .i64 2, v3, .int .i64 2] 39) = V := ⟨_, rfl⟩
              rw [hVa] at hAa hS hF hq1 hq2 hq3 hqi hqw hqo hAc ⊢
              clear hVa hba
              simp only [Act.put, List.setIfInBounds_toArray, List.set_cons_zero, List.set_cons_succ]
              obtain ⟨bd, capd, wd, hrund, hxwd, hAd⟩ := app_asks (c1 := 2) (c2 := 1) hF hAc (by simp) (by simp)
              have hrund' : (Builtin.append_ #[65, 65] 65 #[.slice (some ⟨lb, 0, none⟩) 2 2, .slice (some ⟨bc, 0, none⟩) 1 1]).run Tryz.prog Va = .ok (.slice (some ⟨bd, 0, none⟩) 3 capd) wd := hrund
              clear hrund
              refine rg_value 10 (some 25) (w' := wd) (v := .slice (some ⟨bd, 0, none⟩) 3 capd) rfl rfl (by kernel_rfl) (by rfl) ?hh11 ?ss11 ?_
              case hh11 => (simp [execOp, resolve, invoke, builtin, Act.eval, hrund', Result.andThen])
              case ss11 => exact Ext.trans hS hxwd
              clear hrund'
              replace hS : Ext W wd := Ext.trans hS hxwd
              replace hF := hF.ext hxwd
              replace hq1 := hq1.later hxwd
              replace hq2 := hq2.later hxwd
              replace hq3 := hq3.later hxwd
              replace hqi := hqi.later hxwd
              replace hqw := hqw.later hxwd
              replace hqo := hqo.later hxwd
              replace hAc := hAc.ext hxwd
              replace hAa := hAa.ext hxwd
              simp only [Act.put, List.setIfInBounds_toArray, List.set_cons_zero, List.set_cons_succ]
              obtain ⟨be, cape, we, hrune, hxwe, hAe⟩ := app_asks (c1 := 3) (c2 := capd) hAa hAd (by simp) (by simp)
              have hrune' : (Builtin.append_ #[65, 65] 65 #[.slice (some ⟨ba, 0, none⟩) 3 3, .slice (some ⟨bd, 0, none⟩) 3 capd]).run Tryz.prog wd = .ok (.slice (some ⟨be, 0, none⟩) 6 cape) we := hrune
              clear hrune
              refine rg_value 11 (some 26) (w' := we) (v := .slice (some ⟨be, 0, none⟩) 6 cape) rfl rfl (by kernel_rfl) (by rfl) ?hh12 ?ss12 ?_
              case hh12 => (simp [execOp, resolve, invoke, builtin, Act.eval, hrune', Result.andThen])
              case ss12 => exact Ext.trans hS hxwe
              clear hrune'
              replace hS : Ext W we := Ext.trans hS hxwe
              replace hF := hF.ext hxwe
              replace hq1 := hq1.later hxwe
              replace hq2 := hq2.later hxwe
              replace hq3 := hq3.later hxwe
              replace hqi := hqi.later hxwe
              replace hqw := hqw.later hxwe
              replace hqo := hqo.later hxwe
              replace hAc := hAc.ext hxwe
              replace hAa := hAa.ext hxwe
              replace hAd := hAd.ext hxwe
              simp only [Act.put, List.setIfInBounds_toArray, List.set_cons_zero, List.set_cons_succ]
              have hfin := meta_asked [(vi, 1, false), (vw, 2, !inB 4 s), (v3, 2, !rightB st sz), (v1, e1, b1), (v2, e2, b2), (vo, 5, !openB T s)] be _ hAe.1 (by simp) (n := cape) (ask_cells hAe) ⟨hqi, fun _ => ⟨hqw, fun _ => ⟨hq3, fun _ => ⟨hq1, fun _ => ⟨hq2, fun _ => ⟨hqo, fun _ => trivial⟩⟩⟩⟩⟩⟩
              rw [show firstE [(vi, 1, false), (vw, 2, !inB 4 s), (v3, 2, !rightB st sz), (v1, e1, b1), (v2, e2, b2), (vo, 5, !openB T s)] = r from HR.out.1] at hfin
              refine rg_call 12 (some 27) rfl rfl (by kernel_rfl) rfl (by rfl) Tryz.call11 (hfin.mono ?_)
              rintro e wz ⟨rfl, hxz⟩
              refine ⟨_, rfl, Ext.trans hS hxz, ?_⟩
              replace hS : Ext W wz := Ext.trans hS hxz
              simp only [Act.put, List.setIfInBounds_toArray, List.set_cons_zero, List.set_cons_succ]
              refine rg_held 13 (some 12) (v := ?v8) rfl rfl (by kernel_rfl) (by kernel_rfl) (by kernel_rfl) (fun _ _ _ h => h) (by rfl) ?h8 hS ?_
              case h8 => (intro w' hS'; (skip); go_simp; try with_reducible rfl)
              simp only [Act.put, List.setIfInBounds_toArray, List.set_cons_zero, List.set_cons_succ]
              refine rg_done (by kernel_rfl) ?_
              go_wp2_with fail
              go_meet
              exact ⟨rfl, hS⟩
          · obtain ⟨bd, capd, wd, hrund, hxwd, hAd⟩ := app_asks (c1 := 2) (c2 := 1) hF hAc (by simp) (by simp)
            have hrund' : (Builtin.append_ #[65, 65] 65 #[.slice (some ⟨lb, 0, none⟩) 2 2, .slice (some ⟨bc, 0, none⟩) 1 1]).run Tryz.prog Vc = .ok (.slice (some ⟨bd, 0, none⟩) 3 capd) wd := hrund
            clear hrund
            refine op_value 10 (some 25) (w' := wd) (v := .slice (some ⟨bd, 0, none⟩) 3 capd) rfl rfl rfl ?hh13 ?kk13
            case hh13 => (simp [execOp, resolve, invoke, builtin, Act.eval, hrund', Result.andThen])
            case kk13 =>
              refine ⟨Ext.trans hS hxwd, ?_⟩
              clear hrund'
              replace hS : Ext W wd := Ext.trans hS hxwd
              replace hF := hF.ext hxwd
              replace hq1 := hq1.later hxwd
              replace hq2 := hq2.later hxwd
              replace hq3 := hq3.later hxwd
              replace hqi := hqi.later hxwd
              replace hqw := hqw.later hxwd
              replace hqo := hqo.later hxwd
              replace hAc := hAc.ext hxwd
              simp only [Act.put, List.setIfInBounds_toArray, List.set_cons_zero, List.set_cons_succ]
              refine rg_value 5 (some 20) (w' := wd.alloc (.cells #[vi, .int .i64 1, vw, .int .i64 2, v3, .int .i64 2] 39)) (v := .slice (some ⟨wd.heap.size, 0, none⟩) 3 3) rfl rfl (by kernel_rfl) (by rfl) ?hh14 ?ss14 ?_
              case hh14 => (go_simp; try (first | with_reducible rfl | (refine ⟨?_, ?_⟩ <;> with_reducible rfl)))
              case ss14 => exact ext_n _ hS
              have hxVa0 : Ext wd (wd.alloc (.cells #[vi, .int .i64 1, vw, .int .i64 2, v3, .int .i64 2] 39)) := ext_n _ (Ext.refl _)
              have hAa : AsksIn (wd.alloc (.cells #[vi, .int .i64 1, vw, .int .i64 2, v3, .int .i64 2] 39)) wd.heap.size [(vi, 1, false), (vw, 2, !inB 4 s), (v3, 2, !rightB st sz)] := asksIn_new [(vi, 1, false), (vw, 2, !inB 4 s), (v3, 2, !rightB st sz)]
              replace hS : Ext W (wd.alloc (.cells #[vi, .int .i64 1, vw, .int .i64 2, v3, .int .i64 2] 39)) := ext_n _ hS
              replace hF := hF.ext hxVa0
              replace hq1 := hq1.later hxVa0
              replace hq2 := hq2.later hxVa0
              replace hq3 := hq3.later hxVa0
              replace hqi := hqi.later hxVa0
              replace hqw := hqw.later hxVa0
              replace hqo := hqo.later hxVa0
              replace hAc := hAc.ext hxVa0
              replace hAd := hAd.ext hxVa0
              obtain ⟨ba, hba⟩ : ∃ b, wd.heap.size = b := ⟨_, rfl⟩
              rw [hba] at hAa ⊢
              clear hxVa0
              obtain ⟨Va, hVa⟩ : ∃ V, wd.alloc (.cells #[vi, .int .i64 1, vw, .int .i64 2, v3, .int .i64 2] 39) = V := ⟨_, rfl⟩
              rw [hVa] at hAa hS hF hq1 hq2 hq3 hqi hqw hqo hAc hAd ⊢
              clear hVa hba
              simp only [Act.put, List.setIfInBounds_toArray, List.set_cons_zero, List.set_cons_succ]
              obtain ⟨be, cape, we, hrune, hxwe, hAe⟩ := app_asks (c1 := 3) (c2 := capd) hAa hAd (by simp) (by simp)
              have hrune' : (Builtin.append_ #[65, 65] 65 #[.slice (some ⟨ba, 0, none⟩) 3 3, .slice (some ⟨bd, 0, none⟩) 3 capd]).run Tryz.prog Va = .ok (.slice (some ⟨be, 0, none⟩) 6 cape) we := hrune
              clear hrune
              refine rg_value 11 (some 26) (w' := we) (v := .slice (some ⟨be, 0, none⟩) 6 cape) rfl rfl (by kernel_rfl) (by rfl) ?hh15 ?ss15 ?_
              case hh15 => (simp [execOp, resolve, invoke, builtin, Act.eval, hrune', Result.andThen])
              case ss15 => exact Ext.trans hS hxwe
              clear hrune'
              replace hS : Ext W we := Ext.trans hS hxwe
              replace hF := hF.ext hxwe
              replace hq1 := hq1.later hxwe
              replace hq2 := hq2.later hxwe
              replace hq3 := hq3.later hxwe
              replace hqi := hqi.later hxwe
              replace hqw := hqw.later hxwe
              replace hqo := hqo.later hxwe
              replace hAc := hAc.ext hxwe
              replace hAd := hAd.ext hxwe
              replace hAa := hAa.ext hxwe
              simp only [Act.put, List.setIfInBounds_toArray, List.set_cons_zero, List.set_cons_succ]
              have hfin := meta_asked [(vi, 1, false), (vw, 2, !inB 4 s), (v3, 2, !rightB st sz), (v1, e1, b1), (v2, e2, b2), (vo, 5, !openB T s)] be _ hAe.1 (by simp) (n := cape) (ask_cells hAe) ⟨hqi, fun _ => ⟨hqw, fun _ => ⟨hq3, fun _ => ⟨hq1, fun _ => ⟨hq2, fun _ => ⟨hqo, fun _ => trivial⟩⟩⟩⟩⟩⟩
              rw [show firstE [(vi, 1, false), (vw, 2, !inB 4 s), (v3, 2, !rightB st sz), (v1, e1, b1), (v2, e2, b2), (vo, 5, !openB T s)] = r from HR.out.1] at hfin
              refine rg_call 12 (some 27) rfl rfl (by kernel_rfl) rfl (by rfl) Tryz.call11 (hfin.mono ?_)
              rintro e wz ⟨rfl, hxz⟩
              refine ⟨_, rfl, Ext.trans hS hxz, ?_⟩
              replace hS : Ext W wz := Ext.trans hS hxz
              simp only [Act.put, List.setIfInBounds_toArray, List.set_cons_zero, List.set_cons_succ]
              refine rg_held 13 (some 12) (v := ?v9) rfl rfl (by kernel_rfl) (by kernel_rfl) (by kernel_rfl) (fun _ _ _ h => h) (by rfl) ?h9 hS ?_
              case h9 => (intro w' hS'; (skip); go_simp; try with_reducible rfl)
              simp only [Act.put, List.setIfInBounds_toArray, List.set_cons_zero, List.set_cons_succ]
              refine rg_done (by kernel_rfl) ?_
              go_wp2_with fail
              go_meet
              exact ⟨rfl, hS⟩
    -- END ORDERS
  case rest =>
    obtain ⟨rfl, hx⟩ := hcut
    have hr0 : (r != 0) = true := by simpa using HR.out.2.1
    clear HB HQ HW hvf
    go_wp2
    go_ret
    exact ⟨rfl, Ext.trans hxW hx⟩
set_option maxRecDepth 100000 in
set_option maxHeartbeats 1000000 in
theorem me_PutNo {s c i st sz nn r : Int} (h : MemAt w mb tb eb pb fb rb many T F R) (hr : putE T s st sz 2 4 (!inB 8 c) (!inB (cnt0 c) i) = r) (hr0 : r ≠ 0) :
    Calls Tryz.prog 25 #[.pointer (some ⟨mb, 0, none⟩), .agg #[.int .i64 s, .int .i64 c, .int .i64 i], .agg #[.int .i64 st, .int .i64 sz, .int .u32 nn]] w fun e w' => e = .returned (.int .i64 r) ∧ Ext w w' := by
  obtain ⟨L, hL⟩ : ∃ L : List (Array Value × TypeId), L = [(#[.int .i64 s, .int .i64 c, .int .i64 i], 23), (#[.int .i64 st, .int .i64 sz, .int .u32 nn], 64)] := ⟨_, rfl⟩
  obtain ⟨W, hW⟩ : ∃ W, blocks w L = W := ⟨_, rfl⟩
  have hxW : Ext w W := hW ▸ blocks_ext L w
  have hb : ∀ w2, Ext W w2 → w2.heap[w.heap.size]? = some (.cells #[.int .i64 s, .int .i64 c, .int .i64 i] 23 (0, 0)) ∧ w2.heap[w.heap.size + 1]? = some (.cells #[.int .i64 st, .int .i64 sz, .int .u32 nn] 64 (0, 0)) := fun w2 hx => by
    rw [← hW] at hx
    subst hL
    exact ⟨blocks_at _ w 0 (by simp) hx, blocks_at _ w 1 (by simp) hx⟩
  have hc : ∀ w2, Ext W w2 → (w2.cell? ⟨w.heap.size, 0, none⟩ = some (.int .i64 s) ∧ w2.cell? ⟨w.heap.size, 1, none⟩ = some (.int .i64 c) ∧ w2.cell? ⟨w.heap.size, 2, none⟩ = some (.int .i64 i)) ∧ (w2.cell? ⟨w.heap.size + 1, 0, none⟩ = some (.int .i64 st) ∧ w2.cell? ⟨w.heap.size + 1, 1, none⟩ = some (.int .i64 sz) ∧ w2.cell? ⟨w.heap.size + 1, 2, none⟩ = some (.int .u32 nn)) := fun w2 hx => by
    obtain ⟨k0, k1⟩ := hb w2 hx
    exact ⟨⟨cell_at (i := 0) k0 rfl, cell_at (i := 1) k0 rfl, cell_at (i := 2) k0 rfl⟩, cell_at (i := 0) k1 rfl, cell_at (i := 1) k1 rfl, cell_at (i := 2) k1 rfl⟩
  have hWl : (w.alloc (.cells #[.int .i64 s, .int .i64 c, .int .i64 i] 23)).alloc (.cells #[.int .i64 st, .int .i64 sz, .int .u32 nn] 64) = W := by rw [← hW, hL]; rfl
  have HC := Lib.hid hc
  have HW := Lib.hid hWl
  have HR := Lib.hid (And.intro hr (And.intro hr0 h))
  obtain ⟨bc, hbc⟩ : ∃ b, (!inB 8 c) = b := ⟨_, rfl⟩
  obtain ⟨bi, hbi⟩ : ∃ b, (!inB (cnt0 c) i) = b := ⟨_, rfl⟩
  have HBC := Lib.hid (And.intro hbc hbi)
  clear hc hWl hb hW hL hr hr0 h hbc hbi
  go_enter Tryz.func25, Tryz.ntmps25
  go_wp2_with fail
  rw [HW.out]
  refine rg_begin ((fun w' => Ext W w')) (by kernel_rfl) ?_
  have hS : Ext W W.drew := ext_drew (Ext.refl _)
  refine rg_held 0 (some 7) (v := ?v10) rfl rfl (by kernel_rfl) (by kernel_rfl) (by kernel_rfl) (fun _ _ _ h => h) (by rfl) ?h10 hS ?_
  case h10 => (intro w' hS'; (skip); go_simp; try with_reducible rfl)
  simp only [Act.put, List.setIfInBounds_toArray, List.set_cons_zero, List.set_cons_succ]
  refine rg_held 1 (some 8) (v := ?v11) rfl rfl (by kernel_rfl) (by kernel_rfl) (by kernel_rfl) (fun _ _ _ h => h) (by rfl) ?h11 hS ?_
  case h11 => (intro w' hS'; (skip); go_simp; try with_reducible rfl)
  simp only [Act.put, List.setIfInBounds_toArray, List.set_cons_zero, List.set_cons_succ]
  refine rg_held 2 (some 9) (v := ?v12) rfl rfl (by kernel_rfl) (by kernel_rfl) (by kernel_rfl) (fun _ _ _ h => h) (by rfl) ?h12 hS ?_
  case h12 => (intro w' hS'; (obtain ⟨⟨c0, c1, c2⟩, _⟩ := HC.out _ hS'); go_simp; try with_reducible rfl)
  simp only [Act.put, List.setIfInBounds_toArray, List.set_cons_zero, List.set_cons_succ]
  refine rg_held 3 (some 10) (v := ?v13) rfl rfl (by kernel_rfl) (by kernel_rfl) (by kernel_rfl) (fun _ _ _ h => h) (by rfl) ?h13 hS ?_
  case h13 => (intro w' hS'; (skip); go_simp; try with_reducible rfl)
  simp only [Act.put, List.setIfInBounds_toArray, List.set_cons_zero, List.set_cons_succ]
  refine rg_held 5 (some 12) (v := ?v14) rfl rfl (by kernel_rfl) (by kernel_rfl) (by kernel_rfl) (fun _ _ _ h => h) (by rfl) ?h14 hS ?_
  case h14 => (intro w' hS'; (obtain ⟨_, c0, c1, c2⟩ := HC.out _ hS'); go_simp; try with_reducible rfl)
  simp only [Act.put, List.setIfInBounds_toArray, List.set_cons_zero, List.set_cons_succ]
  refine rg_held 6 (some 13) (v := ?v15) rfl rfl (by kernel_rfl) (by kernel_rfl) (by kernel_rfl) (fun _ _ _ h => h) (by rfl) ?h15 hS ?_
  case h15 => (intro w' hS'; (obtain ⟨⟨c0, c1, c2⟩, _⟩ := HC.out _ hS'); go_simp; try with_reducible rfl)
  simp only [Act.put, List.setIfInBounds_toArray, List.set_cons_zero, List.set_cons_succ]
  refine rg_held 8 (some 15) (v := ?v16) rfl rfl (by kernel_rfl) (by kernel_rfl) (by kernel_rfl) (fun _ _ _ h => h) (by rfl) ?h16 hS ?_
  case h16 => (intro w' hS'; (skip); go_simp; try with_reducible rfl)
  simp only [Act.put, List.setIfInBounds_toArray, List.set_cons_zero, List.set_cons_succ]
  refine rg_held 9 (some 16) (v := ?v17) rfl rfl (by kernel_rfl) (by kernel_rfl) (by kernel_rfl) (fun _ _ _ h => h) (by rfl) ?h17 hS ?_
  case h17 => (intro w' hS'; (obtain ⟨⟨c0, c1, c2⟩, _⟩ := HC.out _ hS'); go_simp; try with_reducible rfl)
  simp only [Act.put, List.setIfInBounds_toArray, List.set_cons_zero, List.set_cons_succ]
  refine rg_held 11 (some 18) (v := ?v18) rfl rfl (by kernel_rfl) (by kernel_rfl) (by kernel_rfl) (fun _ _ _ h => h) (by rfl) ?h18 hS ?_
  case h18 => (intro w' hS'; (skip); go_simp; try with_reducible rfl)
  simp only [Act.put, List.setIfInBounds_toArray, List.set_cons_zero, List.set_cons_succ]
  refine rg_held 12 (some 19) (v := ?v19) rfl rfl (by kernel_rfl) (by kernel_rfl) (by kernel_rfl) (fun _ _ _ h => h) (by rfl) ?h19 hS ?_
  case h19 => (intro w' hS'; (obtain ⟨⟨c0, c1, c2⟩, _⟩ := HC.out _ hS'); go_simp; try with_reducible rfl)
  simp only [Act.put, List.setIfInBounds_toArray, List.set_cons_zero, List.set_cons_succ]
  refine rg_held 13 (some 20) (v := ?v20) rfl rfl (by kernel_rfl) (by kernel_rfl) (by kernel_rfl) (fun _ _ _ h => h) (by rfl) ?h20 hS ?_
  case h20 => (intro w' hS'; (skip); go_simp; try with_reducible rfl)
  simp only [Act.put, List.setIfInBounds_toArray, List.set_cons_zero, List.set_cons_succ]
  refine rg_held 14 (some 21) (v := ?v21) rfl rfl (by kernel_rfl) (by kernel_rfl) (by kernel_rfl) (fun _ _ _ h => h) (by rfl) ?h21 hS ?_
  case h21 => (intro w' hS'; (obtain ⟨⟨c0, c1, c2⟩, _⟩ := HC.out _ hS'); go_simp; try with_reducible rfl)
  simp only [Act.put, List.setIfInBounds_toArray, List.set_cons_zero, List.set_cons_succ]
  refine rg_call 4 (some 11) rfl rfl (by kernel_rfl) rfl (by rfl) Tryz.call46 (me_records.mono ?_)
  rintro e w2 ⟨sb, rfl, hx2, hsb⟩
  refine ⟨_, rfl, Ext.trans hS hx2, ?_⟩
  replace hS : Ext W w2 := Ext.trans hS hx2
  simp only [Act.put, List.setIfInBounds_toArray, List.set_cons_zero, List.set_cons_succ]
  clear hsb
  refine rg_call 7 (some 14) rfl rfl (by kernel_rfl) rfl (by rfl) Tryz.call47 ((me_place s c i).mono ?_)
  rintro e w3 ⟨rfl, hx3⟩
  refine ⟨_, rfl, Ext.trans hS hx3, ?_⟩
  replace hS : Ext W w3 := Ext.trans hS hx3
  simp only [Act.put, List.setIfInBounds_toArray, List.set_cons_zero, List.set_cons_succ]
  refine rg_call 10 (some 17) rfl rfl (by kernel_rfl) rfl (by rfl) Tryz.call13 ((me_class c).mono ?_)
  rintro e w4 ⟨v1, rfl, hq1, hx4⟩
  refine ⟨_, rfl, Ext.trans hS hx4, ?_⟩
  replace hS : Ext W w4 := Ext.trans hS hx4
  simp only [Act.put, List.setIfInBounds_toArray, List.set_cons_zero, List.set_cons_succ]
  refine rg_call 15 (some 22) rfl rfl (by kernel_rfl) rfl (by rfl) Tryz.call14 ((me_index c i).mono ?_)
  rintro e w5 ⟨v2, rfl, hq2, hx5⟩
  refine ⟨_, rfl, Ext.trans hS hx5, ?_⟩
  replace hS : Ext W w5 := Ext.trans hS hx5
  simp only [Act.put, List.setIfInBounds_toArray, List.set_cons_zero, List.set_cons_succ]
  rw [HBC.out.1] at hq1
  rw [HBC.out.2] at hq2
  have hxn : Ext w5 (w5.alloc (.cells #[v1, .int .i64 2, v2, .int .i64 4] 39)) := ext_n _ (Ext.refl _)
  have hA : AsksIn (w5.alloc (.cells #[v1, .int .i64 2, v2, .int .i64 4] 39)) w5.heap.size [(v1, 2, bc), (v2, 4, bi)] := asksIn_new [(v1, 2, bc), (v2, 4, bi)]
  have hput := me_putNo (sb := sb) (s := s) (st := st) (sz := sz) (nn := nn) (at' := placeI c i) (r := r) (HR.out.2.2.ext (Ext.trans hxW (Ext.trans hS hxn))) hA ((hq1.later hx5).later hxn) (hq2.later hxn) (by rw [← HBC.out.1, ← HBC.out.2]; exact HR.out.1) HR.out.2.1
  unfold recS at hput
  unfold recS
  refine rg_value 16 (some 23) (w' := w5.alloc (.cells #[v1, .int .i64 2, v2, .int .i64 4] 39)) (v := .slice (some ⟨w5.heap.size, 0, none⟩) 2 2) rfl rfl (by kernel_rfl) (by rfl) ?hh1 ?ss1 ?_
  case hh1 => (go_simp; try (first | with_reducible rfl | (refine ⟨?_, ?_⟩ <;> with_reducible rfl)))
  case ss1 => exact ext_n _ hS
  replace hS : Ext W (w5.alloc (.cells #[v1, .int .i64 2, v2, .int .i64 4] 39)) := ext_n _ hS
  simp only [Act.put, List.setIfInBounds_toArray, List.set_cons_zero, List.set_cons_succ]
  refine rg_call 17 (some 24) rfl rfl (by kernel_rfl) rfl (by rfl) Tryz.call45 (hput.mono ?_)
  rintro e w6 ⟨rfl, hx6⟩
  refine ⟨_, rfl, Ext.trans hS hx6, ?_⟩
  replace hS : Ext W w6 := Ext.trans hS hx6
  simp only [Act.put, List.setIfInBounds_toArray, List.set_cons_zero, List.set_cons_succ]
  refine rg_held 18 (some 6) (v := ?v22) rfl rfl (by kernel_rfl) (by kernel_rfl) (by kernel_rfl) (fun _ _ _ h => h) (by rfl) ?h22 hS ?_
  case h22 => (intro w' hS'; (skip); go_simp; try with_reducible rfl)
  simp only [Act.put, List.setIfInBounds_toArray, List.set_cons_zero, List.set_cons_succ]
  refine rg_done (by kernel_rfl) ?_
  go_wp2
  go_ret
  exact ⟨rfl, Ext.trans hxW hS⟩
end
end Go.Proofs.YtgkfgilhegjbhaaGreat
