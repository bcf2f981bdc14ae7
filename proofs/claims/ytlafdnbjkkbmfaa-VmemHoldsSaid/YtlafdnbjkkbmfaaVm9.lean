/- package vmem: reading and writing; no condition. -/
import Derived.Test.YtlafdnbjkkbmfaaVm8
import Derived.Test.YtlafdnbjkkbmfaaVm7
import Derived.Test.YtlafdnbjkkbmfaaVm4
namespace Go.Proofs.Ytlafdnbjkkbmfaa
open Go.RowKit
attribute [local go_sem] run_mf
attribute [local go_sem ↓] Go.wp_at_zero Go.wp_at_succ
section
variable {w w' : World} {mb tb eb pb fb rb : Nat} {many : Int} {T : List (Int × Ent)} {F : List (Int × Tak)} {R : List (Int × Int)}
theorem elem8 : Try.prog.elem 35 = 5 := by kernel_rfl
theorem und8 : Try.prog.underlying 35 = some (.slice (Try.prog.elem 35)) := by kernel_rfl
theorem run_takeB {v : Value} {bs : List UInt8} {k : Nat} (h : BytesAt w v bs) (hk : k ≤ bs.length) :
    ∃ v', (Instr.sliceAt 35 v none (some (.int .i64 (k : Int))) none).run Try.prog w = .ok v' w ∧ BytesAt w v' (bs.take k) := by
  have hl : (bs.take k).length = k := by simp; omega
  rcases h with ⟨rfl, rfl⟩ | ⟨b, o, cap, rfl, h1, h2, h3, h4⟩
  · obtain rfl : k = 0 := by simpa using hk
    refine ⟨_, ?_, .inl ⟨rfl, by simp⟩⟩
    rw [run_sliceAt_slice (P := Try.prog) w _ _ _ _ _ und8, run_slice_h (P := Try.prog) w _ none 0 0 und8 .i64 ((0 : Nat) : Int) (by omega) (by omega), elem8, sizeB, Result.andThen_ok]
    rfl
  · refine ⟨.slice (some ⟨b, o, none⟩) k cap, ?_, .inr ⟨b, o, cap, ?_, by omega, h2, h3, fun j u hu => h4 j u ?_⟩⟩
    · rw [run_sliceAt_slice (P := Try.prog) w _ _ _ _ _ und8, run_slice_h (P := Try.prog) w _ _ _ _ und8 .i64 k (by omega) (by omega), elem8, sizeB, Result.andThen_ok]
      simp [sliced, add_lit]
    · rw [hl]
    · rw [u8s, List.map_take] at hu
      rw [List.getElem?_take] at hu
      split at hu
      · exact hu
      · cases hu
theorem run_dropB {v : Value} {bs : List UInt8} {k : Nat} (h : BytesAt w v bs) (hk : k ≤ bs.length) :
    ∃ v', (Instr.sliceAt 35 v (some (.int .i64 (k : Int))) none none).run Try.prog w = .ok v' w ∧ BytesAt w v' (bs.drop k) := by
  have hl : (bs.drop k).length = bs.length - k := by simp
  rcases h with ⟨rfl, rfl⟩ | ⟨b, o, cap, rfl, h1, h2, h3, h4⟩
  · obtain rfl : k = 0 := by simpa using hk
    refine ⟨_, ?_, .inl ⟨rfl, by simp⟩⟩
    rw [run_sliceAt_slice (P := Try.prog) w _ _ _ _ _ und8, run_slice_l (P := Try.prog) w _ none 0 0 und8 .i64 ((0 : Nat) : Int) (by omega) (by omega), elem8, sizeB, Result.andThen_ok]
    rfl
  · by_cases hc : cap = k
    · have hbl : bs.drop k = [] := List.eq_nil_of_length_eq_zero (by omega)
      refine ⟨.slice (some ⟨b, o, none⟩) (bs.length - k) (cap - k), ?_, .inr ⟨b, o, cap - k, ?_, by omega, by omega, h3, fun j u hu => by rw [hbl] at hu; cases hu⟩⟩
      · rw [run_sliceAt_slice (P := Try.prog) w _ _ _ _ _ und8, run_slice_l (P := Try.prog) w _ _ _ _ und8 .i64 k (by omega) (by omega), elem8, sizeB, Result.andThen_ok]
        simp [sliced, hc]
      · rw [hl]
    · refine ⟨.slice (some ⟨b, o + k, none⟩) (bs.length - k) (cap - k), ?_, .inr ⟨b, o + k, cap - k, ?_, by omega, by omega, h3, fun j u hu => ?_⟩⟩
      · rw [run_sliceAt_slice (P := Try.prog) w _ _ _ _ _ und8, run_slice_l (P := Try.prog) w _ _ _ _ und8 .i64 k (by omega) (by omega), elem8, sizeB, Result.andThen_ok]
        simp [sliced, hc, add_lit]
      · rw [hl]
      · rw [Nat.add_assoc]
        refine h4 (k + j) u ?_
        rw [u8s, List.map_drop, List.getElem?_drop] at hu
        exact hu
set_option maxRecDepth 100000 in
set_option maxHeartbeats 1000000 in
theorem vm_write1 {cb : Nat} {v : Value} {bs : List UInt8} {fr : Int} {x : Nat × Nat × Nat} (h : MemAt w mb tb eb pb fb rb many T F R) (hF : FOk F) (hcb : w.cell? ⟨cb, 0, none⟩ = some (.pointer (some ⟨mb, 0, none⟩))) (hv : BytesAt w v bs) (hx : x.2.2 ≤ bs.length) (hx2 : x.2.2 ≤ 256) :
    Calls Try.prog 56 #[v, .int .i64 fr, encP x, .pointer (some ⟨cb, 0, none⟩)] w fun e w' => ∃ v', e = .returned v' ∧ Upd [fb] w w' ∧
      MemAt w' mb tb eb pb fb rb many T (if thrE F many fr (x.2.1 : Int) (x.2.2 : Int) = 0 then putL F fr (wrt ((getL F fr).getD tak0) x.2.1 (bs.take x.2.2)) else F) R ∧ BytesAt w' v' (bs.drop x.2.2) := by
  have hlt : (bs.take x.2.2).length = x.2.2 := by simp; omega
  obtain ⟨W, hW⟩ : ∃ W, w.alloc (.cells #[.int .i64 (x.1 : Int), .int .i64 (x.2.1 : Int), .int .i64 (x.2.2 : Int)] 101) = W := ⟨_, rfl⟩
  have hxW : Ext w W := hW ▸ ext_n _ (Ext.refl _)
  have hbW : W.heap[w.heap.size]? = some (.cells #[.int .i64 (x.1 : Int), .int .i64 (x.2.1 : Int), .int .i64 (x.2.2 : Int)] 101 (0, 0)) := hW ▸ World.alloc_heap_new _ _
  have hP := h.ext hxW
  have hlts := h.lts
  have hfl := hlts fb (by simp)
  have hnc := h.nmc hcb
  have hcl := World.block_lt_of_cell? _ _ hcb
  have hrd : ∀ w2, Upd [fb] W w2 → w2.cell? ⟨cb, 0, none⟩ = some (.pointer (some ⟨mb, 0, none⟩)) ∧ w2.cell? ⟨mb, 1, none⟩ = some (.pointer (some ⟨pb, 0, none⟩)) ∧ w2.cell? ⟨w.heap.size, 1, none⟩ = some (.int .i64 (x.2.1 : Int)) ∧ w2.cell? ⟨w.heap.size, 2, none⟩ = some (.int .i64 (x.2.2 : Int)) := fun w2 hu => by
    have hcW := (hxW.cell (p := ⟨cb, 0, none⟩) hcl).trans hcb
    have hb2 := (hu.block _ (lt_of_block hbW) (by simp; omega)).trans hbW
    exact ⟨(hu.cell (World.block_lt_of_cell? _ _ hcW) (by simpa using hnc.2.1)).trans hcW, (hu.cell (lt_of_block hP.blk) (by simpa using (h.nm h.blk).2.1)).trans hP.c1, cell_at (i := 1) hb2 rfl, cell_at (i := 2) hb2 rfl⟩
  obtain ⟨va, vc, hvv⟩ := hv.form
  subst hvv
  have hvW := hv.ext hxW
  have hWd : Ext W W.drew := ext_drew (Ext.refl _)
  obtain ⟨F', hF'⟩ : ∃ F', F' = (if thrE F many fr (x.2.1 : Int) (x.2.2 : Int) = 0 then putL F fr (wrt ((getL F fr).getD tak0) x.2.1 (bs.take x.2.2)) else F) := ⟨_, rfl⟩
  rw [← hF']
  have hwr : ∀ w2 v2, Ext W w2 → BytesAt w2 v2 (bs.take x.2.2) → Calls Try.prog 57 #[.pointer (some ⟨pb, 0, none⟩), .int .i64 fr, .int .i64 (x.2.1 : Int), v2] w2 fun e w' => (∃ r, e = .returned (.int .i64 r)) ∧ Upd [fb] w2 w' ∧ PoolAt w' pb fb rb many F' R := fun w2 v2 hx hb => by
    have := frame_write (n := fr) (i := (x.2.1 : Int)) (hP.ext hx).pool hF hb (by omega)
    rw [hlt, Int.toNat_natCast, ← hF'] at this
    exact this.mono fun e w' hh => ⟨⟨_, hh.1⟩, hh.2⟩
  have HWR := Lib.hid hwr
  have HRD := Lib.hid hrd
  have HWl := Lib.hid hW
  have HV := Lib.hid hvW
  have htk : ∀ w2, Ext W w2 → ∃ v', (∀ w3, (Instr.sliceAt 35 (.slice va bs.length vc) none (some (.int .i64 (x.2.2 : Int))) none).run Try.prog w3 = .ok v' w3) ∧ BytesAt w2 v' (bs.take x.2.2) := fun w2 hx' => by
    obtain ⟨v', h1, h2⟩ := run_takeB (hvW.ext hx') hx
    refine ⟨v', fun w3 => ?_, h2⟩
    rw [run_sliceAt_slice (P := Try.prog) w3 _ _ _ _ _ und8]
    rw [run_sliceAt_slice (P := Try.prog) w2 _ _ _ _ _ und8] at h1
    have hc : (x.2.2 : Int) ≤ vc := by
      rcases hv with ⟨e, e2⟩ | ⟨b, o, cap, e, h1', h2', h3', h4'⟩
      · rw [e2] at hx; simp at hx; omega
      · injection e with _ _ e3; omega
    rw [run_slice_h (P := Try.prog) w3 _ _ _ _ und8 .i64 x.2.2 (by omega) hc, elem8, sizeB, Result.andThen_ok]
    rw [run_slice_h (P := Try.prog) w2 _ _ _ _ und8 .i64 x.2.2 (by omega) hc, elem8, sizeB, Result.andThen_ok] at h1
    injection h1 with h1 _
    rw [h1]
  obtain ⟨v18, hs18, hb18⟩ := htk _ hWd
  obtain ⟨va2, vc2, hv18⟩ := hb18.form
  rw [hlt] at hv18
  subst hv18
  have HS18 := Lib.hid hs18
  have HB18 := Lib.hid hb18
  clear hs18 hb18 htk hvW hW hrd hwr hF' hcb hv hbW
  unfold encP
  go_enter Try.func56, Try.ntmps56
  go_wp2_with fail
  rw [HWl.out]
  refine rg_begin ((fun w2 => Upd [fb] W w2)) (by kernel_rfl) ?_
  have hS : Upd [fb] W W.drew := Upd.of_ext hWd
  refine rg_held 0 (some 8) (v := ?v1) rfl rfl (by kernel_rfl) (by kernel_rfl) (by kernel_rfl) (fun _ _ _ h => h) (by rfl) ?h1 hS ?_
  case h1 => (intro w' hS'; (obtain ⟨c0, c1, c2, c3⟩ := HRD.out _ hS'); go_simp; try with_reducible rfl)
  simp only [Act.put, List.setIfInBounds_toArray, List.set_cons_zero, List.set_cons_succ]
  refine rg_held 1 (some 9) (v := ?v2) rfl rfl (by kernel_rfl) (by kernel_rfl) (by kernel_rfl) (fun _ _ _ h => h) (by rfl) ?h2 hS ?_
  case h2 => (intro w' hS'; (skip); go_simp; try with_reducible rfl)
  simp only [Act.put, List.setIfInBounds_toArray, List.set_cons_zero, List.set_cons_succ]
  refine rg_held 2 (some 10) (v := ?v3) rfl rfl (by kernel_rfl) (by kernel_rfl) (by kernel_rfl) (fun _ _ _ h => h) (by rfl) ?h3 hS ?_
  case h3 => (intro w' hS'; (skip); go_simp; try with_reducible rfl)
  simp only [Act.put, List.setIfInBounds_toArray, List.set_cons_zero, List.set_cons_succ]
  refine rg_held 3 (some 11) (v := ?v4) rfl rfl (by kernel_rfl) (by kernel_rfl) (by kernel_rfl) (fun _ _ _ h => h) (by rfl) ?h4 hS ?_
  case h4 => (intro w' hS'; (obtain ⟨c0, c1, c2, c3⟩ := HRD.out _ hS'); go_simp; try with_reducible rfl)
  simp only [Act.put, List.setIfInBounds_toArray, List.set_cons_zero, List.set_cons_succ]
  refine rg_held 4 (some 12) (v := ?v5) rfl rfl (by kernel_rfl) (by kernel_rfl) (by kernel_rfl) (fun _ _ _ h => h) (by rfl) ?h5 hS ?_
  case h5 => (intro w' hS'; (skip); go_simp; try with_reducible rfl)
  simp only [Act.put, List.setIfInBounds_toArray, List.set_cons_zero, List.set_cons_succ]
  refine rg_held 5 (some 13) (v := ?v6) rfl rfl (by kernel_rfl) (by kernel_rfl) (by kernel_rfl) (fun _ _ _ h => h) (by rfl) ?h6 hS ?_
  case h6 => (intro w' hS'; (skip); go_simp; try with_reducible rfl)
  simp only [Act.put, List.setIfInBounds_toArray, List.set_cons_zero, List.set_cons_succ]
  refine rg_held 6 (some 14) (v := ?v7) rfl rfl (by kernel_rfl) (by kernel_rfl) (by kernel_rfl) (fun _ _ _ h => h) (by rfl) ?h7 hS ?_
  case h7 => (intro w' hS'; (obtain ⟨c0, c1, c2, c3⟩ := HRD.out _ hS'); go_simp; try with_reducible rfl)
  simp only [Act.put, List.setIfInBounds_toArray, List.set_cons_zero, List.set_cons_succ]
  refine rg_held 7 (some 15) (v := ?v8) rfl rfl (by kernel_rfl) (by kernel_rfl) (by kernel_rfl) (fun _ _ _ h => h) (by rfl) ?h8 hS ?_
  case h8 => (intro w' hS'; (skip); go_simp; try with_reducible rfl)
  simp only [Act.put, List.setIfInBounds_toArray, List.set_cons_zero, List.set_cons_succ]
  refine rg_held 8 (some 16) (v := ?v9) rfl rfl (by kernel_rfl) (by kernel_rfl) (by kernel_rfl) (fun _ _ _ h => h) (by rfl) ?h9 hS ?_
  case h9 => (intro w' hS'; (skip); go_simp; try with_reducible rfl)
  simp only [Act.put, List.setIfInBounds_toArray, List.set_cons_zero, List.set_cons_succ]
  refine rg_held 9 (some 17) (v := ?v10) rfl rfl (by kernel_rfl) (by kernel_rfl) (by kernel_rfl) (fun _ _ _ h => h) (by rfl) ?h10 hS ?_
  case h10 => (intro w' hS'; (obtain ⟨c0, c1, c2, c3⟩ := HRD.out _ hS'); go_simp; try with_reducible rfl)
  simp only [Act.put, List.setIfInBounds_toArray, List.set_cons_zero, List.set_cons_succ]
  refine rg_held 10 (some 18) (v := ?v11) rfl rfl (by kernel_rfl) (by kernel_rfl) (by kernel_rfl) (fun _ _ _ h => h) (by rfl) ?h11 hS ?_
  case h11 => (intro w' hS'; (have hsl := HS18.out w'); go_simp; try with_reducible rfl)
  simp only [Act.put, List.setIfInBounds_toArray, List.set_cons_zero, List.set_cons_succ]
  refine rg_call 11 (some 19) rfl rfl (by kernel_rfl) rfl (by rfl) Try.call57 ((HWR.out _ _ hWd HB18.out).mono ?_)
  rintro e w6 ⟨⟨r, rfl⟩, hu6, hp6⟩
  refine ⟨_, rfl, Upd.trans hS hu6, ?_⟩
  replace hS : Upd [fb] W w6 := Upd.trans hS hu6
  simp only [Act.put, List.setIfInBounds_toArray, List.set_cons_zero, List.set_cons_succ]
  refine rg_done (by kernel_rfl) ?_
  have hM6 := hP.set_fr hS hp6
  have hv6 : BytesAt w6 (.slice va bs.length vc) bs := HV.out.other hS.size (fun b i u hc => (hS.cell (World.block_lt_of_cell? _ _ hc) (by
    simp only [List.mem_cons, List.not_mem_nil, or_false]
    exact map_nec hP.pool.fr hc)).trans hc)
  obtain ⟨v23, hs23, hb23⟩ := run_dropB hv6 hx
  obtain ⟨va3, vc3, hv23⟩ := hb23.form
  rw [List.length_drop] at hv23
  subst hv23
  obtain ⟨c0, c1, c2, c3⟩ := HRD.out _ hS
  have HB23 := Lib.hid hb23
  clear hb23 hv6
  go_wp2
  go_ret
  exact ⟨_, rfl, Upd.trans (Upd.of_ext hxW) hS, hM6, HB23.out⟩
/-- the bytes that a part reads -/
def rdB (F : List (Int × Tak)) (fr : Int) (x : Nat × Nat × Nat) : List UInt8 := ((((getL F fr).getD tak0).bytes).drop x.2.1).take x.2.2
set_option maxRecDepth 100000 in
set_option maxHeartbeats 1000000 in
theorem vm_read1 {cb : Nat} {v : Value} {bs : List UInt8} {fr : Int} {x : Nat × Nat × Nat} (h : MemAt w mb tb eb pb fb rb many T F R) (hF : FOk F) (hcb : w.cell? ⟨cb, 0, none⟩ = some (.pointer (some ⟨mb, 0, none⟩))) (hv : BytesAt w v bs) (hbs : bs.length ≤ 500000000) (hok : thrE F many fr (x.2.1 : Int) (x.2.2 : Int) = 0) :
    Calls Try.prog 58 #[v, .int .i64 fr, encP x, .pointer (some ⟨cb, 0, none⟩)] w fun e w' => ∃ v', e = .returned v' ∧ Ext w w' ∧ BytesAt w' v' (bs ++ rdB F fr x) := by
  obtain ⟨W, hW⟩ : ∃ W, w.alloc (.cells #[.int .i64 (x.1 : Int), .int .i64 (x.2.1 : Int), .int .i64 (x.2.2 : Int)] 101) = W := ⟨_, rfl⟩
  have hxW : Ext w W := hW ▸ ext_n _ (Ext.refl _)
  have hbW : W.heap[w.heap.size]? = some (.cells #[.int .i64 (x.1 : Int), .int .i64 (x.2.1 : Int), .int .i64 (x.2.2 : Int)] 101 (0, 0)) := hW ▸ World.alloc_heap_new _ _
  have hP := h.ext hxW
  have hcl := World.block_lt_of_cell? _ _ hcb
  have hrd : ∀ w2, Ext W w2 → w2.cell? ⟨cb, 0, none⟩ = some (.pointer (some ⟨mb, 0, none⟩)) ∧ w2.cell? ⟨mb, 1, none⟩ = some (.pointer (some ⟨pb, 0, none⟩)) ∧ w2.cell? ⟨w.heap.size, 1, none⟩ = some (.int .i64 (x.2.1 : Int)) ∧ w2.cell? ⟨w.heap.size, 2, none⟩ = some (.int .i64 (x.2.2 : Int)) := fun w2 hu => by
    have hcW := (hxW.cell (p := ⟨cb, 0, none⟩) hcl).trans hcb
    have hb2 := (hu.block _ (lt_of_block hbW)).trans hbW
    exact ⟨(hu.cell (World.block_lt_of_cell? _ _ hcW)).trans hcW, (hP.ext hu).c1, cell_at (i := 1) hb2 rfl, cell_at (i := 2) hb2 rfl⟩
  have hfr : ∀ w2, Ext W w2 → Calls Try.prog 59 #[.pointer (some ⟨pb, 0, none⟩), .int .i64 fr, .int .i64 (x.2.1 : Int), .int .i64 (x.2.2 : Int)] w2 fun e w' => ∃ v2, e = .returned (.tuple #[v2, .int .i64 0]) ∧ Ext w2 w' ∧ BytesAt w' v2 (rdB F fr x) := fun w2 hx => by
    have := frame_read (n := fr) (i := (x.2.1 : Int)) (k := (x.2.2 : Int)) (hP.ext hx).pool hF
    rw [hok] at this
    refine this.mono ?_
    rintro e w' ⟨v2, rfl, h1, h2, h3⟩
    exact ⟨v2, rfl, h1, by simpa [rdB] using h2 rfl⟩
  have hl : (rdB F fr x).length ≤ 256 := by
    obtain ⟨p1, p2, p3, p4, p5, p6, p7⟩ := thr_ok hok
    simp [rdB]
    omega
  obtain ⟨va, vc, hvv⟩ := hv.form
  have HV := Lib.hid (hv.ext hxW)
  obtain ⟨bl, hbl⟩ : ∃ bl, bs.length = bl := ⟨_, rfl⟩
  rw [hbl] at hvv
  have hj : ∀ w2 v2, Ext W w2 → BytesAt w2 v2 (rdB F fr x) → Calls Try.prog 60 #[.slice (some ⟨w2.heap.size, 0, none⟩) 2 2] (w2.alloc (.cells #[v, v2] 35)) fun e w' => ∃ v', e = .returned v' ∧ Ext w2 w' ∧ BytesAt w' v' (bs ++ rdB F fr x) := fun w2 v2 hx hb => by
    have hn : Ext w2 (w2.alloc (.cells #[v, v2] 35)) := ext_n _ (Ext.refl _)
    refine (w_joined (lb := w2.heap.size) [(v, bs), (v2, rdB F fr x)] (by simp) (by simp) (by simp [lensV]; omega) ?_).mono ?_
    · intro k hk
      rw [World.cell?_alloc_new]
      match k, hk with
      | 0, _ => exact ⟨rfl, HV.out.ext (Ext.trans hx hn)⟩
      | 1, _ => exact ⟨rfl, hb.ext hn⟩
    · rintro e w' ⟨v', rfl, h1, h2⟩
      exact ⟨v', rfl, Ext.trans hn h2, by simpa [joinV] using h1⟩
  have HFR := Lib.hid hfr
  have HJ := Lib.hid hj
  have HRD := Lib.hid hrd
  have HWl := Lib.hid hW
  clear hfr hj hrd hW hbW hcb hv hbl hok hl
  subst hvv
  have hWd : Ext W W.drew := ext_drew (Ext.refl _)
  unfold encP
  go_enter Try.func58, Try.ntmps58
  go_wp2_with fail
  rw [HWl.out]
  refine rg_begin ((fun w2 => Ext W w2)) (by kernel_rfl) ?_
  have hS : Ext W W.drew := hWd
  refine rg_held 0 (some 11) (v := ?v12) rfl rfl (by kernel_rfl) (by kernel_rfl) (by kernel_rfl) (fun _ _ _ h => h) (by rfl) ?h12 hS ?_
  case h12 => (intro w' hS'; (obtain ⟨c0, c1, c2, c3⟩ := HRD.out _ hS'); go_simp; try with_reducible rfl)
  simp only [Act.put, List.setIfInBounds_toArray, List.set_cons_zero, List.set_cons_succ]
  refine rg_held 1 (some 12) (v := ?v13) rfl rfl (by kernel_rfl) (by kernel_rfl) (by kernel_rfl) (fun _ _ _ h => h) (by rfl) ?h13 hS ?_
  case h13 => (intro w' hS'; (skip); go_simp; try with_reducible rfl)
  simp only [Act.put, List.setIfInBounds_toArray, List.set_cons_zero, List.set_cons_succ]
  refine rg_held 2 (some 13) (v := ?v14) rfl rfl (by kernel_rfl) (by kernel_rfl) (by kernel_rfl) (fun _ _ _ h => h) (by rfl) ?h14 hS ?_
  case h14 => (intro w' hS'; (skip); go_simp; try with_reducible rfl)
  simp only [Act.put, List.setIfInBounds_toArray, List.set_cons_zero, List.set_cons_succ]
  refine rg_held 3 (some 14) (v := ?v15) rfl rfl (by kernel_rfl) (by kernel_rfl) (by kernel_rfl) (fun _ _ _ h => h) (by rfl) ?h15 hS ?_
  case h15 => (intro w' hS'; (obtain ⟨c0, c1, c2, c3⟩ := HRD.out _ hS'); go_simp; try with_reducible rfl)
  simp only [Act.put, List.setIfInBounds_toArray, List.set_cons_zero, List.set_cons_succ]
  refine rg_held 4 (some 15) (v := ?v16) rfl rfl (by kernel_rfl) (by kernel_rfl) (by kernel_rfl) (fun _ _ _ h => h) (by rfl) ?h16 hS ?_
  case h16 => (intro w' hS'; (skip); go_simp; try with_reducible rfl)
  simp only [Act.put, List.setIfInBounds_toArray, List.set_cons_zero, List.set_cons_succ]
  refine rg_held 5 (some 16) (v := ?v17) rfl rfl (by kernel_rfl) (by kernel_rfl) (by kernel_rfl) (fun _ _ _ h => h) (by rfl) ?h17 hS ?_
  case h17 => (intro w' hS'; (skip); go_simp; try with_reducible rfl)
  simp only [Act.put, List.setIfInBounds_toArray, List.set_cons_zero, List.set_cons_succ]
  refine rg_held 6 (some 17) (v := ?v18) rfl rfl (by kernel_rfl) (by kernel_rfl) (by kernel_rfl) (fun _ _ _ h => h) (by rfl) ?h18 hS ?_
  case h18 => (intro w' hS'; (obtain ⟨c0, c1, c2, c3⟩ := HRD.out _ hS'); go_simp; try with_reducible rfl)
  simp only [Act.put, List.setIfInBounds_toArray, List.set_cons_zero, List.set_cons_succ]
  refine rg_held 7 (some 18) (v := ?v19) rfl rfl (by kernel_rfl) (by kernel_rfl) (by kernel_rfl) (fun _ _ _ h => h) (by rfl) ?h19 hS ?_
  case h19 => (intro w' hS'; (skip); go_simp; try with_reducible rfl)
  simp only [Act.put, List.setIfInBounds_toArray, List.set_cons_zero, List.set_cons_succ]
  refine rg_held 8 (some 19) (v := ?v20) rfl rfl (by kernel_rfl) (by kernel_rfl) (by kernel_rfl) (fun _ _ _ h => h) (by rfl) ?h20 hS ?_
  case h20 => (intro w' hS'; (obtain ⟨c0, c1, c2, c3⟩ := HRD.out _ hS'); go_simp; try with_reducible rfl)
  simp only [Act.put, List.setIfInBounds_toArray, List.set_cons_zero, List.set_cons_succ]
  refine rg_call 9 (some 20) rfl rfl (by kernel_rfl) rfl (by rfl) Try.call59 ((HFR.out _ hS).mono ?_)
  rintro e w6 ⟨v2, rfl, hx6, hb6⟩
  refine ⟨_, rfl, Ext.trans hS hx6, ?_⟩
  replace hS : Ext W w6 := Ext.trans hS hx6
  simp only [Act.put, List.setIfInBounds_toArray, List.set_cons_zero, List.set_cons_succ]
  refine rg_held 10 (some 10) (v := ?v21) rfl rfl (by kernel_rfl) (by kernel_rfl) (by kernel_rfl) (fun _ _ _ h => h) (by rfl) ?h21 hS ?_
  case h21 => (intro w' hS'; (skip); go_simp; try with_reducible rfl)
  simp only [Act.put, List.setIfInBounds_toArray, List.set_cons_zero, List.set_cons_succ]
  refine rg_held 11 (some 21) (v := ?v22) rfl rfl (by kernel_rfl) (by kernel_rfl) (by kernel_rfl) (fun _ _ _ h => h) (by rfl) ?h22 hS ?_
  case h22 => (intro w' hS'; (skip); go_simp; try with_reducible rfl)
  simp only [Act.put, List.setIfInBounds_toArray, List.set_cons_zero, List.set_cons_succ]
  refine rg_held 12 (some 22) (v := ?v23) rfl rfl (by kernel_rfl) (by kernel_rfl) (by kernel_rfl) (fun _ _ _ h => h) (by rfl) ?h23 hS ?_
  case h23 => (intro w' hS'; (skip); go_simp; try with_reducible rfl)
  simp only [Act.put, List.setIfInBounds_toArray, List.set_cons_zero, List.set_cons_succ]
  refine rg_held 13 (some 8) (v := ?v24) rfl rfl (by kernel_rfl) (by kernel_rfl) (by kernel_rfl) (fun _ _ _ h => h) (by rfl) ?h24 hS ?_
  case h24 => (intro w' hS'; (skip); go_simp; try with_reducible rfl)
  simp only [Act.put, List.setIfInBounds_toArray, List.set_cons_zero, List.set_cons_succ]
  refine rg_held 14 (some 9) (v := ?v25) rfl rfl (by kernel_rfl) (by kernel_rfl) (by kernel_rfl) (fun _ _ _ h => h) (by rfl) ?h25 hS ?_
  case h25 => (intro w' hS'; (skip); go_simp; try with_reducible rfl)
  simp only [Act.put, List.setIfInBounds_toArray, List.set_cons_zero, List.set_cons_succ]
  refine rg_done (by kernel_rfl) ?_
  obtain ⟨va2, vc2, hv2⟩ := hb6.form
  obtain ⟨l2, hl2⟩ : ∃ l2, (rdB F fr x).length = l2 := ⟨_, rfl⟩
  rw [hl2] at hv2
  have HB6 := Lib.hid hb6
  clear hb6 hl2
  subst hv2
  go_wp2_with fail
  refine (HJ.out w6 _ hS HB6.out).mono ?_
  rintro e w7 ⟨v', rfl, hx7, hb7⟩
  have HB7 := Lib.hid hb7
  clear hb7
  go_wp2
  go_ret
  exact ⟨_, rfl, Ext.trans hxW (Ext.trans hS hx7), HB7.out⟩
end
end Go.Proofs.Ytlafdnbjkkbmfaa
