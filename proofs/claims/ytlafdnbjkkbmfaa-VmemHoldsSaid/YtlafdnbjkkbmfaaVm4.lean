/- package vmem: Map; no condition. -/
import Derived.Test.YtlafdnbjkkbmfaaVm3
namespace Go.Proofs.Ytlafdnbjkkbmfaa
open Go.RowKit
attribute [local go_sem] run_mf
attribute [local go_sem ↓] Go.wp_at_zero Go.wp_at_succ
section
variable {w w' : World} {mb tb eb pb fb rb : Nat} {many : Int} {T : List (Int × Ent)} {F : List (Int × Tak)} {R : List (Int × Int)}
theorem map_qs {W : World} {xb b5 b6 b7 b8 b9 : Nat} {n o p m : Int} {v1 v2 : Value} (h : MemAt W mb tb eb pb fb rb many T F R) (hF : FOk F) (hR : ROk R many)
    (hb : ∀ w2, Upd [eb, fb, xb] W w2 → w2.cell? ⟨b5, 0, none⟩ = some (.pointer (some ⟨mb, 0, none⟩)) ∧ w2.cell? ⟨b6, 0, none⟩ = some (.int .i64 n) ∧ w2.cell? ⟨b7, 0, none⟩ = some (.int .i64 o) ∧ w2.cell? ⟨b8, 0, none⟩ = some (.int .i64 p) ∧ w2.cell? ⟨b9, 0, none⟩ = some (.int .i64 m))
    (hx : W.heap[xb]? = some (.cells #[.int .i64 o, .int .i64 m, .int .i64 0] 55 (0, 0))) (hxm : xb ∉ [mb, tb, pb]) (hne : b5 ≠ xb ∧ b8 ≠ xb) {w5 : World} (hW : Ext W w5) (q1 : Q Try.prog w5 v1 (.int .i64 0)) (q2 : Q Try.prog w5 v2 (.int .i64 (if (decide (0 ≤ p) && decide (p < 64)) = true then 0 else 2))) :
    FirstR [eb, fb, xb] [v1, v2, .func (.func 22) #[] #[.pointer (some ⟨b5, 0, none⟩), .pointer (some ⟨b6, 0, none⟩), .pointer (some ⟨b7, 0, none⟩), .pointer (some ⟨b9, 0, none⟩)], .func (.func 25) #[] #[.pointer (some ⟨b5, 0, none⟩), .pointer (some ⟨b8, 0, none⟩), .pointer (some ⟨xb, 0, none⟩)]] w5
      (MapZ W mb tb eb pb fb rb many T F (putL F (takN F many) (tak1 p)) R xb o m (takN F many) (vmaE T F R n o p m)) := by
  have hxn := h.nm hx
  refine FirstR.pure q1 (fun h => absurd rfl h) (fun _ w6 hx6 => FirstR.pure (q2.later hx6) ?_ ?_)
  · intro hr w7 hx7
    have hw : Ext W w7 := Ext.trans hW (Ext.trans hx6 hx7)
    split at hr
    · exact absurd rfl hr
    · rename_i hd
      have hv : vmaE T F R n o p m = 2 := by rw [vmaE, if_neg hd]
      refine ⟨by rw [if_neg hd, hv], Upd.of_ext hw, ?_, fun h0 => by rw [hv] at h0; cases h0⟩
      rw [hv]
      exact h.ext hw
  · intro hr w7 hx7
    have hw : Ext W w7 := Ext.trans hW (Ext.trans hx6 hx7)
    split at hr
    · rename_i hd
      obtain ⟨c5, c6, c7, c8, c9⟩ := hb _ (Upd.of_ext hw)
      refine ⟨_, _, _, rfl, Try.call22, (vm_map2 (h.ext hw) c5 c6 c7 c9).mono ?_⟩
      rintro e w8 ⟨rfl, hu8, hm8⟩
      have hu : Upd [eb, fb, xb] W w8 := Upd.trans (Upd.of_ext hw) (hu8.mono (by simp))
      refine ⟨_, rfl, hu8.mono (by simp), fun hr => ?_, fun hr => ?_⟩
      · have hv : vmaE T F R n o p m = mapE T n ⟨o, m, 16384⟩ := by rw [vmaE, if_pos hd, if_neg hr]
        refine ⟨hv.symm, hu, ?_, fun h0 => absurd (hv ▸ h0) hr⟩
        rw [hv, if_neg hr]
        exact hm8
      · obtain ⟨c5, c6, c7, c8, c9⟩ := hb _ hu
        have hx8 : w8.heap[xb]? = some (.cells #[.int .i64 o, .int .i64 m, .int .i64 0] 55 (0, 0)) := (hu8.block _ (Nat.lt_of_lt_of_le (lt_of_block hx) hw.size) (by simp; exact hxn.1)).trans ((hw.block _ (lt_of_block hx)).trans hx)
        refine ⟨_, _, _, rfl, Try.call25, (vm_map3 hm8 hF hR c5 c8 hx8 hxm hne).mono ?_⟩
        rintro e w9 ⟨rfl, hu9, hm9, hb9⟩
        have hu' : Upd [eb, fb, xb] W w9 := Upd.trans hu (hu9.mono (by simp))
        have hv : vmaE T F R n o p m = takE F R p := by rw [vmaE, if_pos hd, if_pos hr]
        have hz : MapZ W mb tb eb pb fb rb many T F (putL F (takN F many) (tak1 p)) R xb o m (takN F many) (vmaE T F R n o p m) (takE F R p) w9 := by
          refine ⟨hv.symm, hu', ?_, fun h0 => ?_⟩
          · rw [hv]; exact hm9
          · rw [hv] at h0; rw [if_pos h0] at hb9; exact hb9
        exact ⟨_, rfl, hu9.mono (by simp), fun _ => hz, fun h0 => by rw [h0] at hz; exact hz⟩
    · cases hr
set_option maxRecDepth 100000 in
set_option maxHeartbeats 1000000 in
theorem vm_map {n o p m : Int} (h : MemAt w mb tb eb pb fb rb many T F R) (hF : FOk F) (hR : ROk R many) :
    Calls Try.prog 9 #[.pointer (some ⟨mb, 0, none⟩), .int .i64 n, .int .i64 o, .int .i64 p, .int .i64 m] w fun e w' => e = .returned (.int .i64 (vmaR T F R many n o p m)) ∧ Upd [eb, fb] w w' ∧
      MemAt w' mb tb eb pb fb rb many (if vmaR T F R many n o p m = 0 then putL T n ⟨o, m, takN F many⟩ else T) (if vmaE T F R n o p m = 0 then putL F (takN F many) (tak1 p) else F) R := by
  obtain ⟨L, hL⟩ : ∃ L, L = [(#[Value.pointer (some ⟨mb, 0, none⟩)], 25), (#[Value.int .i64 n], 3), (#[Value.int .i64 o], 3), (#[Value.int .i64 p], 3), (#[Value.int .i64 m], 33), (#[.int .i64 o, .int .i64 m, .int .i64 0], 55)] := ⟨_, rfl⟩
  obtain ⟨W, hW⟩ : ∃ W, blocks w L = W := ⟨_, rfl⟩
  have hxW : Ext w W := hW ▸ blocks_ext L w
  have hb : ∀ (w2 : World), Ext W w2 →
      w2.cell? ⟨w.heap.size, 0, none⟩ = some (.pointer (some ⟨mb, 0, none⟩)) ∧ w2.cell? ⟨w.heap.size + 1, 0, none⟩ = some (.int .i64 n) ∧ w2.cell? ⟨w.heap.size + 2, 0, none⟩ = some (.int .i64 o) ∧ w2.cell? ⟨w.heap.size + 3, 0, none⟩ = some (.int .i64 p) ∧ w2.cell? ⟨w.heap.size + 4, 0, none⟩ = some (.int .i64 m) ∧
      w2.heap[w.heap.size + 5]? = some (.cells #[.int .i64 o, .int .i64 m, .int .i64 0] 55 (0, 0)) := fun w2 hx => by
    subst hW; subst hL
    exact ⟨cell_at (i := 0) (blocks_at _ w 0 (by simp) hx) rfl, cell_at (i := 0) (blocks_at _ w 1 (by simp) hx) rfl, cell_at (i := 0) (blocks_at _ w 2 (by simp) hx) rfl, cell_at (i := 0) (blocks_at _ w 3 (by simp) hx) rfl, cell_at (i := 0) (blocks_at _ w 4 (by simp) hx) rfl, blocks_at _ w 5 (by simp) hx⟩
  have hP := h.ext hxW
  have hWl : (((((w.alloc (.cells #[.pointer (some ⟨mb, 0, none⟩)] 25)).alloc (.cells #[.int .i64 n] 3)).alloc (.cells #[.int .i64 o] 3)).alloc (.cells #[.int .i64 p] 3)).alloc (.cells #[.int .i64 m] 33)).alloc (.cells #[.int .i64 o, .int .i64 m, .int .i64 0] 55) = W := by rw [← hW, hL]; rfl
  have hWlH := Lib.hid hWl
  clear hW hL hWl
  have ltm := lt_of_block h.blk
  have ltt := lt_of_block h.tab.blk
  have lte := h.tab.en.lt
  have ltp := lt_of_block h.pool.blk
  have ltf := h.pool.fr.lt
  have ltr := h.pool.rs.lt
  obtain ⟨B, hBe⟩ : ∃ B, B = w.heap.size := ⟨_, rfl⟩
  have hb2 : ∀ w2, Upd [eb, fb, w.heap.size + 5] W w2 → w2.cell? ⟨w.heap.size, 0, none⟩ = some (.pointer (some ⟨mb, 0, none⟩)) ∧ w2.cell? ⟨w.heap.size + 1, 0, none⟩ = some (.int .i64 n) ∧ w2.cell? ⟨w.heap.size + 2, 0, none⟩ = some (.int .i64 o) ∧ w2.cell? ⟨w.heap.size + 3, 0, none⟩ = some (.int .i64 p) ∧ w2.cell? ⟨w.heap.size + 4, 0, none⟩ = some (.int .i64 m) := fun w2 hu => by
    obtain ⟨a0, a1, a2, a3, a4, a5⟩ := hb _ (Ext.refl _)
    have key : ∀ (b : Nat) (v : Value), w.heap.size ≤ b → b < w.heap.size + 5 → W.cell? ⟨b, 0, none⟩ = some v → w2.cell? ⟨b, 0, none⟩ = some v := fun b v h1 h2 hc =>
      (hu.cell (World.block_lt_of_cell? _ _ hc) (by simp; omega)).trans hc
    exact ⟨key _ _ (by omega) (by omega) a0, key _ _ (by omega) (by omega) a1, key _ _ (by omega) (by omega) a2, key _ _ (by omega) (by omega) a3, key _ _ (by omega) (by omega) a4⟩
  have hth := vm_there hP
  have q2' : ∀ w2, Ext W w2 → Q Try.prog w2 (.func (.func 21) #[] #[.pointer (some ⟨w.heap.size + 3, 0, none⟩)]) (.bool (decide (0 ≤ p) && decide (p < 64))) := fun w2 hx => Q.mk Try.call21 fun w' hx' => by
    obtain ⟨a0, a1, a2, a3, a4, a5⟩ := hb _ (Ext.trans hx hx')
    exact (vm_map1 a3).mono fun e w2 h => ⟨h.1, h.2 ▸ Ext.refl _⟩
  have his : ∀ w2, Ext W w2 → Calls Try.prog 20 #[.func (.func 21) #[] #[.pointer (some ⟨w.heap.size + 3, 0, none⟩)], .int .i64 2] w2 fun e w' => ∃ q, e = .returned q ∧ Q Try.prog w' q (.int .i64 (if (decide (0 ≤ p) && decide (p < 64)) = true then 0 else 2)) ∧ Ext w2 w' := fun w2 hx => vm_is (q2' w2 hx)
  have hfst : ∀ (w2 w3 : World) (v1 v2 : Value), Ext W w2 → Ext w2 w3 → Q Try.prog w2 v1 (.int .i64 0) → Q Try.prog w3 v2 (.int .i64 (if (decide (0 ≤ p) && decide (p < 64)) = true then 0 else 2)) →
      Calls Try.prog 18 #[.slice (some ⟨w3.heap.size, 0, none⟩) 4 4] (w3.alloc (.cells #[v1, v2, .func (.func 22) #[] #[.pointer (some ⟨w.heap.size, 0, none⟩), .pointer (some ⟨w.heap.size + 1, 0, none⟩), .pointer (some ⟨w.heap.size + 2, 0, none⟩), .pointer (some ⟨w.heap.size + 4, 0, none⟩)], .func (.func 25) #[] #[.pointer (some ⟨w.heap.size, 0, none⟩), .pointer (some ⟨w.heap.size + 3, 0, none⟩), .pointer (some ⟨w.heap.size + 5, 0, none⟩)]] 57)) fun e w' =>
        ∃ r, e = .returned (.int .i64 r) ∧ MapZ W mb tb eb pb fb rb many T F (putL F (takN F many) (tak1 p)) R (w.heap.size + 5) o m (takN F many) (vmaE T F R n o p m) r w' := fun w2 w3 v1 v2 hx hx' q1 q2 => by
    have hn : ∀ o, Ext w3 (w3.alloc o) := fun o => ext_n _ (Ext.refl _)
    have hW3 : W.heap.size ≤ w3.heap.size := (Ext.trans hx hx').size
    have hWs := hxW.size
    have h5 := lt_of_block (hb _ (Ext.refl _)).2.2.2.2.2
    exact vm_first [v1, v2, .func (.func 22) #[] #[.pointer (some ⟨w.heap.size, 0, none⟩), .pointer (some ⟨w.heap.size + 1, 0, none⟩), .pointer (some ⟨w.heap.size + 2, 0, none⟩), .pointer (some ⟨w.heap.size + 4, 0, none⟩)], .func (.func 25) #[] #[.pointer (some ⟨w.heap.size, 0, none⟩), .pointer (some ⟨w.heap.size + 3, 0, none⟩), .pointer (some ⟨w.heap.size + 5, 0, none⟩)]] w3.heap.size (by simp) (S := [eb, fb, w.heap.size + 5]) (by simp; omega) (by simp)
      (fun k hk => by rw [World.cell?_alloc_new]; match k, hk with
        | 0, _ => rfl
        | 1, _ => rfl
        | 2, _ => rfl
        | 3, _ => rfl)
      (map_qs hP hF hR hb2 (hb _ (Ext.refl _)).2.2.2.2.2 (by simp; omega) (by omega) (Ext.trans hx (Ext.trans hx' (hn _))) (q1.later (Ext.trans hx' (hn _))) (q2.later (hn _)))
  have HIS := Lib.hid his
  have HFST := Lib.hid hfst
  have HB2 := Lib.hid hb2
  clear his hfst hb2 q2' hb
  obtain ⟨r0, hr0⟩ : ∃ r0, r0 = vmaE T F R n o p m := ⟨_, rfl⟩
  have hRr : vmaR T F R many n o p m = if r0 = 0 then mapE T n ⟨o, m, takN F many⟩ else r0 := by rw [vmaR, ← hr0]
  rw [← hr0] at HFST
  rw [hRr, ← hr0]
  clear hRr hr0
  obtain ⟨F1, hF1⟩ : ∃ F1, F1 = putL F (takN F many) (tak1 p) := ⟨_, rfl⟩
  obtain ⟨z, hz⟩ : ∃ z, z = takN F many := ⟨_, rfl⟩
  rw [← hF1] at HFST
  rw [← hF1]
  rw [← hz] at HFST
  rw [← hz]
  clear hz hF1
  obtain ⟨q, hq⟩ : ∃ q, q = (if r0 = 0 then mapE T n ⟨o, m, z⟩ else r0) := ⟨_, rfl⟩
  rw [← hq]
  obtain ⟨T', hT'⟩ : ∃ T', T' = (if q = 0 then putL T n ⟨o, m, z⟩ else T) := ⟨_, rfl⟩
  obtain ⟨F', hF'⟩ : ∃ F', F' = (if r0 = 0 then F1 else F) := ⟨_, rfl⟩
  rw [← hT', ← hF']
  have hqH := Lib.hid hq
  have hTH := Lib.hid hT'
  have hFH := Lib.hid hF'
  clear hq hT' hF'
  clear ltm ltt lte ltp ltf ltr hBe
  go_enter Try.func9, Try.ntmps9
  go_wp2_with fail
  rw [hWlH.out]
  refine hth.mono ?_
  rintro e w2 ⟨v1, rfl, q1, hx2⟩
  have q1' := q1
  obtain ⟨f1, fi1, ca1, rfl, -, -⟩ := q1'
  go_wp2_with fail
  refine (HIS.out w2 hx2).mono ?_
  rintro e w3 ⟨v2, rfl, q2, hx3⟩
  have q2' := q2
  obtain ⟨f2, fi2, ca2, rfl, -, -⟩ := q2'
  go_wp2_with fail
  refine (HFST.out w2 w3 _ _ hx2 hx3 q1 q2).mono ?_
  rintro e w4 ⟨r, rfl, rfl, hu4, hm4, hb4⟩
  have hxn := hm4.tab.en.lt
  by_cases h0 : r = 0
  · subst h0
    rw [← hFH.out] at hm4
    have hpm := page_map (n := n) (x := ⟨o, m, z⟩) (hm4.tab.ext (ext_drew (Ext.refl _)))
    have hq1 : mapE T n ⟨o, m, z⟩ = q := by rw [hqH.out, if_pos rfl]
    rw [hq1, ← hTH.out] at hpm
    unfold encE at hpm
    simp only at hpm
    have hb4' := hb4 rfl
    clear hb4 hq1
    have hB5 : ∀ w', Upd [eb] w4 w' → w'.cell? ⟨w.heap.size, 0, none⟩ = some (.pointer (some ⟨mb, 0, none⟩)) ∧ w'.cell? ⟨w.heap.size + 1, 0, none⟩ = some (.int .i64 n) ∧ w'.cell? ⟨mb, 0, none⟩ = some (.pointer (some ⟨tb, 0, none⟩)) ∧
        w'.cell? ⟨w.heap.size + 5, 0, none⟩ = some (.int .i64 o) ∧ w'.cell? ⟨w.heap.size + 5, 1, none⟩ = some (.int .i64 m) ∧ w'.cell? ⟨w.heap.size + 5, 2, none⟩ = some (.int .i64 z) := fun w' hu => by
      obtain ⟨a0, a1, _⟩ := HB2.out _ hu4
      have key : ∀ (b i : Nat) (v : Value), w4.cell? ⟨b, i, none⟩ = some v → w'.cell? ⟨b, i, none⟩ = some v := fun b i v hc => (hu.cell (World.block_lt_of_cell? _ _ hc) (by simp; exact (hm4.nmc hc).1)).trans hc
      exact ⟨key _ _ _ a0, key _ _ _ a1, key _ _ _ hm4.c0, key _ _ _ (cell_at (i := 0) hb4' rfl), key _ _ _ (cell_at (i := 1) hb4' rfl), key _ _ _ (cell_at (i := 2) hb4' rfl)⟩
    have HB5 := Lib.hid hB5
    clear hB5 hb4'
    go_wp2_with fail
    refine rg_begin ((fun w' => Upd [eb] w4 w')) (by kernel_rfl) ?_
    have hS : Upd [eb] w4 w4.drew := Upd.of_ext (ext_drew (Ext.refl _))
    refine rg_held 0 (some 27) (v := ?v1) rfl rfl (by kernel_rfl) (by kernel_rfl) (by kernel_rfl) (fun _ _ _ h => h) (by rfl) ?h1 hS ?_
    case h1 => (intro w' hS'; (obtain ⟨c0, c1, c2, c3, c4, c5⟩ := HB5.out _ hS'); go_simp; try with_reducible rfl)
    simp only [Act.put, List.setIfInBounds_toArray, List.set_cons_zero, List.set_cons_succ]
    refine rg_held 1 (some 28) (v := ?v2) rfl rfl (by kernel_rfl) (by kernel_rfl) (by kernel_rfl) (fun _ _ _ h => h) (by rfl) ?h2 hS ?_
    case h2 => (intro w' hS'; (skip); go_simp; try with_reducible rfl)
    simp only [Act.put, List.setIfInBounds_toArray, List.set_cons_zero, List.set_cons_succ]
    refine rg_held 2 (some 29) (v := ?v3) rfl rfl (by kernel_rfl) (by kernel_rfl) (by kernel_rfl) (fun _ _ _ h => h) (by rfl) ?h3 hS ?_
    case h3 => (intro w' hS'; (skip); go_simp; try with_reducible rfl)
    simp only [Act.put, List.setIfInBounds_toArray, List.set_cons_zero, List.set_cons_succ]
    refine rg_held 3 (some 30) (v := ?v4) rfl rfl (by kernel_rfl) (by kernel_rfl) (by kernel_rfl) (fun _ _ _ h => h) (by rfl) ?h4 hS ?_
    case h4 => (intro w' hS'; (skip); go_simp; try with_reducible rfl)
    simp only [Act.put, List.setIfInBounds_toArray, List.set_cons_zero, List.set_cons_succ]
    refine rg_held 4 (some 31) (v := ?v5) rfl rfl (by kernel_rfl) (by kernel_rfl) (by kernel_rfl) (fun _ _ _ h => h) (by rfl) ?h5 hS ?_
    case h5 => (intro w' hS'; (obtain ⟨c0, c1, c2, c3, c4, c5⟩ := HB5.out _ hS'); go_simp; try with_reducible rfl)
    simp only [Act.put, List.setIfInBounds_toArray, List.set_cons_zero, List.set_cons_succ]
    refine rg_held 5 (some 32) (v := ?v6) rfl rfl (by kernel_rfl) (by kernel_rfl) (by kernel_rfl) (fun _ _ _ h => h) (by rfl) ?h6 hS ?_
    case h6 => (intro w' hS'; (obtain ⟨c0, c1, c2, c3, c4, c5⟩ := HB5.out _ hS'); go_simp; try with_reducible rfl)
    simp only [Act.put, List.setIfInBounds_toArray, List.set_cons_zero, List.set_cons_succ]
    refine rg_held 6 (some 33) (v := ?v7) rfl rfl (by kernel_rfl) (by kernel_rfl) (by kernel_rfl) (fun _ _ _ h => h) (by rfl) ?h7 hS ?_
    case h7 => (intro w' hS'; (obtain ⟨c0, c1, c2, c3, c4, c5⟩ := HB5.out _ hS'); go_simp; try with_reducible rfl)
    simp only [Act.put, List.setIfInBounds_toArray, List.set_cons_zero, List.set_cons_succ]
    refine rg_call 7 (some 34) rfl rfl (by kernel_rfl) rfl (by rfl) Try.call23 (hpm.mono ?_)
    rintro e w6 ⟨rfl, hu6, ht6⟩
    refine ⟨_, rfl, Upd.trans hS hu6, ?_⟩
    replace hS : Upd [eb] w4 w6 := Upd.trans hS hu6
    simp only [Act.put, List.setIfInBounds_toArray, List.set_cons_zero, List.set_cons_succ]
    refine rg_held 8 (some 10) (v := ?v8) rfl rfl (by kernel_rfl) (by kernel_rfl) (by kernel_rfl) (fun _ _ _ h => h) (by rfl) ?h8 hS ?_
    case h8 => (intro w' hS'; (skip); go_simp; try with_reducible rfl)
    simp only [Act.put, List.setIfInBounds_toArray, List.set_cons_zero, List.set_cons_succ]
    refine rg_done (by kernel_rfl) ?_
    go_wp2
    go_ret
    refine ⟨rfl, ?_, hm4.set_tab hS ht6⟩
    have hu := Upd.trans hu4 (hS.mono (S' := [eb, fb, w.heap.size + 5]) (by simp))
    exact ⟨(Upd.trans (Upd.of_ext hxW) hu).os, (Upd.trans (Upd.of_ext hxW) hu).tape, (Upd.trans (Upd.of_ext hxW) hu).output, (Upd.trans (Upd.of_ext hxW) hu).size, fun k hk hs => (Upd.trans (Upd.of_ext hxW) hu).block k hk (by simp at hs ⊢; omega)⟩
  · have hr0 : (r != 0) = true := by simp [h0]
    have hq1 : q = r := by rw [hqH.out, if_neg h0]
    have hm4' : MemAt w4 mb tb eb pb fb rb many T' F' R := by
      rw [hTH.out, if_neg (by rw [hq1]; exact h0)]
      rw [← hFH.out] at hm4
      exact hm4
    clear hb4 hm4
    have hqH1 := Lib.hid hq1
    clear hq1
    go_wp2
    go_ret
    refine ⟨by rw [hqH1.out]; rfl, ?_, hm4'⟩
    exact ⟨(Upd.trans (Upd.of_ext hxW) hu4).os, (Upd.trans (Upd.of_ext hxW) hu4).tape, (Upd.trans (Upd.of_ext hxW) hu4).output, (Upd.trans (Upd.of_ext hxW) hu4).size, fun k hk hs => (Upd.trans (Upd.of_ext hxW) hu4).block k hk (by simp at hs ⊢; omega)⟩
end
end Go.Proofs.Ytlafdnbjkkbmfaa
