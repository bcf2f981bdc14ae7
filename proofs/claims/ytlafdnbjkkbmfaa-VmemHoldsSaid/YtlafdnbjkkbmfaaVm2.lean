/- package vmem: Map's questions; no condition. -/
import Derived.Test.YtlafdnbjkkbmfaaVm1
namespace Go.Proofs.Ytlafdnbjkkbmfaa
open Go.RowKit
attribute [local go_sem] run_mf
attribute [local go_sem ↓] Go.wp_at_zero Go.wp_at_succ
section
variable {w w' : World} {mb tb eb pb fb rb : Nat} {many : Int} {T : List (Int × Ent)} {F : List (Int × Tak)} {R : List (Int × Int)}
theorem map_nec {α : Type} {q : IntKind} {enc : α → Value} {l : List (Int × α)} {b c i : Nat} {v : Value} (hm : MapI q enc l w b) (hc : w.cell? ⟨c, i, none⟩ = some v) : c ≠ b := by
  rintro rfl
  obtain ⟨o, ho, es, k, rfl, _⟩ := hm
  simp [World.cell?, ho] at hc
theorem MemAt.nmc {c i : Nat} {v : Value} (h : MemAt w mb tb eb pb fb rb many T F R) (hc : w.cell? ⟨c, i, none⟩ = some v) : c ≠ eb ∧ c ≠ fb ∧ c ≠ rb := ⟨map_nec h.tab.en hc, map_nec h.pool.fr hc, map_nec h.pool.rs hc⟩
theorem heap_setc {w : World} {b i : Nat} {c : Array Value} {t : TypeId} {fr : Nat × Nat} {u : Value} (h : w.heap[b]? = some (.cells c t fr)) : (w.setCell ⟨b, i, none⟩ u).heap[b]? = some (.cells (c.setIfInBounds i u) t fr) := by
  have hb : b < w.heap.size := lt_of_block h
  have hg : w.heap[b] = .cells c t fr := (Array.getElem?_eq_some_iff.1 h).2
  show (w.heap.modify b _)[b]? = _
  rw [Array.getElem?_eq_getElem (by simpa using hb), Array.getElem_modify_self, hg]
  rfl
set_option maxRecDepth 100000 in
set_option maxHeartbeats 1000000 in
theorem vm_map1 {b : Nat} {n : Int} (h : w.cell? ⟨b, 0, none⟩ = some (.int .i64 n)) : Calls Try.prog 21 #[.pointer (some ⟨b, 0, none⟩)] w fun e w' => e = .returned (.bool (decide (0 ≤ n) && decide (n < 64))) ∧ w = w' := by
  go_enter Try.func21, Try.ntmps21
  go_wp2
  all_goals (go_ret; simp [*]; try omega)
theorem mapE_ok {n : Int} {x : Ent} (h : mapE T n x = 0) : 0 ≤ x.may ∧ x.may ≤ 2 ∧ -1 ≤ x.owner ∧ x.owner < 64 ∧ 0 ≤ x.frame ∧ 0 ≤ n ∧ n < 65536 ∧ getL T n = none ∧ usedF T x.frame = false := by
  unfold mapE at h
  split at h
  · cases h
  · split at h
    · cases h
    · split at h
      · cases h
      · split at h
        · cases h
        · split at h
          · cases h
          · simp only [Bool.or_eq_true, decide_eq_true_eq, not_or] at *
            refine ⟨by omega, by omega, by omega, by omega, by omega, by omega, by omega, ?_, ?_⟩
            · cases hg : getL T n <;> simp_all
            · simp_all
theorem unm_put {n : Int} {x : Ent} (h1 : 0 ≤ n) (h2 : n < 65536) : unmE (putL T n x) n = 0 := by
  unfold unmE
  rw [getL_putL, if_pos rfl]
  simp
  omega
set_option maxRecDepth 100000 in
set_option maxHeartbeats 1000000 in
theorem vm_map2 {b1 b2 b3 b4 : Nat} {n o m : Int} (h : MemAt w mb tb eb pb fb rb many T F R) (h1 : w.cell? ⟨b1, 0, none⟩ = some (.pointer (some ⟨mb, 0, none⟩))) (h2 : w.cell? ⟨b2, 0, none⟩ = some (.int .i64 n))
    (h3 : w.cell? ⟨b3, 0, none⟩ = some (.int .i64 o)) (h4 : w.cell? ⟨b4, 0, none⟩ = some (.int .i64 m)) :
    Calls Try.prog 22 #[.pointer (some ⟨b1, 0, none⟩), .pointer (some ⟨b2, 0, none⟩), .pointer (some ⟨b3, 0, none⟩), .pointer (some ⟨b4, 0, none⟩)] w fun e w' =>
      e = .returned (.int .i64 (mapE T n ⟨o, m, 16384⟩)) ∧ Upd [eb] w w' ∧ MemAt w' mb tb eb pb fb rb many T F R := by
  obtain ⟨r, hr⟩ : ∃ r, mapE T n ⟨o, m, 16384⟩ = r := ⟨_, rfl⟩
  have hx0 : Ext w w.drew := ext_drew (Ext.refl _)
  have hmap := page_map (n := n) (x := ⟨o, m, 16384⟩) (h.tab.ext hx0)
  rw [hr] at hmap
  unfold encE at hmap
  simp only at hmap
  have hrH := Lib.hid hr
  rw [hr]
  clear hr
  have hB : ∀ w2, Upd [eb] w w2 → w2.cell? ⟨b1, 0, none⟩ = some (.pointer (some ⟨mb, 0, none⟩)) ∧ w2.cell? ⟨b2, 0, none⟩ = some (.int .i64 n) ∧ w2.cell? ⟨b3, 0, none⟩ = some (.int .i64 o) ∧ w2.cell? ⟨b4, 0, none⟩ = some (.int .i64 m) ∧ w2.cell? ⟨mb, 0, none⟩ = some (.pointer (some ⟨tb, 0, none⟩)) := fun w2 hu => by
    have key : ∀ (b i : Nat) (v : Value), w.cell? ⟨b, i, none⟩ = some v → w2.cell? ⟨b, i, none⟩ = some v := fun b i v hc => by
      exact (hu.cell (World.block_lt_of_cell? _ _ hc) (by simp; exact (h.nmc hc).1)).trans hc
    exact ⟨key _ _ _ h1, key _ _ _ h2, key _ _ _ h3, key _ _ _ h4, key _ _ _ h.c0⟩
  have HB := Lib.hid hB
  clear hB h1 h2 h3 h4
  go_enter Try.func22, Try.ntmps22
  go_wp2_with fail
  go_cut [5] (fun s5 wx => s5 = .int .i64 r ∧ Upd [eb] w wx ∧ TabAt wx tb eb (if r = 0 then putL T n ⟨o, m, 16384⟩ else T))
  case first =>
    refine rg_begin ((fun w' => Upd [eb] w w')) (by kernel_rfl) ?_
    have hS : Upd [eb] w w.drew := Upd.of_ext hx0
    refine rg_held 0 (some 6) (v := ?v1) rfl rfl (by kernel_rfl) (by kernel_rfl) (by kernel_rfl) (fun _ _ _ h => h) (by rfl) ?h1 hS ?_
    case h1 => (intro w' hS'; (obtain ⟨c0, c1, c2, c3, c4⟩ := HB.out _ hS'); go_simp; try with_reducible rfl)
    simp only [Act.put, List.setIfInBounds_toArray, List.set_cons_zero, List.set_cons_succ]
    refine rg_held 1 (some 7) (v := ?v2) rfl rfl (by kernel_rfl) (by kernel_rfl) (by kernel_rfl) (fun _ _ _ h => h) (by rfl) ?h2 hS ?_
    case h2 => (intro w' hS'; (skip); go_simp; try with_reducible rfl)
    simp only [Act.put, List.setIfInBounds_toArray, List.set_cons_zero, List.set_cons_succ]
    refine rg_held 2 (some 8) (v := ?v3) rfl rfl (by kernel_rfl) (by kernel_rfl) (by kernel_rfl) (fun _ _ _ h => h) (by rfl) ?h3 hS ?_
    case h3 => (intro w' hS'; (skip); go_simp; try with_reducible rfl)
    simp only [Act.put, List.setIfInBounds_toArray, List.set_cons_zero, List.set_cons_succ]
    refine rg_held 3 (some 9) (v := ?v4) rfl rfl (by kernel_rfl) (by kernel_rfl) (by kernel_rfl) (fun _ _ _ h => h) (by rfl) ?h4 hS ?_
    case h4 => (intro w' hS'; (skip); go_simp; try with_reducible rfl)
    simp only [Act.put, List.setIfInBounds_toArray, List.set_cons_zero, List.set_cons_succ]
    refine rg_held 4 (some 10) (v := ?v5) rfl rfl (by kernel_rfl) (by kernel_rfl) (by kernel_rfl) (fun _ _ _ h => h) (by rfl) ?h5 hS ?_
    case h5 => (intro w' hS'; (obtain ⟨c0, c1, c2, c3, c4⟩ := HB.out _ hS'); go_simp; try with_reducible rfl)
    simp only [Act.put, List.setIfInBounds_toArray, List.set_cons_zero, List.set_cons_succ]
    refine rg_held 5 (some 11) (v := ?v6) rfl rfl (by kernel_rfl) (by kernel_rfl) (by kernel_rfl) (fun _ _ _ h => h) (by rfl) ?h6 hS ?_
    case h6 => (intro w' hS'; (obtain ⟨c0, c1, c2, c3, c4⟩ := HB.out _ hS'); go_simp; try with_reducible rfl)
    simp only [Act.put, List.setIfInBounds_toArray, List.set_cons_zero, List.set_cons_succ]
    refine rg_held 6 (some 12) (v := ?v7) rfl rfl (by kernel_rfl) (by kernel_rfl) (by kernel_rfl) (fun _ _ _ h => h) (by rfl) ?h7 hS ?_
    case h7 => (intro w' hS'; (obtain ⟨c0, c1, c2, c3, c4⟩ := HB.out _ hS'); go_simp; try with_reducible rfl)
    simp only [Act.put, List.setIfInBounds_toArray, List.set_cons_zero, List.set_cons_succ]
    refine rg_held 7 (some 13) (v := ?v8) rfl rfl (by kernel_rfl) (by kernel_rfl) (by kernel_rfl) (fun _ _ _ h => h) (by rfl) ?h8 hS ?_
    case h8 => (intro w' hS'; (obtain ⟨c0, c1, c2, c3, c4⟩ := HB.out _ hS'); go_simp; try with_reducible rfl)
    simp only [Act.put, List.setIfInBounds_toArray, List.set_cons_zero, List.set_cons_succ]
    refine rg_held 8 (some 14) (v := ?v9) rfl rfl (by kernel_rfl) (by kernel_rfl) (by kernel_rfl) (fun _ _ _ h => h) (by rfl) ?h9 hS ?_
    case h9 => (intro w' hS'; (skip); go_simp; try with_reducible rfl)
    simp only [Act.put, List.setIfInBounds_toArray, List.set_cons_zero, List.set_cons_succ]
    refine rg_call 9 (some 15) rfl rfl (by kernel_rfl) rfl (by rfl) Try.call23 (hmap.mono ?_)
    rintro e w2 ⟨rfl, hu2, ht2⟩
    refine ⟨_, rfl, Upd.trans hS hu2, ?_⟩
    replace hS : Upd [eb] w w2 := Upd.trans hS hu2
    simp only [Act.put, List.setIfInBounds_toArray, List.set_cons_zero, List.set_cons_succ]
    refine rg_held 10 (some 5) (v := ?v10) rfl rfl (by kernel_rfl) (by kernel_rfl) (by kernel_rfl) (fun _ _ _ h => h) (by rfl) ?h10 hS ?_
    case h10 => (intro w' hS'; (skip); go_simp; try with_reducible rfl)
    simp only [Act.put, List.setIfInBounds_toArray, List.set_cons_zero, List.set_cons_succ]
    refine rg_done (by kernel_rfl) ?_
    go_wp2_with fail
    go_meet
    exact ⟨rfl, hS, ht2⟩
  case rest =>
    obtain ⟨rfl, hu, ht⟩ := hcut
    by_cases h0 : r = 0
    · subst h0
      obtain ⟨p1, p2, p3, p4, p5, p6, p7, p8, p9⟩ := mapE_ok hrH.out
      have hun := page_unmap (ht.ext (ext_drew (Ext.refl _))) n
      simp only [if_true] at hun
      rw [unm_put p6 p7] at hun
      simp only [if_true] at hun
      rw [delL_put (by rwa [← getL_none_iff])] at hun
      clear hmap ht p1 p2 p3 p4 p5 p6 p7 p8 p9
      go_wp2_with fail
      refine rg_begin ((fun w' => Upd [eb] wc w')) (by kernel_rfl) ?_
      have hS : Upd [eb] wc wc.drew := Upd.of_ext (ext_drew (Ext.refl _))
      refine rg_held 0 (some 18) (v := ?v11) rfl rfl (by kernel_rfl) (by kernel_rfl) (by kernel_rfl) (fun _ _ _ h => h) (by rfl) ?h11 hS ?_
      case h11 => (intro w' hS'; (obtain ⟨c0, c1, c2, c3, c4⟩ := HB.out _ (Upd.trans hu hS')); go_simp; try with_reducible rfl)
      simp only [Act.put, List.setIfInBounds_toArray, List.set_cons_zero, List.set_cons_succ]
      refine rg_held 1 (some 19) (v := ?v12) rfl rfl (by kernel_rfl) (by kernel_rfl) (by kernel_rfl) (fun _ _ _ h => h) (by rfl) ?h12 hS ?_
      case h12 => (intro w' hS'; (skip); go_simp; try with_reducible rfl)
      simp only [Act.put, List.setIfInBounds_toArray, List.set_cons_zero, List.set_cons_succ]
      refine rg_held 2 (some 20) (v := ?v13) rfl rfl (by kernel_rfl) (by kernel_rfl) (by kernel_rfl) (fun _ _ _ h => h) (by rfl) ?h13 hS ?_
      case h13 => (intro w' hS'; (skip); go_simp; try with_reducible rfl)
      simp only [Act.put, List.setIfInBounds_toArray, List.set_cons_zero, List.set_cons_succ]
      refine rg_held 3 (some 21) (v := ?v14) rfl rfl (by kernel_rfl) (by kernel_rfl) (by kernel_rfl) (fun _ _ _ h => h) (by rfl) ?h14 hS ?_
      case h14 => (intro w' hS'; (skip); go_simp; try with_reducible rfl)
      simp only [Act.put, List.setIfInBounds_toArray, List.set_cons_zero, List.set_cons_succ]
      refine rg_held 4 (some 22) (v := ?v15) rfl rfl (by kernel_rfl) (by kernel_rfl) (by kernel_rfl) (fun _ _ _ h => h) (by rfl) ?h15 hS ?_
      case h15 => (intro w' hS'; (obtain ⟨c0, c1, c2, c3, c4⟩ := HB.out _ (Upd.trans hu hS')); go_simp; try with_reducible rfl)
      simp only [Act.put, List.setIfInBounds_toArray, List.set_cons_zero, List.set_cons_succ]
      refine rg_held 5 (some 23) (v := ?v16) rfl rfl (by kernel_rfl) (by kernel_rfl) (by kernel_rfl) (fun _ _ _ h => h) (by rfl) ?h16 hS ?_
      case h16 => (intro w' hS'; (obtain ⟨c0, c1, c2, c3, c4⟩ := HB.out _ (Upd.trans hu hS')); go_simp; try with_reducible rfl)
      simp only [Act.put, List.setIfInBounds_toArray, List.set_cons_zero, List.set_cons_succ]
      refine rg_call 6 (some 24) rfl rfl (by kernel_rfl) rfl (by rfl) Try.call24 (hun.mono ?_)
      rintro e w2 ⟨rfl, hu2, ht2⟩
      refine ⟨_, rfl, Upd.trans hS hu2, ?_⟩
      replace hS : Upd [eb] wc w2 := Upd.trans hS hu2
      simp only [Act.put, List.setIfInBounds_toArray, List.set_cons_zero, List.set_cons_succ]
      refine rg_done (by kernel_rfl) ?_
      go_wp2
      go_ret
      exact ⟨rfl, Upd.trans hu hS, h.set_tab (Upd.trans hu hS) ht2⟩
    · have hr0 : (r == 0) = false := by simp [h0]
      rw [if_neg h0] at ht
      go_wp2
      go_ret
      exact ⟨rfl, hu, h.set_tab hu ht⟩
set_option maxRecDepth 100000 in
set_option maxHeartbeats 1000000 in
theorem vm_map3 {b1 b2 xb : Nat} {p o m z : Int} (h : MemAt w mb tb eb pb fb rb many T F R) (hF : FOk F) (hR : ROk R many) (h1 : w.cell? ⟨b1, 0, none⟩ = some (.pointer (some ⟨mb, 0, none⟩))) (h2 : w.cell? ⟨b2, 0, none⟩ = some (.int .i64 p))
    (h3 : w.heap[xb]? = some (.cells #[.int .i64 o, .int .i64 m, .int .i64 z] 55 (0, 0))) (hxm : xb ∉ [mb, tb, pb]) (hbx : b1 ≠ xb ∧ b2 ≠ xb) :
    Calls Try.prog 25 #[.pointer (some ⟨b1, 0, none⟩), .pointer (some ⟨b2, 0, none⟩), .pointer (some ⟨xb, 0, none⟩)] w fun e w' =>
      e = .returned (.int .i64 (takE F R p)) ∧ Upd [fb, xb] w w' ∧ MemAt w' mb tb eb pb fb rb many T (if takE F R p = 0 then putL F (takN F many) (tak1 p) else F) R ∧
      w'.heap[xb]? = some (.cells #[.int .i64 o, .int .i64 m, .int .i64 (if takE F R p = 0 then takN F many else 0)] 55 (0, 0)) := by
  obtain ⟨r, hr⟩ : ∃ r, takE F R p = r := ⟨_, rfl⟩
  have hx0 : Ext w w.drew := ext_drew (Ext.refl _)
  have htk := frame_take (who := p) (h.pool.ext hx0) hF hR
  rw [hr] at htk
  rw [hr]
  clear hr
  obtain ⟨at', hat⟩ : ∃ a, a = (if r = 0 then takN F many else 0) := ⟨_, rfl⟩
  obtain ⟨F', hF'⟩ : ∃ a, a = (if r = 0 then putL F (takN F many) (tak1 p) else F) := ⟨_, rfl⟩
  rw [← hat, ← hF'] at htk
  rw [← hat, ← hF']
  clear hat hF'
  simp only [List.mem_cons, List.not_mem_nil, or_false, not_or] at hxm
  have hxn := h.nm h3
  have hB : ∀ w2, Upd [fb, xb] w w2 → w2.cell? ⟨b1, 0, none⟩ = some (.pointer (some ⟨mb, 0, none⟩)) ∧ w2.cell? ⟨b2, 0, none⟩ = some (.int .i64 p) ∧ w2.cell? ⟨mb, 1, none⟩ = some (.pointer (some ⟨pb, 0, none⟩)) := fun w2 hu => by
    have key : ∀ (b i : Nat) (v : Value), w.cell? ⟨b, i, none⟩ = some v → b ≠ xb → w2.cell? ⟨b, i, none⟩ = some v := fun b i v hc hn => by
      exact (hu.cell (World.block_lt_of_cell? _ _ hc) (by simp; exact ⟨(h.nmc hc).2.1, hn⟩)).trans hc
    exact ⟨key _ _ _ h1 hbx.1, key _ _ _ h2 hbx.2, key _ _ _ h.c1 (Ne.symm hxm.1)⟩
  have HB := Lib.hid hB
  have hxl := lt_of_block h3
  have H3 := Lib.hid h3
  clear hB h1 h2 h3
  have hmm := h
  go_enter Try.func25, Try.ntmps25
  go_wp2_with fail
  go_cut [3] (fun s3 wx => s3 = .int .i64 r ∧ Upd [fb, xb] w wx ∧ MemAt wx mb tb eb pb fb rb many T F' R ∧ wx.heap[xb]? = some (.cells #[.int .i64 o, .int .i64 m, .int .i64 at'] 55 (0, 0)))
  case first =>
    refine rg_begin ((fun w' => Upd [fb, xb] w w')) (by kernel_rfl) ?_
    have hS : Upd [fb, xb] w w.drew := Upd.of_ext hx0
    refine rg_held 0 (some 5) (v := ?v17) rfl rfl (by kernel_rfl) (by kernel_rfl) (by kernel_rfl) (fun _ _ _ h => h) (by rfl) ?h17 hS ?_
    case h17 => (intro w' hS'; (obtain ⟨c0, c1, c2⟩ := HB.out _ hS'); go_simp; try with_reducible rfl)
    simp only [Act.put, List.setIfInBounds_toArray, List.set_cons_zero, List.set_cons_succ]
    refine rg_held 1 (some 6) (v := ?v18) rfl rfl (by kernel_rfl) (by kernel_rfl) (by kernel_rfl) (fun _ _ _ h => h) (by rfl) ?h18 hS ?_
    case h18 => (intro w' hS'; (skip); go_simp; try with_reducible rfl)
    simp only [Act.put, List.setIfInBounds_toArray, List.set_cons_zero, List.set_cons_succ]
    refine rg_held 2 (some 7) (v := ?v19) rfl rfl (by kernel_rfl) (by kernel_rfl) (by kernel_rfl) (fun _ _ _ h => h) (by rfl) ?h19 hS ?_
    case h19 => (intro w' hS'; (skip); go_simp; try with_reducible rfl)
    simp only [Act.put, List.setIfInBounds_toArray, List.set_cons_zero, List.set_cons_succ]
    refine rg_held 3 (some 8) (v := ?v20) rfl rfl (by kernel_rfl) (by kernel_rfl) (by kernel_rfl) (fun _ _ _ h => h) (by rfl) ?h20 hS ?_
    case h20 => (intro w' hS'; (obtain ⟨c0, c1, c2⟩ := HB.out _ hS'); go_simp; try with_reducible rfl)
    simp only [Act.put, List.setIfInBounds_toArray, List.set_cons_zero, List.set_cons_succ]
    refine rg_held 4 (some 9) (v := ?v21) rfl rfl (by kernel_rfl) (by kernel_rfl) (by kernel_rfl) (fun _ _ _ h => h) (by rfl) ?h21 hS ?_
    case h21 => (intro w' hS'; (obtain ⟨c0, c1, c2⟩ := HB.out _ hS'); go_simp; try with_reducible rfl)
    simp only [Act.put, List.setIfInBounds_toArray, List.set_cons_zero, List.set_cons_succ]
    refine rg_call 5 (some 10) rfl rfl (by kernel_rfl) rfl (by rfl) Try.call26 (htk.mono ?_)
    rintro e w2 ⟨rfl, hu2, ht2⟩
    refine ⟨_, rfl, Upd.trans hS (hu2.mono (by simp)), ?_⟩
    replace hS : Upd [fb, xb] w w2 := Upd.trans hS (hu2.mono (by simp))
    simp only [Act.put, List.setIfInBounds_toArray, List.set_cons_zero, List.set_cons_succ]
    refine rg_held 6 (some 4) (v := ?v22) rfl rfl (by kernel_rfl) (by kernel_rfl) (by kernel_rfl) (fun _ _ _ h => h) (by rfl) ?h22 hS ?_
    case h22 => (intro w' hS'; (skip); go_simp; try with_reducible rfl)
    simp only [Act.put, List.setIfInBounds_toArray, List.set_cons_zero, List.set_cons_succ]
    refine rg_held 7 (some 11) (v := ?v23) rfl rfl (by kernel_rfl) (by kernel_rfl) (by kernel_rfl) (fun _ _ _ h => h) (by rfl) ?h23 hS ?_
    case h23 => (intro w' hS'; (skip); go_simp; try with_reducible rfl)
    simp only [Act.put, List.setIfInBounds_toArray, List.set_cons_zero, List.set_cons_succ]
    refine rg_held 8 (some 12) (v := ?v24) rfl rfl (by kernel_rfl) (by kernel_rfl) (by kernel_rfl) (fun _ _ _ h => h) (by rfl) ?h24 hS ?_
    case h24 => (intro w' hS'; (skip); go_simp; try with_reducible rfl)
    simp only [Act.put, List.setIfInBounds_toArray, List.set_cons_zero, List.set_cons_succ]
    refine rg_held 9 (some 13) (v := ?v25) rfl rfl (by kernel_rfl) (by kernel_rfl) (by kernel_rfl) (fun _ _ _ h => h) (by rfl) ?h25 hS ?_
    case h25 => (intro w' hS'; (skip); go_simp; try with_reducible rfl)
    simp only [Act.put, List.setIfInBounds_toArray, List.set_cons_zero, List.set_cons_succ]
    have hbx2 : w2.heap[xb]? = some (.cells #[.int .i64 o, .int .i64 m, .int .i64 z] 55 (0, 0)) := (hu2.block _ (by simpa using hxl) (by simp; exact hxn.2.1)).trans H3.out
    have cx := cell_at (i := 2) hbx2 rfl
    have fx : w2.frozen? ⟨xb, 2, none⟩ = false := by simp [World.frozen?, hbx2]
    have hM2 := (h.ext hx0).set_fr hu2 ht2
    refine rg_unit 10 none (w' := ?w27) rfl rfl (by kernel_rfl) (by rfl) ?h27 ?s27 ?_
    case h27 => ((skip); go_simp; try with_reducible rfl)
    case s27 => exact updSet _ hS (by simp)
    simp only [Act.put]
    replace hS : Upd [fb, xb] w (w2.setCell ⟨xb, 2, none⟩ (.int .i64 at')) := updSet _ hS (by simp)
    refine rg_held 11 (some 3) (v := ?v26) rfl rfl (by kernel_rfl) (by kernel_rfl) (by kernel_rfl) (fun _ _ _ h => h) (by rfl) ?h26 hS ?_
    case h26 => (intro w' hS'; (skip); go_simp; try with_reducible rfl)
    simp only [Act.put, List.setIfInBounds_toArray, List.set_cons_zero, List.set_cons_succ]
    refine rg_done (by kernel_rfl) ?_
    go_wp2_with fail
    go_meet
    refine ⟨rfl, hS, hM2.keep (S := [xb]) (updSet _ (Upd.refl _ _) (by simp)) ?_, ?_⟩
    · intro k hk hkx
      simp at hk hkx
      subst hkx
      rcases hk with e | e | e | e | e | e
      · exact hxm.1 e
      · exact hxm.2.1 e
      · exact hxn.1 e
      · exact hxm.2.2 e
      · exact hxn.2.1 e
      · exact hxn.2.2 e
    · exact heap_setc hbx2
  case rest =>
    obtain ⟨rfl, hu, hm, hb⟩ := hcut
    go_wp2
    go_ret
    exact ⟨rfl, hu, hm, hb⟩
end
end Go.Proofs.Ytlafdnbjkkbmfaa
