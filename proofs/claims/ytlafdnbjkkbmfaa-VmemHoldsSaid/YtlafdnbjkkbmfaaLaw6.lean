/- the statement's own loops: whose a reach is (Load), the bytes of a Store; no condition. -/
import Derived.Test.YtlafdnbjkkbmfaaLaw5
namespace Go.Proofs.Ytlafdnbjkkbmfaa
open Go.RowKit
attribute [local go_sem] run_mf
attribute [local go_sem ↓] Go.wp_at_zero Go.wp_at_succ
section
variable {v : Value} {mb nb wb xb : Nat} {i ow : Int} {R : Exit → Act → World → Prop} {a : Act} {w : World} {t : TypeId}
set_option maxRecDepth 100000 in
set_option maxHeartbeats 1000000 in
theorem l9_fineL {f : Int} {vb : Value} {at' n : Nat} {whose : Nat → Int} {cs : Array Value} {tx tw : TypeId} (hf : Fr 288 ((15, vb) :: (16, .int .i64 f) :: (17, .bool true) :: (18, .int .i64 0) :: l9G v mb nb wb i xb ow) a)
    (hx : w.heap[xb]? = some (.cells cs tx (0, 0))) (h6 : cs[6]? = some (.int .u32 (at' : Int))) (h4 : cs[4]? = some (.int .i64 (n : Int))) (han : at' + n ≤ 5120)
    (hw : w.heap[wb]? = some (.cells (whoC whose) tw (0, 0)))
    (hR : ∀ a', Fr 288 ((15, vb) :: (16, .int .i64 f) :: (17, .bool (finB whose ow at' n)) :: l9G v mb nb wb i xb ow) a' → R .normal a' w) :
    (Code.loop (lblk Try.f3 3)).wp Try.prog (Exit.inBlock 3 R) a w := by
  refine wp_loop (fun a' w' => w = w' ∧ ∃ k : Nat, k ≤ n ∧ Fr 288 ((15, vb) :: (16, .int .i64 f) :: (17, .bool (finB whose ow at' k)) :: (18, .int .i64 k) :: l9G v mb nb wb i xb ow) a')
    (fun a' _ => n - (intOf (a'.tmps.getD 18 undef)).toNat) ⟨rfl, 0, Nat.zero_le _, by simpa [finB] using hf⟩ ?_
  rintro a' w' ⟨rfl, k, hk, hf'⟩
  have c6 := cell_at hx h6
  have c4 := cell_at hx h4
  obtain ⟨q, hq⟩ : ∃ q, finB whose ow at' k = q := ⟨_, rfl⟩
  rw [hq] at hf'
  obtain ⟨g, rfl, hgg⟩ := fr_lit288 hf'
  obtain ⟨hg15, hg16, hg17, hg18, hg0, hg3, hg5, hg6, hg7, hg8, hg9, -⟩ := hgg
  rw [hg15, hg16, hg17, hg18, hg0, hg3, hg5, hg6, hg7, hg8, hg9]
  clear hg15 hg16 hg17 hg18 hg0 hg3 hg5 hg6 hg7 hg8 hg9
  have HR := Lib.hid hR
  clear hR
  conv => arg 2; whnf
  by_cases hlt : k < n
  · have cw := cell_at hw (whoC_get whose (n := (at' + k) / 256) (by omega))
    have hfs : finB whose ow at' (k + 1) = (q && decide (whose ((at' + k) / 256) = ow)) := by rw [finB, hq]
    obtain ⟨z, hz⟩ : ∃ z, whose ((at' + k) / 256) = z := ⟨_, rfl⟩
    rw [hz] at cw hfs
    have HF := Lib.hid hfs
    clear hfs hz hq hf hf'
    cases q with
    | true =>
      go_wp2
      exact ⟨⟨trivial, k + 1, by omega, fr_mk rfl ⟨rfl, rfl, by rw [HF.out]; rfl, by go_num, rfl, rfl, rfl, rfl, rfl, rfl, rfl, trivial⟩⟩, by simp [intOf]; omega⟩
    | false =>
      go_wp2
      exact ⟨⟨trivial, k + 1, by omega, fr_mk rfl ⟨rfl, rfl, by rw [HF.out]; rfl, by go_num, rfl, rfl, rfl, rfl, rfl, rfl, rfl, trivial⟩⟩, by simp [intOf]; omega⟩
  · obtain rfl : k = n := by omega
    have HQ := Lib.hid hq
    clear hq hf hf'
    go_wp2
    exact HR.out _ (fr_mk rfl ⟨rfl, rfl, by rw [HQ.out]; rfl, rfl, rfl, rfl, rfl, rfl, rfl, rfl, trivial⟩)
set_option maxRecDepth 100000 in
set_option maxHeartbeats 1000000 in
theorem l9_copy0 {n : Nat} {cs : Array Value} {tx : TypeId} {ba : Option Addr} {bc : Nat} (hf : Fr 288 ((12, .bool false) :: (14, .int .i64 0) :: l9G v mb nb wb i xb ow) a)
    (hx : w.heap[xb]? = some (.cells cs tx (0, 0))) (h7 : cs[7]? = some (.slice ba n bc)) (hn : n ≤ 5120)
    (hR : ∀ a', Fr 288 (l9G v mb nb wb i xb ow) a' → R .normal a' w) :
    (Code.loop (lblk Try.f3 9)).wp Try.prog (Exit.inBlock 9 R) a w := by
  refine wp_loop (fun a' w' => w = w' ∧ Fr 288 ((12, .bool false) :: (14, .int .i64 0) :: l9G v mb nb wb i xb ow) a') (fun _ _ => 0) ⟨rfl, hf⟩ ?_
  rintro a' w' ⟨rfl, hf'⟩
  have c7 := cell_at hx h7
  obtain ⟨g, rfl, hgg⟩ := fr_lit288 hf'
  obtain ⟨hg12, hg14, hg0, hg3, hg5, hg6, hg7, hg8, hg9, -⟩ := hgg
  rw [hg12, hg14, hg0, hg3, hg5, hg6, hg7, hg8, hg9]
  clear hg12 hg14 hg0 hg3 hg5 hg6 hg7 hg8 hg9
  have HR := Lib.hid hR
  clear hR hf hf'
  conv => arg 2; whnf
  by_cases h0 : 0 < n
  · go_wp2
    exact HR.out _ (fr_mk rfl ⟨rfl, rfl, rfl, rfl, rfl, rfl, rfl, trivial⟩)
  · obtain rfl : n = 0 := by omega
    go_wp2
    exact HR.out _ (fr_mk rfl ⟨rfl, rfl, rfl, rfl, rfl, rfl, rfl, trivial⟩)
set_option maxRecDepth 100000 in
set_option maxHeartbeats 1000000 in
theorem l9_copy {at' bb bo bc : Nat} {bs now : List UInt8} {cs : Array Value} {tx tn : TypeId} (hf : Fr 288 ((12, .bool true) :: (14, .int .i64 0) :: l9G v mb nb wb i xb ow) a)
    (hx : w.heap[xb]? = some (.cells cs tx (0, 0))) (h6 : cs[6]? = some (.int .u32 (at' : Int))) (h7 : cs[7]? = some (.slice (some ⟨bb, bo, none⟩) bs.length bc)) (han : at' + bs.length ≤ 5120) (hnow : now.length = 5120)
    (hb : w.heap[nb]? = some (.cells (nowC now) tn (0, 0))) (hne : xb ≠ nb) (hbb : bb ≠ nb) (hby : ∀ j u, (u8s bs)[j]? = some u → w.cell? ⟨bb, bo + j, none⟩ = some u) (hbl : bb < w.heap.size)
    (hR : ∀ a' w', Fr 288 (l9G v mb nb wb i xb ow) a' → Upd [nb] w w' → w'.heap[nb]? = some (.cells (nowC (splice now at' bs)) tn (0, 0)) → R .normal a' w') :
    (Code.loop (lblk Try.f3 9)).wp Try.prog (Exit.inBlock 9 R) a w := by
  refine wp_nopb ?_
  refine wp_loop (fun a' w' => ∃ k : Nat, k ≤ bs.length ∧ Fr 288 ((12, .bool true) :: (14, .int .i64 k) :: l9G v mb nb wb i xb ow) a' ∧ Upd [nb] w w' ∧ w'.heap[nb]? = some (.cells (nowC (splice now at' (bs.take k))) tn (0, 0)))
    (fun a' _ => bs.length - (intOf (a'.tmps.getD 14 undef)).toNat) ⟨0, Nat.zero_le _, hf, Upd.refl _ _, by simpa [splice] using hb⟩ ?_
  rintro a' w' ⟨k, hk, hf', hu, hb'⟩
  have HC : ∀ w2, Upd [nb] w w2 → w2.cell? ⟨xb, 6, none⟩ = some (.int .u32 (at' : Int)) ∧ w2.cell? ⟨xb, 7, none⟩ = some (.slice (some ⟨bb, bo, none⟩) bs.length bc) ∧ (∀ h : k < bs.length, w2.cell? ⟨bb, bo + k, none⟩ = some (.int .u8 (bs[k].toNat : Int))) := fun w2 hu =>
    ⟨(hu.cell (lt_of_block hx) (by simpa using hne)).trans (cell_at hx h6), (hu.cell (lt_of_block hx) (by simpa using hne)).trans (cell_at hx h7), fun h => (hu.cell (a := ⟨bb, bo + k, none⟩) hbl (by simpa using hbb)).trans (hby k _ (by simp [u8s, h]))⟩
  obtain ⟨n, hn⟩ : ∃ n, bs.length = n := ⟨_, rfl⟩
  obtain ⟨g, rfl, hgg⟩ := fr_lit288 hf'
  obtain ⟨hg12, hg14, hg0, hg3, hg5, hg6, hg7, hg8, hg9, -⟩ := hgg
  rw [hg12, hg14, hg0, hg3, hg5, hg6, hg7, hg8, hg9]
  clear hg12 hg14 hg0 hg3 hg5 hg6 hg7 hg8 hg9
  have HR := Lib.hid hR
  clear hR hf hf'
  conv => arg 2; whnf
  by_cases hlt : k < bs.length
  · have hls : (splice now at' (bs.take k)).length = now.length := length_splice _ _ _ (by simp; omega)
    have hlk : (bs.take k).length = k := by simp; omega
    have hss := splice_snoc now at' (bs.take k) bs[k] (by omega)
    rw [hlk, ← List.take_succ_eq_append_getElem hlt] at hss
    obtain ⟨u, hcu⟩ : ∃ u, bs[k] = u := ⟨_, rfl⟩
    obtain ⟨c6, c7, c8⟩ := HC _ hu
    have c8 := c8 hlt
    rw [hcu] at hss c8
    obtain ⟨u0, cb⟩ : ∃ u, w'.cell? ⟨nb, at' + k, none⟩ = some (.int .u8 u) := ⟨_, cell_at hb' (nowC_cell (i := at' + k) (by omega))⟩
    have cf := frz (i := at' + k) hb'
    have hb2 : ((w'.setCell ⟨nb, at' + k, none⟩ (.int .u8 (u.toNat : Int))).drew).heap[nb]? = _ := heap_setc (i := at' + k) (u := .int .u8 (u.toNat : Int)) hb'
    rw [nowC_set _ _ _ (by omega), hss] at hb2
    have hu2 : Upd [nb] w (w'.setCell ⟨nb, at' + k, none⟩ (.int .u8 (u.toNat : Int))).drew := Upd.trans (upd_setc (i := at' + k) (.int .u8 (u.toNat : Int)) hu (b := nb) (by simp)) (Upd.of_ext (ext_drew (Ext.refl _)))
    rw [hn] at c7 hlt han hk
    have HB2 := Lib.hid hb2
    have HU := Lib.hid hu2
    have HN := Lib.hid hn
    have HU8 := Lib.hid hcu
    have HCC := Lib.hid HC
    have hlt2 : decide ((k : Int) < (n : Int)) = true := by simpa using hlt
    clear hb2 hss hls hb hb' hu2 hn hcu hlk HC
    go_wp2
    clear c6 c7 c8
    refine rg_begin ((fun x => Upd [nb] w x)) (by kernel_rfl) ?_
    have hS : Upd [nb] w w'.drew := Upd.trans hu (Upd.of_ext (ext_drew (Ext.refl _)))
    refine rg_held 0 (some 234) (v := ?v1) rfl rfl (by kernel_rfl) (by kernel_rfl) (by kernel_rfl) (fun _ _ _ h => h) (by rfl) ?h1 hS ?_
    case h1 => (intro w' hS'; (skip); go_simp; try with_reducible rfl)
    simp only [Act.put, List.setIfInBounds_toArray, List.set_cons_zero, List.set_cons_succ]
    refine rg_held 1 (some 235) (v := ?v2) rfl rfl (by kernel_rfl) (by kernel_rfl) (by kernel_rfl) (fun _ _ _ h => h) (by rfl) ?h2 hS ?_
    case h2 => (intro w' hS'; (obtain ⟨c6, c7, c8⟩ := HCC.out _ hS'); go_simp; try with_reducible rfl)
    simp only [Act.put, List.setIfInBounds_toArray, List.set_cons_zero, List.set_cons_succ]
    refine rg_held 2 (some 236) (v := ?v3) rfl rfl (by kernel_rfl) (by kernel_rfl) (by kernel_rfl) (fun _ _ _ h => h) (by rfl) ?h3 hS ?_
    case h3 => (intro w' hS'; (have e1 : IntKind.i64.wrap (at' : Int) = at' := IntWalk.i64_in _ (by omega)); go_simp; try with_reducible rfl)
    simp only [Act.put, List.setIfInBounds_toArray, List.set_cons_zero, List.set_cons_succ]
    refine rg_held 3 (some 237) (v := ?v4) rfl rfl (by kernel_rfl) (by kernel_rfl) (by kernel_rfl) (fun _ _ _ h => h) (by rfl) ?h4 hS ?_
    case h4 => (intro w' hS'; (skip); go_simp; try with_reducible rfl)
    simp only [Act.put, List.setIfInBounds_toArray, List.set_cons_zero, List.set_cons_succ]
    refine rg_held 4 (some 238) (v := ?v5) rfl rfl (by kernel_rfl) (by kernel_rfl) (by kernel_rfl) (fun _ _ _ h => h) (by rfl) ?h5 hS ?_
    case h5 => (intro w' hS'; (have e1 : IntKind.i64.wrap ((at' : Int) + k) = at' + k := IntWalk.i64_in _ (by omega)); go_simp; try with_reducible rfl)
    simp only [Act.put, List.setIfInBounds_toArray, List.set_cons_zero, List.set_cons_succ]
    refine rg_held 5 (some 239) (v := ?v6) rfl rfl (by kernel_rfl) (by kernel_rfl) (by kernel_rfl) (fun _ _ _ h => h) (by rfl) ?h6 hS ?_
    case h6 => (intro w' hS'; (skip); go_simp; try with_reducible rfl)
    simp only [Act.put, List.setIfInBounds_toArray, List.set_cons_zero, List.set_cons_succ]
    refine rg_held 6 (some 240) (v := ?v7) rfl rfl (by kernel_rfl) (by kernel_rfl) (by kernel_rfl) (fun _ _ _ h => h) (by rfl) ?h7 hS ?_
    case h7 => (intro w' hS'; (obtain ⟨c6, c7, c8⟩ := HCC.out _ hS'; rw [HN.out] at c7); go_simp; try with_reducible rfl)
    simp only [Act.put, List.setIfInBounds_toArray, List.set_cons_zero, List.set_cons_succ]
    refine rg_held 7 (some 241) (v := ?v8) rfl rfl (by kernel_rfl) (by kernel_rfl) (by kernel_rfl) (fun _ _ _ h => h) (by rfl) ?h8 hS ?_
    case h8 => (intro w' hS'; (skip); go_simp; try with_reducible rfl)
    simp only [Act.put, List.setIfInBounds_toArray, List.set_cons_zero, List.set_cons_succ]
    refine rg_held 8 (some 242) (v := ?v9) rfl rfl (by kernel_rfl) (by kernel_rfl) (by kernel_rfl) (fun _ _ _ h => h) (by rfl) ?h9 hS ?_
    case h9 => (intro w' hS'; (skip); go_simp; try with_reducible rfl)
    simp only [Act.put, List.setIfInBounds_toArray, List.set_cons_zero, List.set_cons_succ]
    refine rg_held 9 (some 243) (v := ?v10) rfl rfl (by kernel_rfl) (by kernel_rfl) (by kernel_rfl) (fun _ _ _ h => h) (by rfl) ?h10 hS ?_
    case h10 => (intro w' hS'; (obtain ⟨c6, c7, c8⟩ := HCC.out _ hS'; replace c8 := c8 (by omega); rw [HU8.out] at c8); go_simp; try with_reducible rfl)
    simp only [Act.put, List.setIfInBounds_toArray, List.set_cons_zero, List.set_cons_succ]
    refine rg_held 10 (some 244) (v := ?v11) rfl rfl (by kernel_rfl) (by kernel_rfl) (by kernel_rfl) (fun _ _ _ h => h) (by rfl) ?h11 hS ?_
    case h11 => (intro w' hS'; (have e1 : (0 : Int) ≤ (at' : Int) + k := (by omega); have e3 : (at' : Int) + k < 5120 := (by omega); have e2 : ((at' : Int) + k).toNat = at' + k := (by omega)); go_simp; try with_reducible rfl)
    simp only [Act.put, List.setIfInBounds_toArray, List.set_cons_zero, List.set_cons_succ]
    refine rg_unit 11 none (w' := ?w12) rfl rfl (by kernel_rfl) (by rfl) ?h12 ?s12 ?_
    case h12 => ((skip); go_simp; try with_reducible rfl)
    case s12 => exact HU.out
    simp only [Act.put]
    refine rg_done (by kernel_rfl) ?_
    go_wp2
    exact ⟨⟨k + 1, by omega, fr_mk rfl ⟨rfl, by go_num, rfl, rfl, rfl, rfl, rfl, rfl, rfl, trivial⟩, HU.out, HB2.out⟩, by simp [intOf]; omega⟩
  · obtain rfl : k = bs.length := by omega
    rw [List.take_length] at hb'
    have HB := Lib.hid hb'
    obtain ⟨c6, c7, c8⟩ := HC _ hu
    rw [hn] at c7 han hk
    rw [hn]
    clear hb' hb c8 HC hn hlt
    go_wp2
    exact HR.out _ _ (fr_mk rfl ⟨rfl, rfl, rfl, rfl, rfl, rfl, rfl, trivial⟩) hu HB.out
end
end Go.Proofs.Ytlafdnbjkkbmfaa
