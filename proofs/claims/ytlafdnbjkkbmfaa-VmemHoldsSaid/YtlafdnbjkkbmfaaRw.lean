/- package frame: Read, Write, New; no condition. -/
import Derived.Test.YtlafdnbjkkbmfaaByt
namespace Go.Proofs.Ytlafdnbjkkbmfaa
open Go.RowKit
attribute [local go_sem] run_mf
attribute [local go_sem ↓] Go.wp_at_zero Go.wp_at_succ
attribute [local go_sem ↓] st_tak wp_load_tak
attribute [local go_sem] takC_zero
section
variable {w : World} {pb fb rb : Nat} {many : Int} {F : List (Int × Tak)} {R : List (Int × Int)}
theorem thr_ok {n i k : Int} (h : thrE F many n i k = 0) : 0 ≤ n ∧ n < many ∧ 0 ≤ i ∧ i ≤ 256 ∧ 0 ≤ k ∧ i + k ≤ 256 ∧ (getL F n).isSome = true := by
  unfold thrE at h
  split at h
  · cases h
  · split at h
    · cases h
    · split at h
      · cases h
      · simp only [Bool.or_eq_true, decide_eq_true_eq, not_or] at *
        refine ⟨by omega, by omega, by omega, by omega, by omega, by omega, ?_⟩
        cases hg : getL F n <;> simp_all
theorem takC_cell (t : Tak) (j : Nat) : (takC t)[j + 1]? = (u8s t.bytes)[j]? := by simp [takC]
theorem tak_bytes (t : Tak) (w : World) (b i k : Nat) (hs : (takC t).size = 257) (hik : i + k ≤ 256) (hb : w.heap[b]? = some (.cells (takC t) 96 (0, 0))) {a : Nat} (ha : k = 0 ∨ a = i) :
    BytesAt w (.slice (some ⟨b, 1 + a, none⟩) k (256 - i)) ((t.bytes.drop i).take k) := by
  have hl : t.bytes.length = 256 := by rw [takC_size] at hs; omega
  have hk : ((t.bytes.drop i).take k).length = k := by simp; omega
  refine .inr ⟨b, 1 + a, 256 - i, by rw [hk], by omega, by simp [maxLen]; omega, lt_of_block hb, fun j u hu => ?_⟩
  have hj : j < k := by
    have := (List.getElem?_eq_some_iff.1 hu).1
    rw [u8s_len, hk] at this; exact this
  rcases ha with rfl | rfl
  · omega
  · rw [show 1 + a + j = (a + j) + 1 by omega]
    refine cell_at hb ?_
    rw [takC_cell]
    simp only [u8s, List.getElem?_map, List.getElem?_take, List.getElem?_drop, if_pos hj] at hu ⊢
    exact hu
theorem undB : Try.prog.underlying 94 = some (.array (Try.prog.arrayLen 94) (Try.prog.elem 94)) := by kernel_rfl
theorem lenB : Try.prog.arrayLen 94 = 256 := by kernel_rfl
theorem elemB : Try.prog.elem 94 = 5 := by kernel_rfl
theorem sizeB (W : World) : (sizeOf 5).run Try.prog W = .ok 1 W := by
  obtain ⟨x, hi, hz, hs, hb⟩ := byteInfo
  simp [sizeOf, typeInfo, hi, hs]
theorem run_slB {W : World} {b i k : Nat} (h : i + k ≤ 256) :
    (Instr.sliceAt 94 (.pointer (some ⟨b, 1, none⟩)) (some (.int .i64 (i : Int))) (some (.int .i64 ((i : Int) + (k : Int)))) none).run Try.prog W = .ok (.slice (some ⟨b, 1 + (if 256 = i then 0 else i), none⟩) k (256 - i)) W := by
  have e2 : ((i : Int) + (k : Int)).toNat = i + k := by omega
  rw [run_sliceAt_array_lh (P := Try.prog) W _ ⟨b, 1, none⟩ undB .i64 .i64 i (i + k) (by omega) (by omega) (by rw [lenB]; omega), elemB, sizeB, lenB, Result.andThen_ok, e2, slicedAt]
  simp only [Int.toNat_natCast, Nat.mul_one, Nat.add_sub_cancel_left]
  by_cases hi : 256 = i
  · rw [if_pos hi, if_pos hi]
  · rw [if_neg hi, if_neg hi, add_lit]
theorem run_slB0 {W : World} {b i : Nat} (h : i ≤ 256) :
    (Instr.sliceAt 94 (.pointer (some ⟨b, 1, none⟩)) (some (.int .i64 (i : Int))) none none).run Try.prog W = .ok (.slice (some ⟨b, 1 + (if 256 = i then 0 else i), none⟩) (256 - i) (256 - i)) W := by
  rw [run_sliceAt_array_l (P := Try.prog) W _ ⟨b, 1, none⟩ undB .i64 i (by omega) (by rw [lenB]; omega), elemB, sizeB, lenB, Result.andThen_ok, slicedAt]
  simp only [Int.toNat_natCast, Nat.mul_one]
  by_cases hi : 256 = i
  · rw [if_pos hi, if_pos hi]
  · rw [if_neg hi, if_neg hi, add_lit]
set_option maxRecDepth 100000 in
set_option maxHeartbeats 1000000 in
theorem frame_read {n i k : Int} (h : PoolAt w pb fb rb many F R) (hF : FOk F) :
    Calls Try.prog 59 #[.pointer (some ⟨pb, 0, none⟩), .int .i64 n, .int .i64 i, .int .i64 k] w fun e w' => ∃ v, e = .returned (.tuple #[v, .int .i64 (thrE F many n i k)]) ∧ Ext w w' ∧
      (thrE F many n i k = 0 → BytesAt w' v (((((getL F n).getD tak0).bytes).drop i.toNat).take k.toNat)) ∧ (thrE F many n i k ≠ 0 → v = .slice none 0 0) := by
  obtain ⟨r, hr⟩ : ∃ r, thrE F many n i k = r := ⟨_, rfl⟩
  have hth := frame_there (n := n) (i := i) (k := k) h hF
  rw [hr] at hth ⊢
  have ht := tak_ok hF n
  have hl := fun w2 (hx : Ext w w2) => lookF0 (h.ext hx) n
  obtain ⟨t, htt⟩ : ∃ t, t = (getL F n).getD tak0 := ⟨_, rfl⟩
  simp only [← htt] at hl ht ⊢
  clear htt
  go_enter Try.func59, Try.ntmps59
  go_wp2_with fail
  refine hth.mono ?_
  rintro e w2 ⟨rfl, hx⟩
  have h2 := h.ext hx
  by_cases h0 : r = 0
  · subst h0
    obtain ⟨b1, b2, b3, b4, b5, b6, b7⟩ := thr_ok hr
    obtain ⟨i, rfl⟩ := Int.eq_ofNat_of_zero_le b3
    obtain ⟨k, rfl⟩ := Int.eq_ofNat_of_zero_le b5
    have c0 := h2.c0
    replace hl := hl _ hx
    clear hr hth b7
    have hwr : IntKind.i64.wrap ((i : Int) + (k : Int)) = (i : Int) + k := IntWalk.i64_in _ (by omega)
    have hpb : ¬ pb = w2.heap.size := by have := lt_of_block h2.blk; omega
    have hsl := run_slB (W := w2.alloc (.cells (takC t) 96)) (b := w2.heap.size) (i := i) (k := k) (by omega)
    have hbt := tak_bytes t (w2.alloc (.cells (takC t) 96)) w2.heap.size i k ht (by omega) (World.alloc_heap_new _ _) (a := if 256 = i then 0 else i) (by by_cases hi : 256 = i; (left; omega); (right; rw [if_neg hi]))
    have hbl : ((t.bytes.drop i).take k).length ≤ 1000000000 := by simp; omega
    have hcl := s_clone hbt hbl
    obtain ⟨sv, hsv⟩ : ∃ sv, sv = Value.slice (some ⟨w2.heap.size, 1 + (if 256 = i then 0 else i), none⟩) k (256 - i) := ⟨_, rfl⟩
    have hx3 : Ext w (w2.alloc (.cells (takC t) 96)) := ext_n _ hx
    rw [← hsv] at hsl hcl
    clear hsv hbt
    go_wp2_with fail
    refine hcl.mono ?_
    rintro e w3 ⟨v, rfl, hv, hx4, _⟩
    go_wp2
    refine bodyPost_ret (v := .tuple #[v, .int .i64 0]) ?_ rfl ⟨_, rfl, Ext.trans hx3 hx4, ?_⟩
    · simp [results, Try.results59, go_sem]
    · simpa using hv
  · have hr0 : (r != 0) = true := by simp [h0]
    go_wp2
    refine bodyPost_ret (v := .tuple #[.slice none 0 0, .int .i64 r]) ?_ rfl ⟨_, rfl, hx, fun h => absurd h h0, fun _ => rfl⟩
    simp [results, Try.results59, go_sem]
theorem exec_load_tak {dst : Option Tmp} {ty : TypeId} {pos : String} {after : Array Edge} {gd : Option (Nat × Bool)} {x : Operand} {f : Operand → Value} {W : World} {b : Nat} {t : Tak}
    (ha : f x = .pointer (some ⟨b, 0, none⟩)) (hb : W.heap[b]? = some (.cells (takC t) 96 (0, 0))) (ht : (takC t).size = 257) :
    (execOp f { dst := dst, op := .load 96 x, type := ty, pos := pos, after := after, guard := gd }).run Try.prog W = .ok (.value (.agg (takC t))) W := by
  have h : (loadVar 96 ⟨b, 0, none⟩).run Try.prog W = .ok (.agg (takC t)) W := by
    simp only [loadVar, Sem.run_bind, Try.isAgg96, Result.andThen, if_true, Try.sizeOf96, run_loadCells_blk ht hb, Sem.run_pure]
  unfold execOp
  simp only [ha, Instr.loadAt, Instr.sureAddr, Sem.run_bind, Sem.run_pure, Result.andThen_ok, h]
theorem run_copyB {W w0 : World} {g off dn dc n c : Nat} {dp sp : Option Addr} {cur : Array Value} {T : TypeId} {bs : List UInt8} (hg : W.heap[g]? = some (.cells cur T (0, 0))) (hn : bs.length = n) (hnd : n ≤ dn)
    (hpos : 0 < n → dp = some ⟨g, off, none⟩ ∧ ∃ ad, sp = some ad ∧ ∀ j v, (u8s bs)[j]? = some v → W.cell? (ad.add j) = some v) (hfit : off + n ≤ cur.size) (hx : Ext w0 W) (hB : w0.heap.size ≤ g) :
    ∃ W', (Builtin.copy_ #[35, 35] 3 #[.slice dp dn dc, .slice sp n c]).run Try.prog W = .ok (.int .i64 (n : Int)) W' ∧ W'.heap[g]? = some (.cells (splice cur.toList off (u8s bs)).toArray T (0, 0)) ∧ Ext w0 W' := by
  have hlen : (u8s bs).length = n := by rw [u8s_len, hn]
  by_cases h0 : n = 0
  · have hnil : u8s bs = [] := List.eq_nil_of_length_eq_zero (by omega)
    refine ⟨W, ?_, ?_, hx⟩
    · have := run_copy_none (P := Try.prog) W 35 35 3 5 dp sp dn dc n c Try.underlying35 (by kernel_rfl) (by simp [h0])
      rw [this, h0]; rfl
    · rw [hnil]; simpa [splice] using hg
  · obtain ⟨rfl, ad, rfl, hsrc⟩ := hpos (by omega)
    refine ⟨W.setRow g (cur.toList.take off ++ (u8s bs ++ cur.toList.drop (off + (u8s bs).length))).toArray, ?_, ?_, ?_⟩
    · have := run_copy_row (P := Try.prog) W 35 35 3 5 g off dn dc ad n c cur T (u8s bs) Try.underlying35 (by kernel_rfl) hg (by rw [hlen]; exact (Nat.min_eq_left hnd).symm) hsrc (by rw [hlen]; exact hfit) (u8s_one bs)
      rw [this, hlen, List.append_assoc]; rfl
    · simpa [splice] using setRow_heap W g _ _ T _ hg
    · exact below_setRow hx hB _
/-- a frame whose bytes were written to -/
def wrt (t : Tak) (i : Nat) (bs : List UInt8) : Tak := ⟨t.owner, splice t.bytes i bs⟩
theorem wrt_cells (t : Tak) (i : Nat) (bs : List UInt8) : (splice (takC t).toList (1 + i) (u8s bs)).toArray = takC (wrt t i bs) := by
  simp only [wrt, takC, splice, u8s, List.map_append, List.map_take, List.map_drop, List.length_map]
  rw [show 1 + i = i + 1 by omega, show i + 1 + bs.length = (i + bs.length) + 1 by omega, List.take_succ_cons, List.drop_succ_cons]
  rfl
theorem wrt_size (t : Tak) (i : Nat) (bs : List UInt8) (hs : (takC t).size = 257) (h : i + bs.length ≤ 256) : (takC (wrt t i bs)).size = 257 := by
  rw [takC_size] at hs ⊢
  simp only [wrt]
  rw [length_splice _ _ _ (by omega)]
  exact hs
set_option maxRecDepth 100000 in
set_option maxHeartbeats 1000000 in
theorem frame_write {n i : Int} {v : Value} {bs : List UInt8} (h : PoolAt w pb fb rb many F R) (hF : FOk F) (hv : BytesAt w v bs) (hbs : bs.length ≤ 1000000000) :
    Calls Try.prog 57 #[.pointer (some ⟨pb, 0, none⟩), .int .i64 n, .int .i64 i, v] w fun e w' => e = .returned (.int .i64 (thrE F many n i (bs.length : Nat))) ∧ Upd [fb] w w' ∧
      PoolAt w' pb fb rb many (if thrE F many n i (bs.length : Nat) = 0 then putL F n (wrt ((getL F n).getD tak0) i.toNat bs) else F) R := by
  obtain ⟨r, hr⟩ : ∃ r, thrE F many n i (bs.length : Nat) = r := ⟨_, rfl⟩
  have hth := frame_there (n := n) (i := i) (k := (bs.length : Nat)) h hF
  rw [hr] at hth ⊢
  have ht := tak_ok hF n
  have hl := fun w2 (hx : Ext w w2) => lookF0 (h.ext hx) n
  obtain ⟨t, htt⟩ : ∃ t, t = (getL F n).getD tak0 := ⟨_, rfl⟩
  simp only [← htt] at hl ht ⊢
  clear htt
  obtain ⟨va, vc, hvv⟩ := hv.form
  subst hvv
  go_enter Try.func57, Try.ntmps57
  go_wp2_with fail
  refine hth.mono ?_
  rintro e w2 ⟨rfl, hx⟩
  have h2 := h.ext hx
  by_cases h0 : r = 0
  · subst h0
    obtain ⟨b1, b2, b3, b4, b5, b6, b7⟩ := thr_ok hr
    obtain ⟨i, rfl⟩ := Int.eq_ofNat_of_zero_le b3
    have c0 := h2.c0
    replace hl := hl _ hx
    clear hr hth b7
    have hpb : ¬ pb = w2.heap.size := by have := lt_of_block h2.blk; omega
    have hsl := run_slB0 (W := w2.alloc (.cells (takC t) 96)) (b := w2.heap.size) (i := i) (by omega)
    obtain ⟨dp, hdp⟩ : ∃ dp : Option Addr, dp = some ⟨w2.heap.size, 1 + (if 256 = i then 0 else i), none⟩ := ⟨_, rfl⟩
    rw [← hdp] at hsl
    have hdpH := Lib.hid hdp
    have htH := Lib.hid ht
    have hv2 := Lib.hid (hv.ext (Ext.trans hx (ext_n (.cells (takC t) 96) (Ext.refl w2))))
    clear hdp
    have hxa : Ext w2 (w2.alloc (.cells (takC t) 96)) := ext_n _ (Ext.refl _)
    obtain ⟨w4, hcp, hg4, hx4⟩ := run_copyB (W := w2.alloc (.cells (takC t) 96)) (w0 := w2) (g := w2.heap.size) (off := 1 + i) (dn := 256 - i) (dc := 256 - i) (n := bs.length) (c := vc) (dp := dp) (sp := va) (bs := bs) (World.alloc_heap_new _ _) rfl (by omega)
      (fun h0 => by
        refine ⟨by rw [hdpH.out, if_neg (by omega)], ?_⟩
        rcases hv2.out with ⟨_, hnil⟩ | ⟨b, o, cap, hva, _, _, _, hcell⟩
        · rw [hnil] at h0; cases h0
        · injection hva with e1 e2 e3
          exact ⟨_, e1, fun j v hj => by rw [add_lit]; exact hcell j v hj⟩) (by omega) hxa (Nat.le_refl _)
    rw [wrt_cells] at hg4
    have hts : (takC (wrt t i bs)).size = 257 := wrt_size t i bs htH.out (by omega)
    have h4 := h2.ext hx4
    have HG := Lib.hid hg4
    have HTS := Lib.hid hts
    clear hg4 hts hv hbs
    obtain ⟨o, hrun, ho⟩ := (h4.ext (ext_drew (Ext.refl _))).fr.store (P := Try.prog) Try.underlying66 Try.underlying3 n (wrt t i bs)
    have henc : encT (wrt t i bs) = .agg (takC (wrt t i bs)) := rfl
    rw [henc] at hrun
    obtain ⟨t2, ht2⟩ : ∃ t2, t2 = wrt t i bs := ⟨_, rfl⟩
    rw [← ht2] at HG HTS hrun ho
    have ht2H := Lib.hid ht2
    obtain ⟨g, hg⟩ : ∃ g, g = w2.heap.size := ⟨_, rfl⟩
    rw [← hg] at HG
    have hgH := Lib.hid hg
    have hp4 : ∀ w', Upd [fb] w4 w' → w'.cell? ⟨pb, 0, none⟩ = some (.map (some fb)) ∧ w'.heap[g]? = some (.cells (takC t2) 96 (0, 0)) := fun w' hx' => ⟨(hx'.cell (lt_of_block h4.blk) (by simp; exact h4.pne.1)).trans h4.c0, (hx'.block _ (lt_of_block HG.out) (by simp; exact map_ne h4.fr HG.out)).trans HG.out⟩
    have HP4 := Lib.hid hp4
    clear hp4 henc
    go_wp2_with fail
    rw [← hgH.out]
    clear ht2 hg
    refine rg_begin ((fun w' => Upd [fb] w4 w')) (by kernel_rfl) ?_
    have hS : Upd [fb] w4 w4.drew := Upd.of_ext (ext_drew (Ext.refl _))
    refine rg_held 0 (some 31) (v := ?v1) rfl rfl (by kernel_rfl) (by kernel_rfl) (by kernel_rfl) (fun _ _ _ h => h) (by rfl) ?h1 hS ?_
    case h1 => (intro w' hS'; (skip); go_simp; try with_reducible rfl)
    simp only [Act.put, List.setIfInBounds_toArray, List.set_cons_zero, List.set_cons_succ]
    refine rg_held 1 (some 32) (v := ?v2) rfl rfl (by kernel_rfl) (by kernel_rfl) (by kernel_rfl) (fun _ _ _ h => h) (by rfl) ?h2 hS ?_
    case h2 => (intro w' hS'; (skip); go_simp; try with_reducible rfl)
    simp only [Act.put, List.setIfInBounds_toArray, List.set_cons_zero, List.set_cons_succ]
    refine rg_held 2 (some 33) (v := ?v3) rfl rfl (by kernel_rfl) (by kernel_rfl) (by kernel_rfl) (fun _ _ _ h => h) (by rfl) ?h3 hS ?_
    case h3 => (intro w' hS'; (skip); go_simp; try with_reducible rfl)
    simp only [Act.put, List.setIfInBounds_toArray, List.set_cons_zero, List.set_cons_succ]
    refine rg_held 3 (some 34) (v := ?v4) rfl rfl (by kernel_rfl) (by kernel_rfl) (by kernel_rfl) (fun _ _ _ h => h) (by rfl) ?h4 hS ?_
    case h4 => (intro w' hS'; (skip); go_simp; try with_reducible rfl)
    simp only [Act.put, List.setIfInBounds_toArray, List.set_cons_zero, List.set_cons_succ]
    refine rg_held 4 (some 35) (v := ?v5) rfl rfl (by kernel_rfl) (by kernel_rfl) (by kernel_rfl) (fun _ _ _ h => h) (by rfl) ?h5 hS ?_
    case h5 => (intro w' hS'; (obtain ⟨c0, c1⟩ := HP4.out _ hS'); go_simp; try with_reducible rfl)
    simp only [Act.put, List.setIfInBounds_toArray, List.set_cons_zero, List.set_cons_succ]
    refine rg_held 5 (some 36) (v := ?v6) rfl rfl (by kernel_rfl) (by kernel_rfl) (by kernel_rfl) (fun _ _ _ h => h) (by rfl) ?h6 hS ?_
    case h6 => (intro w' hS'; (skip); go_simp; try with_reducible rfl)
    simp only [Act.put, List.setIfInBounds_toArray, List.set_cons_zero, List.set_cons_succ]
    refine rg_held 6 (some 37) (v := .agg (takC t2)) rfl rfl (by kernel_rfl) (by kernel_rfl) (by kernel_rfl) (fun _ _ _ h => h) (by rfl) (fun w' hS' => exec_load_tak (by rfl) (HP4.out _ hS').2 HTS.out) hS ?_
    simp only [Act.put, List.setIfInBounds_toArray, List.set_cons_zero, List.set_cons_succ]
    refine rg_unit 7 none (w' := w4.drew.putObj fb o) rfl rfl (by kernel_rfl) (by rfl) ?hu ?su ?_
    case hu => (go_simp; try with_reducible rfl)
    case su => exact Upd.trans hS (Upd.putObj _ _ _)
    refine rg_done (by kernel_rfl) ?_
    go_wp2
    go_ret
    have hU4 : Upd [fb] w4 (w4.drew.putObj fb o) := Upd.trans hS (Upd.putObj _ _ _)
    refine ⟨rfl, Upd.trans (Upd.of_ext (Ext.trans hx hx4)) hU4, ?_⟩
    have hM : MapI .i64 encT (putL F n t2) (w4.drew.putObj fb o) fb := MapI.put ho (by have := h4.fr.lt; simpa using this)
    rw [← ht2H.out]
    exact h4.upd_fr hU4 hM
  · have hr0 : (r == 0) = false := by simp [h0]
    go_wp2
    go_ret
    exact ⟨rfl, Upd.of_ext hx, by first | exact h2 | (rw [if_neg h0]; exact h2)⟩
end
end Go.Proofs.Ytlafdnbjkkbmfaa
