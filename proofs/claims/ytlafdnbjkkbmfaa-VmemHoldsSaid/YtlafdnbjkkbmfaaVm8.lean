/- package vmem: what comes of a reach, part by part; no condition. -/
import Derived.Test.YtlafdnbjkkbmfaaVm5
import Derived.Test.YtlafdnbjkkbmfaaVm2
namespace Go.Proofs.Ytlafdnbjkkbmfaa
open Go.RowKit
attribute [local go_sem] run_mf
attribute [local go_sem ↓] Go.wp_at_zero Go.wp_at_succ
attribute [local go_sem] Oper.semAt_some wide_fn wide_depth wide_round
section
variable {w w' : World} {mb tb eb pb fb rb : Nat} {many : Int} {T : List (Int × Ent)} {F : List (Int × Tak)} {R : List (Int × Int)}
theorem BytesAt.other {W W' : World} {v : Value} {bs : List UInt8} (h : BytesAt W v bs) (hs : W.heap.size ≤ W'.heap.size) (hk : ∀ b i u, W.cell? ⟨b, i, none⟩ = some (.int .u8 u) → W'.cell? ⟨b, i, none⟩ = some (.int .u8 u)) : BytesAt W' v bs := by
  rcases h with h | ⟨b, o, cap, h1, h2, h3, h4, h5⟩
  · exact .inl h
  · refine .inr ⟨b, o, cap, h1, h2, h3, Nat.lt_of_lt_of_le h4 hs, fun j u hu => ?_⟩
    have := h5 j u hu
    have hm := List.mem_of_getElem? hu
    simp [u8s] at hm
    obtain ⟨x, _, rfl⟩ := hm
    exact hk _ _ _ this
theorem BytesAt.set {W : World} {v u u' : Value} {bs : List UInt8} {t : TypeId} {k : Nat} (h : BytesAt W v bs) (hb : W.heap[k]? = some (.cells #[u] t (0, 0))) (hu : ∀ x, u ≠ .int .u8 x) : BytesAt (W.setCell ⟨k, 0, none⟩ u') v bs := by
  refine h.other (by simp [World.setCell]) (fun b i x hx => ?_)
  by_cases hk : b = k
  · exfalso
    subst hk
    cases i with
    | zero => exact hu x (by simpa [World.cell?, hb] using hx)
    | succ i => simp [World.cell?, hb] at hx
  · exact (World.cell?_of_block (w := W) (Below.heap_setCell _ _ _ _ hk)).trans hx
theorem BytesAt.grown {W W' : World} {row : Option Nat} {v : Value} {bs : List UInt8} (h : BytesAt W v bs) (hg : W.grownBy W' row) (hr : ∀ r, row = some r → ∃ o : Obj, W.heap[r]? = some o ∧ o.isCells = false) : BytesAt W' v bs :=
  h.other hg.size fun _ _ _ hx => cell_kept hx hg hr
theorem MemAt.grown {B : Nat} {W W' : World} {row : Option Nat} (h : MemAt W mb tb eb pb fb rb many T F R) (hB : ∀ k ∈ [mb, tb, eb, pb, fb, rb], k < B) (hg : W.grownBy W' row) (hr : ∀ r, row = some r → B ≤ r) : MemAt W' mb tb eb pb fb rb many T F R := by
  have key : ∀ k ∈ [mb, tb, eb, pb, fb, rb], ∀ {o : Obj}, W.heap[k]? = some o → W'.heap[k]? = W.heap[k]? := fun k hk o ho =>
    hg.block k (lt_of_block ho) (fun e => by have := hr k e.symm; have := hB k hk; omega)
  obtain ⟨oe, he, _⟩ := id h.tab.en
  obtain ⟨of, hf, _⟩ := id h.pool.fr
  obtain ⟨og, hgr, _⟩ := id h.pool.rs
  exact ⟨(key mb (by simp) h.blk).trans h.blk, ⟨(key tb (by simp) h.tab.blk).trans h.tab.blk, h.tab.en.later (key eb (by simp) he)⟩,
    ⟨(key pb (by simp) h.pool.blk).trans h.pool.blk, h.pool.fr.later (key fb (by simp) hf), h.pool.rs.later (key rb (by simp) hgr), h.pool.ne⟩, h.ef, h.er⟩
theorem MemAt.lts (h : MemAt w mb tb eb pb fb rb many T F R) : ∀ k ∈ [mb, tb, eb, pb, fb, rb], k < w.heap.size := by
  have h1 := lt_of_block h.blk
  have h2 := lt_of_block h.tab.blk
  have h3 := h.tab.en.lt
  have h4 := lt_of_block h.pool.blk
  have h5 := h.pool.fr.lt
  have h6 := h.pool.rs.lt
  intro k hk
  simp at hk
  rcases hk with rfl | rfl | rfl | rfl | rfl | rfl <;> assumption
/-- what is kept between two rounds -/
structure EachI (w5 W : World) (mb tb eb pb fb rb : Nat) (many : Int) (T : List (Int × Ent)) (F : List (Int × Tak)) (R : List (Int × Int)) (t8 : Nat) (bs : List UInt8) : Prop where
  mem : MemAt W mb tb eb pb fb rb many T F R
  upd : Upd [fb, t8] w5 W
  val : ∃ v, W.heap[t8]? = some (.cells #[v] 35 (0, 0)) ∧ BytesAt W v bs
theorem ent_cells (x : Ent) : encE x = .agg #[.int .i64 x.owner, .int .i64 x.may, .int .i64 x.frame] := rfl
set_option maxRecDepth 100000 in
set_option maxHeartbeats 1000000 in
theorem vm_each {g cb a n : Nat} {v0 : Value} (hcg : ∀ a w, (callFunc g a).run Try.prog w = .ok (.enter g a) w) (hn : n ≤ 16777216) (ha : a < 4294967296) (Ff : List (Nat × Nat × Nat) → List (Int × Tak)) (bf : List (Nat × Nat × Nat) → List UInt8)
    (h : MemAt w mb tb eb pb fb rb many T (Ff []) R) (hv : BytesAt w v0 (bf [])) (hcb : w.cell? ⟨cb, 0, none⟩ = some (.pointer (some ⟨mb, 0, none⟩)))
    (hstep : ∀ pre x v W, pre ++ [x] <+: partsL a n → W.cell? ⟨cb, 0, none⟩ = some (.pointer (some ⟨mb, 0, none⟩)) → MemAt W mb tb eb pb fb rb many T (Ff pre) R → BytesAt W v (bf pre) →
      Calls Try.prog g #[v, .int .i64 ((getL T (x.1 : Int)).getD ent0).frame, encP x, .pointer (some ⟨cb, 0, none⟩)] W fun e W' => ∃ v', e = .returned v' ∧ Upd [fb] W W' ∧ MemAt W' mb tb eb pb fb rb many T (Ff (pre ++ [x])) R ∧ BytesAt W' v' (bf (pre ++ [x]))) :
    Calls Try.prog 55 #[.pointer (some ⟨mb, 0, none⟩), .int .u32 a, .int .i64 (n : Int), v0, .func (.func g) #[] #[.pointer (some ⟨cb, 0, none⟩)]] w fun e w' => ∃ v', e = .returned v' ∧ Upd [fb] w w' ∧ MemAt w' mb tb eb pb fb rb many T (Ff (partsL a n)) R ∧ BytesAt w' v' (bf (partsL a n)) := by
  obtain ⟨va, vc, hvv⟩ := hv.form
  obtain ⟨L, hL⟩ : ∃ L, L = [(#[Value.pointer (some ⟨mb, 0, none⟩)], 25), (#[v0], 35), (#[Value.func (.func g) #[] #[.pointer (some ⟨cb, 0, none⟩)]], 103)] := ⟨_, rfl⟩
  obtain ⟨W, hW⟩ : ∃ W, blocks w L = W := ⟨_, rfl⟩
  have hxW : Ext w W := hW ▸ blocks_ext L w
  have hb : W.heap[w.heap.size]? = some (.cells #[.pointer (some ⟨mb, 0, none⟩)] 25 (0, 0)) ∧ W.heap[w.heap.size + 1]? = some (.cells #[v0] 35 (0, 0)) ∧ W.heap[w.heap.size + 2]? = some (.cells #[.func (.func g) #[] #[.pointer (some ⟨cb, 0, none⟩)]] 103 (0, 0)) := by
    subst hW; subst hL
    exact ⟨blocks_at _ w 0 (by simp) (Ext.refl _), blocks_at _ w 1 (by simp) (Ext.refl _), blocks_at _ w 2 (by simp) (Ext.refl _)⟩
  have hWl : ((w.alloc (.cells #[.pointer (some ⟨mb, 0, none⟩)] 25)).alloc (.cells #[v0] 35)).alloc (.cells #[.func (.func g) #[] #[.pointer (some ⟨cb, 0, none⟩)]] 103) = W := by rw [← hW, hL]; rfl
  have hWlH := Lib.hid hWl
  have hlts := h.lts
  have hP := h.ext hxW
  have HBW := Lib.hid hb
  have hvW := hv.ext hxW
  have HST := Lib.hid hstep
  have hcbW := (hxW.cell (p := ⟨cb, 0, none⟩) (World.block_lt_of_cell? _ _ hcb)).trans hcb
  have hcl := World.block_lt_of_cell? _ _ hcb
  clear hW hL hWl hb hstep hcb hv
  subst hvv
  have HV := Lib.hid hvW
  clear hvW
  refine calls_marks Try.func55 rfl ?_
  simp only [Try.ntmps55, List.size_toArray, List.length_cons, List.length_nil, Nat.reduceAdd, Nat.reduceSub, Array.replicate_succ, Array.replicate_zero, List.push_toArray, List.append_toArray, List.nil_append, List.cons_append]
  go_wp2_with fail
  rw [hWlH.out]
  refine vm_parts.mono ?_
  rintro e w5 ⟨rfl, hx5, p1, p2⟩
  go_wp2_with fail
  have hx05 : Ext w w5 := Ext.trans hxW hx5
  have hW5 := hxW.size
  have h55 := hx5.size
  have hbW := HBW.out
  have k0 : w5.heap[w.heap.size]? = _ := (hx5.block _ (lt_of_block hbW.1)).trans hbW.1
  have k1 : w5.heap[w.heap.size + 1]? = _ := (hx5.block _ (lt_of_block hbW.2.1)).trans hbW.2.1
  have k2 : w5.heap[w.heap.size + 2]? = _ := (hx5.block _ (lt_of_block hbW.2.2)).trans hbW.2.2
  have kc := (hx5.cell (p := ⟨cb, 0, none⟩) (Nat.lt_of_lt_of_le hcl hW5)).trans hcbW
  have hin : ∀ W', Upd [fb, w.heap.size + 1] w5 W' → W'.cell? ⟨w.heap.size, 0, none⟩ = some (.pointer (some ⟨mb, 0, none⟩)) ∧ W'.cell? ⟨w.heap.size + 2, 0, none⟩ = some (.func (.func g) #[] #[.pointer (some ⟨cb, 0, none⟩)]) ∧ W'.cell? ⟨cb, 0, none⟩ = some (.pointer (some ⟨mb, 0, none⟩)) := fun W' hu => by
    have hf := hlts fb (by simp)
    refine ⟨cell_at (i := 0) ((hu.block _ (lt_of_block k0) (by simp; omega)).trans k0) rfl, cell_at (i := 0) ((hu.block _ (lt_of_block k2) (by simp; omega)).trans k2) rfl, (hu.cell (World.block_lt_of_cell? _ _ kc) ?_).trans kc⟩
    simp only [List.mem_cons, List.not_mem_nil, or_false, not_or]
    exact ⟨map_nec (hP.ext hx5).pool.fr kc, by omega⟩
  have HI := Lib.hid hin
  have hI0 : EachI w5 w5 mb tb eb pb fb rb many T (Ff []) R (w.heap.size + 1) (bf []) := ⟨hP.ext hx5, Upd.refl _ _, _, k1, HV.out.ext hx5⟩
  have hl5 := lt_of_block k1
  have K1 := Lib.hid k1
  have HL := Lib.hid hlts
  clear k0 k1 k2 kc hin hbW
  refine (wpIn_wide (n := 10)).1 (wpIn_range_all (gf := 85) (lb := #[.pointer (some ⟨W.heap.size, 0, none⟩), .pointer (some ⟨W.heap.size + 1, 0, none⟩)]) rfl Try.call85
    (vm_all hn ha p1 p2) (fun _ => rfl)
    (fun pre W' => EachI w5 W' mb tb eb pb fb rb many T (Ff pre) R (w.heap.size + 1) (bf pre)) ?own hI0
    (fun x a' W' => ∃ Bx, w5.heap.size ≤ Bx ∧ W'.heap[Bx]? = some (.cells #[.int .i64 (x.1 : Int), .int .i64 (x.2.1 : Int), .int .i64 (x.2.2 : Int)] 101 (0, 0)) ∧ a' = { tmps := #[.pointer (some ⟨mb, 0, none⟩), .int .u32 a, .int .i64 (n : Int), .slice va (bf []).length vc, .func (.func g) #[] #[.pointer (some ⟨cb, 0, none⟩)], .pointer (some ⟨w.heap.size, 0, none⟩), undef, undef, .pointer (some ⟨w.heap.size + 1, 0, none⟩), .pointer (some ⟨w.heap.size + 1 + 1, 0, none⟩), .slice none 0 0, .pointer (some ⟨Bx, 0, none⟩), undef, undef, .int .u32 a, .int .i64 (n : Int), .func (.func 85) #[] #[.pointer (some ⟨W.heap.size, 0, none⟩), .pointer (some ⟨W.heap.size + 1, 0, none⟩)], encP x, undef, undef, undef, undef, undef, undef, undef, undef, undef, undef, undef, undef, undef, undef, undef, undef, undef, undef], defers := [] })
    ?ax ?assign ?body ?done)
  case own =>
    rintro pre W1 W2 row ⟨hm, hu, v, hb, hbv⟩ hg hr
    exact ⟨hm.grown (B := w5.heap.size) (fun k hk => by have := HL.out k hk; omega) hg (fun r e => (hr r e).1), ownFrom_upd (Nat.le_refl _) pre W1 W2 row hu hg hr, v, ownFrom_cells (fun (_ : Unit) => #[v]) 35 () W1 W2 row hb hg hr, hbv.grown hg (fun r e => (hr r e).2)⟩
  case ax =>
    rintro x a' _ W1 W2 row ⟨Bx, hl, hb, rfl⟩ hg hr
    exact ⟨Bx, hl, ownFrom_cells (fun (_ : Unit) => #[Value.int .i64 (x.1 : Int), .int .i64 (x.2.1 : Int), .int .i64 (x.2.2 : Int)]) 101 () W1 W2 row hb hg hr, rfl⟩
  case assign =>
    rintro l pre x W' K ⟨hm, hu, v, hb, hbv⟩ hK
    have hsz := hu.size
    unfold encP at hK
    unfold encP
    have hI' := Lib.hid hbv
    have hb' := Lib.hid hb
    clear hbv hb
    gi_wp2
    have hxn : Ext W' (W'.alloc (.cells #[.int .i64 (x.1 : Int), .int .i64 (x.2.1 : Int), .int .i64 (x.2.2 : Int)] 101)) := ext_n _ (Ext.refl _)
    exact hK _ _ (keepsFrom_of_upd (S := []) (Upd.of_ext hxn) (by simp)) ⟨hm.ext hxn, Upd.trans hu (Upd.of_ext hxn), v, (hxn.block _ (lt_of_block hb'.out)).trans hb'.out, hI'.out.ext hxn⟩ ⟨W'.heap.size, hsz, World.alloc_heap_new _ _, rfl⟩
  case body =>
    rintro l pre x a' W' ⟨hm, hu, v, hb, hbv⟩ ⟨Bx, hBx, hbx, rfl⟩ hpx
    have hsz := hu.size
    have HBV := Lib.hid hbv
    have HB' := Lib.hid hb
    have HBX := Lib.hid hbx
    clear hbv hb hbx
    obtain ⟨y, hy⟩ : ∃ y, y = (getL T (x.1 : Int)).getD ent0 := ⟨_, rfl⟩
    obtain ⟨is, his⟩ : ∃ is, is = (getL T (x.1 : Int)).isSome := ⟨_, rfl⟩
    have hget : ∀ w2, Ext W' w2 → Calls Try.prog 81 #[.pointer (some ⟨tb, 0, none⟩), .int .i64 (x.1 : Int)] w2 fun e w3 => e = .returned (.tuple #[.agg #[.int .i64 y.owner, .int .i64 y.may, .int .i64 y.frame], .bool is]) ∧ Ext w2 w3 := fun w2 hx => by
      rw [hy, his]
      exact page_get (hm.ext hx).tab (x.1 : Int)
    have hst := HST.out pre x
    rw [← hy] at hst
    have HS2 := Lib.hid hst
    have HG := Lib.hid hget
    clear hy his hget hst HST
    have hrd : ∀ w2, Ext W' w2 → w2.cell? ⟨w.heap.size, 0, none⟩ = some (.pointer (some ⟨mb, 0, none⟩)) ∧ w2.cell? ⟨mb, 0, none⟩ = some (.pointer (some ⟨tb, 0, none⟩)) ∧ w2.cell? ⟨Bx, 0, none⟩ = some (.int .i64 (x.1 : Int)) := fun w2 hx =>
      ⟨(HI.out _ (Upd.trans hu (Upd.of_ext hx))).1, (hm.ext hx).c0, cell_at (i := 0) ((hx.block _ (lt_of_block HBX.out)).trans HBX.out) rfl⟩
    have HRD := Lib.hid hrd
    clear hrd
    gi_wp2_with fail
    refine round_drawn' (fun a' W6 => ∃ (yb : Nat) (u13 u18 u19 u20 u21 u22 u23 u24 u25 u26 u27 u28 : Value), a' = { tmps := #[.pointer (some ⟨mb, 0, none⟩), .int .u32 a, .int .i64 (n : Int), .slice va (bf []).length vc, .func (.func g) #[] #[.pointer (some ⟨cb, 0, none⟩)], .pointer (some ⟨w.heap.size, 0, none⟩), undef, undef, .pointer (some ⟨w.heap.size + 1, 0, none⟩), .pointer (some ⟨w.heap.size + 1 + 1, 0, none⟩), .slice none 0 0, .pointer (some ⟨Bx, 0, none⟩), .pointer (some ⟨yb, 0, none⟩), u13, .int .u32 a, .int .i64 (n : Int), .func (.func 85) #[] #[.pointer (some ⟨W.heap.size, 0, none⟩), .pointer (some ⟨W.heap.size + 1, 0, none⟩)], encP x, u18, u19, u20, u21, u22, u23, u24, u25, u26, u27, u28, undef, undef, undef, undef, undef, undef, undef], defers := [] } ∧
      Ext W' W6 ∧ W6.heap[yb]? = some (.cells #[.int .i64 y.owner, .int .i64 y.may, .int .i64 y.frame] 55 (0, 0))) (fun w2 => Ext W' w2) (by kernel_rfl) (by kernel_rfl) ?_ ?_
    · have hS : Ext W' W'.drew := ext_drew (Ext.refl _)
      refine rg_held 0 (some 19) (v := ?v1) rfl rfl (by kernel_rfl) (by kernel_rfl) (by kernel_rfl) (fun _ _ _ h => h) (by rfl) ?h1 hS ?_
      case h1 => (intro w' hS'; (obtain ⟨c0, c1, c2⟩ := HRD.out _ hS'); go_simp; try with_reducible rfl)
      simp only [Act.put, List.setIfInBounds_toArray, List.set_cons_zero, List.set_cons_succ]
      refine rg_held 1 (some 20) (v := ?v2) rfl rfl (by kernel_rfl) (by kernel_rfl) (by kernel_rfl) (fun _ _ _ h => h) (by rfl) ?h2 hS ?_
      case h2 => (intro w' hS'; (skip); go_simp; try with_reducible rfl)
      simp only [Act.put, List.setIfInBounds_toArray, List.set_cons_zero, List.set_cons_succ]
      refine rg_held 2 (some 21) (v := ?v3) rfl rfl (by kernel_rfl) (by kernel_rfl) (by kernel_rfl) (fun _ _ _ h => h) (by rfl) ?h3 hS ?_
      case h3 => (intro w' hS'; (skip); go_simp; try with_reducible rfl)
      simp only [Act.put, List.setIfInBounds_toArray, List.set_cons_zero, List.set_cons_succ]
      refine rg_held 3 (some 22) (v := ?v4) rfl rfl (by kernel_rfl) (by kernel_rfl) (by kernel_rfl) (fun _ _ _ h => h) (by rfl) ?h4 hS ?_
      case h4 => (intro w' hS'; (skip); go_simp; try with_reducible rfl)
      simp only [Act.put, List.setIfInBounds_toArray, List.set_cons_zero, List.set_cons_succ]
      refine rg_held 4 (some 23) (v := ?v5) rfl rfl (by kernel_rfl) (by kernel_rfl) (by kernel_rfl) (fun _ _ _ h => h) (by rfl) ?h5 hS ?_
      case h5 => (intro w' hS'; (obtain ⟨c0, c1, c2⟩ := HRD.out _ hS'); go_simp; try with_reducible rfl)
      simp only [Act.put, List.setIfInBounds_toArray, List.set_cons_zero, List.set_cons_succ]
      refine rg_held 5 (some 24) (v := ?v6) rfl rfl (by kernel_rfl) (by kernel_rfl) (by kernel_rfl) (fun _ _ _ h => h) (by rfl) ?h6 hS ?_
      case h6 => (intro w' hS'; (skip); go_simp; try with_reducible rfl)
      simp only [Act.put, List.setIfInBounds_toArray, List.set_cons_zero, List.set_cons_succ]
      refine rg_held 6 (some 25) (v := ?v7) rfl rfl (by kernel_rfl) (by kernel_rfl) (by kernel_rfl) (fun _ _ _ h => h) (by rfl) ?h7 hS ?_
      case h7 => (intro w' hS'; (obtain ⟨c0, c1, c2⟩ := HRD.out _ hS'); go_simp; try with_reducible rfl)
      simp only [Act.put, List.setIfInBounds_toArray, List.set_cons_zero, List.set_cons_succ]
      refine rg_two 7 11 (by kernel_rfl) ?_ ?_
      · refine op_call 7 (some 26) rfl rfl rfl (by rfl) Try.call81 ((HG.out _ hS).mono ?_)
        rintro e w6 ⟨rfl, hx6⟩
        refine ⟨_, rfl, Ext.trans hS hx6, ?_⟩
        replace hS : Ext W' w6 := Ext.trans hS hx6
        simp only [Act.put, List.setIfInBounds_toArray, List.set_cons_zero, List.set_cons_succ]
        refine rg_held 8 (some 18) (v := ?v8) rfl rfl (by kernel_rfl) (by kernel_rfl) (by kernel_rfl) (fun _ _ _ h => h) (by rfl) ?h8 hS ?_
        case h8 => (intro w' hS'; (skip); go_simp; try with_reducible rfl)
        simp only [Act.put, List.setIfInBounds_toArray, List.set_cons_zero, List.set_cons_succ]
        refine rg_held 9 (some 27) (v := ?v9) rfl rfl (by kernel_rfl) (by kernel_rfl) (by kernel_rfl) (fun _ _ _ h => h) (by rfl) ?h9 hS ?_
        case h9 => (intro w' hS'; (skip); go_simp; try with_reducible rfl)
        simp only [Act.put, List.setIfInBounds_toArray, List.set_cons_zero, List.set_cons_succ]
        refine rg_held 10 (some 28) (v := ?v10) rfl rfl (by kernel_rfl) (by kernel_rfl) (by kernel_rfl) (fun _ _ _ h => h) (by rfl) ?h10 hS ?_
        case h10 => (intro w' hS'; (skip); go_simp; try with_reducible rfl)
        simp only [Act.put, List.setIfInBounds_toArray, List.set_cons_zero, List.set_cons_succ]
        refine rg_value 11 (some 12) (v := ?v16) (w' := ?w16) rfl rfl (by kernel_rfl) (by rfl) ?h16 ?s16 ?_
        case h16 => ((skip); go_simp; try (first | with_reducible rfl | (refine ⟨?_, ?_⟩ <;> with_reducible rfl)))
        case s16 => exact ext_n _ hS
        simp only [Act.put, List.setIfInBounds_toArray, List.set_cons_zero, List.set_cons_succ]
        refine rg_unit 12 none (w' := ?w17) rfl rfl (by kernel_rfl) (by rfl) ?h17 ?s17 ?_
        case h17 => ((skip); go_simp; try with_reducible rfl)
        case s17 => exact ext_n _ hS
        simp only [Act.put]
        replace hS : Ext W' (w6.alloc (.cells #[.int .i64 y.owner, .int .i64 y.may, .int .i64 y.frame] 55)) := ext_n _ hS
        refine rg_held 13 (some 13) (v := ?v11) rfl rfl (by kernel_rfl) (by kernel_rfl) (by kernel_rfl) (fun _ _ _ h => h) (by rfl) ?h11 hS ?_
        case h11 => (intro w' hS'; (skip); go_simp; try with_reducible rfl)
        simp only [Act.put, List.setIfInBounds_toArray, List.set_cons_zero, List.set_cons_succ]
        refine rg_done (by kernel_rfl) ?_
        exact ⟨w6.heap.size, _, _, _, _, _, _, _, _, _, _, _, _, rfl, hS, World.alloc_heap_new _ _⟩
      · refine op_value 11 (some 12) (w' := W'.drew.alloc (.cells #[.int .i64 0, .int .i64 0, .int .i64 0] 55)) (v := .pointer (some ⟨W'.heap.size, 0, none⟩)) rfl rfl rfl ?hh ?kk
        case hh => (go_simp; try (first | with_reducible rfl | (refine ⟨?_, ?_⟩ <;> with_reducible rfl)))
        case kk =>
          refine ⟨ext_n _ hS, ?_⟩
          have hS0 : Ext W' (W'.drew.alloc (.cells #[.int .i64 0, .int .i64 0, .int .i64 0] 55)) := ext_n _ hS
          have hyb0 : (W'.drew.alloc (.cells #[.int .i64 0, .int .i64 0, .int .i64 0] 55)).heap[W'.heap.size]? = some (.cells #[.int .i64 0, .int .i64 0, .int .i64 0] 55 (0, 0)) := World.alloc_heap_new _ _
          replace hS := hS0
          simp only [Act.put, List.setIfInBounds_toArray, List.set_cons_zero, List.set_cons_succ]
          refine rg_call 7 (some 26) rfl rfl (by kernel_rfl) rfl (by rfl) Try.call81 ((HG.out _ hS).mono ?_)
          rintro e w6 ⟨rfl, hx6⟩
          refine ⟨_, rfl, Ext.trans hS hx6, ?_⟩
          replace hS : Ext W' w6 := Ext.trans hS hx6
          simp only [Act.put, List.setIfInBounds_toArray, List.set_cons_zero, List.set_cons_succ]
          have hyb6 := (hx6.block _ (lt_of_block hyb0)).trans hyb0
          refine rg_held 8 (some 18) (v := ?v12) rfl rfl (by kernel_rfl) (by kernel_rfl) (by kernel_rfl) (fun _ _ _ h => h) (by rfl) ?h12 hS ?_
          case h12 => (intro w' hS'; (skip); go_simp; try with_reducible rfl)
          simp only [Act.put, List.setIfInBounds_toArray, List.set_cons_zero, List.set_cons_succ]
          refine rg_held 9 (some 27) (v := ?v13) rfl rfl (by kernel_rfl) (by kernel_rfl) (by kernel_rfl) (fun _ _ _ h => h) (by rfl) ?h13 hS ?_
          case h13 => (intro w' hS'; (skip); go_simp; try with_reducible rfl)
          simp only [Act.put, List.setIfInBounds_toArray, List.set_cons_zero, List.set_cons_succ]
          refine rg_held 10 (some 28) (v := ?v14) rfl rfl (by kernel_rfl) (by kernel_rfl) (by kernel_rfl) (fun _ _ _ h => h) (by rfl) ?h14 hS ?_
          case h14 => (intro w' hS'; (skip); go_simp; try with_reducible rfl)
          simp only [Act.put, List.setIfInBounds_toArray, List.set_cons_zero, List.set_cons_succ]
          have b0 := cell_at (i := 0) hyb6 rfl
          have b1 := cell_at (i := 1) hyb6 rfl
          have b2 := cell_at (i := 2) hyb6 rfl
          have f0 : w6.frozen? ⟨W'.heap.size, 0, none⟩ = false := by simp [World.frozen?, hyb6]
          have f1 : w6.frozen? ⟨W'.heap.size, 1, none⟩ = false := by simp [World.frozen?, hyb6]
          have f2 : w6.frozen? ⟨W'.heap.size, 2, none⟩ = false := by simp [World.frozen?, hyb6]
          refine rg_unit 12 none (w' := ?w18) rfl rfl (by kernel_rfl) (by rfl) ?h18 ?s18 ?_
          case h18 => ((skip); go_simp; try with_reducible rfl)
          case s18 => exact ext_set _ (ext_set _ (ext_set _ hS (Nat.le_refl _)) (Nat.le_refl _)) (Nat.le_refl _)
          simp only [Act.put]
          have hS7 : Ext W' (((w6.setCell ⟨W'.heap.size, 0, none⟩ (.int .i64 y.owner)).setCell ⟨W'.heap.size, 1, none⟩ (.int .i64 y.may)).setCell ⟨W'.heap.size, 2, none⟩ (.int .i64 y.frame)) := ext_set _ (ext_set _ (ext_set _ hS (Nat.le_refl _)) (Nat.le_refl _)) (Nat.le_refl _)
          have hy7 := heap_setc (i := 2) (u := .int .i64 y.frame) (heap_setc (i := 1) (u := .int .i64 y.may) (heap_setc (i := 0) (u := .int .i64 y.owner) hyb6))
          replace hS := hS7
          refine rg_held 13 (some 13) (v := ?v15) rfl rfl (by kernel_rfl) (by kernel_rfl) (by kernel_rfl) (fun _ _ _ h => h) (by rfl) ?h15 hS ?_
          case h15 => (intro w' hS'; (skip); go_simp; try with_reducible rfl)
          simp only [Act.put, List.setIfInBounds_toArray, List.set_cons_zero, List.set_cons_succ]
          refine rg_done (by kernel_rfl) ?_
          exact ⟨W'.heap.size, _, _, _, _, _, _, _, _, _, _, _, _, rfl, hS, hy7⟩
    · rintro a' W6 ⟨yb, u13, u18, u19, u20, u21, u22, u23, u24, u25, u26, u27, u28, rfl, hx6, hyb⟩
      have hu6 := Upd.trans hu (Upd.of_ext hx6)
      obtain ⟨c0, c1, c2⟩ := HI.out _ hu6
      have hm6 := hm.ext hx6
      have hb6 := (hx6.block _ (lt_of_block HB'.out)).trans HB'.out
      have hbx6 := (hx6.block _ (lt_of_block HBX.out)).trans HBX.out
      have hv6 := HBV.out.ext hx6
      have e2 := cell_at (i := 2) hyb rfl
      have e8 := cell_at (i := 0) hb6 rfl
      have x0 := cell_at (i := 0) hbx6 rfl
      have x1 := cell_at (i := 1) hbx6 rfl
      have x2 := cell_at (i := 2) hbx6 rfl
      have hstp := HS2.out v W6 hpx c2 hm6 hv6
      unfold encP at hstp
      unfold encP
      have HV6 := Lib.hid hv6
      have HHB := Lib.hid hb6
      clear hv6 hb6 hbx6 hyb c0
      have hne1 : w.heap.size + 1 ≠ fb := by have := HL.out fb (by simp); omega
      gi_wp2_with fail
      refine (CallsIn.inRound l (callsIn_wide.2 hstp)).mono ?_
      rintro e w7 ⟨v', rfl, hu7, hm7, hv7⟩
      obtain ⟨va', vc', hvv'⟩ := hv7.form
      have hb7 := (hu7.block _ (lt_of_block HHB.out) (by simpa using hne1)).trans HHB.out
      have c7 := cell_at (i := 0) hb7 rfl
      have f7 : w7.frozen? ⟨w.heap.size + 1, 0, none⟩ = false := by simp [World.frozen?, hb7]
      have hvs : ∀ z, v ≠ .int .u8 z := fun z e => by
        obtain ⟨_, _, e2⟩ := HBV.out.form
        rw [e2] at e; cases e
      have H7 := Lib.hid hv7
      have HB7 := Lib.hid hb7
      have HVV := Lib.hid hvs
      clear hv7 hstp hb7 hvs
      subst hvv'
      gi_wp2
      have hset := updSet (S := [w.heap.size + 1]) (a := ⟨w.heap.size + 1, 0, none⟩) (.slice va' (bf (pre ++ [x])).length vc') (Upd.refl _ w7) (by simp)
      refine ⟨?_, ?_, ?_, _, heap_set1 HB7.out, H7.out.set HB7.out HVV.out⟩
      · have hKu : Upd [fb, w.heap.size + 1] W' (w7.setCell ⟨w.heap.size + 1, 0, none⟩ (.slice va' (bf (pre ++ [x])).length vc')) := Upd.trans (Upd.of_ext hx6) (Upd.trans (hu7.mono (by simp)) (hset.mono (by simp)))
        exact keepsFrom_of_upd hKu (fun k hk => by
          have h1 := HL.out fb (by simp)
          simp at hk
          rcases hk with rfl | rfl <;> omega)
      · exact hm7.keep hset (fun k hk => by have := HL.out k hk; simp; omega)
      · exact Upd.trans hu6 (Upd.trans (hu7.mono (by simp)) (hset.mono (by simp)))
  case done =>
    rintro D W' hD ⟨hm, hu, v, hb, hbv⟩ hDk
    have c6 := cell_at (i := 0) hb rfl
    have hDn : ¬ w.heap.size + 1 = D := by
      intro e
      rw [← e, hb] at hDk
      cases hDk
    have HBV := Lib.hid hbv
    clear hbv
    go_wp2_with fail
    have hU9 : Upd [D] W' (W'.putObj D (.deferred none)) := Upd.putObj _ _ _
    refine bodyPostN_mark (v := v) ?_ rfl (run_takeDeferred hDk) ⟨v, rfl, ?_, ?_, ?_⟩
    · simp [results, Try.results55, go_sem]
    · have hU := Upd.trans (Upd.of_ext hx05) hu
      have hDw : w.heap.size ≤ D := by omega
      exact ⟨hU.os, hU.tape, hU.output, by have := hU.size; simpa using this, fun k hk hs => (World.putObj_heap_other (by omega)).trans (hU.block k hk (by simp at hs ⊢; omega))⟩
    · refine hm.keep hU9 (fun k hk => ?_)
      have := HL.out k hk
      simp; omega
    · refine HBV.out.other (by simp) (fun b i u hc => ?_)
      have hne : b ≠ D := by
        rintro rfl
        simp [World.cell?, hDk] at hc
      exact (World.cell?_of_block (w := W') (World.putObj_heap_other hne)).trans hc
end
end Go.Proofs.Ytlafdnbjkkbmfaa
