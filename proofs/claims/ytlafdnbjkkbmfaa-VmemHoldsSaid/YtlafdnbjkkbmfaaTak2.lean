/- package frame: Take; no condition. -/
import Derived.ScopeJumps
import Derived.Scope
import Derived.Test.YtlafdnbjkkbmfaaTake
namespace Go.Proofs.Ytlafdnbjkkbmfaa
open Go.RowKit
attribute [local go_sem] run_mf
attribute [local go_sem ↓] Go.wp_at_zero Go.wp_at_succ
attribute [local go_sem ↓] st_tak wp_load_tak
attribute [local go_sem] takC_zero Oper.semAt_some wide_fn wide_depth wide_round
section
variable {w : World} {pb fb rb : Nat} {many : Int} {F : List (Int × Tak)} {R : List (Int × Int)}
theorem frame_stops {B : Nat} (h : PoolAt w pb fb rb many F R) (hF : FOk F) (hmany : 0 ≤ many ∧ many ≤ 1000000) (hB : w.cell? ⟨B, 0, none⟩ = some (.pointer (some ⟨pb, 0, none⟩))) :
    SeqStopsK Fence.wide 9 Try.prog 71 #[.pointer (some ⟨B, 0, none⟩)] (fun x : Nat => #[Value.int .i64 (x : Int)]) (KeepL [pb, fb, B]) (fun xs => xs = freeL F many.toNat) (fun pre => pre <+: freeL F many.toNat) many.toNat w := fun l J Jx W hW hJ _ hY h0 =>
  frame_free1 hF hmany l B J Jx W (h.ext hW) ((hW.cell (p := ⟨B, 0, none⟩) (World.block_lt_of_cell? _ _ hB)).trans hB) hJ hY h0
def takE (F : List (Int × Tak)) (R : List (Int × Int)) (who : Int) : Int :=
  if (decide (who < 0) || decide (64 ≤ who)) = true then 2 else if (decide ((getL R who).getD 0 ≤ (hasN F who : Nat))) = true then 171 else 0
def takQ (F : List (Int × Tak)) (R : List (Int × Int)) (who : Int) (B : Nat) (v1 v2 : Value) : List (Value × Int × Bool) :=
  [(v1, 1, false), (v2, 2, decide (who < 0) || decide (64 ≤ who)), (.func (.func 51) #[] #[.pointer (some ⟨B, 0, none⟩), .pointer (some ⟨B + 1, 0, none⟩)], 171, decide ((getL R who).getD 0 ≤ (hasN F who : Nat)))]
theorem takQ_E (who : Int) (B : Nat) (v1 v2 : Value) : firstE (takQ F R who B v1 v2) = takE F R who := by simp [takQ, firstE, takE]
/-- a frame just taken -/
def tak1 (who : Int) : Tak := ⟨who, List.replicate 256 0⟩
theorem tak1_cells (who : Int) : Try.zeroCells96.setIfInBounds 0 (.int .i64 who) = takC (tak1 who) := by
  rw [tak0_cells]
  simp only [takC, tak0, tak1, List.setIfInBounds_toArray, List.set_cons_zero]
/-- the frame that is taken -/
def takN (F : List (Int × Tak)) (many : Int) : Int := (((freeL F many.toNat).headD 0 : Nat) : Int)
theorem PoolAt.keep {w' : World} {S : List Nat} (h : PoolAt w pb fb rb many F R) (hu : Upd S w w') (h1 : pb ∉ S) (h2 : fb ∉ S) (h3 : rb ∉ S) : PoolAt w' pb fb rb many F R :=
  ⟨(hu.block _ (lt_of_block h.blk) h1).trans h.blk, h.fr.later (hu.block _ h.fr.lt h2), h.rs.later (hu.block _ h.rs.lt h3), h.ne⟩
set_option maxRecDepth 100000 in
set_option maxHeartbeats 1000000 in
theorem frame_take {who : Int} (h : PoolAt w pb fb rb many F R) (hF : FOk F) (hR : ROk R many) :
    Calls Try.prog 26 #[.pointer (some ⟨pb, 0, none⟩), .int .i64 who] w fun e w' => e = .returned (.tuple #[.int .i64 (if takE F R who = 0 then takN F many else 0), .int .i64 (takE F R who)]) ∧ Upd [fb] w w' ∧
      PoolAt w' pb fb rb many (if takE F R who = 0 then putL F (takN F many) (tak1 who) else F) R := by
  obtain ⟨L, hL⟩ : ∃ L, L = [(#[Value.pointer (some ⟨pb, 0, none⟩)], 45), (#[Value.int .i64 who], 3), (#[Value.int .i64 0], 3)] := ⟨_, rfl⟩
  obtain ⟨W, hW⟩ : ∃ W, blocks w L = W := ⟨_, rfl⟩
  have hxW : Ext w W := hW ▸ blocks_ext L w
  have hb : ∀ (w2 : World), Ext W w2 →
      w2.cell? ⟨w.heap.size, 0, none⟩ = some (.pointer (some ⟨pb, 0, none⟩)) ∧ w2.cell? ⟨w.heap.size + 1, 0, none⟩ = some (.int .i64 who) ∧ w2.heap[w.heap.size + 2]? = some (.cells #[.int .i64 0] 3 (0, 0)) := fun w2 hx => by
    subst hW; subst hL
    exact ⟨cell_at (i := 0) (blocks_at _ w 0 (by simp) hx) rfl, cell_at (i := 0) (blocks_at _ w 1 (by simp) hx) rfl, blocks_at _ w 2 (by simp) hx⟩
  have hP := h.ext hxW
  have hWl : ((w.alloc (.cells #[.pointer (some ⟨pb, 0, none⟩)] 45)).alloc (.cells #[.int .i64 who] 3)).alloc (.cells #[.int .i64 0] 3) = W := by rw [← hW, hL]; rfl
  have hWlH := Lib.hid hWl
  clear hW hL hWl
  obtain ⟨r, hr⟩ : ∃ r, takE F R who = r := ⟨_, rfl⟩
  have hask : ∀ (w2 w3 : World) (v1 v2 : Value), Ext W w2 → Ext w2 w3 → Q Try.prog w2 v1 (.bool false) → Q Try.prog w3 v2 (.bool (decide (who < 0) || decide (64 ≤ who))) →
      Calls Try.prog 31 #[.slice (some ⟨w3.heap.size, 0, none⟩) 3 3] (w3.alloc (.cells (askC (takQ F R who w.heap.size v1 v2)) 78)) fun e w' => e = .returned (.int .i64 r) ∧ Ext w3 w' := fun w2 w3 v1 v2 hx hx' q1 q2 => by
    rw [← hr, ← takQ_E (F := F) (R := R) who w.heap.size v1 v2]
    have hn : Ext w3 (w3.alloc (.cells (askC (takQ F R who w.heap.size v1 v2)) 78)) := ext_n _ (Ext.refl _)
    have hx3 := Ext.trans hx hx'
    refine frame_asks' _ rfl rfl rfl (by decide) ⟨q1.later (Ext.trans hx' hn), fun _ => ⟨q2.later hn, fun _ => ⟨Q.mk Try.call51 fun w' hy => ?_, fun _ => trivial⟩⟩⟩
    obtain ⟨a0, a1, a2⟩ := hb _ (Ext.trans hx3 (Ext.trans hn hy))
    exact frame_tk1 (hP.ext (Ext.trans hx3 (Ext.trans hn hy))) hF a0 a1
  rw [hr]
  have HB := Lib.hid hb
  have HASK := Lib.hid hask
  clear hb hask hr
  refine calls_marks Try.func26 rfl ?_
  simp only [Try.ntmps26, List.size_toArray, List.length_cons, List.length_nil, Nat.reduceAdd, Nat.reduceSub, Array.replicate_succ, Array.replicate_zero, List.push_toArray, List.append_toArray, List.nil_append, List.cons_append]
  go_wp2_with fail
  rw [hWlH.out]
  refine wp_scope_straight ?_
  go_wp2_with fail
  go_cut [5] from 7 to 14 (fun s5 wx => s5 = .int .i64 r ∧ Ext W wx)
  case first =>
    refine rg_begin ((fun w' => Ext W w')) (by kernel_rfl) ?_
    have hS : Ext W W.drew := ext_drew (Ext.refl _)
    refine rg_held 0 (some 7) (v := ?v1) rfl rfl (by kernel_rfl) (by kernel_rfl) (by kernel_rfl) (fun _ _ _ h => h) (by rfl) ?h1 hS ?_
    case h1 => (intro w' hS'; (obtain ⟨c0, c1, c2⟩ := HB.out _ hS'); go_simp; try with_reducible rfl)
    simp only [Act.put, List.setIfInBounds_toArray, List.set_cons_zero, List.set_cons_succ]
    refine rg_held 2 (some 9) (v := ?v2) rfl rfl (by kernel_rfl) (by kernel_rfl) (by kernel_rfl) (fun _ _ _ h => h) (by rfl) ?h2 hS ?_
    case h2 => (intro w' hS'; (obtain ⟨c0, c1, c2⟩ := HB.out _ hS'); go_simp; try with_reducible rfl)
    simp only [Act.put, List.setIfInBounds_toArray, List.set_cons_zero, List.set_cons_succ]
    refine rg_held 4 (some 11) (v := ?v3) rfl rfl (by kernel_rfl) (by kernel_rfl) (by kernel_rfl) (fun _ _ _ h => h) (by rfl) ?h3 hS ?_
    case h3 => (intro w' hS'; (skip); go_simp; try with_reducible rfl)
    simp only [Act.put, List.setIfInBounds_toArray, List.set_cons_zero, List.set_cons_succ]
    refine rg_held 5 (some 12) (v := ?v4) rfl rfl (by kernel_rfl) (by kernel_rfl) (by kernel_rfl) (fun _ _ _ h => h) (by rfl) ?h4 hS ?_
    case h4 => (intro w' hS'; (skip); go_simp; try with_reducible rfl)
    simp only [Act.put, List.setIfInBounds_toArray, List.set_cons_zero, List.set_cons_succ]
    refine rg_call 1 (some 8) rfl rfl (by kernel_rfl) rfl (by rfl) Try.call32 ((frame_is (hP.ext hS)).mono ?_)
    rintro e w2 ⟨v1, rfl, hq1, hx1⟩
    refine ⟨_, rfl, Ext.trans hS hx1, ?_⟩
    replace hS : Ext W w2 := Ext.trans hS hx1
    simp only [Act.put, List.setIfInBounds_toArray, List.set_cons_zero, List.set_cons_succ]
    refine rg_call 3 (some 10) rfl rfl (by kernel_rfl) rfl (by rfl) Try.call33 ((frame_owner who).mono ?_)
    rintro e w3 ⟨v2, rfl, hq2, hx2⟩
    refine ⟨_, rfl, Ext.trans hS hx2, ?_⟩
    replace hS : Ext W w3 := Ext.trans hS hx2
    simp only [Act.put, List.setIfInBounds_toArray, List.set_cons_zero, List.set_cons_succ]
    refine rg_value 6 (some 13) (v := ?v20) (w' := ?w20) rfl rfl (by kernel_rfl) (by rfl) ?h20 ?s20 ?_
    case h20 => ((skip); go_simp; try (first | with_reducible rfl | (refine ⟨?_, ?_⟩ <;> with_reducible rfl)))
    case s20 => exact ext_n _ hS
    simp only [Act.put, List.setIfInBounds_toArray, List.set_cons_zero, List.set_cons_succ]
    refine rg_call 7 (some 14) rfl rfl (by kernel_rfl) rfl (by rfl) Try.call31 ((HASK.out _ _ v1 v2 (Ext.trans (ext_drew (Ext.refl _)) hx1) hx2 hq1 hq2).mono ?_)
    rintro e w4 ⟨rfl, hx4⟩
    refine ⟨_, rfl, Ext.trans hS hx4, ?_⟩
    replace hS : Ext W w4 := Ext.trans hS hx4
    refine rg_held 8 (some 5) (v := ?v5) rfl rfl (by kernel_rfl) (by kernel_rfl) (by kernel_rfl) (fun _ _ _ h => h) (by rfl) ?h5 hS ?_
    case h5 => (intro w' hS'; (skip); go_simp; try with_reducible rfl)
    simp only [Act.put, List.setIfInBounds_toArray, List.set_cons_zero, List.set_cons_succ]
    refine rg_done (by kernel_rfl) ?_
    go_wp2_with fail
    go_meet
    exact ⟨rfl, hS⟩
  case rest =>
    obtain ⟨rfl, hx⟩ := hcut
    have hP' := hP.ext hx
    have hxw : Ext w wc := Ext.trans hxW hx
    clear HASK
    obtain ⟨c0, c1, b2⟩ := HB.out _ hx
    have c2 := cell_at (i := 0) b2 rfl
    have f2 : wc.frozen? ⟨w.heap.size + 2, 0, none⟩ = false := by simp [World.frozen?, b2]
    by_cases h0 : r = 0
    · subst h0
      clear c2 f2 c1
      go_wp2_with fail
      refine wp_label ?_
      go_wp2_with fail
      refine (frame_free _).mono ?_
      rintro e w5 ⟨rfl, hw5⟩
      go_wp2_with fail
      rw [← hw5]
      have hx5 : Ext wc w5 := by rw [hw5]; exact ext_n _ (Ext.refl _)
      have hsz : wc.heap.size < w5.heap.size := by rw [hw5]; simp
      have hB5 : w5.cell? ⟨wc.heap.size, 0, none⟩ = some (.pointer (some ⟨pb, 0, none⟩)) := by rw [hw5]; exact World.cell?_alloc_new _ _ _ _
      have hP5 := hP'.ext hx5
      have hb5 := (HB.out _ (Ext.trans hx hx5)).2.2
      clear hw5
      refine (wpIn_wide (n := 10)).1 (wpIn_rangeFunc_ownG rfl (by decide) (gf := 71) (lb := #[.pointer (some ⟨wc.heap.size, 0, none⟩)]) rfl trivial Try.call71
        (frame_stops hP5 hF ⟨hR.2.2.1, hR.2.2.2.1⟩ hB5) keepL_t (keepL_b (by
          have h1 := lt_of_block hP5.blk
          have h2 := hP5.fr.lt
          intro k hk
          simp at hk
          rcases hk with rfl | rfl | rfl <;> omega)) (Below.refl _ _) (fun _ => rfl)
        (fun pre W' => pre = [] ∧ Below w5.heap.size w5 W')
        (fun c pre W' => (c = .exit 0 ∧ ∃ x, pre = [x] ∧ W'.heap[w.heap.size + 2]? = some (.cells #[.int .i64 (x : Int)] 3 (0, 0))) ∧ Upd [w.heap.size + 2] w5 W')
        (OwnFrom.and (ownFrom_pure _ _) (ownFrom_below (Nat.le_refl _) (Nat.le_refl _)))
        ?ix ⟨rfl, Below.refl _ _⟩
        (fun x => { tmps := #[.pointer (some ⟨pb, 0, none⟩), .int .i64 who, .pointer (some ⟨w.heap.size, 0, none⟩), .pointer (some ⟨w.heap.size + 1, 0, none⟩), .pointer (some ⟨w.heap.size + 1 + 1, 0, none⟩), .int .i64 0, .int .i64 (x : Int), u7, u8, u9, u10, u11, u12, u13, u14, .int .i64 0, .bool false, undef, .pointer (some ⟨pb, 0, none⟩), .func (.func 71) #[] #[.pointer (some ⟨wc.heap.size, 0, none⟩)], .int .i64 (x : Int), undef, undef, undef, undef, undef, undef, undef, undef, undef, undef], defers := [] })
        ?assign ?body ?done ?stop)
      case ix =>
        intro c
        refine OwnFrom.and ?_ (ownFrom_upd (Nat.le_refl _))
        rintro pre W1 W2 row ⟨hc, x, hp, hb⟩ hg hr
        exact ⟨hc, x, hp, ownFrom_cells (fun (_ : Unit) => #[Value.int .i64 (x : Int)]) 3 () W1 W2 row hb hg hr⟩
      case assign =>
        intro l x W' K hK
        gi_wp2
        exact hK
      case body =>
        rintro l pre x W' ⟨rfl, hBel⟩ _
        have hb6 := (hBel.block _ (lt_of_block hb5)).trans hb5
        have c6 := cell_at (i := 0) hb6 rfl
        have f6 : W'.frozen? ⟨w.heap.size + 2, 0, none⟩ = false := by simp [World.frozen?, hb6]
        gi_wp2
        exact ⟨keepsFrom_of_upd (S := [w.heap.size + 2]) (updSet _ (Upd.refl _ _) (by simp)) (by simp; exact lt_of_block hb5), ⟨rfl, x, rfl, heap_set1 hb6⟩, updSet _ (Upd.of_ext hBel) (by simp)⟩
      case done =>
        rintro D xs W' hD hxs ⟨rfl, hBel⟩ hDk
        have hb6 : W'.heap[w.heap.size + 2]? = some (.cells #[.int .i64 (takN F many)] 3 (0, 0)) := by
          rw [takN, ← hxs]
          exact (hBel.block _ (lt_of_block hb5)).trans hb5
        have hU : Upd [w.heap.size + 2] w5 W' := Upd.of_ext hBel
        clear hxs hBel
        have hP6 : PoolAt W' pb fb rb many F R := by
          have h1 := lt_of_block h.blk
          have h2 := h.fr.lt
          have h3 := h.rs.lt
          exact ⟨(hU.block _ (lt_of_block hP5.blk) (by simp; omega)).trans hP5.blk, hP5.fr.later (hU.block _ hP5.fr.lt (by simp; omega)), hP5.rs.later (hU.block _ hP5.rs.lt (by simp; omega)), h.ne⟩
        obtain ⟨n, hn⟩ : ∃ n, takN F many = n := ⟨_, rfl⟩
        rw [hn] at hb6
        have hpfb := h.pne.1
        have hfl := h.fr.lt
        have hB2 : ∀ w2, Upd [fb] W' w2 → w2.cell? ⟨w.heap.size, 0, none⟩ = some (.pointer (some ⟨pb, 0, none⟩)) ∧ w2.cell? ⟨w.heap.size + 1, 0, none⟩ = some (.int .i64 who) ∧ w2.heap[w.heap.size + 2]? = some (.cells #[.int .i64 n] 3 (0, 0)) ∧ w2.cell? ⟨pb, 0, none⟩ = some (.map (some fb)) ∧ w2.heap[D]? = some (.deferred (some [])) := fun w2 hu => by
          obtain ⟨c0, c1, _⟩ := HB.out _ (Ext.trans hx hx5)
          have e0 := World.block_lt_of_cell? _ _ c0
          have e1 := World.block_lt_of_cell? _ _ c1
          have c0' := (hU.cell e0 (by simp)).trans c0
          have c1' := (hU.cell e1 (by simp)).trans c1
          exact ⟨(hu.cell (World.block_lt_of_cell? _ _ c0') (by simp; omega)).trans c0', (hu.cell (World.block_lt_of_cell? _ _ c1') (by simp; omega)).trans c1', (hu.block _ (lt_of_block hb6) (by simp; omega)).trans hb6,
            (hu.cell (lt_of_block hP6.blk) (by simp; exact hpfb)).trans hP6.c0, (hu.block _ (lt_of_block hDk) (by simp; have := hP5.fr.lt; omega)).trans hDk⟩
        have HB2 := Lib.hid hB2
        have hxw6 : Upd [w.heap.size + 2] w W' := Upd.trans (Upd.of_ext (Ext.trans hxw hx5)) hU
        have hxw6 : Ext w W' := hxw6.new (by simp)
        obtain ⟨o, hrun, ho⟩ := (hP6.ext (ext_drew (Ext.refl _))).fr.store (P := Try.prog) Try.underlying66 Try.underlying3 n (tak1 who)
        have henc : encT (tak1 who) = .agg (takC (tak1 who)) := rfl
        rw [henc] at hrun
        clear hB2 hb6 hDk HB c0 b2 hb5 hB5 hU henc
        go_wp2_with fail
        have hnH := Lib.hid hn
        clear hn
        refine rg_begin ((fun w2 => Upd [fb] W' w2)) (by kernel_rfl) ?_
        have hS : Upd [fb] W' W'.drew := Upd.of_ext (ext_drew (Ext.refl _))
        refine rg_held 0 (some 22) (v := ?v6) rfl rfl (by kernel_rfl) (by kernel_rfl) (by kernel_rfl) (fun _ _ _ h => h) (by rfl) ?h6 hS ?_
        case h6 => (intro w' hS'; (obtain ⟨c0, c1, b2, c3, _⟩ := HB2.out _ hS'); go_simp; try with_reducible rfl)
        simp only [Act.put, List.setIfInBounds_toArray, List.set_cons_zero, List.set_cons_succ]
        refine rg_held 1 (some 23) (v := ?v7) rfl rfl (by kernel_rfl) (by kernel_rfl) (by kernel_rfl) (fun _ _ _ h => h) (by rfl) ?h7 hS ?_
        case h7 => (intro w' hS'; (skip); go_simp; try with_reducible rfl)
        simp only [Act.put, List.setIfInBounds_toArray, List.set_cons_zero, List.set_cons_succ]
        refine rg_held 2 (some 24) (v := ?v8) rfl rfl (by kernel_rfl) (by kernel_rfl) (by kernel_rfl) (fun _ _ _ h => h) (by rfl) ?h8 hS ?_
        case h8 => (intro w' hS'; (skip); go_simp; try with_reducible rfl)
        simp only [Act.put, List.setIfInBounds_toArray, List.set_cons_zero, List.set_cons_succ]
        refine rg_held 3 (some 25) (v := ?v9) rfl rfl (by kernel_rfl) (by kernel_rfl) (by kernel_rfl) (fun _ _ _ h => h) (by rfl) ?h9 hS ?_
        case h9 => (intro w' hS'; (skip); go_simp; try with_reducible rfl)
        simp only [Act.put, List.setIfInBounds_toArray, List.set_cons_zero, List.set_cons_succ]
        refine rg_held 4 (some 26) (v := ?v10) rfl rfl (by kernel_rfl) (by kernel_rfl) (by kernel_rfl) (fun _ _ _ h => h) (by rfl) ?h10 hS ?_
        case h10 => (intro w' hS'; (obtain ⟨c0, c1, b2, c3, _⟩ := HB2.out _ hS'); go_simp; try with_reducible rfl)
        simp only [Act.put, List.setIfInBounds_toArray, List.set_cons_zero, List.set_cons_succ]
        refine rg_held 5 (some 27) (v := ?v11) rfl rfl (by kernel_rfl) (by kernel_rfl) (by kernel_rfl) (fun _ _ _ h => h) (by rfl) ?h11 hS ?_
        case h11 => (intro w' hS'; (obtain ⟨c0, c1, b2, c3, _⟩ := HB2.out _ hS'; have c2 := cell_at (i := 0) b2 rfl); go_simp; try with_reducible rfl)
        simp only [Act.put, List.setIfInBounds_toArray, List.set_cons_zero, List.set_cons_succ]
        refine rg_held 6 (some 28) (v := ?v12) rfl rfl (by kernel_rfl) (by kernel_rfl) (by kernel_rfl) (fun _ _ _ h => h) (by rfl) ?h12 hS ?_
        case h12 => (intro w' hS'; (obtain ⟨c0, c1, b2, c3, _⟩ := HB2.out _ hS'); go_simp; try with_reducible rfl)
        simp only [Act.put, List.setIfInBounds_toArray, List.set_cons_zero, List.set_cons_succ]
        refine rg_held 7 (some 29) (v := .agg (takC (tak1 who))) rfl rfl (by kernel_rfl) (by kernel_rfl) (by kernel_rfl) (fun _ _ _ h => h) (by rfl) ?hh hS ?_
        case hh => (intro w' hS'; go_simp; rw [tak1_cells])
        simp only [Act.put, List.setIfInBounds_toArray, List.set_cons_zero, List.set_cons_succ]
        refine rg_unit 8 none (w' := ?w21) rfl rfl (by kernel_rfl) (by rfl) ?h21 ?s21 ?_
        case h21 => ((skip); go_simp; try with_reducible rfl)
        case s21 => exact Upd.trans hS (Upd.putObj _ _ _)
        simp only [Act.put]
        refine rg_done (by kernel_rfl) ?_
        obtain ⟨W7, hW7⟩ : ∃ W7, W7 = W'.drew.putObj fb o := ⟨_, rfl⟩
        have hS7 : Upd [fb] W' W7 := by rw [hW7]; exact Upd.trans hS (Upd.putObj _ _ _)
        have hM7 : MapI .i64 encT (putL F n (tak1 who)) W7 fb := by rw [hW7]; exact MapI.put ho (by have := hP6.fr.lt; simpa using this)
        have hP7 := hP6.upd_fr hS7 hM7
        rw [← hW7]
        clear hW7 hrun hS
        obtain ⟨_, _, b2, _, bD⟩ := HB2.out _ hS7
        have c2 := cell_at (i := 0) b2 rfl
        have f2 : W7.frozen? ⟨w.heap.size + 2, 0, none⟩ = false := by simp [World.frozen?, b2]
        have hxD : wc.heap.size ≤ D := by omega
        have hsw := hxw.size
        have hDn : ¬ w.heap.size + 2 = D := by
          intro e
          rw [← e, b2] at bD
          cases bD
        go_wp2_with fail
        have hset := heap_set1 (u := .int .i64 n) b2
        have hD8 : (W7.setCell ⟨w.heap.size + 2, 0, none⟩ (.int .i64 n)).heap[D]? = some (.deferred (some [])) := (Below.heap_setCell _ _ _ _ (Ne.symm hDn)).trans bD
        have c8 : ((W7.setCell ⟨w.heap.size + 2, 0, none⟩ (.int .i64 n)).putObj D (.deferred none)).cell? ⟨w.heap.size + 2, 0, none⟩ = some (.int .i64 n) := (cell_putObj hDn).trans (cell_at (i := 0) hset rfl)
        refine bodyPostN_mark (v := .tuple #[.int .i64 n, .int .i64 0]) ?_ rfl (run_takeDeferred hD8) ⟨?_, ?_, ?_⟩
        · simp [results, Try.results26, go_sem, c8]
        · simp [hnH.out]
        · have hU8 := upd_set (a := ⟨w.heap.size + 2, 0, none⟩) (.int .i64 n) (Upd.trans (Upd.of_ext hxw6) hS7) (by simp)
          exact ⟨hU8.os, hU8.tape, hU8.output, by have := hU8.size; simpa using this, fun k hk hs => (World.putObj_heap_other (by omega)).trans (hU8.block k hk hs)⟩
        · have hU9 : Upd [w.heap.size + 2, D] W7 ((W7.setCell ⟨w.heap.size + 2, 0, none⟩ (.int .i64 n)).putObj D (.deferred none)) :=
            (updSet _ (Upd.refl _ _) (by simp)).trans ((Upd.putObj _ D _).mono (by simp))
          have h1 := lt_of_block h.blk
          have h2 := h.rs.lt
          have hP9 := hP7.keep hU9 (by simp; omega) (by simp; omega) (by simp; omega)
          simpa [hnH.out] using hP9
      case stop =>
        rintro D c pre W' hD hpre ⟨⟨rfl, x, rfl, hb6'⟩, hU⟩ hDk
        have hb6 : W'.heap[w.heap.size + 2]? = some (.cells #[.int .i64 (takN F many)] 3 (0, 0)) := by
          obtain ⟨t, ht⟩ := hpre
          rw [takN, ← ht]
          exact hb6'
        clear hb6' hpre
        refine wpIn_wide.2 ?_
        have hP6 : PoolAt W' pb fb rb many F R := by
          have h1 := lt_of_block h.blk
          have h2 := h.fr.lt
          have h3 := h.rs.lt
          exact ⟨(hU.block _ (lt_of_block hP5.blk) (by simp; omega)).trans hP5.blk, hP5.fr.later (hU.block _ hP5.fr.lt (by simp; omega)), hP5.rs.later (hU.block _ hP5.rs.lt (by simp; omega)), h.ne⟩
        obtain ⟨n, hn⟩ : ∃ n, takN F many = n := ⟨_, rfl⟩
        rw [hn] at hb6
        have hpfb := h.pne.1
        have hfl := h.fr.lt
        have hB2 : ∀ w2, Upd [fb] W' w2 → w2.cell? ⟨w.heap.size, 0, none⟩ = some (.pointer (some ⟨pb, 0, none⟩)) ∧ w2.cell? ⟨w.heap.size + 1, 0, none⟩ = some (.int .i64 who) ∧ w2.heap[w.heap.size + 2]? = some (.cells #[.int .i64 n] 3 (0, 0)) ∧ w2.cell? ⟨pb, 0, none⟩ = some (.map (some fb)) ∧ w2.heap[D]? = some (.deferred (some [])) := fun w2 hu => by
          obtain ⟨c0, c1, _⟩ := HB.out _ (Ext.trans hx hx5)
          have e0 := World.block_lt_of_cell? _ _ c0
          have e1 := World.block_lt_of_cell? _ _ c1
          have c0' := (hU.cell e0 (by simp)).trans c0
          have c1' := (hU.cell e1 (by simp)).trans c1
          exact ⟨(hu.cell (World.block_lt_of_cell? _ _ c0') (by simp; omega)).trans c0', (hu.cell (World.block_lt_of_cell? _ _ c1') (by simp; omega)).trans c1', (hu.block _ (lt_of_block hb6) (by simp; omega)).trans hb6,
            (hu.cell (lt_of_block hP6.blk) (by simp; exact hpfb)).trans hP6.c0, (hu.block _ (lt_of_block hDk) (by simp; have := hP5.fr.lt; omega)).trans hDk⟩
        have HB2 := Lib.hid hB2
        have hxw6 : Upd [w.heap.size + 2] w W' := Upd.trans (Upd.of_ext (Ext.trans hxw hx5)) hU
        have hxw6 : Ext w W' := hxw6.new (by simp)
        obtain ⟨o, hrun, ho⟩ := (hP6.ext (ext_drew (Ext.refl _))).fr.store (P := Try.prog) Try.underlying66 Try.underlying3 n (tak1 who)
        have henc : encT (tak1 who) = .agg (takC (tak1 who)) := rfl
        rw [henc] at hrun
        clear hB2 hb6 hDk HB c0 b2 hb5 hB5 hU henc
        go_wp2_with fail
        have hnH := Lib.hid hn
        clear hn
        refine rg_begin ((fun w2 => Upd [fb] W' w2)) (by kernel_rfl) ?_
        have hS : Upd [fb] W' W'.drew := Upd.of_ext (ext_drew (Ext.refl _))
        refine rg_held 0 (some 22) (v := ?v13) rfl rfl (by kernel_rfl) (by kernel_rfl) (by kernel_rfl) (fun _ _ _ h => h) (by rfl) ?h13 hS ?_
        case h13 => (intro w' hS'; (obtain ⟨c0, c1, b2, c3, _⟩ := HB2.out _ hS'); go_simp; try with_reducible rfl)
        simp only [Act.put, List.setIfInBounds_toArray, List.set_cons_zero, List.set_cons_succ]
        refine rg_held 1 (some 23) (v := ?v14) rfl rfl (by kernel_rfl) (by kernel_rfl) (by kernel_rfl) (fun _ _ _ h => h) (by rfl) ?h14 hS ?_
        case h14 => (intro w' hS'; (skip); go_simp; try with_reducible rfl)
        simp only [Act.put, List.setIfInBounds_toArray, List.set_cons_zero, List.set_cons_succ]
        refine rg_held 2 (some 24) (v := ?v15) rfl rfl (by kernel_rfl) (by kernel_rfl) (by kernel_rfl) (fun _ _ _ h => h) (by rfl) ?h15 hS ?_
        case h15 => (intro w' hS'; (skip); go_simp; try with_reducible rfl)
        simp only [Act.put, List.setIfInBounds_toArray, List.set_cons_zero, List.set_cons_succ]
        refine rg_held 3 (some 25) (v := ?v16) rfl rfl (by kernel_rfl) (by kernel_rfl) (by kernel_rfl) (fun _ _ _ h => h) (by rfl) ?h16 hS ?_
        case h16 => (intro w' hS'; (skip); go_simp; try with_reducible rfl)
        simp only [Act.put, List.setIfInBounds_toArray, List.set_cons_zero, List.set_cons_succ]
        refine rg_held 4 (some 26) (v := ?v17) rfl rfl (by kernel_rfl) (by kernel_rfl) (by kernel_rfl) (fun _ _ _ h => h) (by rfl) ?h17 hS ?_
        case h17 => (intro w' hS'; (obtain ⟨c0, c1, b2, c3, _⟩ := HB2.out _ hS'); go_simp; try with_reducible rfl)
        simp only [Act.put, List.setIfInBounds_toArray, List.set_cons_zero, List.set_cons_succ]
        refine rg_held 5 (some 27) (v := ?v18) rfl rfl (by kernel_rfl) (by kernel_rfl) (by kernel_rfl) (fun _ _ _ h => h) (by rfl) ?h18 hS ?_
        case h18 => (intro w' hS'; (obtain ⟨c0, c1, b2, c3, _⟩ := HB2.out _ hS'; have c2 := cell_at (i := 0) b2 rfl); go_simp; try with_reducible rfl)
        simp only [Act.put, List.setIfInBounds_toArray, List.set_cons_zero, List.set_cons_succ]
        refine rg_held 6 (some 28) (v := ?v19) rfl rfl (by kernel_rfl) (by kernel_rfl) (by kernel_rfl) (fun _ _ _ h => h) (by rfl) ?h19 hS ?_
        case h19 => (intro w' hS'; (obtain ⟨c0, c1, b2, c3, _⟩ := HB2.out _ hS'); go_simp; try with_reducible rfl)
        simp only [Act.put, List.setIfInBounds_toArray, List.set_cons_zero, List.set_cons_succ]
        refine rg_held 7 (some 29) (v := .agg (takC (tak1 who))) rfl rfl (by kernel_rfl) (by kernel_rfl) (by kernel_rfl) (fun _ _ _ h => h) (by rfl) ?hh hS ?_
        case hh => (intro w' hS'; go_simp; rw [tak1_cells])
        simp only [Act.put, List.setIfInBounds_toArray, List.set_cons_zero, List.set_cons_succ]
        refine rg_unit 8 none (w' := ?w22) rfl rfl (by kernel_rfl) (by rfl) ?h22 ?s22 ?_
        case h22 => ((skip); go_simp; try with_reducible rfl)
        case s22 => exact Upd.trans hS (Upd.putObj _ _ _)
        simp only [Act.put]
        refine rg_done (by kernel_rfl) ?_
        obtain ⟨W7, hW7⟩ : ∃ W7, W7 = W'.drew.putObj fb o := ⟨_, rfl⟩
        have hS7 : Upd [fb] W' W7 := by rw [hW7]; exact Upd.trans hS (Upd.putObj _ _ _)
        have hM7 : MapI .i64 encT (putL F n (tak1 who)) W7 fb := by rw [hW7]; exact MapI.put ho (by have := hP6.fr.lt; simpa using this)
        have hP7 := hP6.upd_fr hS7 hM7
        rw [← hW7]
        clear hW7 hrun hS
        obtain ⟨_, _, b2, _, bD⟩ := HB2.out _ hS7
        have c2 := cell_at (i := 0) b2 rfl
        have f2 : W7.frozen? ⟨w.heap.size + 2, 0, none⟩ = false := by simp [World.frozen?, b2]
        have hxD : wc.heap.size ≤ D := by omega
        have hsw := hxw.size
        have hDn : ¬ w.heap.size + 2 = D := by
          intro e
          rw [← e, b2] at bD
          cases bD
        go_wp2_with fail
        have hset := heap_set1 (u := .int .i64 n) b2
        have hD8 : (W7.setCell ⟨w.heap.size + 2, 0, none⟩ (.int .i64 n)).heap[D]? = some (.deferred (some [])) := (Below.heap_setCell _ _ _ _ (Ne.symm hDn)).trans bD
        have c8 : ((W7.setCell ⟨w.heap.size + 2, 0, none⟩ (.int .i64 n)).putObj D (.deferred none)).cell? ⟨w.heap.size + 2, 0, none⟩ = some (.int .i64 n) := (cell_putObj hDn).trans (cell_at (i := 0) hset rfl)
        refine bodyPostN_mark (v := .tuple #[.int .i64 n, .int .i64 0]) ?_ rfl (run_takeDeferred hD8) ⟨?_, ?_, ?_⟩
        · simp [results, Try.results26, go_sem, c8]
        · simp [hnH.out]
        · have hU8 := upd_set (a := ⟨w.heap.size + 2, 0, none⟩) (.int .i64 n) (Upd.trans (Upd.of_ext hxw6) hS7) (by simp)
          exact ⟨hU8.os, hU8.tape, hU8.output, by have := hU8.size; simpa using this, fun k hk hs => (World.putObj_heap_other (by omega)).trans (hU8.block k hk hs)⟩
        · have hU9 : Upd [w.heap.size + 2, D] W7 ((W7.setCell ⟨w.heap.size + 2, 0, none⟩ (.int .i64 n)).putObj D (.deferred none)) :=
            (updSet _ (Upd.refl _ _) (by simp)).trans ((Upd.putObj _ D _).mono (by simp))
          have h1 := lt_of_block h.blk
          have h2 := h.rs.lt
          have hP9 := hP7.keep hU9 (by simp; omega) (by simp; omega) (by simp; omega)
          simpa [hnH.out] using hP9
    · have hr0 : (r != 0) = true := by simp [h0]
      go_wp2
      refine bodyPostN_ret (v := .tuple #[.int .i64 0, .int .i64 r]) ?_ rfl ⟨by rw [if_neg h0], ?_, ?_⟩
      · simp [results, Try.results26, go_sem, *]
      · exact upd_set _ (Upd.of_ext hxw) (by simp; omega)
      · try rw [if_neg h0]
        exact ⟨(Below.heap_setCell _ _ _ _ (by have := lt_of_block h.blk; simp; omega)).trans hP'.blk, hP'.fr.later (Below.heap_setCell _ _ _ _ (by have := h.fr.lt; simp; omega)), hP'.rs.later (Below.heap_setCell _ _ _ _ (by have := h.rs.lt; simp; omega)), hP'.ne⟩
end
end Go.Proofs.Ytlafdnbjkkbmfaa
