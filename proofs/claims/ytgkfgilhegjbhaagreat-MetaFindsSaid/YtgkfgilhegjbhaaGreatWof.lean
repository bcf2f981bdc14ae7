/- package window: Of; no condition. -/
import Derived.Test.YtgkfgilhegjbhaaGreatWp
import Derived.RangeFuncNested
import Derived.Test.YtgkfgilhegjbhaaGreatFitW
namespace Go.Proofs.YtgkfgilhegjbhaaGreat
open Go.RowKit
attribute [local go_sem] run_mf
attribute [local go_sem ↓] Go.wp_at_zero Go.wp_at_succ
attribute [local go_sem] Oper.semAt_some wide_fn wide_depth wide_round
/-- the kind of slot s's window's parts that a page is, 0: none -/
def hitK (page s : Int) : Int := firstK fun k => kB k s page
def sitC (page s : Int) : Array Value := sC (hitK page s) s (kC (hitK page s) s page) (kP (hitK page s) s page)
/-- what Of tells of a page -/
def OfIs (page : Int) (x : Array Value) : Prop := (∃ s : Fin 4, hitK page s.val ≠ 0 ∧ x = sitC page s.val) ∨ ((∀ s : Fin 4, hitK page s.val = 0) ∧ x = sC 0 0 0 0)
section
variable {w : World}
set_option maxRecDepth 100000 in
set_option maxHeartbeats 1000000 in
theorem wi_firstP {page s : Int} {pb gb lb : Nat} (s0 : 0 ≤ s) (s4 : s < 4) (p0 : 0 ≤ page) (p1 : page < 65536) (h1 : w.cell? ⟨pb, 0, none⟩ = some (.int .i64 s)) (h2 : w.cell? ⟨gb, 0, none⟩ = some (.int .i64 page))
    (hl : w.heap[lb]? = some (.cells kS 83 (0, 0))) :
    Calls Tryz.prog 39 #[.slice (some ⟨lb, 0, none⟩) 4 4, ofV pb gb] w fun e w' => e = .returned (.tuple #[.agg (if hitK page s = 0 then sC 0 0 0 0 else sitC page s), .bool (decide (hitK page s ≠ 0))]) ∧ Ext w w' := by
  refine (wi_first (b := fun k => kB k s page) (c := fun k => kC k s page) (p := fun k => kP k s page) (s := s) (fun k hk w2 hx => wi_of1 hk s0 s4 p0 p1 ((hx.cell (World.block_lt_of_cell? _ _ h1)).trans h1) ((hx.cell (World.block_lt_of_cell? _ _ h2)).trans h2)) hl).mono ?_
  rintro e w2 ⟨rfl, hx⟩
  refine ⟨?_, hx⟩
  unfold fV hitK siteV sitC sC hitK
  split <;> rfl
theorem wi_places : Calls Tryz.prog 38 #[] w fun e w' => e = .returned (.func (.func 54) #[] #[]) ∧ w = w' := by
  go_enter Tryz.func38, Tryz.ntmps38
  go_wp2
  go_ret
  exact ⟨rfl, rfl⟩
set_option maxRecDepth 100000 in
set_option maxHeartbeats 1000000 in
theorem wi_Of {page : Int} (p0 : 0 ≤ page) (p1 : page < 65536) :
    Calls Tryz.prog 23 #[.int .i64 page] w fun e w' => ∃ x, e = .returned (.tuple #[.agg x, .int .i64 0]) ∧ OfIs page x ∧ Ext w w' := by
  obtain ⟨L, hL⟩ : ∃ L, L = [(#[Value.int .i64 page], 3), (#[.int .i64 0, .int .i64 0, .int .i64 0, .int .i64 0], 56)] := ⟨_, rfl⟩
  obtain ⟨W, hW⟩ : ∃ W, blocks w L = W := ⟨_, rfl⟩
  have hxW : Ext w W := hW ▸ blocks_ext L w
  have hb : W.heap[w.heap.size]? = some (.cells #[.int .i64 page] 3 (0, 0)) ∧ W.heap[w.heap.size + 1]? = some (.cells (sC 0 0 0 0) 56 (0, 0)) := by
    subst hW; subst hL
    exact ⟨blocks_at _ w 0 (by simp) (Ext.refl _), blocks_at _ w 1 (by simp) (Ext.refl _)⟩
  have hWl : (w.alloc (.cells #[.int .i64 page] 3)).alloc (.cells #[.int .i64 0, .int .i64 0, .int .i64 0, .int .i64 0] 56) = W := by rw [← hW, hL]; rfl
  have HW := Lib.hid hWl
  have c0 := cell_at (i := 0) hb.1 rfl
  have hlb := lt_of_block hb.2
  have HB := Lib.hid hb
  have hfit := fun (w : World) => wi_fits_new (w := w) (k := 65536) (n := page)
  rw [show (decide (0 ≤ page) && decide (page < 65536)) = true by simp [p0, p1]] at hfit
  clear hW hL hWl hb
  refine calls_marks Tryz.func23 rfl ?_
  simp only [Tryz.ntmps23, List.size_toArray, List.length_cons, List.length_nil, Nat.reduceAdd, Nat.reduceSub, Array.replicate_succ, Array.replicate_zero, List.push_toArray, List.append_toArray, List.nil_append, List.cons_append]
  go_wp2_with fail
  rw [HW.out]
  refine wp_scope_straight ?_
  go_wp2_with fail
  refine (hfit _).mono ?_
  rintro e w2 ⟨rfl, hx2⟩
  go_wp2_with fail
  refine wp_label ?_
  go_wp2_with fail
  refine wi_places.mono ?_
  rintro e w3 ⟨rfl, rfl⟩
  go_wp2_with fail
  have hxw2 : Ext w w2 := Ext.trans hxW hx2
  have hr2 : w2.heap[w.heap.size + 1]? = some (.cells (sC 0 0 0 0) 56 (0, 0)) := (hx2.block _ hlb).trans HB.out.2
  have hp2 : w2.heap[w.heap.size]? = some (.cells #[.int .i64 page] 3 (0, 0)) := (hx2.block _ (by omega)).trans HB.out.1
  have hsz2 := hxw2.size
  have hlr2 := lt_of_block hr2
  have HR2 := Lib.hid (And.intro hr2 hp2)
  clear hr2 hp2 hfit c0
  refine (wpIn_wide (n := 10)).1 (wpIn_rangeFunc_ownH (α := Fin 4) rfl (by decide) (gf := 54) (lb := #[]) rfl trivial Tryz.call54
    (wi_places1 (w := w2)) (fun _ _ => trivial) (fun _ _ _ _ _ _ _ _ => trivial) (Below.refl _ _) (fun _ => rfl)
    (fun pre W' => (∀ y ∈ pre, hitK page y.val = 0) ∧ Ext w2 W')
    (fun c pre W' => (c = .exit 0 ∧ ∃ s : Fin 4, hitK page s.val ≠ 0 ∧ W'.heap[w.heap.size + 1]? = some (.cells (sitC page s.val) 56 (0, 0))) ∧ Upd [w.heap.size + 1] w2 W')
    (OwnFrom.and (ownFrom_pure _ _) (ownFrom_below (Nat.le_refl _) (Nat.le_refl _)))
    ?ix ⟨by simp, Ext.refl _⟩
    (fun x a' W' => ∃ Bx, w2.heap.size ≤ Bx ∧ W'.heap[Bx]? = some (.cells #[.int .i64 (x.val : Int)] 69 (0, 0)) ∧ a' = { tmps := #[.int .i64 page, .pointer (some ⟨w.heap.size, 0, none⟩), .pointer (some ⟨w.heap.size + 1, 0, none⟩), .int .i64 0, .pointer (some ⟨Bx, 0, none⟩), undef, undef, .int .i64 page, .slice (some ⟨W.heap.size, 0, none⟩) 1 1, .bool true, .bool false, undef, .func (.func 54) #[] #[], encF x, undef, undef, undef, undef, undef, undef, undef, undef, undef], defers := [] })
    ?ax ?assign ?body ?done ?stop)
  case ix =>
    intro c
    refine OwnFrom.and ?_ (ownFrom_upd (Nat.le_refl _))
    rintro pre W1 W2 row ⟨hc, x, hp, hb⟩ hg hr
    exact ⟨hc, x, hp, ownFrom_cells (fun (_ : Unit) => sitC page x.val) 56 () W1 W2 row hb hg hr⟩
  case ax =>
    rintro x a' _ W1 W2 row ⟨Bx, hl, hb, rfl⟩ hg hr
    exact ⟨Bx, hl, ownFrom_cells (fun (_ : Unit) => #[Value.int .i64 (x.val : Int)]) 69 () W1 W2 row hb hg hr, rfl⟩
  case assign =>
    rintro l pre x W' K ⟨hn, hx⟩ hK
    unfold encF at hK
    unfold encF
    have HN := Lib.hid hn
    clear hn
    gi_wp2
    have hxn : Ext W' (W'.alloc (.cells #[.int .i64 (x.val : Int)] 69)) := ext_n _ (Ext.refl _)
    exact hK _ _ (keepsFrom_of_upd (S := []) (Upd.of_ext hxn) (by simp)) trivial ⟨HN.out, Ext.trans hx hxn⟩ ⟨W'.heap.size, hx.size, World.alloc_heap_new _ _, rfl⟩
  case body =>
    rintro l pre x a' W' - - ⟨hn, hx⟩ ⟨Bx, hBx, hbx, rfl⟩ -
    have HN := Lib.hid hn
    have e1 := (hx.block _ (by omega)).trans HR2.out.2
    have e2 := (hx.block _ hlr2).trans HR2.out.1
    have hx4 := x.isLt
    have HX := Lib.hid (And.intro hbx (And.intro e1 e2))
    unfold encF
    clear hn hbx e1 e2
    gi_wp2_with fail
    refine (CallsIn.inRound l (callsIn_wide.2 wi_kinds)).mono ?_
    rintro e w3 ⟨lb, rfl, hx3, hkl, hkb⟩
    have k1 := (hx3.block _ (lt_of_block HX.out.1)).trans HX.out.1
    have k2 := (hx3.block _ (lt_of_block HX.out.2.1)).trans HX.out.2.1
    have k3 := (hx3.block _ (lt_of_block HX.out.2.2)).trans HX.out.2.2
    have hfs := wi_firstP (w := w3) (s := (x.val : Int)) (page := page) (pb := Bx) (gb := w.heap.size) (lb := lb) (by omega) (by omega) p0 p1 (cell_at (i := 0) k1 rfl) (cell_at (i := 0) k2 rfl) hkl
    have HK := Lib.hid k3
    clear hkl k1 k2 k3
    obtain ⟨hk, hhk⟩ : ∃ hk, hitK page (x.val : Int) = hk := ⟨_, rfl⟩
    obtain ⟨sc, hsc⟩ : ∃ sc, sitC page (x.val : Int) = sc := ⟨_, rfl⟩
    rw [hhk, hsc] at hfs
    by_cases hk0 : hk = 0
    · subst hk0
      simp only [if_true] at hfs
      rw [show (decide ((0 : Int) ≠ 0)) = false from rfl] at hfs
      unfold sC at hfs
      gi_wp2_with fail
      refine (CallsIn.inRound l (callsIn_wide.2 hfs)).mono ?_
      rintro e w4 ⟨rfl, hx4⟩
      clear hfs
      gi_wp2
      have hxa := fun o : Obj => ext_n o (Ext.trans hx3 hx4)
      exact ⟨keepsFrom_of_upd (S := []) (Upd.of_ext (hxa _)) (by simp), trivial, fun y hy => by
        rcases List.mem_append.1 hy with h | h
        · exact HN.out y h
        · rw [List.mem_singleton.1 h]; exact hhk, Ext.trans hx (hxa _)⟩
    · obtain ⟨cc, hcc⟩ : ∃ cc, kC (hitK page (x.val : Int)) (x.val : Int) page = cc := ⟨_, rfl⟩
      obtain ⟨pp, hpp⟩ : ∃ pp, kP (hitK page (x.val : Int)) (x.val : Int) page = pp := ⟨_, rfl⟩
      unfold sitC at hsc
      rw [hcc, hpp, hhk] at hsc
      subst hsc
      rw [if_neg hk0, show (decide (hk ≠ 0)) = true from decide_eq_true hk0] at hfs
      unfold sC at hfs
      gi_wp2_with fail
      refine (CallsIn.inRound l (callsIn_wide.2 hfs)).mono ?_
      rintro e w4 ⟨rfl, hx4⟩
      clear hfs
      have hr4 := (hx4.block _ (lt_of_block HK.out)).trans HK.out
      have hlt4 := lt_of_block hr4
      unfold sC at hr4
      have f0 := frz (i := 0) hr4
      have f1 := frz (i := 1) hr4
      have f2 := frz (i := 2) hr4
      have f3 := frz (i := 3) hr4
      have b0 := cell_at (i := 0) hr4 rfl
      have b1 := cell_at (i := 1) hr4 rfl
      have b2 := cell_at (i := 2) hr4 rfl
      have b3 := cell_at (i := 3) hr4 rfl
      have H4 := Lib.hid hr4
      clear hr4
      gi_wp2
      have hb9 := heap_set4 (b0 := .int .i64 hk) (b1 := .int .i64 (x.val : Int)) (b2 := .int .i64 cc) (b3 := .int .i64 pp) H4.out
      have hu9 : Upd [w.heap.size + 1] w4 ((((w4.setCell ⟨w.heap.size + 1, 0, none⟩ (.int .i64 hk)).setCell ⟨w.heap.size + 1, 1, none⟩ (.int .i64 (x.val : Int))).setCell ⟨w.heap.size + 1, 2, none⟩ (.int .i64 cc)).setCell ⟨w.heap.size + 1, 3, none⟩ (.int .i64 pp)) :=
        upd_setc _ (upd_setc _ (upd_setc _ (upd_setc _ (Upd.refl _ _) (by simp)) (by simp)) (by simp)) (by simp)
      refine ⟨keepsFrom_of_upd (Upd.trans (Upd.of_ext (Ext.trans hx3 hx4)) (upd_n _ hu9)) (by simp; omega), ⟨rfl, x, by rw [hhk]; exact hk0, ?_⟩, Upd.trans (Upd.of_ext (Ext.trans hx (Ext.trans hx3 hx4))) (upd_n _ hu9)⟩
      unfold sitC sC
      rw [hcc, hpp, hhk]
      exact (Below.heap_alloc _ _ _ (lt_of_block hb9)).trans hb9
  case done =>
    rintro D xs W' hD hxs ⟨hn, hx⟩ hDk
    subst hxs
    have hr4 := (hx.block _ hlr2).trans HR2.out.1
    have hne : w.heap.size + 1 ≠ D := by omega
    have hall : ∀ s : Fin 4, hitK page s.val = 0 := fun s => hn s (by
      unfold four
      match s with
      | 0 => simp
      | 1 => simp
      | 2 => simp
      | 3 => simp)
    have HA := Lib.hid hall
    unfold sC at hr4
    have f0 := frz (i := 0) hr4
    have f1 := frz (i := 1) hr4
    have f2 := frz (i := 2) hr4
    have f3 := frz (i := 3) hr4
    have b0 := cell_at (i := 0) hr4 rfl
    have b1 := cell_at (i := 1) hr4 rfl
    have b2 := cell_at (i := 2) hr4 rfl
    have b3 := cell_at (i := 3) hr4 rfl
    have H4 := Lib.hid hr4
    have HDK := Lib.hid hDk
    clear hr4 hn hall hDk
    go_wp2
    have h9 := heap_set4 (b0 := .int .i64 0) (b1 := .int .i64 0) (b2 := .int .i64 0) (b3 := .int .i64 0) H4.out
    have hu9 : Upd [w.heap.size + 1] W' ((((W'.setCell ⟨w.heap.size + 1, 0, none⟩ (.int .i64 0)).setCell ⟨w.heap.size + 1, 1, none⟩ (.int .i64 0)).setCell ⟨w.heap.size + 1, 2, none⟩ (.int .i64 0)).setCell ⟨w.heap.size + 1, 3, none⟩ (.int .i64 0)) := upd_setc _ (upd_setc _ (upd_setc _ (upd_setc _ (Upd.refl _ _) (by simp)) (by simp)) (by simp)) (by simp)
    have hD9 := (hu9.block D (lt_of_block HDK.out) (by simpa using Ne.symm hne)).trans HDK.out
    have d0 := (cell_putObj (o := .deferred none) hne).trans (cell_at (i := 0) h9 rfl)
    have d1 := (cell_putObj (o := .deferred none) hne).trans (cell_at (i := 1) h9 rfl)
    have d2 := (cell_putObj (o := .deferred none) hne).trans (cell_at (i := 2) h9 rfl)
    have d3 := (cell_putObj (o := .deferred none) hne).trans (cell_at (i := 3) h9 rfl)
    refine bodyPostN_mark (v := .tuple #[.agg #[.int .i64 0, .int .i64 0, .int .i64 0, .int .i64 0], .int .i64 0]) ?_ rfl (run_takeDeferred hD9) ⟨_, rfl, ?_, ?_⟩
    · clear f0 f1 f2 f3 b0 b1 b2 b3 hD9 hu9 h9
      simp [results, Tryz.results23, go_sem, d0, d1, d2, d3]
    · exact .inr ⟨HA.out, rfl⟩
    · have hU : Upd [w.heap.size + 1, D] w (((((W'.setCell ⟨w.heap.size + 1, 0, none⟩ (.int .i64 0)).setCell ⟨w.heap.size + 1, 1, none⟩ (.int .i64 0)).setCell ⟨w.heap.size + 1, 2, none⟩ (.int .i64 0)).setCell ⟨w.heap.size + 1, 3, none⟩ (.int .i64 0)).putObj D (.deferred none)) := Upd.trans (Upd.trans (Upd.of_ext hxw2) ((Upd.trans (Upd.of_ext hx) hu9).mono (by simp))) ((Upd.putObj _ D _).mono (by simp))
      exact hU.new (by simp; omega)
  case stop =>
    rintro D c pre W' hD hpre ⟨⟨rfl, x, hs, hr4⟩, hu⟩ hDk
    refine wpIn_wide.2 ?_
    have hne : w.heap.size + 1 ≠ D := by omega
    have hof : OfIs page (sitC page x.val) := .inl ⟨x, hs, rfl⟩
    unfold sitC at hr4 hof
    obtain ⟨kk, hkk⟩ : ∃ kk, hitK page (x.val : Int) = kk := ⟨_, rfl⟩
    rw [hkk] at hr4 hof
    obtain ⟨cc, hcc⟩ : ∃ cc, kC kk (x.val : Int) page = cc := ⟨_, rfl⟩
    obtain ⟨pp, hpp⟩ : ∃ pp, kP kk (x.val : Int) page = pp := ⟨_, rfl⟩
    rw [hcc, hpp] at hr4 hof
    unfold sC at hr4 hof
    have HOF := Lib.hid hof
    have HU := Lib.hid hu
    clear hof hu hkk hcc hpp
    have f0 := frz (i := 0) hr4
    have f1 := frz (i := 1) hr4
    have f2 := frz (i := 2) hr4
    have f3 := frz (i := 3) hr4
    have b0 := cell_at (i := 0) hr4 rfl
    have b1 := cell_at (i := 1) hr4 rfl
    have b2 := cell_at (i := 2) hr4 rfl
    have b3 := cell_at (i := 3) hr4 rfl
    have H4 := Lib.hid hr4
    have HDK := Lib.hid hDk
    clear hr4 hDk
    go_wp2
    have h9 := heap_set4 (b0 := .int .i64 kk) (b1 := .int .i64 x.val) (b2 := .int .i64 cc) (b3 := .int .i64 pp) H4.out
    have hu9 : Upd [w.heap.size + 1] W' ((((W'.setCell ⟨w.heap.size + 1, 0, none⟩ (.int .i64 kk)).setCell ⟨w.heap.size + 1, 1, none⟩ (.int .i64 x.val)).setCell ⟨w.heap.size + 1, 2, none⟩ (.int .i64 cc)).setCell ⟨w.heap.size + 1, 3, none⟩ (.int .i64 pp)) := upd_setc _ (upd_setc _ (upd_setc _ (upd_setc _ (Upd.refl _ _) (by simp)) (by simp)) (by simp)) (by simp)
    have hD9 := (hu9.block D (lt_of_block HDK.out) (by simpa using Ne.symm hne)).trans HDK.out
    have d0 := (cell_putObj (o := .deferred none) hne).trans (cell_at (i := 0) h9 rfl)
    have d1 := (cell_putObj (o := .deferred none) hne).trans (cell_at (i := 1) h9 rfl)
    have d2 := (cell_putObj (o := .deferred none) hne).trans (cell_at (i := 2) h9 rfl)
    have d3 := (cell_putObj (o := .deferred none) hne).trans (cell_at (i := 3) h9 rfl)
    refine bodyPostN_mark (v := .tuple #[.agg #[.int .i64 kk, .int .i64 x.val, .int .i64 cc, .int .i64 pp], .int .i64 0]) ?_ rfl (run_takeDeferred hD9) ⟨_, rfl, ?_, ?_⟩
    · clear f0 f1 f2 f3 b0 b1 b2 b3 hD9 hu9 h9
      simp [results, Tryz.results23, go_sem, d0, d1, d2, d3]
    · exact HOF.out
    · have hU : Upd [w.heap.size + 1, D] w (((((W'.setCell ⟨w.heap.size + 1, 0, none⟩ (.int .i64 kk)).setCell ⟨w.heap.size + 1, 1, none⟩ (.int .i64 x.val)).setCell ⟨w.heap.size + 1, 2, none⟩ (.int .i64 cc)).setCell ⟨w.heap.size + 1, 3, none⟩ (.int .i64 pp)).putObj D (.deferred none)) := Upd.trans (Upd.trans (Upd.of_ext hxw2) ((Upd.trans HU.out hu9).mono (by simp))) ((Upd.putObj _ D _).mono (by simp))
      exact hU.new (by simp; omega)
end
end Go.Proofs.YtgkfgilhegjbhaaGreat
