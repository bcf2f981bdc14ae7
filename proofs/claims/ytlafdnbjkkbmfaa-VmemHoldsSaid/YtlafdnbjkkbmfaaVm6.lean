/- package vmem: what is wrong with a reach; no condition. -/
import Derived.Test.YtlafdnbjkkbmfaaVm5
namespace Go.Proofs.Ytlafdnbjkkbmfaa
open Go.RowKit
attribute [local go_sem] run_mf
attribute [local go_sem ↓] Go.wp_at_zero Go.wp_at_succ
attribute [local go_sem] Oper.semAt_some wide_fn wide_depth wide_round
section
variable {w w' : World} {mb tb eb pb fb rb : Nat} {many : Int} {T : List (Int × Ent)} {F : List (Int × Tak)} {R : List (Int × Int)}
def allReach (T : List (Int × Ent)) (o m : Int) (a n : Nat) : Bool := (partsL a n).all fun p => reachB T o m (p.1 : Int)
set_option maxRecDepth 100000 in
set_option maxHeartbeats 1000000 in
theorem vm_asked4 {b1 b2 b3 b4 b5 : Nat} {o m : Int} {a n : Nat} (hn : n ≤ 16777216) (ha : a < 4294967296) (h : MemAt w mb tb eb pb fb rb many T F R) (h1 : w.cell? ⟨b1, 0, none⟩ = some (.pointer (some ⟨mb, 0, none⟩))) (h2 : w.cell? ⟨b2, 0, none⟩ = some (.int .i64 o)) (h3 : w.cell? ⟨b3, 0, none⟩ = some (.int .i64 m))
    (h4 : w.cell? ⟨b4, 0, none⟩ = some (.int .u32 a)) (h5 : w.cell? ⟨b5, 0, none⟩ = some (.int .i64 (n : Int))) :
    Calls Try.prog 78 #[.pointer (some ⟨b1, 0, none⟩), .pointer (some ⟨b2, 0, none⟩), .pointer (some ⟨b3, 0, none⟩), .pointer (some ⟨b4, 0, none⟩), .pointer (some ⟨b5, 0, none⟩)] w fun e w' => e = .returned (.int .i64 (if allReach T o m a n = true then 0 else 190)) ∧ Ext w w' := by
  obtain ⟨W, hW⟩ : ∃ W, w.alloc (.cells #[.int .i64 0] 26) = W := ⟨_, rfl⟩
  have hxW : Ext w W := hW ▸ ext_n _ (Ext.refl _)
  have hbW : W.heap[w.heap.size]? = some (.cells #[.int .i64 0] 26 (0, 0)) := hW ▸ World.alloc_heap_new _ _
  have hB : ∀ w2, Ext W w2 → w2.cell? ⟨b1, 0, none⟩ = some (.pointer (some ⟨mb, 0, none⟩)) ∧ w2.cell? ⟨b2, 0, none⟩ = some (.int .i64 o) ∧ w2.cell? ⟨b3, 0, none⟩ = some (.int .i64 m) ∧ w2.cell? ⟨b4, 0, none⟩ = some (.int .u32 a) ∧ w2.cell? ⟨b5, 0, none⟩ = some (.int .i64 (n : Int)) := fun w2 hx => by
    have key : ∀ (b i : Nat) (v : Value), w.cell? ⟨b, i, none⟩ = some v → w2.cell? ⟨b, i, none⟩ = some v := fun b i v hc => ((Ext.trans hxW hx).cell (p := ⟨b, i, none⟩) (World.block_lt_of_cell? _ _ hc)).trans hc
    exact ⟨key _ _ _ h1, key _ _ _ h2, key _ _ _ h3, key _ _ _ h4, key _ _ _ h5⟩
  have HB := Lib.hid hB
  have HW := Lib.hid hW
  have hP := h.ext hxW
  have HbW := Lib.hid hbW
  clear h1 h2 h3 h4 h5 hB hW hbW
  obtain ⟨c0, c1, c2, c3, c4⟩ := HB.out _ (Ext.refl _)
  obtain ⟨r, hr⟩ : ∃ r : Int, r = (if allReach T o m a n = true then 0 else 190) := ⟨_, rfl⟩
  rw [← hr]
  have HR := Lib.hid hr
  clear hr c3 c4
  refine calls_marks Try.func78 rfl ?_
  simp only [Try.ntmps78, List.size_toArray, List.length_cons, List.length_nil, Nat.reduceAdd, Nat.reduceSub, Array.replicate_succ, Array.replicate_zero, List.push_toArray, List.append_toArray, List.nil_append, List.cons_append]
  go_wp2_with fail
  rw [HW.out]
  refine wp_scope_straight ?_
  go_wp2_with fail
  refine vm_reaches.mono ?_
  rintro e w2 ⟨rfl, hx2, k1, k2, k3⟩
  clear c0 c1 c2
  go_wp2_with fail
  obtain ⟨W3, hW3⟩ : ∃ W3, w2.alloc (.cells #[.func (.func 84) #[] #[.pointer (some ⟨W.heap.size, 0, none⟩), .pointer (some ⟨W.heap.size + 1, 0, none⟩), .pointer (some ⟨W.heap.size + 2, 0, none⟩)]] 89) = W3 := ⟨_, rfl⟩
  have hx3 : Ext w2 W3 := hW3 ▸ ext_n _ (Ext.refl _)
  have kf : W3.cell? ⟨w2.heap.size, 0, none⟩ = some (.func (.func 84) #[] #[.pointer (some ⟨W.heap.size, 0, none⟩), .pointer (some ⟨W.heap.size + 1, 0, none⟩), .pointer (some ⟨W.heap.size + 2, 0, none⟩)]) := hW3 ▸ World.cell?_alloc_new _ _ _ _
  rw [hW3]
  clear hW3
  refine wp_label ?_
  obtain ⟨-, -, -, c3, c4⟩ := HB.out _ (Ext.trans hx2 hx3)
  go_wp2_with fail
  refine vm_parts.mono ?_
  rintro e w4 ⟨rfl, hx4, p1, p2⟩
  have hx04 : Ext W w4 := Ext.trans hx2 (Ext.trans hx3 hx4)
  have hP4 := hP.ext hx04
  have hx24 := Ext.trans hx3 hx4
  have k1' := (hx24.cell (p := ⟨W.heap.size, 0, none⟩) (World.block_lt_of_cell? _ _ k1)).trans k1
  have k2' := (hx24.cell (p := ⟨W.heap.size + 1, 0, none⟩) (World.block_lt_of_cell? _ _ k2)).trans k2
  have k3' := (hx24.cell (p := ⟨W.heap.size + 2, 0, none⟩) (World.block_lt_of_cell? _ _ k3)).trans k3
  have kf' := (hx4.cell (p := ⟨w2.heap.size, 0, none⟩) (World.block_lt_of_cell? _ _ kf)).trans kf
  have hb4 := (hx04.block _ (lt_of_block HbW.out)).trans HbW.out
  have hin : ∀ W', Below w4.heap.size w4 W' → W'.cell? ⟨W.heap.size, 0, none⟩ = some (.pointer (some ⟨mb, 0, none⟩)) ∧ W'.cell? ⟨W.heap.size + 1, 0, none⟩ = some (.int .i64 o) ∧ W'.cell? ⟨W.heap.size + 2, 0, none⟩ = some (.int .i64 m) ∧
      W'.cell? ⟨w2.heap.size, 0, none⟩ = some (.func (.func 84) #[] #[.pointer (some ⟨W.heap.size, 0, none⟩), .pointer (some ⟨W.heap.size + 1, 0, none⟩), .pointer (some ⟨W.heap.size + 2, 0, none⟩)]) ∧
      W'.heap[w.heap.size]? = some (.cells #[.int .i64 0] 26 (0, 0)) := fun W' hx =>
    ⟨(hx.cell (World.block_lt_of_cell? _ _ k1')).trans k1', (hx.cell (World.block_lt_of_cell? _ _ k2')).trans k2', (hx.cell (World.block_lt_of_cell? _ _ k3')).trans k3', (hx.cell (World.block_lt_of_cell? _ _ kf')).trans kf', (hx.block _ (lt_of_block hb4)).trans hb4⟩
  have HI := Lib.hid hin
  have hxw4 : Ext w w4 := Ext.trans hxW hx04
  clear k1 k2 k3 k1' k2' k3' kf kf' hb4 hin c3 c4 hx24
  go_wp2_with fail
  refine (wpIn_wide (n := 10)).1 (wpIn_rangeFunc_ownH rfl (by decide) (gf := 85) (lb := #[.pointer (some ⟨W3.heap.size, 0, none⟩), .pointer (some ⟨W3.heap.size + 1, 0, none⟩)]) rfl trivial Try.call85
    (vm_stops hn ha p1 p2) (fun _ _ => trivial) (fun _ _ _ _ _ _ _ _ => trivial) (Below.refl _ _) (fun _ => rfl)
    (fun pre W' => (∀ q ∈ pre, reachB T o m (q.1 : Int) = true) ∧ Below w4.heap.size w4 W')
    (fun c pre W' => (c = .ret ∧ (∃ q ∈ pre, reachB T o m (q.1 : Int) = false) ∧ W'.heap[w.heap.size]? = some (.cells #[.int .i64 190] 26 (0, 0))) ∧ Upd [w.heap.size] w4 W')
    (OwnFrom.and (ownFrom_pure _ _) (ownFrom_below (Nat.le_refl _) (Nat.le_refl _)))
    ?ix ⟨by simp, Below.refl _ _⟩
    (fun x a' W' => ∃ Bx, w4.heap.size ≤ Bx ∧ W'.heap[Bx]? = some (.cells #[.int .i64 (x.1 : Int), .int .i64 (x.2.1 : Int), .int .i64 (x.2.2 : Int)] 101 (0, 0)) ∧ a' = { tmps := #[.pointer (some ⟨b1, 0, none⟩), .pointer (some ⟨b2, 0, none⟩), .pointer (some ⟨b3, 0, none⟩), .pointer (some ⟨b4, 0, none⟩), .pointer (some ⟨b5, 0, none⟩), .pointer (some ⟨w.heap.size, 0, none⟩), .pointer (some ⟨w2.heap.size, 0, none⟩), .pointer (some ⟨Bx, 0, none⟩), .pointer (some ⟨mb, 0, none⟩), .int .i64 o, .int .i64 m, .func (.func 84) #[] #[.pointer (some ⟨W.heap.size, 0, none⟩), .pointer (some ⟨W.heap.size + 1, 0, none⟩), .pointer (some ⟨W.heap.size + 2, 0, none⟩)], .int .u32 a, .int .i64 (n : Int), .func (.func 85) #[] #[.pointer (some ⟨W3.heap.size, 0, none⟩), .pointer (some ⟨W3.heap.size + 1, 0, none⟩)], encP x, undef, undef, undef, undef], defers := [] })
    ?ax ?assign ?body ?done ?stop)
  case ix =>
    intro c
    refine OwnFrom.and ?_ (ownFrom_upd (Nat.le_refl _))
    rintro pre W1 W2 row ⟨hc, hp, hb⟩ hg hr
    exact ⟨hc, hp, ownFrom_cells (fun (_ : Unit) => #[Value.int .i64 190]) 26 () W1 W2 row hb hg hr⟩
  case ax =>
    rintro x a' _ W1 W2 row ⟨Bx, hl, hb, rfl⟩ hg hr
    exact ⟨Bx, hl, ownFrom_cells (fun (_ : Unit) => #[Value.int .i64 (x.1 : Int), .int .i64 (x.2.1 : Int), .int .i64 (x.2.2 : Int)]) 101 () W1 W2 row hb hg hr, rfl⟩
  case assign =>
    rintro l pre x W' K ⟨hpr, hBel⟩ hK
    have hsz := hBel.size
    unfold encP at hK
    unfold encP
    gi_wp2
    exact hK _ _ (keepsFrom_of_upd (S := []) (Upd.of_ext (ext_n _ (Ext.refl _))) (by simp)) trivial ⟨hpr, ext_n _ hBel⟩ ⟨W'.heap.size, hsz, World.alloc_heap_new _ _, rfl⟩
  case body =>
    rintro l pre x a' W' hl hlr ⟨hpr, hBel⟩ ⟨Bx, hBx, hbx, rfl⟩ _
    obtain ⟨k1, k2, k3, kf, kb⟩ := HI.out _ hBel
    have cx := cell_at (i := 0) hbx rfl
    have hrc := vm_reaches1 (n := (x.1 : Int)) (hP4.ext hBel) k1 k2 k3
    obtain ⟨bb, hbb⟩ : ∃ bb, bb = reachB T o m (x.1 : Int) := ⟨_, rfl⟩
    rw [← hbb] at hrc
    have hbbH := Lib.hid hbb
    have hprH := Lib.hid hpr
    clear hbb hpr
    gi_wp2
    refine (CallsIn.inRound l (callsIn_wide.2 hrc)).mono ?_
    rintro e w6 ⟨rfl, hx6⟩
    have kb6 := (hx6.block _ (lt_of_block kb)).trans kb
    have c6 := cell_at (i := 0) kb6 rfl
    have f6 : w6.frozen? ⟨w.heap.size, 0, none⟩ = false := by simp [World.frozen?, kb6]
    have hB6 : Ext w4 w6 := Ext.trans hBel hx6
    have hKF : KeepsFrom w4.heap.size W' w6 := keepsFrom_of_upd (S := []) (Upd.of_ext hx6) (by simp)
    cases bb with
    | true =>
      gi_wp2
      refine ⟨hKF, trivial, ?_, hB6⟩
      intro q hq
      rcases List.mem_append.1 hq with hq | hq
      · exact hprH.out q hq
      · simp at hq; subst hq; exact hbbH.out.symm
    | false =>
      gi_wp2
      refine ⟨hKF.trans (keepsFrom_of_upd (S := [w.heap.size]) (updSet _ (Upd.refl _ _) (by simp)) (by simp; have := hxw4.size; have := lt_of_block HbW.out; have := hx04.size; omega)), ⟨rfl, ⟨x, by simp, hbbH.out.symm⟩, heap_set1 kb6⟩, updSet _ (Upd.of_ext hB6) (by simp)⟩
  case done =>
    rintro D xs W' hD rfl ⟨hpr, hBel⟩ hDk
    obtain ⟨k1, k2, k3, kf, kb⟩ := HI.out _ hBel
    have hr0 : r = 0 := by
      rw [HR.out, if_pos]
      rw [allReach, List.all_eq_true]
      exact hpr
    subst hr0
    have c6 := cell_at (i := 0) kb rfl
    have f6 : W'.frozen? ⟨w.heap.size, 0, none⟩ = false := by simp [World.frozen?, kb]
    clear hpr
    have hDn : ¬ w.heap.size = D := by
      intro e
      rw [← e, kb] at hDk
      cases hDk
    have hwD : w.heap.size ≤ D := by have := hxw4.size; omega
    go_wp2_with fail
    have hset := heap_set1 (u := .int .i64 0) kb
    have hD8 : (W'.setCell ⟨w.heap.size, 0, none⟩ (.int .i64 0)).heap[D]? = some (.deferred (some [])) := (Below.heap_setCell _ _ _ _ (Ne.symm hDn)).trans hDk
    have c8 : ((W'.setCell ⟨w.heap.size, 0, none⟩ (.int .i64 0)).putObj D (.deferred none)).cell? ⟨w.heap.size, 0, none⟩ = some (.int .i64 0) := (cell_putObj hDn).trans (cell_at (i := 0) hset rfl)
    refine bodyPostN_mark (v := .int .i64 0) ?_ rfl (run_takeDeferred hD8) ⟨rfl, ?_⟩
    · simp [results, Try.results78, go_sem, c8]
    · have hU8 := upd_set (S := []) (a := ⟨w.heap.size, 0, none⟩) (.int .i64 0) (Upd.of_ext (Ext.trans hxw4 hBel)) (by simp)
      exact Upd.ext ⟨hU8.os, hU8.tape, hU8.output, by have := hU8.size; simpa using this, fun k hk hs => (World.putObj_heap_other (by omega)).trans (hU8.block k hk hs)⟩
  case stop =>
    rintro D c pre W' hD hpre ⟨⟨rfl, ⟨q, hq, hqf⟩, kb⟩, hU⟩ hDk
    have hr0 : r = 190 := by
      rw [HR.out, if_neg]
      rw [allReach, List.all_eq_true]
      intro hall
      have := hall q (hpre.subset hq)
      rw [hqf] at this
      cases this
    subst hr0
    have hDn : ¬ w.heap.size = D := by
      intro e
      rw [← e, kb] at hDk
      cases hDk
    have hwD : w.heap.size ≤ D := by have := hxw4.size; omega
    refine wpIn_wide.2 ?_
    go_wp2_with fail
    have c8 : (W'.putObj D (.deferred none)).cell? ⟨w.heap.size, 0, none⟩ = some (.int .i64 190) := (cell_putObj hDn).trans (cell_at (i := 0) kb rfl)
    refine bodyPostN_mark (v := .int .i64 190) ?_ rfl (run_takeDeferred hDk) ⟨rfl, ?_⟩
    · simp [results, Try.results78, go_sem, c8]
    · have hU8 := Upd.trans (Upd.of_ext hxw4) hU
      exact ⟨hU8.os, hU8.tape, hU8.output, by have := hU8.size; simpa using this, fun k hk => (World.putObj_heap_other (by omega)).trans (hU8.block k hk (by simp; omega))⟩
end
end Go.Proofs.Ytlafdnbjkkbmfaa
