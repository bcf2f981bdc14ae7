/- package page: Unmap, Get, New; no condition. -/
import Derived.Test.YtlafdnbjkkbmfaaPg
namespace Go.Proofs.Ytlafdnbjkkbmfaa
open Go.RowKit
attribute [local go_sem] run_mf cell_putObj frozen_putObj
section
variable {w : World} {tb eb : Nat} {T : List (Int × Ent)}
set_option maxRecDepth 100000 in
set_option maxHeartbeats 1000000 in
theorem page_get (h : TabAt w tb eb T) (n : Int) : Calls Try.prog 81 #[.pointer (some ⟨tb, 0, none⟩), .int .i64 n] w fun e w' => e = .returned (.tuple #[encE ((getL T n).getD ent0), .bool (getL T n).isSome]) ∧ Ext w w' := by
  have hx1 : Ext w (w.alloc (.cells #[.int .i64 0, .int .i64 0, .int .i64 0] 55)) := ext_n _ (Ext.refl _)
  have h1 := h.ext hx1
  have h0 := h1.c0
  have hl := lookE1 h1 n
  unfold encE at hl ⊢
  go_enter Try.func81, Try.ntmps81
  go_wp2_with (go_at_call 65; refine (page_none h1).mono ?_; rintro e w' ⟨rfl, rfl⟩)
  refine bodyPost_ret (v := .tuple #[.agg #[.int .i64 ((getL T n).getD ent0).owner, .int .i64 ((getL T n).getD ent0).may, .int .i64 ((getL T n).getD ent0).frame], .bool (getL T n).isSome]) ?_ rfl ⟨rfl, ext_n _ (ext_n _ (Ext.refl _))⟩
  simp [results, Try.results81, go_sem]
def unmE (T : List (Int × Ent)) (n : Int) : Int := if (decide (n < 0) || decide (65536 ≤ n)) = true then 4 else if (getL T n).isNone = true then 5 else 0
set_option maxRecDepth 100000 in
set_option maxHeartbeats 1000000 in
theorem page_unmap (h : TabAt w tb eb T) (n : Int) : Calls Try.prog 24 #[.pointer (some ⟨tb, 0, none⟩), .int .i64 n] w fun e w' =>
    e = .returned (.tuple #[encE (if unmE T n = 0 then (getL T n).getD ent0 else ent0), .int .i64 (unmE T n)]) ∧ Upd [eb] w w' ∧ TabAt w' tb eb (if unmE T n = 0 then delL T n else T) := by
  have hx1 : Ext w (w.alloc (.cells #[.int .i64 0, .int .i64 0, .int .i64 0] 55)) := ext_n _ (Ext.refl _)
  obtain ⟨r, hr⟩ : ∃ r, unmE T n = r := ⟨_, rfl⟩
  have hask : ∀ (w2 w3 w4 : World) (v1 v2 v3 : Value), Ext w2 w3 → Ext w3 w4 → Q Try.prog w2 v1 (.bool false) → Q Try.prog w3 v2 (.bool (decide (n < 0) || decide (65536 ≤ n))) → Q Try.prog w4 v3 (.bool (getL T n).isNone) →
      Calls Try.prog 41 #[.slice (some ⟨w4.heap.size, 0, none⟩) 3 3] (w4.alloc (.cells (askC [(v1, 1, false), (v2, 4, decide (n < 0) || decide (65536 ≤ n)), (v3, 5, (getL T n).isNone)]) 85)) fun e w' => e = .returned (.int .i64 r) ∧ Ext w4 w' := fun w2 w3 w4 v1 v2 v3 hx hx' q1 q2 q3 => by
    have hn : Ext w4 (w4.alloc (.cells (askC [(v1, 1, false), (v2, 4, decide (n < 0) || decide (65536 ≤ n)), (v3, 5, (getL T n).isNone)]) 85)) := ext_n _ (Ext.refl _)
    have he : firstE [(v1, 1, false), (v2, 4, decide (n < 0) || decide (65536 ≤ n)), (v3, 5, (getL T n).isNone)] = r := by rw [← hr]; simp [firstE, unmE]
    rw [← he]
    exact page_asks' _ rfl rfl rfl (by decide) ⟨q1.later (Ext.trans hx (Ext.trans hx' hn)), fun _ => ⟨q2.later (Ext.trans hx' hn), fun _ => ⟨q3.later hn, fun _ => trivial⟩⟩⟩
  have HASK := Lib.hid hask
  have hr0 : r = 0 → getL T n = none → False := by
    intro h1 h2
    rw [← hr, unmE, h2] at h1
    split at h1 <;> simp at h1
  clear hask
  rw [hr]
  clear hr
  obtain ⟨W, hW⟩ : ∃ W, W = w.alloc (.cells #[.int .i64 0, .int .i64 0, .int .i64 0] 55) := ⟨_, rfl⟩
  rw [← hW] at hx1
  have h1 := h.ext hx1
  have hWH := Lib.hid hW
  have hres : ∀ w2, Ext W w2 → w2.heap[w.heap.size]? = some (.cells #[.int .i64 0, .int .i64 0, .int .i64 0] 55 (0, 0)) := fun w2 hx => (hx.block _ (by rw [hW]; simp)).trans (by rw [hW]; exact World.alloc_heap_new _ _)
  have HRES := Lib.hid hres
  clear hW hres
  go_enter Try.func24, Try.ntmps24
  go_wp2_with fail
  rw [← hWH.out]
  refine (page_is h1).mono ?_
  rintro e w2 ⟨v1, rfl, q1, x1⟩
  go_wp2_with fail
  refine (page_in n).mono ?_
  rintro e w3 ⟨v2, rfl, q2, x2⟩
  go_wp2_with fail
  refine (page_there (h1.ext (Ext.trans x1 x2)) n).mono ?_
  rintro e w4 ⟨v3, rfl, q3, x3⟩
  go_wp2_with fail
  refine (HASK.out w2 w3 w4 v1 v2 v3 x2 x3 q1 q2 q3).mono ?_
  rintro e w5 ⟨rfl, x4⟩
  have hx5 : Ext W w5 := Ext.trans x1 (Ext.trans x2 (Ext.trans x3 x4))
  have hr5 := HRES.out _ hx5
  have a0 := cell_at (i := 0) hr5 rfl
  have a1 := cell_at (i := 1) hr5 rfl
  have a2 := cell_at (i := 2) hr5 rfl
  have f0 : w5.frozen? ⟨w.heap.size, 0, none⟩ = false := by simp [World.frozen?, hr5]
  have f1 : w5.frozen? ⟨w.heap.size, 1, none⟩ = false := by simp [World.frozen?, hr5]
  have f2 : w5.frozen? ⟨w.heap.size, 2, none⟩ = false := by simp [World.frozen?, hr5]
  have h5 := h1.ext hx5
  have hx05 : Ext w w5 := Ext.trans hx1 hx5
  have hlt : w.heap.size < w5.heap.size := lt_of_block hr5
  have hn1 : ¬ w.heap.size = w5.heap.size := by omega
  have hebl := h.en.lt
  have hn2 : ¬ w.heap.size = eb := by omega
  have hn3 : ¬ w5.heap.size = eb := by omega
  clear x1 x2 x3 x4 q1 q2 q3
  have htb := lt_of_block h.blk
  have htb5 : tb < w5.heap.size := by omega
  have heb5 : eb < w5.heap.size := by omega
  by_cases hr : r = 0
  · subst hr
    have hn4 : ¬ tb = w5.heap.size := by omega
    have c5 := h5.c0
    have hl := lookE0 h5 n
    obtain ⟨x, hx⟩ : ∃ x, x = (getL T n).getD ent0 := ⟨_, rfl⟩
    rw [← hx] at hl
    have h6 := h5.ext (ext_n (.cells #[.int .i64 x.owner, .int .i64 x.may, .int .i64 x.frame] 55) (Ext.refl w5))
    obtain ⟨o, hrun, ho⟩ := h6.en.drop (P := Try.prog) Try.underlying73 Try.underlying3 n #[73, 3] 0 rfl
    unfold encE at hl
    have hxH := Lib.hid hx
    clear hx hr0
    go_wp2
    refine bodyPost_ret (v := .tuple #[encE x, .int .i64 0]) ?_ rfl ⟨?_, ?_, ?_⟩
    · simp [results, Try.results24, go_sem, *, encE]
    · rw [hxH.out]
    · exact upd_set _ (upd_set _ (upd_set _ (Upd.trans (Upd.of_ext (ext_n _ hx05)) (Upd.putObj _ _ _)) (Nat.le_refl _)) (Nat.le_refl _)) (Nat.le_refl _)
    · have hU : Upd [eb] w5 ((w5.alloc (.cells #[.int .i64 x.owner, .int .i64 x.may, .int .i64 x.frame] 55)).putObj eb o) := Upd.trans (Upd.of_ext (ext_n _ (Ext.refl _))) (Upd.putObj _ _ _)
      have h7 := h5.upd hU (MapI.put ho (by simp; omega))
      have keep : ∀ {W : World} (a : Addr) (v : Value), a.block = w.heap.size → TabAt W tb eb (delL T n) → TabAt (W.setCell a v) tb eb (delL T n) := fun a v ha hh =>
        ⟨(Below.heap_setCell _ _ _ _ (by omega)).trans hh.blk, hh.en.later (Below.heap_setCell _ _ _ _ (by omega))⟩
      exact keep _ _ rfl (keep _ _ rfl (keep _ _ rfl h7))
  · have hrn : (r != 0) = true := by simp [hr]
    go_wp2
    refine bodyPost_ret (v := .tuple #[encE ent0, .int .i64 r]) ?_ rfl ⟨?_, ?_, ?_⟩
    · simp [results, Try.results24, go_sem, *, encE, ent0]
    · first | rfl | rw [if_neg hr]
    · exact upd_set _ (upd_set _ (upd_set _ (Upd.of_ext hx05) (Nat.le_refl _)) (Nat.le_refl _)) (Nat.le_refl _)
    · try rw [if_neg hr]
      have keep : ∀ {W : World} (a : Addr) (v : Value), a.block = w.heap.size → TabAt W tb eb T → TabAt (W.setCell a v) tb eb T := fun a v ha hh =>
        ⟨(Below.heap_setCell _ _ _ _ (by omega)).trans hh.blk, hh.en.later (Below.heap_setCell _ _ _ _ (by omega))⟩
      exact keep _ _ rfl (keep _ _ rfl (keep _ _ rfl h5))
set_option maxRecDepth 100000 in
set_option maxHeartbeats 1000000 in
theorem page_new : Calls Try.prog 15 #[] w fun e w' => ∃ tb eb, e = .returned (.pointer (some ⟨tb, 0, none⟩)) ∧ Ext w w' ∧ TabAt w' tb eb [] ∧ w.heap.size ≤ tb ∧ w.heap.size ≤ eb := by
  have hmm := @run_makeMap Try.prog
  go_enter Try.func15, Try.ntmps15
  go_wp2
  go_ret
  refine ⟨w.heap.size + 1, w.heap.size, rfl, ext_n _ (ext_n _ (Ext.refl _)), ⟨?_, ?_⟩, by omega, Nat.le_refl _⟩
  · have := World.alloc_heap_new (w.alloc (.map #[] 0)) (.cells #[.map (some w.heap.size)] 75)
    rw [World.size_alloc] at this
    exact this
  · exact ⟨.map #[] 0, (Below.heap_alloc _ _ _ (by simp)).trans (World.alloc_heap_new _ _), #[], 0, rfl, by simp [MapE]⟩
end
end Go.Proofs.Ytlafdnbjkkbmfaa
