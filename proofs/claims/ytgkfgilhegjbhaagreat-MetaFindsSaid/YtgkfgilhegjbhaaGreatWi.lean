/- package window: slots, regions, books, addresses; no condition. -/
import Derived.ScopeJumps
import Derived.Scope
import Derived.Test.YtgkfgilhegjbhaaGreatFitW
import Derived.Test.YtgkfgilhegjbhaaGreatSz
namespace Go.Proofs.YtgkfgilhegjbhaaGreat
open Go.RowKit
attribute [local go_sem] run_mf
attribute [local go_sem ↓] Go.wp_at_zero Go.wp_at_succ
def regI (s c : Int) : Int := 4096 * (s + 1) + 1 + 17 * c
section
variable {w : World}
set_option maxRecDepth 100000 in
set_option maxHeartbeats 1000000 in
theorem wi_is (n : Int) : Calls Tryz.prog 31 #[.int .i64 n] w fun e w' => e = .returned (.bool (inB 4 n)) ∧ w = w' := by
  unfold inB
  go_enter Tryz.func31, Tryz.ntmps31
  go_wp2
  all_goals (go_ret; simp [*]; try omega)
set_option maxRecDepth 100000 in
set_option maxHeartbeats 1000000 in
theorem wi_base {s : Int} (h0 : 0 ≤ s) (h4 : s < 4) : Calls Tryz.prog 42 #[.agg #[.int .i64 s]] w fun e w' => e = .returned (.int .i64 (4096 * (s + 1))) ∧ Ext w w' := by
  go_enter Tryz.func42, Tryz.ntmps42
  go_wp2
  go_ret
  exact ⟨rfl, ext_n _ (Ext.refl _)⟩
set_option maxRecDepth 100000 in
set_option maxHeartbeats 1000000 in
theorem wi_book {s : Int} (h0 : 0 ≤ s) (h4 : s < 4) : Calls Tryz.prog 56 #[.agg #[.int .i64 s]] w fun e w' => e = .returned (.int .i64 (64 * s + 1)) ∧ Ext w w' := by
  go_enter Tryz.func56, Tryz.ntmps56
  go_wp2
  go_ret
  exact ⟨rfl, ext_n _ (Ext.refl _)⟩
set_option maxRecDepth 100000 in
set_option maxHeartbeats 1000000 in
theorem wi_region {s c : Int} (h0 : 0 ≤ s) (h4 : s < 4) (c0 : 0 ≤ c) (c8 : c < 8) : Calls Tryz.prog 33 #[.agg #[.int .i64 s], .int .i64 c] w fun e w' => e = .returned (.int .i64 (regI s c)) ∧ Ext w w' := by
  have hx1 : Ext w (w.alloc (.cells #[.int .i64 s] 69)) := ext_n _ (Ext.refl _)
  unfold regI
  go_enter Tryz.func33, Tryz.ntmps33
  go_wp2_with fail
  refine (wi_base h0 h4).mono ?_
  rintro e w2 ⟨rfl, hx2⟩
  go_wp2
  go_ret
  exact ⟨rfl, Ext.trans hx1 hx2⟩
set_option maxRecDepth 100000 in
set_option maxHeartbeats 1000000 in
theorem wi_Region (s c : Int) : Calls Tryz.prog 15 #[.int .i64 s, .int .i64 c] w fun e w' => e = .returned (.tuple #[.int .i64 (if (inB 4 s && inB 8 c) = true then regI s c else 0), .int .i64 (if (inB 4 s && inB 8 c) = true then 0 else 2)]) ∧ Ext w w' := by
  have his := fun w : World => wi_is (w := w) s
  have hfit := fun w : World => wi_fits_new (w := w) (k := 8) (n := c)
  rw [show (decide (0 ≤ c) && decide (c < 8)) = inB 8 c from rfl] at hfit
  have hx1 : Ext w (w.alloc (.cells #[.int .i64 c] 3)) := ext_n _ (Ext.refl _)
  cases hs : inB 4 s with
  | false =>
    simp only [hs] at his
    simp only [Bool.false_and, Bool.false_eq_true, if_false]
    clear hs hfit
    go_enter Tryz.func15, Tryz.ntmps15
    go_wp2
    refine wp_scope_jumps 0 (fun a' w' => Ext w w' ∧ ∃ (u0 u1 u2 u3 u4 u5 u6 u7 u8 u9 u10 u11 u12 u13 u14 u15 u16 u17 u18 : Value), a' = { tmps := #[u0, u1, u2, u3, u4, u5, u6, u7, u8, u9, u10, u11, u12, u13, u14, u15, u16, u17, u18], defers := [] }) (fun _ _ => 0) rfl ?_ ?_
    · go_wp2_with (go_at_call 31; refine (his _).mono ?_; rintro e w' ⟨rfl, rfl⟩)
      go_step3
      exact ⟨rfl, Ext.refl _, _, _, _, _, _, _, _, _, _, _, _, _, _, _, _, _, _, _, _, rfl⟩
    · rintro a' w' ⟨hx, u0, u1, u2, u3, u4, u5, u6, u7, u8, u9, u10, u11, u12, u13, u14, u15, u16, u17, u18, rfl⟩
      go_wp2
      rw [jump_ret]
      go_ret2
      exact ⟨rfl, hx⟩
  | true =>
    simp only [hs] at his
    simp only [Bool.true_and]
    obtain ⟨s0, s4⟩ := inB_iff.1 hs
    clear hs
    cases hc : inB 8 c with
    | false =>
      simp only [hc] at hfit
      simp only [Bool.false_eq_true, if_false]
      clear hc
      go_enter Tryz.func15, Tryz.ntmps15
      go_wp2
      refine wp_scope_jumps 0 (fun a' w' => Ext w w' ∧ ∃ (u0 u1 u2 u3 u4 u5 u6 u7 u8 u9 u10 u11 u12 u13 u14 u15 u16 u17 u18 : Value), a' = { tmps := #[u0, u1, u2, u3, u4, u5, u6, u7, u8, u9, u10, u11, u12, u13, u14, u15, u16, u17, u18], defers := [] }) (fun _ _ => 0) rfl ?_ ?_
      · go_wp2_with (go_at_call 31; refine (his _).mono ?_; rintro e w' ⟨rfl, rfl⟩)
        refine (hfit _).mono ?_
        rintro e w2 ⟨rfl, hx2⟩
        go_wp2
        go_step3
        exact ⟨rfl, hx2, _, _, _, _, _, _, _, _, _, _, _, _, _, _, _, _, _, _, _, rfl⟩
      · rintro a' w' ⟨hx, u0, u1, u2, u3, u4, u5, u6, u7, u8, u9, u10, u11, u12, u13, u14, u15, u16, u17, u18, rfl⟩
        go_wp2
        rw [jump_ret]
        go_ret2
        exact ⟨rfl, hx⟩
    | true =>
      simp only [hc] at hfit
      simp only [if_true]
      obtain ⟨c0, c8⟩ := inB_iff.1 hc
      clear hc
      obtain ⟨r, hr⟩ : ∃ r, regI s c = r := ⟨_, rfl⟩
      have hreg := fun w : World => wi_region (w := w) s0 s4 c0 c8
      simp only [hr] at hreg ⊢
      clear hr
      go_enter Tryz.func15, Tryz.ntmps15
      go_wp2
      refine wp_scope_straight ?_
      go_wp2_with (go_at_call 31; refine (his _).mono ?_; rintro e w' ⟨rfl, rfl⟩)
      refine (hfit _).mono ?_
      rintro e w2 ⟨rfl, hx2⟩
      go_wp2_with fail
      refine (hreg _).mono ?_
      rintro e w3 ⟨rfl, hx3⟩
      go_wp2
      rw [Exit.noGoto_ret]
      go_ret2
      exact ⟨rfl, Ext.trans hx2 hx3⟩
set_option maxRecDepth 100000 in
set_option maxHeartbeats 1000000 in
theorem wi_Book (s : Int) : Calls Tryz.prog 81 #[.int .i64 s] w fun e w' => e = .returned (.tuple #[.int .i64 (if inB 4 s = true then 64 * s + 1 else 0), .int .i64 (if inB 4 s = true then 0 else 2)]) ∧ Ext w w' := by
  have his := fun w : World => wi_is (w := w) s
  cases hs : inB 4 s with
  | false =>
    simp only [hs] at his
    simp only [Bool.false_eq_true, if_false]
    clear hs
    go_enter Tryz.func81, Tryz.ntmps81
    go_wp2_with (go_at_call 31; refine (his _).mono ?_; rintro e w' ⟨rfl, rfl⟩)
    go_ret2
    exact ⟨rfl, Ext.refl _⟩
  | true =>
    simp only [hs] at his
    simp only [if_true]
    obtain ⟨s0, s4⟩ := inB_iff.1 hs
    clear hs
    go_enter Tryz.func81, Tryz.ntmps81
    go_wp2_with (go_at_call 31; refine (his _).mono ?_; rintro e w' ⟨rfl, rfl⟩)
    refine (wi_book s0 s4).mono ?_
    rintro e w3 ⟨rfl, hx3⟩
    go_wp2
    go_ret2
    exact ⟨rfl, hx3⟩
set_option maxRecDepth 100000 in
set_option maxHeartbeats 1000000 in
theorem wi_Split {a : Int} (a0 : 0 ≤ a) (h : a < 16777216) : Calls Tryz.prog 22 #[.int .u32 a] w fun e w' => e = .returned (.tuple #[.int .i64 (a / 256), .int .i64 (a % 256), .int .i64 0]) ∧ w = w' := by
  go_enter Tryz.func22, Tryz.ntmps22
  go_wp2
  go_ret3
  exact ⟨rfl, rfl⟩
set_option maxRecDepth 100000 in
set_option maxHeartbeats 1000000 in
theorem wi_Split' {a : Int} (h : 16777216 ≤ a) : Calls Tryz.prog 22 #[.int .u32 a] w fun e w' => e = .returned (.tuple #[.int .i64 0, .int .i64 0, .int .i64 4]) ∧ w = w' := by
  go_enter Tryz.func22, Tryz.ntmps22
  go_wp2
  go_ret3
  exact ⟨rfl, rfl⟩
end
end Go.Proofs.YtgkfgilhegjbhaaGreat
