/- the reference of meta: Asks, At; no condition. -/
import Derived.Test.YtgkfgilhegjbhaaGreatMeP
namespace Go.Proofs.YtgkfgilhegjbhaaGreat
open Go.RowKit
attribute [local go_sem] run_mf
attribute [local go_sem ↓] Go.wp_at_zero Go.wp_at_succ
section
variable {w : World}
set_option maxRecDepth 100000 in
set_option maxHeartbeats 1000000 in
theorem r15_At {s c i : Int} (h : OkS s c i) : Calls Tryz.prog 7 #[.agg #[.int .i64 s, .int .i64 c, .int .i64 i]] w fun e w' => e = .returned (.int .u32 (atI s c i)) ∧ Ext w w' := by
  have hreg := fun w : World => (r10_region (w := w) h.s0 h.s4 h.c0 h.c8).mono fun e w2 (h : _ ∧ _) => (⟨h.1, h.2.symm⟩ : _ ∧ w2 = w)
  have hslo := fun w : World => (r03_slot (w := w) h.c0 h.c8).mono fun e w2 (h : _ ∧ _) => (⟨h.1, h.2.symm⟩ : _ ∧ w2 = w)
  have hm := h.mul
  have hb := h.bound
  have hps := sloI_pos c
  have hat : atI s c i = 256 * regI s c + i * sloI c + 16 := rfl
  obtain ⟨A, hA⟩ : ∃ A, atI s c i = A := ⟨_, rfl⟩
  rw [hA] at hat hb ⊢
  obtain ⟨p, hp⟩ : ∃ p, sloI c = p := ⟨_, rfl⟩
  obtain ⟨g, hg⟩ : ∃ p, regI s c = p := ⟨_, rfl⟩
  obtain ⟨m, hmm⟩ : ∃ m, i * p = m := ⟨_, rfl⟩
  simp only [hp, hg, hmm] at hreg hslo hm hat hps
  obtain ⟨s0, s4, c0, c8, i0, iN⟩ := h
  have hAe := hat.symm
  clear hp hg hA hat
  have hw1 : IntKind.i64.wrap (256 * g) = 256 * g := IntWalk.i64_in _ (by omega)
  have hw2 : IntKind.i64.wrap m = m := IntWalk.i64_in _ (by omega)
  have hw3 : IntKind.i64.wrap (256 * g + m) = 256 * g + m := IntWalk.i64_in _ (by omega)
  have hw4 : IntKind.i64.wrap (256 * g + m + 16) = 256 * g + m + 16 := IntWalk.i64_in _ (by omega)
  have hw5 : IntKind.u32.wrap (256 * g + m + 16) = A := by
    rw [hAe]
    exact IntWalk.u32_in _ (by omega)
  go_enter Tryz.func7, Tryz.ntmps7
  go_wp2
  go_quiet (first | (go_at_call 20; exact Calls.quiet_of_same (hreg _)) | (go_at_call 21; exact Calls.quiet_of_same (hslo _)))
  go_wp2
  go_ret
  exact ⟨rfl, ext_drewN nq (ext_n _ (Ext.refl _))⟩
set_option maxRecDepth 100000 in
set_option maxHeartbeats 1000000 in
theorem r15_Asks (s c i : Int) : Calls Tryz.prog 5 #[.agg #[.int .i64 s, .int .i64 c, .int .i64 i]] w fun e w' => e = .returned (.int .i64 (asksI s c i)) ∧ Ext w w' := by
  have hsl := fun w : World => (r10_slot (w := w) s).mono fun e w2 (h : _ ∧ _) => (⟨h.1, h.2.symm⟩ : _ ∧ w2 = w)
  have hcl := fun w : World => (r10_class (w := w) c).mono fun e w2 (h : _ ∧ _) => (⟨h.1, h.2.symm⟩ : _ ∧ w2 = w)
  unfold asksI
  cases h1 : inB 4 s with
  | false =>
    simp only [h1] at hsl
    simp only [Bool.false_and, Bool.false_eq_true, if_false]
    go_enter Tryz.func5, Tryz.ntmps5
    go_wp2_with (go_at_call 17; refine (hsl _).mono ?_; rintro e w' ⟨rfl, rfl⟩)
    go_ret
    exact ⟨rfl, ext_n _ (Ext.refl _)⟩
  | true =>
    cases h2 : inB 8 c with
    | false =>
      simp only [h1] at hsl
      simp only [h2] at hcl
      simp only [Bool.and_false, Bool.false_eq_true, if_false]
      go_enter Tryz.func5, Tryz.ntmps5
      go_wp2_with (first | (go_at_call 17; refine (hsl _).mono ?_; rintro e w' ⟨rfl, rfl⟩) | (go_at_call 18; refine (hcl _).mono ?_; rintro e w' ⟨rfl, rfl⟩))
      go_ret
      exact ⟨rfl, ext_n _ (Ext.refl _)⟩
    | true =>
      obtain ⟨c0, c8⟩ := inB_iff.1 h2
      have hcnt := fun w : World => (r03_count (w := w) c0 c8).mono fun e w2 (h : _ ∧ _) => (⟨h.1, h.2.symm⟩ : _ ∧ w2 = w)
      simp only [h1] at hsl
      simp only [h2] at hcl
      simp only [Bool.and_true, if_true]
      obtain ⟨n, hn⟩ : ∃ n, cntI c = n := ⟨_, rfl⟩
      simp only [hn] at hcnt ⊢
      clear h1 h2 hn
      by_cases hi : i < 0
      · have hin : inB n i = false := by rw [Bool.eq_false_iff, ne_eq, inB_iff]; omega
        rw [hin]
        simp only [Bool.false_eq_true, if_false]
        go_enter Tryz.func5, Tryz.ntmps5
        go_wp2_with (first | (go_at_call 17; refine (hsl _).mono ?_; rintro e w' ⟨rfl, rfl⟩) | (go_at_call 18; refine (hcl _).mono ?_; rintro e w' ⟨rfl, rfl⟩))
        go_quiet (first | (go_at_call 19; exact Calls.quiet_of_same (hcnt _)))
        go_wp2
        go_ret
        exact ⟨rfl, ext_drewN nq (ext_n _ (Ext.refl _))⟩
      · have hd : decide (i < 0) = false := by simpa using hi
        by_cases hin' : i < n
        · have hin : inB n i = true := inB_iff.2 ⟨by omega, hin'⟩
          rw [hin]
          simp only [if_true]
          go_enter Tryz.func5, Tryz.ntmps5
          go_wp2_with (first | (go_at_call 17; refine (hsl _).mono ?_; rintro e w' ⟨rfl, rfl⟩) | (go_at_call 18; refine (hcl _).mono ?_; rintro e w' ⟨rfl, rfl⟩))
          go_quiet (first | (go_at_call 19; exact Calls.quiet_of_same (hcnt _)))
          go_wp2
          go_ret
          exact ⟨rfl, ext_drewN nq (ext_n _ (Ext.refl _))⟩
        · have hin : inB n i = false := by rw [Bool.eq_false_iff, ne_eq, inB_iff]; omega
          rw [hin]
          simp only [Bool.false_eq_true, if_false]
          go_enter Tryz.func5, Tryz.ntmps5
          go_wp2_with (first | (go_at_call 17; refine (hsl _).mono ?_; rintro e w' ⟨rfl, rfl⟩) | (go_at_call 18; refine (hcl _).mono ?_; rintro e w' ⟨rfl, rfl⟩))
          go_quiet (first | (go_at_call 19; exact Calls.quiet_of_same (hcnt _)))
          go_wp2
          go_ret
          exact ⟨rfl, ext_drewN nq (ext_n _ (Ext.refl _))⟩
end
end Go.Proofs.YtgkfgilhegjbhaaGreat
