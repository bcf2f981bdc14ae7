/- the reference of meta: a spot, its address; no condition. -/
import Derived.Test.YtgkfgilhegjbhaaGreatWi
namespace Go.Proofs.YtgkfgilhegjbhaaGreat
open Go.RowKit
attribute [local go_sem] run_mf
attribute [local go_sem ↓] Go.wp_at_zero Go.wp_at_succ
/-- what is wrong with a spot; its address -/
def asksI (s c i : Int) : Int := if (inB 4 s && inB 8 c) = true then if inB (cntI c) i = true then 0 else 4 else 2
def atI (s c i : Int) : Int := 256 * regI s c + i * sloI c + 16
structure OkS (s c i : Int) : Prop where
  s0 : 0 ≤ s
  s4 : s < 4
  c0 : 0 ≤ c
  c8 : c < 8
  i0 : 0 ≤ i
  iN : i < cntI c
theorem asksI_ok {s c i : Int} : asksI s c i = 0 ↔ OkS s c i := by
  unfold asksI
  constructor
  · intro h
    split at h
    · rename_i h1
      rw [Bool.and_eq_true, inB_iff, inB_iff] at h1
      split at h
      · rename_i h2
        rw [inB_iff] at h2
        exact ⟨h1.1.1, h1.1.2, h1.2.1, h1.2.2, h2.1, h2.2⟩
      · cases h
    · cases h
  · intro ⟨h1, h2, h3, h4, h5, h6⟩
    rw [if_pos (by rw [Bool.and_eq_true, inB_iff, inB_iff]; exact ⟨⟨h1, h2⟩, h3, h4⟩), if_pos (by rw [inB_iff]; exact ⟨h5, h6⟩)]
theorem OkS.mul {s c i : Int} (h : OkS s c i) : 0 ≤ i * sloI c ∧ i * sloI c + sloI c ≤ 4096 := by
  obtain ⟨h1, h2, h3, h4, h5, h6⟩ := h
  unfold cntI at h6
  rcases eight h3 h4 with rfl | rfl | rfl | rfl | rfl | rfl | rfl | rfl <;> simp [sloI, payI] at h6 ⊢ <;> omega
theorem OkS.bound {s c i : Int} (h : OkS s c i) : 1048576 ≤ atI s c i ∧ atI s c i < 5300000 := by
  have hm := h.mul
  have hp := sloI_pos c
  obtain ⟨h1, h2, h3, h4, h5, h6⟩ := h
  unfold atI regI
  omega
section
variable {w : World}
set_option maxRecDepth 100000 in
set_option maxHeartbeats 1000000 in
theorem r10_slot (n : Int) : Calls Tryz.prog 17 #[.int .i64 n] w fun e w' => e = .returned (.bool (inB 4 n)) ∧ w = w' := by
  unfold inB
  go_enter Tryz.func17, Tryz.ntmps17
  go_wp2
  all_goals (go_ret; simp [*]; try omega)
set_option maxRecDepth 100000 in
set_option maxHeartbeats 1000000 in
theorem r10_class (n : Int) : Calls Tryz.prog 18 #[.int .i64 n] w fun e w' => e = .returned (.bool (inB 8 n)) ∧ w = w' := by
  unfold inB
  go_enter Tryz.func18, Tryz.ntmps18
  go_wp2
  all_goals (go_ret; simp [*]; try omega)
set_option maxRecDepth 100000 in
set_option maxHeartbeats 1000000 in
theorem r10_base {s : Int} (s0 : 0 ≤ s) (s4 : s < 4) : Calls Tryz.prog 36 #[.int .i64 s] w fun e w' => e = .returned (.int .i64 (4096 * (s + 1))) ∧ w = w' := by
  go_enter Tryz.func36, Tryz.ntmps36
  go_wp2
  go_ret
  exact ⟨rfl, rfl⟩
set_option maxRecDepth 100000 in
set_option maxHeartbeats 1000000 in
theorem r10_region {s c : Int} (s0 : 0 ≤ s) (s4 : s < 4) (c0 : 0 ≤ c) (c8 : c < 8) : Calls Tryz.prog 20 #[.int .i64 s, .int .i64 c] w fun e w' => e = .returned (.int .i64 (regI s c)) ∧ w = w' := by
  unfold regI
  go_enter Tryz.func20, Tryz.ntmps20
  go_wp2_with fail
  refine (r10_base s0 s4).mono ?_
  rintro e w2 ⟨rfl, rfl⟩
  go_wp2
  go_ret
  exact ⟨rfl, rfl⟩
set_option maxRecDepth 100000 in
set_option maxHeartbeats 1000000 in
theorem r03_payload {c : Int} (c0 : 0 ≤ c) (c8 : c < 8) : Calls Tryz.prog 37 #[.int .i64 c] w fun e w' => e = .returned (.int .i64 (payI c)) ∧ w = w' := by
  rcases eight c0 c8 with rfl | rfl | rfl | rfl | rfl | rfl | rfl | rfl
  all_goals
    go_enter Tryz.func37, Tryz.ntmps37
    go_wp2
    go_ret
    exact ⟨rfl, rfl⟩
set_option maxRecDepth 100000 in
set_option maxHeartbeats 1000000 in
theorem r03_slot {c : Int} (c0 : 0 ≤ c) (c8 : c < 8) : Calls Tryz.prog 21 #[.int .i64 c] w fun e w' => e = .returned (.int .i64 (sloI c)) ∧ w = w' := by
  have hb := sloI_pos c
  have hpay := r03_payload (w := w) c0 c8
  rw [sloI] at hb ⊢
  obtain ⟨p, hp⟩ : ∃ p, payI c = p := ⟨_, rfl⟩
  rw [hp] at hpay hb ⊢
  obtain ⟨b1, b2⟩ := hb
  clear hp
  go_enter Tryz.func21, Tryz.ntmps21
  go_wp2_with fail
  refine hpay.mono ?_
  rintro e w2 ⟨rfl, rfl⟩
  go_wp2
  go_ret
  exact ⟨ret_int (by omega), rfl⟩
set_option maxRecDepth 100000 in
set_option maxHeartbeats 1000000 in
theorem r03_count {c : Int} (c0 : 0 ≤ c) (c8 : c < 8) : Calls Tryz.prog 19 #[.int .i64 c] w fun e w' => e = .returned (.int .i64 (cntI c)) ∧ w = w' := by
  have hsl := fun w : World => r03_slot (w := w) c0 c8
  obtain ⟨b1, b2⟩ := sloI_pos c
  have hcn : ∀ k : Nat, (k : Int) * sloI c ≤ 4096 → 4096 < ((k : Int) + 1) * sloI c → cntI c = k := fun k h1 h2 => by
    unfold cntI
    rcases eight c0 c8 with rfl | rfl | rfl | rfl | rfl | rfl | rfl | rfl <;> simp [sloI, payI] at h1 h2 ⊢ <;> omega
  obtain ⟨p, hp⟩ : ∃ p, sloI c = p := ⟨_, rfl⟩
  obtain ⟨r, hr⟩ : ∃ r, cntI c = r := ⟨_, rfl⟩
  simp only [hp] at hsl b1 b2 hcn
  rw [hr] at hcn ⊢
  have HC := Lib.hid hcn
  clear hp hcn hr
  go_enter Tryz.func19, Tryz.ntmps19
  go_wp2
  go_loop [3] (fun n => ∃ k : Nat, k ≤ 90 ∧ n = .int .i64 k ∧ (k : Int) * p ≤ 4096) (fun n => 100 - (intOf n).toNat)
  case atStart => exact ⟨0, by omega, rfl, by simp⟩
  case round =>
    obtain ⟨k, hk, rfl, hr⟩ := hrel
    have hk2 : k ≤ 85 := by
      have h1 : (k : Int) * 48 ≤ k * p := Int.mul_le_mul_of_nonneg_left b1 (by omega)
      omega
    have hm0 : 0 ≤ ((k : Int) + 1) * p := Int.mul_nonneg (by omega) (by omega)
    have hm1 : ((k : Int) + 1) * p ≤ ((k : Int) + 1) * 288 := Int.mul_le_mul_of_nonneg_left b2 (by omega)
    have hm2 : ((k : Int) + 1) * p ≤ 24768 := by omega
    by_cases hlt : ((k : Int) + 1) * p ≤ 4096
    · go_wp2_with (go_at_call 21; refine (hsl _).mono ?_; rintro e w' ⟨rfl, rfl⟩)
      go_round
      case rel => exact ⟨k + 1, by omega, by go_num, by push_cast; exact hlt⟩
      case measure => simp [intOf]; omega
    · have HE := Lib.hid (HC.out k hr (by omega))
      go_wp2_with (go_at_call 21; refine (hsl _).mono ?_; rintro e w' ⟨rfl, rfl⟩)
      go_ret
      exact ⟨by rw [HE.out]; rfl, rfl⟩
end
end Go.Proofs.YtgkfgilhegjbhaaGreat
