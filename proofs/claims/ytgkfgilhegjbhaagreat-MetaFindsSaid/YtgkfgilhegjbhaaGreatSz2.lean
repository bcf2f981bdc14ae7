/- package size: Slot, Count; the reference's; no condition. -/
import Derived.ScopeJumps
import Derived.Scope
import Derived.Test.YtgkfgilhegjbhaaGreatSz
namespace Go.Proofs.YtgkfgilhegjbhaaGreat
open Go.RowKit
attribute [local go_sem] run_mf
attribute [local go_sem ↓] Go.wp_at_zero Go.wp_at_succ
section
variable {w : World}
set_option maxRecDepth 100000 in
set_option maxHeartbeats 1000000 in
theorem sz_slot1 {c : Int} (h0 : 0 ≤ c) (h8 : c < 8) : Calls Tryz.prog 35 #[.agg #[.int .i64 c]] w fun e w' => e = .returned (.int .i64 (sloI c)) ∧ Ext w w' := by
  have hx1 : Ext w (w.alloc (.cells #[.int .i64 c] 75)) := ext_n _ (Ext.refl _)
  have hb := sloI_pos c
  obtain ⟨p, hp⟩ : ∃ p, payI c = p := ⟨_, rfl⟩
  have hpay := fun w : World => sz_payload (w := w) h0 h8
  simp only [hp] at hpay
  rw [sloI, hp] at hb ⊢
  obtain ⟨b1, b2⟩ := hb
  clear hp
  go_enter Tryz.func35, Tryz.ntmps35
  go_wp2_with fail
  refine (hpay _).mono ?_
  rintro e w2 ⟨rfl, hx2⟩
  go_wp2
  go_ret
  exact ⟨ret_int (by omega), Ext.trans hx1 hx2⟩
set_option maxRecDepth 100000 in
set_option maxHeartbeats 1000000 in
theorem sz_count1 {c : Int} (h0 : 0 ≤ c) (h8 : c < 8) : Calls Tryz.prog 50 #[.agg #[.int .i64 c]] w fun e w' => e = .returned (.int .i64 (cntI c)) ∧ Ext w w' := by
  have hx1 : Ext w (w.alloc (.cells #[.int .i64 c] 75)) := ext_n _ (Ext.refl _)
  obtain ⟨b1, b2⟩ := sloI_pos c
  have hsl := fun w : World => sz_slot1 (w := w) h0 h8
  rw [cntI]
  obtain ⟨p, hp⟩ : ∃ p, sloI c = p := ⟨_, rfl⟩
  simp only [hp] at hsl b1 b2 ⊢
  clear hp
  go_enter Tryz.func50, Tryz.ntmps50
  go_wp2_with fail
  refine (hsl _).mono ?_
  rintro e w2 ⟨rfl, hx2⟩
  go_wp2
  go_ret
  exact ⟨ret_int (by omega), Ext.trans hx1 hx2⟩
set_option maxRecDepth 100000 in
set_option maxHeartbeats 1000000 in
theorem sz_is (c : Int) : Calls Tryz.prog 52 #[.int .i64 c] w fun e w' => e = .returned (.bool (inB 8 c)) ∧ w = w' := by
  unfold inB
  go_enter Tryz.func52, Tryz.ntmps52
  go_wp2
  all_goals (go_ret; simp [*]; try omega)
set_option maxRecDepth 100000 in
set_option maxHeartbeats 1000000 in
theorem sz_told {c n : Int} {g : FuncId} (hg : ∀ a w, (callFunc g a).run Tryz.prog w = .ok (.enter g a) w) (hc : 0 ≤ c → c < 8 → ∀ w, Calls Tryz.prog g #[.agg #[.int .i64 c]] w fun e w' => e = .returned (.int .i64 n) ∧ Ext w w') :
    Calls Tryz.prog 34 #[.int .i64 c, .func (.func g) #[] #[]] w fun e w' => e = .returned (.tuple #[.int .i64 (if inB 8 c = true then n else 0), .int .i64 (if inB 8 c = true then 0 else 2)]) ∧ Ext w w' := by
  have hx1 : Ext w (w.alloc (.cells #[.int .i64 c] 75)) := ext_n _ (Ext.refl _)
  have his := fun w : World => sz_is (w := w) c
  cases hb : inB 8 c with
  | true =>
    have hcc := hc (inB_iff.1 hb).1 (inB_iff.1 hb).2
    simp only [hb] at his
    have HC := Lib.hid hcc
    clear hc hcc hb
    go_enter Tryz.func34, Tryz.ntmps34
    go_wp2
    refine wp_scope_straight ?_
    go_wp2_with (go_at_call 52; refine (his _).mono ?_; rintro e w' ⟨rfl, rfl⟩)
    refine (HC.out _).mono ?_
    rintro e w2 ⟨rfl, hx2⟩
    go_wp2
    rw [Exit.noGoto_ret]
    go_ret2
    exact ⟨rfl, Ext.trans hx1 hx2⟩
  | false =>
    simp only [hb] at his
    clear hc hb
    go_enter Tryz.func34, Tryz.ntmps34
    go_wp2
    refine wp_scope_jumps 0 (fun a' w' => Ext w w' ∧ ∃ (u0 u1 u2 u3 u4 u5 u6 u7 u8 u9 u10 u11 u12 u13 u14 u15 : Value), a' = { tmps := #[u0, u1, u2, u3, u4, u5, u6, u7, u8, u9, u10, u11, u12, u13, u14, u15], defers := [] }) (fun _ _ => 0) rfl ?_ ?_
    · go_wp2_with (go_at_call 52; refine (his _).mono ?_; rintro e w' ⟨rfl, rfl⟩)
      go_step3
      exact ⟨rfl, hx1, _, _, _, _, _, _, _, _, _, _, _, _, _, _, _, _, rfl⟩
    · rintro a' w' ⟨hx, u0, u1, u2, u3, u4, u5, u6, u7, u8, u9, u10, u11, u12, u13, u14, u15, rfl⟩
      go_wp2
      rw [jump_ret]
      go_ret2
      exact ⟨rfl, hx⟩
set_option maxRecDepth 100000 in
set_option maxHeartbeats 1000000 in
theorem sz_Slot (c : Int) : Calls Tryz.prog 16 #[.int .i64 c] w fun e w' => e = .returned (.tuple #[.int .i64 (if inB 8 c = true then sloI c else 0), .int .i64 (if inB 8 c = true then 0 else 2)]) ∧ Ext w w' := by
  have ht := sz_told (w := w) (c := c) Tryz.call35 (fun h0 h8 w => sz_slot1 h0 h8)
  obtain ⟨a, ha⟩ : ∃ a, (if inB 8 c = true then sloI c else 0) = a := ⟨_, rfl⟩
  obtain ⟨b, hb⟩ : ∃ b : Int, (if inB 8 c = true then 0 else 2) = b := ⟨_, rfl⟩
  rw [ha, hb] at ht ⊢
  clear ha hb
  go_enter Tryz.func16, Tryz.ntmps16
  go_wp2_with fail
  refine ht.mono ?_
  rintro e w2 ⟨rfl, hx2⟩
  go_wp2
  go_ret2
  exact ⟨rfl, hx2⟩
set_option maxRecDepth 100000 in
set_option maxHeartbeats 1000000 in
theorem sz_Count (c : Int) : Calls Tryz.prog 29 #[.int .i64 c] w fun e w' => e = .returned (.tuple #[.int .i64 (if inB 8 c = true then cntI c else 0), .int .i64 (if inB 8 c = true then 0 else 2)]) ∧ Ext w w' := by
  have ht := sz_told (w := w) (c := c) Tryz.call50 (fun h0 h8 w => sz_count1 h0 h8)
  obtain ⟨a, ha⟩ : ∃ a, (if inB 8 c = true then cntI c else 0) = a := ⟨_, rfl⟩
  obtain ⟨b, hb⟩ : ∃ b : Int, (if inB 8 c = true then 0 else 2) = b := ⟨_, rfl⟩
  rw [ha, hb] at ht ⊢
  clear ha hb
  go_enter Tryz.func29, Tryz.ntmps29
  go_wp2_with fail
  refine ht.mono ?_
  rintro e w2 ⟨rfl, hx2⟩
  go_wp2
  go_ret2
  exact ⟨rfl, hx2⟩
end
end Go.Proofs.YtgkfgilhegjbhaaGreat
