/- package frame: Reserve; no condition. -/
import Derived.Test.YtlafdnbjkkbmfaaRoom
import Derived.Test.YtlafdnbjkkbmfaaAsk
import Derived.Test.YtlafdnbjkkbmfaaReg
namespace Go.Proofs.Ytlafdnbjkkbmfaa
open Go.RowKit
attribute [local go_sem] run_mf
attribute [local go_sem ↓] Go.wp_at_zero Go.wp_at_succ
section
variable {w : World} {pb fb rb : Nat} {many : Int} {F : List (Int × Tak)} {R : List (Int × Int)}
set_option maxRecDepth 100000 in
set_option maxHeartbeats 1000000 in
theorem frame_res2 {b c d : Nat} {n who : Int} (h : PoolAt w pb fb rb many F R) (hF : FOk F) (h1 : w.cell? ⟨b, 0, none⟩ = some (.int .i64 n)) (h2 : w.cell? ⟨c, 0, none⟩ = some (.pointer (some ⟨pb, 0, none⟩))) (h3 : w.cell? ⟨d, 0, none⟩ = some (.int .i64 who)) :
    Calls Try.prog 35 #[.pointer (some ⟨b, 0, none⟩), .pointer (some ⟨c, 0, none⟩), .pointer (some ⟨d, 0, none⟩)] w fun e w' => e = .returned (.bool (decide (n < (hasN F who : Nat)))) ∧ Ext w w' := by
  have hb := World.block_lt_of_cell? w _ h1
  have hc := World.block_lt_of_cell? w _ h2
  have hd := World.block_lt_of_cell? w _ h3
  go_enter Try.func35, Try.ntmps35
  go_wp2_with fail
  go_region_held3 (fun w' => w'.cell? ⟨b, 0, none⟩ = some (.int .i64 n) ∧ w'.cell? ⟨c, 0, none⟩ = some (.pointer (some ⟨pb, 0, none⟩)) ∧ w'.cell? ⟨d, 0, none⟩ = some (.int .i64 who))
    (first | exact ⟨h1, h2, h3⟩ | exact ⟨(hx2.cell (p := ⟨b, 0, none⟩) hb).trans h1, (hx2.cell (p := ⟨c, 0, none⟩) hc).trans h2, (hx2.cell (p := ⟨d, 0, none⟩) hd).trans h3⟩)
    ((go_at_call 36; refine (frame_has (h.ext (ext_drew (Ext.refl _))) hF who).mono ?_; rintro e w2 ⟨rfl, hx2⟩))
  go_wp2
  go_ret
  exact ⟨rfl, Ext.trans (ext_drew (Ext.refl _)) hx2⟩
theorem look_res (h : PoolAt w pb fb rb many F R) (who : Int) : (Instr.lookup 67 (.map (some rb)) (.int .i64 who) false).run Try.prog w = .ok (.int .i64 ((getL R who).getD 0)) w :=
  h.rs.look0 Try.underlying67 Try.underlying3 Try.zeroValue3 who (by cases getL R who <;> rfl)
theorem sumR_le {R : List (Int × Int)} (h : ∀ p ∈ R, 0 ≤ p.2) {k v : Int} (hm : (k, v) ∈ R) : v ≤ sumR R := by
  induction R with
  | nil => simp at hm
  | cons a l ih =>
    have h0 := h a (by simp)
    have hn := sumR_nonneg (fun p hp => h p (List.mem_cons_of_mem _ hp))
    simp only [sumR]
    rcases List.mem_cons.1 hm with rfl | hm
    · simp; omega
    · have := ih (fun p hp => h p (List.mem_cons_of_mem _ hp)) hm; omega
theorem getR_bound (hR : ROk R many) (who : Int) : 0 ≤ (getL R who).getD 0 ∧ (getL R who).getD 0 ≤ sumR R := by
  cases hg : getL R who with
  | none => exact ⟨by simp, sumR_nonneg hR.1⟩
  | some v => exact ⟨hR.1 _ (getL_mem hg), sumR_le hR.1 (getL_mem hg)⟩
set_option maxRecDepth 100000 in
set_option maxHeartbeats 1000000 in
theorem frame_res3 {b c d : Nat} {n who : Int} (h : PoolAt w pb fb rb many F R) (hR : ROk R many) (h1 : w.cell? ⟨b, 0, none⟩ = some (.int .i64 n)) (h2 : w.cell? ⟨c, 0, none⟩ = some (.pointer (some ⟨pb, 0, none⟩))) (h3 : w.cell? ⟨d, 0, none⟩ = some (.int .i64 who)) :
    Calls Try.prog 37 #[.pointer (some ⟨b, 0, none⟩), .pointer (some ⟨c, 0, none⟩), .pointer (some ⟨d, 0, none⟩)] w fun e w' => e = .returned (.bool (decide (many - sumR R + (getL R who).getD 0 < n))) ∧ Ext w w' := by
  have hb := World.block_lt_of_cell? w _ h1
  have hc := World.block_lt_of_cell? w _ h2
  have hd := World.block_lt_of_cell? w _ h3
  have hp := lt_of_block h.blk
  have hbd := getR_bound hR who
  have hR' := hR
  obtain ⟨hR0, hR1, hR2, hR3, _⟩ := hR
  obtain ⟨rm, hrm⟩ : ∃ rm, rm = many - sumR R := ⟨_, rfl⟩
  obtain ⟨rv, hrv⟩ : ∃ rv, rv = (getL R who).getD 0 := ⟨_, rfl⟩
  have hl := look_res h who
  have hroom := frame_room (h.ext (ext_drew (Ext.refl _))) hR'
  rw [← hrv] at hl hbd ⊢
  rw [← hrm] at hroom ⊢
  have b1 : 0 ≤ rm := by omega
  have b2 : rm ≤ 1000000 := by omega
  have b3 : 0 ≤ rv := by omega
  have b4 : rv ≤ 1000000 := by omega
  have hw : IntKind.i64.wrap (rm + rv) = rm + rv := IntWalk.i64_in _ (by omega)
  have hkeep : ∀ w2, Ext w.drew w2 → w2.cell? ⟨b, 0, none⟩ = some (.int .i64 n) ∧ w2.cell? ⟨c, 0, none⟩ = some (.pointer (some ⟨pb, 0, none⟩)) ∧ w2.cell? ⟨d, 0, none⟩ = some (.int .i64 who) ∧ w2.cell? ⟨pb, 1, none⟩ = some (.map (some rb)) ∧
      (Instr.lookup 67 (.map (some rb)) (.int .i64 who) false).run Try.prog w2 = .ok (.int .i64 rv) w2 := fun w2 hx2 => by
    have hx : Ext w w2 := Ext.trans (ext_drew (Ext.refl _)) hx2
    refine ⟨(hx2.cell (p := ⟨b, 0, none⟩) hb).trans h1, (hx2.cell (p := ⟨c, 0, none⟩) hc).trans h2, (hx2.cell (p := ⟨d, 0, none⟩) hd).trans h3, (h.ext hx).c1, ?_⟩
    rw [hrv]; exact look_res (h.ext hx) who
  clear hR0 hR1 hR2 hR3 hrm hrv hR' hbd hl
  go_enter Try.func37, Try.ntmps37
  go_wp2_with fail
  go_region_held3 (fun w' => w'.cell? ⟨b, 0, none⟩ = some (.int .i64 n) ∧ w'.cell? ⟨c, 0, none⟩ = some (.pointer (some ⟨pb, 0, none⟩)) ∧ w'.cell? ⟨d, 0, none⟩ = some (.int .i64 who) ∧ w'.cell? ⟨pb, 1, none⟩ = some (.map (some rb)) ∧ (Instr.lookup 67 (.map (some rb)) (.int .i64 who) false).run Try.prog w' = .ok (.int .i64 rv) w')
    (first | exact hkeep _ (Ext.refl _) | exact hkeep _ hx2)
    ((go_at_call 38; refine hroom.mono ?_; rintro e w2 ⟨rfl, hx2⟩))
  all_goals (go_wp2; go_ret; exact ⟨rfl, Ext.trans (ext_drew (Ext.refl _)) hx2⟩)
/-- Reserve: what is answered, and what becomes of the reservations -/
def resE (F : List (Int × Tak)) (R : List (Int × Int)) (many who n : Int) : Int :=
  if n < 0 ∨ who < 0 ∨ 64 ≤ who then 2 else if n < hasN F who then 172 else if many - sumR R + (getL R who).getD 0 < n then 170 else 0
def resR (R : List (Int × Int)) (who n : Int) : List (Int × Int) := if n = 0 then delL (putL R who n) who else putL R who n
/-- Reserve's questions -/
def resQ (F : List (Int × Tak)) (R : List (Int × Int)) (many who n : Int) (B : Nat) (v1 v2 : Value) : List (Value × Int × Bool) :=
  [(v1, 1, false), (v2, 2, decide (who < 0) || decide (64 ≤ who)), (.func (.func 34) #[] #[.pointer (some ⟨B + 2, 0, none⟩)], 2, decide (n < 0)),
   (.func (.func 35) #[] #[.pointer (some ⟨B + 2, 0, none⟩), .pointer (some ⟨B, 0, none⟩), .pointer (some ⟨B + 1, 0, none⟩)], 172, decide (n < (hasN F who : Nat))),
   (.func (.func 37) #[] #[.pointer (some ⟨B + 2, 0, none⟩), .pointer (some ⟨B, 0, none⟩), .pointer (some ⟨B + 1, 0, none⟩)], 170, decide (many - sumR R + (getL R who).getD 0 < n))]
theorem resQ_E (B : Nat) (v1 v2 : Value) (who n : Int) : firstE (resQ F R many who n B v1 v2) = resE F R many who n := by
  unfold resQ resE
  simp only [firstE, decide_eq_true_eq, Bool.or_eq_true, Bool.false_eq_true, if_false]
  by_cases h1 : who < 0 ∨ 64 ≤ who
  · rw [if_pos h1, if_pos (Or.inr h1)]
  · rw [if_neg h1]
    by_cases h2 : n < 0
    · rw [if_pos h2, if_pos (Or.inl h2)]
    · have h3 : ¬ (n < 0 ∨ who < 0 ∨ 64 ≤ who) := by omega
      rw [if_neg h2, if_neg h3]
set_option maxRecDepth 100000 in
set_option maxHeartbeats 1000000 in
theorem frame_reserve {n who : Int} (h : PoolAt w pb fb rb many F R) (hF : FOk F) (hR : ROk R many) :
    Calls Try.prog 17 #[.pointer (some ⟨pb, 0, none⟩), .int .i64 who, .int .i64 n] w fun e w' => e = .returned (.int .i64 (resE F R many who n)) ∧ Upd [rb] w w' ∧
      PoolAt w' pb fb rb many F (if resE F R many who n = 0 then resR R who n else R) := by
  obtain ⟨L, hL⟩ : ∃ L, L = [(Value.pointer (some ⟨pb, 0, none⟩), 45), (Value.int .i64 who, 3), (Value.int .i64 n, 3)] := ⟨_, rfl⟩
  obtain ⟨W, hW⟩ : ∃ W, boxes w L = W := ⟨_, rfl⟩
  have hxW : Ext w W := hW ▸ boxes_ext L w
  have hb : ∀ (w2 : World), Ext W w2 →
      w2.cell? ⟨w.heap.size, 0, none⟩ = some (.pointer (some ⟨pb, 0, none⟩)) ∧ w2.cell? ⟨w.heap.size + 1, 0, none⟩ = some (.int .i64 who) ∧ w2.cell? ⟨w.heap.size + 2, 0, none⟩ = some (.int .i64 n) := fun w2 hx => by
    subst hW; subst hL
    exact ⟨boxes_cell _ w 0 (by simp) hx, boxes_cell _ w 1 (by simp) hx, boxes_cell _ w 2 (by simp) hx⟩
  have hP := h.ext hxW
  have hWl : ((w.alloc (.cells #[.pointer (some ⟨pb, 0, none⟩)] 45)).alloc (.cells #[.int .i64 who] 3)).alloc (.cells #[.int .i64 n] 3) = W := by rw [← hW, hL]; rfl
  have hWlH := Lib.hid hWl
  clear hW hL hWl
  have hql : ∀ {w3 : World} (v1 v2 : Value), Ext W w3 → Q Try.prog w3 v1 (.bool false) → Q Try.prog w3 v2 (.bool (decide (who < 0) || decide (64 ≤ who))) → QL Try.prog w3 (resQ F R many who n w.heap.size v1 v2) := fun v1 v2 hx q1 q2 => by
    refine ⟨q1, fun _ => ⟨q2, fun _ => ⟨Q.mk Try.call34 fun w' hx' => ?_, fun _ => ⟨Q.mk Try.call35 fun w' hx' => ?_, fun _ => ⟨Q.mk Try.call37 fun w' hx' => ?_, fun _ => trivial⟩⟩⟩⟩⟩
    · obtain ⟨a0, a1, a2⟩ := hb _ (Ext.trans hx hx')
      exact (frame_res1 a2).mono fun e w2 h => ⟨h.1, h.2 ▸ Ext.refl _⟩
    · obtain ⟨a0, a1, a2⟩ := hb _ (Ext.trans hx hx')
      exact frame_res2 (hP.ext (Ext.trans hx hx')) hF a2 a0 a1
    · obtain ⟨a0, a1, a2⟩ := hb _ (Ext.trans hx hx')
      exact frame_res3 (hP.ext (Ext.trans hx hx')) hR a2 a0 a1
  obtain ⟨r, hr⟩ : ∃ r, resE F R many who n = r := ⟨_, rfl⟩
  have hask : ∀ (w2 w3 : World) (v1 v2 : Value), Ext W w2 → Ext w2 w3 → Q Try.prog w2 v1 (.bool false) → Q Try.prog w3 v2 (.bool (decide (who < 0) || decide (64 ≤ who))) →
      Calls Try.prog 31 #[.slice (some ⟨w3.heap.size, 0, none⟩) 5 5] (w3.alloc (.cells (askC (resQ F R many who n w.heap.size v1 v2)) 78)) fun e w' => e = .returned (.int .i64 r) ∧ Ext w3 w' := fun w2 w3 v1 v2 hx hx' q1 q2 => by
    rw [← hr, ← resQ_E (F := F) (R := R) (many := many) w.heap.size v1 v2 who n]
    exact frame_asks' _ rfl rfl rfl (by decide) (hql v1 v2 (ext_n _ (Ext.trans hx hx')) (q1.later (Ext.trans hx' (ext_n _ (Ext.refl _)))) (q2.later (ext_n _ (Ext.refl _))))
  rw [hr]
  have HB := Lib.hid hb
  have HASK := Lib.hid hask
  clear hb hask hql hr
  go_enter Try.func17, Try.ntmps17
  go_wp2_with fail
  rw [hWlH.out]
  go_cut [7] (fun s7 wx => s7 = .int .i64 r ∧ Ext W wx)
  case first =>
    refine rg_begin ((fun w' => Ext W w')) (by kernel_rfl) ?_
    have hS : Ext W W.drew := ext_drew (Ext.refl _)
    refine rg_held 0 (some 8) (v := ?v1) rfl rfl (by kernel_rfl) (by kernel_rfl) (by kernel_rfl) (fun _ _ _ h => h) (by rfl) ?h1 hS ?_
    case h1 => (intro w' hS'; (obtain ⟨c0, c1, c2⟩ := HB.out _ hS'); go_simp; try with_reducible rfl)
    simp only [Act.put, List.setIfInBounds_toArray, List.set_cons_zero, List.set_cons_succ]
    refine rg_held 2 (some 10) (v := ?v2) rfl rfl (by kernel_rfl) (by kernel_rfl) (by kernel_rfl) (fun _ _ _ h => h) (by rfl) ?h2 hS ?_
    case h2 => (intro w' hS'; (obtain ⟨c0, c1, c2⟩ := HB.out _ hS'); go_simp; try with_reducible rfl)
    simp only [Act.put, List.setIfInBounds_toArray, List.set_cons_zero, List.set_cons_succ]
    refine rg_held 4 (some 12) (v := ?v3) rfl rfl (by kernel_rfl) (by kernel_rfl) (by kernel_rfl) (fun _ _ _ h => h) (by rfl) ?h3 hS ?_
    case h3 => (intro w' hS'; (skip); go_simp; try with_reducible rfl)
    simp only [Act.put, List.setIfInBounds_toArray, List.set_cons_zero, List.set_cons_succ]
    refine rg_held 5 (some 13) (v := ?v4) rfl rfl (by kernel_rfl) (by kernel_rfl) (by kernel_rfl) (fun _ _ _ h => h) (by rfl) ?h4 hS ?_
    case h4 => (intro w' hS'; (skip); go_simp; try with_reducible rfl)
    simp only [Act.put, List.setIfInBounds_toArray, List.set_cons_zero, List.set_cons_succ]
    refine rg_held 6 (some 14) (v := ?v5) rfl rfl (by kernel_rfl) (by kernel_rfl) (by kernel_rfl) (fun _ _ _ h => h) (by rfl) ?h5 hS ?_
    case h5 => (intro w' hS'; (skip); go_simp; try with_reducible rfl)
    simp only [Act.put, List.setIfInBounds_toArray, List.set_cons_zero, List.set_cons_succ]
    refine rg_held 7 (some 15) (v := ?v6) rfl rfl (by kernel_rfl) (by kernel_rfl) (by kernel_rfl) (fun _ _ _ h => h) (by rfl) ?h6 hS ?_
    case h6 => (intro w' hS'; (skip); go_simp; try with_reducible rfl)
    simp only [Act.put, List.setIfInBounds_toArray, List.set_cons_zero, List.set_cons_succ]
    refine rg_held 8 (some 16) (v := ?v7) rfl rfl (by kernel_rfl) (by kernel_rfl) (by kernel_rfl) (fun _ _ _ h => h) (by rfl) ?h7 hS ?_
    case h7 => (intro w' hS'; (skip); go_simp; try with_reducible rfl)
    simp only [Act.put, List.setIfInBounds_toArray, List.set_cons_zero, List.set_cons_succ]
    refine rg_held 9 (some 17) (v := ?v8) rfl rfl (by kernel_rfl) (by kernel_rfl) (by kernel_rfl) (fun _ _ _ h => h) (by rfl) ?h8 hS ?_
    case h8 => (intro w' hS'; (skip); go_simp; try with_reducible rfl)
    simp only [Act.put, List.setIfInBounds_toArray, List.set_cons_zero, List.set_cons_succ]
    refine rg_call 1 (some 9) rfl rfl (by kernel_rfl) rfl (by rfl) Try.call32 ((frame_is (hP.ext hS)).mono ?_)
    rintro e w2 ⟨v1, rfl, hq1, hx1⟩
    refine ⟨_, rfl, Ext.trans hS hx1, ?_⟩
    replace hS : Ext W w2 := Ext.trans hS hx1
    simp only [Act.put, List.setIfInBounds_toArray, List.set_cons_zero, List.set_cons_succ]
    refine rg_call 3 (some 11) rfl rfl (by kernel_rfl) rfl (by rfl) Try.call33 ((frame_owner who).mono ?_)
    rintro e w3 ⟨v2, rfl, hq2, hx2⟩
    refine ⟨_, rfl, Ext.trans hS hx2, ?_⟩
    replace hS : Ext W w3 := Ext.trans hS hx2
    simp only [Act.put, List.setIfInBounds_toArray, List.set_cons_zero, List.set_cons_succ]
    refine rg_value 10 (some 18) (v := ?v23) (w' := ?w23) rfl rfl (by kernel_rfl) (by rfl) ?h23 ?s23 ?_
    case h23 => ((skip); go_simp; try (first | with_reducible rfl | (refine ⟨?_, ?_⟩ <;> with_reducible rfl)))
    case s23 => exact ext_n _ hS
    simp only [Act.put, List.setIfInBounds_toArray, List.set_cons_zero, List.set_cons_succ]
    refine rg_call 11 (some 19) rfl rfl (by kernel_rfl) rfl (by rfl) Try.call31 ((HASK.out _ _ v1 v2 (Ext.trans (ext_drew (Ext.refl _)) hx1) hx2 hq1 hq2).mono ?_)
    rintro e w4 ⟨rfl, hx4⟩
    refine ⟨_, rfl, Ext.trans hS hx4, ?_⟩
    replace hS : Ext W w4 := Ext.trans hS hx4
    refine rg_held 12 (some 7) (v := ?v9) rfl rfl (by kernel_rfl) (by kernel_rfl) (by kernel_rfl) (fun _ _ _ h => h) (by rfl) ?h9 hS ?_
    case h9 => (intro w' hS'; (skip); go_simp; try with_reducible rfl)
    simp only [Act.put, List.setIfInBounds_toArray, List.set_cons_zero, List.set_cons_succ]
    refine rg_done (by kernel_rfl) ?_
    go_wp2_with fail
    go_meet
    exact ⟨rfl, hS⟩
  case rest =>
    obtain ⟨rfl, hx⟩ := hcut
    have hP' := hP.ext hx
    have hrb : rb < w.heap.size := h.rs.lt
    have hxw : Ext w wc := Ext.trans hxW hx
    have hB2 : ∀ w2, Upd [rb] wc w2 → w2.cell? ⟨w.heap.size, 0, none⟩ = some (.pointer (some ⟨pb, 0, none⟩)) ∧ w2.cell? ⟨w.heap.size + 1, 0, none⟩ = some (.int .i64 who) ∧ w2.cell? ⟨w.heap.size + 2, 0, none⟩ = some (.int .i64 n) ∧ w2.cell? ⟨pb, 1, none⟩ = some (.map (some rb)) := fun w2 hu => by
      obtain ⟨c0, c1, c2⟩ := HB.out _ hx
      have e0 := World.block_lt_of_cell? _ _ c0
      have e1 := World.block_lt_of_cell? _ _ c1
      have e2 := World.block_lt_of_cell? _ _ c2
      exact ⟨(hu.cell e0 (by simp; omega)).trans c0, (hu.cell e1 (by simp; omega)).trans c1, (hu.cell e2 (by simp; omega)).trans c2, (hu.cell (lt_of_block hP'.blk) (by simp; exact h.pne.2)).trans hP'.c1⟩
    have HB2 := Lib.hid hB2
    clear hB2 HB HASK
    by_cases h0 : r = 0
    · subst h0
      obtain ⟨o, hrun, ho⟩ := (hP'.ext (ext_drew (Ext.refl _))).rs.store (P := Try.prog) Try.underlying67 Try.underlying3 who n
      have hencI : encI n = .int .i64 n := rfl
      rw [hencI] at hrun
      go_wp2_with fail
      refine rg_begin ((fun w' => Upd [rb] wc w')) (by kernel_rfl) ?_
      have hS : Upd [rb] wc wc.drew := Upd.of_ext (ext_drew (Ext.refl _))
      refine rg_held 0 (some 22) (v := ?v10) rfl rfl (by kernel_rfl) (by kernel_rfl) (by kernel_rfl) (fun _ _ _ h => h) (by rfl) ?h10 hS ?_
      case h10 => (intro w' hS'; (obtain ⟨c0, c1, c2, c3⟩ := HB2.out _ hS'); go_simp; try with_reducible rfl)
      simp only [Act.put, List.setIfInBounds_toArray, List.set_cons_zero, List.set_cons_succ]
      refine rg_held 1 (some 23) (v := ?v11) rfl rfl (by kernel_rfl) (by kernel_rfl) (by kernel_rfl) (fun _ _ _ h => h) (by rfl) ?h11 hS ?_
      case h11 => (intro w' hS'; (skip); go_simp; try with_reducible rfl)
      simp only [Act.put, List.setIfInBounds_toArray, List.set_cons_zero, List.set_cons_succ]
      refine rg_held 2 (some 24) (v := ?v12) rfl rfl (by kernel_rfl) (by kernel_rfl) (by kernel_rfl) (fun _ _ _ h => h) (by rfl) ?h12 hS ?_
      case h12 => (intro w' hS'; (skip); go_simp; try with_reducible rfl)
      simp only [Act.put, List.setIfInBounds_toArray, List.set_cons_zero, List.set_cons_succ]
      refine rg_held 3 (some 25) (v := ?v13) rfl rfl (by kernel_rfl) (by kernel_rfl) (by kernel_rfl) (fun _ _ _ h => h) (by rfl) ?h13 hS ?_
      case h13 => (intro w' hS'; (skip); go_simp; try with_reducible rfl)
      simp only [Act.put, List.setIfInBounds_toArray, List.set_cons_zero, List.set_cons_succ]
      refine rg_held 4 (some 26) (v := ?v14) rfl rfl (by kernel_rfl) (by kernel_rfl) (by kernel_rfl) (fun _ _ _ h => h) (by rfl) ?h14 hS ?_
      case h14 => (intro w' hS'; (obtain ⟨c0, c1, c2, c3⟩ := HB2.out _ hS'); go_simp; try with_reducible rfl)
      simp only [Act.put, List.setIfInBounds_toArray, List.set_cons_zero, List.set_cons_succ]
      refine rg_held 5 (some 27) (v := ?v15) rfl rfl (by kernel_rfl) (by kernel_rfl) (by kernel_rfl) (fun _ _ _ h => h) (by rfl) ?h15 hS ?_
      case h15 => (intro w' hS'; (obtain ⟨c0, c1, c2, c3⟩ := HB2.out _ hS'); go_simp; try with_reducible rfl)
      simp only [Act.put, List.setIfInBounds_toArray, List.set_cons_zero, List.set_cons_succ]
      refine rg_held 6 (some 28) (v := ?v16) rfl rfl (by kernel_rfl) (by kernel_rfl) (by kernel_rfl) (fun _ _ _ h => h) (by rfl) ?h16 hS ?_
      case h16 => (intro w' hS'; (obtain ⟨c0, c1, c2, c3⟩ := HB2.out _ hS'); go_simp; try with_reducible rfl)
      simp only [Act.put, List.setIfInBounds_toArray, List.set_cons_zero, List.set_cons_succ]
      refine rg_unit 7 none (w' := ?w25) rfl rfl (by kernel_rfl) (by rfl) ?h25 ?s25 ?_
      case h25 => ((skip); go_simp; try with_reducible rfl)
      case s25 => exact Upd.trans hS (Upd.putObj _ _ _)
      simp only [Act.put]
      refine rg_done (by kernel_rfl) ?_
      obtain ⟨W3, hW3⟩ : ∃ W3, W3 = wc.drew.putObj rb o := ⟨_, rfl⟩
      replace hS : Upd [rb] wc W3 := by rw [hW3]; exact Upd.trans hS (Upd.putObj _ _ _)
      rw [← hW3]
      have hM3 : MapI .i64 encI (putL R who n) W3 rb := by rw [hW3]; exact MapI.put ho (by have := hP'.rs.lt; simpa using this)
      obtain ⟨c0, c1, c2, c3⟩ := HB2.out _ hS
      have hU3 : Upd [rb] w W3 := Upd.trans (Upd.of_ext hxw) hS
      have hP3 := hP'.upd_rs hS hM3
      clear hrun hW3 hencI
      by_cases hn : n = 0
      · have hn0 : (n == 0) = true := by simp [hn]
        obtain ⟨o2, hrun2, ho2⟩ := (hP3.ext (ext_drew (Ext.refl _))).rs.drop (P := Try.prog) Try.underlying67 Try.underlying3 who #[67, 3] 0 rfl
        have hnH := Lib.hid hn
        clear hn
        go_wp2_with fail
        have hSo := hS
        refine rg_begin ((fun w' => Upd [rb] W3 w')) (by kernel_rfl) ?_
        replace hS : Upd [rb] W3 W3.drew := Upd.of_ext (ext_drew (Ext.refl _))
        refine rg_held 0 (some 31) (v := ?v17) rfl rfl (by kernel_rfl) (by kernel_rfl) (by kernel_rfl) (fun _ _ _ h => h) (by rfl) ?h17 hS ?_
        case h17 => (intro w' hS'; (obtain ⟨c0, c1, c2, c3⟩ := HB2.out _ (Upd.trans hSo hS')); go_simp; try with_reducible rfl)
        simp only [Act.put, List.setIfInBounds_toArray, List.set_cons_zero, List.set_cons_succ]
        refine rg_held 1 (some 32) (v := ?v18) rfl rfl (by kernel_rfl) (by kernel_rfl) (by kernel_rfl) (fun _ _ _ h => h) (by rfl) ?h18 hS ?_
        case h18 => (intro w' hS'; (skip); go_simp; try with_reducible rfl)
        simp only [Act.put, List.setIfInBounds_toArray, List.set_cons_zero, List.set_cons_succ]
        refine rg_held 2 (some 33) (v := ?v19) rfl rfl (by kernel_rfl) (by kernel_rfl) (by kernel_rfl) (fun _ _ _ h => h) (by rfl) ?h19 hS ?_
        case h19 => (intro w' hS'; (skip); go_simp; try with_reducible rfl)
        simp only [Act.put, List.setIfInBounds_toArray, List.set_cons_zero, List.set_cons_succ]
        refine rg_held 3 (some 34) (v := ?v20) rfl rfl (by kernel_rfl) (by kernel_rfl) (by kernel_rfl) (fun _ _ _ h => h) (by rfl) ?h20 hS ?_
        case h20 => (intro w' hS'; (skip); go_simp; try with_reducible rfl)
        simp only [Act.put, List.setIfInBounds_toArray, List.set_cons_zero, List.set_cons_succ]
        refine rg_held 4 (some 35) (v := ?v21) rfl rfl (by kernel_rfl) (by kernel_rfl) (by kernel_rfl) (fun _ _ _ h => h) (by rfl) ?h21 hS ?_
        case h21 => (intro w' hS'; (obtain ⟨c0, c1, c2, c3⟩ := HB2.out _ (Upd.trans hSo hS')); go_simp; try with_reducible rfl)
        simp only [Act.put, List.setIfInBounds_toArray, List.set_cons_zero, List.set_cons_succ]
        refine rg_held 5 (some 36) (v := ?v22) rfl rfl (by kernel_rfl) (by kernel_rfl) (by kernel_rfl) (fun _ _ _ h => h) (by rfl) ?h22 hS ?_
        case h22 => (intro w' hS'; (obtain ⟨c0, c1, c2, c3⟩ := HB2.out _ (Upd.trans hSo hS')); go_simp; try with_reducible rfl)
        simp only [Act.put, List.setIfInBounds_toArray, List.set_cons_zero, List.set_cons_succ]
        refine rg_value 6 none (v := ?v24) (w' := ?w24) rfl rfl (by kernel_rfl) (by rfl) ?h24 ?s24 ?_
        case h24 => ((skip); go_simp; try (first | with_reducible rfl | (refine ⟨?_, ?_⟩ <;> with_reducible rfl)))
        case s24 => exact Upd.trans hS (Upd.putObj _ _ _)
        simp only [Act.put]
        refine rg_done (by kernel_rfl) ?_
        go_wp2
        go_ret
        refine ⟨rfl, Upd.trans hU3 (Upd.trans hS (Upd.putObj _ _ _)), ?_⟩
        rw [resR, if_pos hnH.out]
        exact hP3.upd_rs (Upd.trans hS (Upd.putObj _ _ _)) (MapI.put ho2 (by have := hP3.rs.lt; simpa using this))
      · have hn0 : (n == 0) = false := by simp [hn]
        go_wp2
        go_ret
        refine ⟨rfl, hU3, ?_⟩
        rw [resR, if_neg hn]
        exact hP3
    · have hr0 : (r == 0) = false := by simp [h0]
      go_wp2
      go_ret
      refine ⟨rfl, Upd.of_ext hxw, ?_⟩
      exact hP'
end
end Go.Proofs.Ytlafdnbjkkbmfaa
