/- package vmem: asked; no condition. -/
import Derived.Test.YtlafdnbjkkbmfaaVm6
namespace Go.Proofs.Ytlafdnbjkkbmfaa
open Go.RowKit
attribute [local go_sem] run_mf
attribute [local go_sem ↓] Go.wp_at_zero Go.wp_at_succ
section
variable {w w' : World} {mb tb eb pb fb rb : Nat} {many : Int} {T : List (Int × Ent)} {F : List (Int × Tak)} {R : List (Int × Int)}
def ask1 (n : Nat) : Bool := decide ((1 : Int) ≤ (n : Int)) && decide ((n : Int) ≤ 16777216)
def ask2 (o : Int) : Bool := decide (o = -2) || (decide (0 ≤ o) && decide (o < 64))
def ask3 (a n : Nat) : Bool := decide ((a : Int) ≤ 16777216 - (n : Int))
def askE (T : List (Int × Ent)) (o m : Int) (a n : Nat) : Int :=
  if ask1 n = true then if ask2 o = true then if ask3 a n = true then if allReach T o m a n = true then 0 else 190 else 4 else 2 else 2
theorem ask_qs {W w5 : World} {b5 b6 b7 b8 b9 : Nat} {o m : Int} {a n : Nat} {v1 v2 v3 v4 : Value} (ha : a < 4294967296) (h : MemAt W mb tb eb pb fb rb many T F R)
    (hb : ∀ w2, Ext W w2 → w2.cell? ⟨b5, 0, none⟩ = some (.pointer (some ⟨mb, 0, none⟩)) ∧ w2.cell? ⟨b6, 0, none⟩ = some (.int .i64 o) ∧ w2.cell? ⟨b7, 0, none⟩ = some (.int .u32 a) ∧ w2.cell? ⟨b8, 0, none⟩ = some (.int .i64 (n : Int)) ∧ w2.cell? ⟨b9, 0, none⟩ = some (.int .i64 m))
    (hW : Ext W w5) (q1 : Q Try.prog w5 v1 (.int .i64 0)) (q2 : Q Try.prog w5 v2 (.int .i64 (if ask1 n = true then 0 else 2))) (q3 : Q Try.prog w5 v3 (.int .i64 (if ask2 o = true then 0 else 2))) (q4 : Q Try.prog w5 v4 (.int .i64 (if ask3 a n = true then 0 else 4))) :
    FirstR [] [v1, v2, v3, v4, .func (.func 78) #[] #[.pointer (some ⟨b5, 0, none⟩), .pointer (some ⟨b6, 0, none⟩), .pointer (some ⟨b9, 0, none⟩), .pointer (some ⟨b7, 0, none⟩), .pointer (some ⟨b8, 0, none⟩)]] w5
      (fun r w2 => r = askE T o m a n ∧ Ext W w2) := by
  refine FirstR.pure q1 (fun h => absurd rfl h) (fun _ w6 x6 => FirstR.pure (q2.later x6) ?_ ?_)
  · intro hr w7 x7
    split at hr
    · exact absurd rfl hr
    · rename_i hd
      exact ⟨by rw [if_neg hd, askE, if_neg hd], Ext.trans hW (Ext.trans x6 x7)⟩
  · intro hr w7 x7
    have hd : ask1 n = true := by
      cases hc : ask1 n with
      | true => rfl
      | false => rw [hc] at hr; cases hr
    refine FirstR.pure (q3.later (Ext.trans x6 x7)) ?_ ?_
    · intro hr w8 x8
      split at hr
      · exact absurd rfl hr
      · rename_i hd2
        exact ⟨by rw [if_neg hd2, askE, if_pos hd, if_neg hd2], Ext.trans hW (Ext.trans x6 (Ext.trans x7 x8))⟩
    · intro hr w8 x8
      have hd2 : ask2 o = true := by
        cases hc : ask2 o with
        | true => rfl
        | false => rw [hc] at hr; cases hr
      refine FirstR.pure (q4.later (Ext.trans x6 (Ext.trans x7 x8))) ?_ ?_
      · intro hr w9 x9
        split at hr
        · exact absurd rfl hr
        · rename_i hd3
          exact ⟨by rw [if_neg hd3, askE, if_pos hd, if_pos hd2, if_neg hd3], Ext.trans hW (Ext.trans x6 (Ext.trans x7 (Ext.trans x8 x9)))⟩
      · intro hr w9 x9
        have hd3 : ask3 a n = true := by
          cases hc : ask3 a n with
          | true => rfl
          | false => rw [hc] at hr; cases hr
        have hx9 : Ext W w9 := Ext.trans hW (Ext.trans x6 (Ext.trans x7 (Ext.trans x8 x9)))
        obtain ⟨c5, c6, c7, c8, c9⟩ := hb _ hx9
        have hn : n ≤ 16777216 := by simp [ask1] at hd; omega
        refine ⟨_, _, _, rfl, Try.call78, (vm_asked4 hn ha (h.ext hx9) c5 c6 c9 c7 c8).mono ?_⟩
        rintro e w10 ⟨rfl, x10⟩
        have hv : (if allReach T o m a n = true then (0 : Int) else 190) = askE T o m a n := by rw [askE, if_pos hd, if_pos hd2, if_pos hd3]
        exact ⟨_, rfl, Upd.of_ext x10, fun _ => ⟨hv, Ext.trans hx9 x10⟩, fun h0 => by rw [h0] at hv; exact ⟨hv, Ext.trans hx9 x10⟩⟩
set_option maxRecDepth 100000 in
set_option maxHeartbeats 1000000 in
theorem vm_asked {o m : Int} {a n : Nat} (ha : a < 4294967296) (hn : n ≤ 1000000000) (h : MemAt w mb tb eb pb fb rb many T F R) :
    Calls Try.prog 54 #[.pointer (some ⟨mb, 0, none⟩), .int .i64 o, .int .u32 a, .int .i64 (n : Int), .int .i64 m] w fun e w' => e = .returned (.int .i64 (askE T o m a n)) ∧ Ext w w' := by
  obtain ⟨L, hL⟩ : ∃ L, L = [(#[Value.pointer (some ⟨mb, 0, none⟩)], 25), (#[Value.int .i64 o], 3), (#[Value.int .u32 a], 34), (#[Value.int .i64 (n : Int)], 3), (#[Value.int .i64 m], 33)] := ⟨_, rfl⟩
  obtain ⟨W, hW⟩ : ∃ W, blocks w L = W := ⟨_, rfl⟩
  have hxW : Ext w W := hW ▸ blocks_ext L w
  have hb : ∀ (w2 : World), Ext W w2 →
      w2.cell? ⟨w.heap.size, 0, none⟩ = some (.pointer (some ⟨mb, 0, none⟩)) ∧ w2.cell? ⟨w.heap.size + 1, 0, none⟩ = some (.int .i64 o) ∧ w2.cell? ⟨w.heap.size + 2, 0, none⟩ = some (.int .u32 a) ∧ w2.cell? ⟨w.heap.size + 3, 0, none⟩ = some (.int .i64 (n : Int)) ∧ w2.cell? ⟨w.heap.size + 4, 0, none⟩ = some (.int .i64 m) := fun w2 hx => by
    subst hW; subst hL
    exact ⟨cell_at (i := 0) (blocks_at _ w 0 (by simp) hx) rfl, cell_at (i := 0) (blocks_at _ w 1 (by simp) hx) rfl, cell_at (i := 0) (blocks_at _ w 2 (by simp) hx) rfl, cell_at (i := 0) (blocks_at _ w 3 (by simp) hx) rfl, cell_at (i := 0) (blocks_at _ w 4 (by simp) hx) rfl⟩
  have hP := h.ext hxW
  have hWl : ((((w.alloc (.cells #[.pointer (some ⟨mb, 0, none⟩)] 25)).alloc (.cells #[.int .i64 o] 3)).alloc (.cells #[.int .u32 a] 34)).alloc (.cells #[.int .i64 (n : Int)] 3)).alloc (.cells #[.int .i64 m] 33) = W := by rw [← hW, hL]; rfl
  have hWlH := Lib.hid hWl
  clear hW hL hWl
  have his : ∀ w2, Ext W w2 → Calls Try.prog 20 #[.func (.func 75) #[] #[.pointer (some ⟨w.heap.size + 3, 0, none⟩)], .int .i64 2] w2 fun e w' => ∃ q, e = .returned q ∧ Q Try.prog w' q (.int .i64 (if ask1 n = true then 0 else 2)) ∧ Ext w2 w' := fun w2 hx =>
    vm_is (Q.mk Try.call75 fun w' hx' => (vm_asked1 (hb _ (Ext.trans hx hx')).2.2.2.1).mono fun e w2 h => ⟨h.1, h.2 ▸ Ext.refl _⟩)
  have his2 : ∀ w2, Ext W w2 → Calls Try.prog 20 #[.func (.func 76) #[] #[.pointer (some ⟨w.heap.size + 1, 0, none⟩)], .int .i64 2] w2 fun e w' => ∃ q, e = .returned q ∧ Q Try.prog w' q (.int .i64 (if ask2 o = true then 0 else 2)) ∧ Ext w2 w' := fun w2 hx =>
    vm_is (Q.mk Try.call76 fun w' hx' => (vm_asked2 (hb _ (Ext.trans hx hx')).2.1).mono fun e w2 h => ⟨h.1, h.2 ▸ Ext.refl _⟩)
  have his3 : ∀ w2, Ext W w2 → Calls Try.prog 20 #[.func (.func 77) #[] #[.pointer (some ⟨w.heap.size + 2, 0, none⟩), .pointer (some ⟨w.heap.size + 3, 0, none⟩)], .int .i64 4] w2 fun e w' => ∃ q, e = .returned q ∧ Q Try.prog w' q (.int .i64 (if ask3 a n = true then 0 else 4)) ∧ Ext w2 w' := fun w2 hx =>
    vm_is (Q.mk Try.call77 fun w' hx' => (vm_asked3 ha (by omega) (hb _ (Ext.trans hx hx')).2.2.1 (hb _ (Ext.trans hx hx')).2.2.2.1).mono fun e w2 h => ⟨h.1, h.2 ▸ Ext.refl _⟩)
  have hfst : ∀ (w5 : World) (v1 v2 v3 v4 : Value), Ext W w5 → Q Try.prog w5 v1 (.int .i64 0) → Q Try.prog w5 v2 (.int .i64 (if ask1 n = true then 0 else 2)) → Q Try.prog w5 v3 (.int .i64 (if ask2 o = true then 0 else 2)) → Q Try.prog w5 v4 (.int .i64 (if ask3 a n = true then 0 else 4)) →
      Calls Try.prog 18 #[.slice (some ⟨w5.heap.size, 0, none⟩) 5 5] (w5.alloc (.cells #[v1, v2, v3, v4, .func (.func 78) #[] #[.pointer (some ⟨w.heap.size, 0, none⟩), .pointer (some ⟨w.heap.size + 1, 0, none⟩), .pointer (some ⟨w.heap.size + 4, 0, none⟩), .pointer (some ⟨w.heap.size + 2, 0, none⟩), .pointer (some ⟨w.heap.size + 3, 0, none⟩)]] 57)) fun e w' =>
        ∃ r, e = .returned (.int .i64 r) ∧ r = askE T o m a n ∧ Ext W w' := fun w5 v1 v2 v3 v4 hx q1 q2 q3 q4 => by
    have hn' : ∀ o, Ext w5 (w5.alloc o) := fun o => ext_n _ (Ext.refl _)
    exact vm_first [v1, v2, v3, v4, .func (.func 78) #[] #[.pointer (some ⟨w.heap.size, 0, none⟩), .pointer (some ⟨w.heap.size + 1, 0, none⟩), .pointer (some ⟨w.heap.size + 4, 0, none⟩), .pointer (some ⟨w.heap.size + 2, 0, none⟩), .pointer (some ⟨w.heap.size + 3, 0, none⟩)]] w5.heap.size (by simp) (S := []) (by simp) (by simp)
      (fun k hk => by rw [World.cell?_alloc_new]; match k, hk with
        | 0, _ => rfl
        | 1, _ => rfl
        | 2, _ => rfl
        | 3, _ => rfl
        | 4, _ => rfl)
      (ask_qs ha hP hb (Ext.trans hx (hn' _)) (q1.later (hn' _)) (q2.later (hn' _)) (q3.later (hn' _)) (q4.later (hn' _)))
  have hth := vm_there hP
  have HIS := Lib.hid his
  have HIS2 := Lib.hid his2
  have HIS3 := Lib.hid his3
  have HFST := Lib.hid hfst
  clear his his2 his3 hfst hb
  go_enter Try.func54, Try.ntmps54
  go_wp2_with fail
  rw [hWlH.out]
  refine hth.mono ?_
  rintro e w2 ⟨v1, rfl, q1, x2⟩
  have q1' := q1
  obtain ⟨f1, fi1, ca1, rfl, -, -⟩ := q1'
  have QQ1 := Lib.hid q1
  clear q1
  go_wp2_with fail
  refine (HIS.out w2 x2).mono ?_
  rintro e w3 ⟨v2, rfl, q2, x3⟩
  have q2' := q2
  obtain ⟨f2, fi2, ca2, rfl, -, -⟩ := q2'
  have QQ2 := Lib.hid q2
  clear q2
  go_wp2_with fail
  refine (HIS2.out w3 (Ext.trans x2 x3)).mono ?_
  rintro e w4 ⟨v3, rfl, q3, x4⟩
  have q3' := q3
  obtain ⟨f3, fi3, ca3, rfl, -, -⟩ := q3'
  have QQ3 := Lib.hid q3
  clear q3
  go_wp2_with fail
  refine (HIS3.out w4 (Ext.trans x2 (Ext.trans x3 x4))).mono ?_
  rintro e w5 ⟨v4, rfl, q4, x5⟩
  have q4' := q4
  obtain ⟨f4, fi4, ca4, rfl, -, -⟩ := q4'
  have QQ4 := Lib.hid q4
  clear q4
  go_wp2_with fail
  refine (HFST.out w5 _ _ _ _ (Ext.trans x2 (Ext.trans x3 (Ext.trans x4 x5))) (QQ1.out.later (Ext.trans x3 (Ext.trans x4 x5))) (QQ2.out.later (Ext.trans x4 x5)) (QQ3.out.later x5) QQ4.out).mono ?_
  rintro e w6 ⟨r, rfl, hr, x6⟩
  have HR := Lib.hid hr
  clear hr
  go_wp2
  go_ret
  exact ⟨by rw [← HR.out]; rfl, Ext.trans hxW x6⟩
end
end Go.Proofs.Ytlafdnbjkkbmfaa
