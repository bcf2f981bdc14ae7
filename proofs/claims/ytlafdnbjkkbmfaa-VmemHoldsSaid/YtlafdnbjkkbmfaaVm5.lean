/- package vmem: a reach's parts; who reaches a page; no condition. -/
import Derived.Test.YtlafdnbjkkbmfaaVm1
import Derived.Test.YtlafdnbjkkbmfaaRal
import Derived.RangeFuncBound
namespace Go.Proofs.Ytlafdnbjkkbmfaa
open Go.RowKit
attribute [local go_sem] run_mf
attribute [local go_sem ↓] Go.wp_at_zero Go.wp_at_succ
attribute [local go_sem] Oper.semAt_some wide_fn wide_depth wide_round
section
variable {w w' : World} {mb tb eb pb fb rb : Nat} {many : Int} {T : List (Int × Ent)} {F : List (Int × Tak)} {R : List (Int × Int)}
/-- does an owner reach a page -/
def reachB (T : List (Int × Ent)) (o m n : Int) : Bool := (getL T n).isSome && (decide (o = -2) || (decide (((getL T n).getD ent0).owner = o) && decide (m ≤ ((getL T n).getD ent0).may)))
set_option maxRecDepth 100000 in
set_option maxHeartbeats 1000000 in
theorem vm_reaches1 {b1 b2 b3 : Nat} {o m n : Int} (h : MemAt w mb tb eb pb fb rb many T F R) (h1 : w.cell? ⟨b1, 0, none⟩ = some (.pointer (some ⟨mb, 0, none⟩))) (h2 : w.cell? ⟨b2, 0, none⟩ = some (.int .i64 o)) (h3 : w.cell? ⟨b3, 0, none⟩ = some (.int .i64 m)) :
    Calls Try.prog 84 #[.int .i64 n, .pointer (some ⟨b1, 0, none⟩), .pointer (some ⟨b2, 0, none⟩), .pointer (some ⟨b3, 0, none⟩)] w fun e w' => e = .returned (.bool (reachB T o m n)) ∧ Ext w w' := by
  have hg := page_get h.tab n
  obtain ⟨x, hx⟩ : ∃ x, x = (getL T n).getD ent0 := ⟨_, rfl⟩
  obtain ⟨s, hs⟩ : ∃ s, s = (getL T n).isSome := ⟨_, rfl⟩
  have hr : reachB T o m n = (s && (decide (o = -2) || (decide (x.owner = o) && decide (m ≤ x.may)))) := by rw [reachB, ← hx, ← hs]
  rw [hr]
  rw [← hx, ← hs] at hg
  have c0 := h.c0
  clear hr hx hs
  unfold encE at hg
  have k2 := World.block_lt_of_cell? _ _ h2
  have k3 := World.block_lt_of_cell? _ _ h3
  go_enter Try.func84, Try.ntmps84
  go_wp2_with fail
  refine hg.mono ?_
  rintro e w2 ⟨rfl, hx⟩
  have hsz := hx.size
  have c2 := (hx.cell (p := ⟨b2, 0, none⟩) k2).trans h2
  have c3 := (hx.cell (p := ⟨b3, 0, none⟩) k3).trans h3
  have n2 : ¬ b2 = w2.heap.size := by omega
  have n3 : ¬ b3 = w2.heap.size := by omega
  have k2' : b2 < w2.heap.size := by omega
  have k3' : b3 < w2.heap.size := by omega
  clear hsz h1 h2 h3 hg
  have hE : ∀ c, Ext w (w2.alloc (.cells c 55)) := fun c => ext_n _ hx
  have hEH := Lib.hid hE
  clear hE hx
  cases s with
  | false =>
    go_wp2
    go_ret
    exact ⟨by simp, hEH.out _⟩
  | true =>
    go_wp2
    all_goals (go_ret; refine ⟨?_, hEH.out _⟩; simp [*]; try omega)
set_option maxRecDepth 100000 in
set_option maxHeartbeats 1000000 in
theorem vm_reaches {o m : Int} :
    Calls Try.prog 79 #[.pointer (some ⟨mb, 0, none⟩), .int .i64 o, .int .i64 m] w fun e w' =>
      e = .returned (.func (.func 84) #[] #[.pointer (some ⟨w.heap.size, 0, none⟩), .pointer (some ⟨w.heap.size + 1, 0, none⟩), .pointer (some ⟨w.heap.size + 2, 0, none⟩)]) ∧
      Ext w w' ∧ w'.cell? ⟨w.heap.size, 0, none⟩ = some (.pointer (some ⟨mb, 0, none⟩)) ∧ w'.cell? ⟨w.heap.size + 1, 0, none⟩ = some (.int .i64 o) ∧ w'.cell? ⟨w.heap.size + 2, 0, none⟩ = some (.int .i64 m) := by
  go_enter Try.func79, Try.ntmps79
  go_wp2
  go_ret
  refine ⟨rfl, ext_n _ (ext_n _ (ext_n _ (Ext.refl _))), ?_, ?_, ?_⟩
  · exact boxes_cell [(Value.pointer (some ⟨mb, 0, none⟩), 25), (Value.int .i64 o, 3), (Value.int .i64 m, 33)] w 0 (by simp) (Ext.refl _)
  · exact boxes_cell [(Value.pointer (some ⟨mb, 0, none⟩), 25), (Value.int .i64 o, 3), (Value.int .i64 m, 33)] w 1 (by simp) (Ext.refl _)
  · exact boxes_cell [(Value.pointer (some ⟨mb, 0, none⟩), 25), (Value.int .i64 o, 3), (Value.int .i64 m, 33)] w 2 (by simp) (Ext.refl _)
set_option maxRecDepth 100000 in
set_option maxHeartbeats 1000000 in
theorem vm_asked1 {b : Nat} {n : Int} (h : w.cell? ⟨b, 0, none⟩ = some (.int .i64 n)) : Calls Try.prog 75 #[.pointer (some ⟨b, 0, none⟩)] w fun e w' => e = .returned (.bool (decide (1 ≤ n) && decide (n ≤ 16777216))) ∧ w = w' := by
  go_enter Try.func75, Try.ntmps75
  go_wp2
  all_goals (go_ret; simp [*]; try omega)
set_option maxRecDepth 100000 in
set_option maxHeartbeats 1000000 in
theorem vm_asked2 {b : Nat} {n : Int} (h : w.cell? ⟨b, 0, none⟩ = some (.int .i64 n)) : Calls Try.prog 76 #[.pointer (some ⟨b, 0, none⟩)] w fun e w' => e = .returned (.bool (decide (n = -2) || (decide (0 ≤ n) && decide (n < 64)))) ∧ w = w' := by
  go_enter Try.func76, Try.ntmps76
  go_wp2
  all_goals (go_ret; simp [*]; try omega)
  all_goals (rw [Bool.eq_iff_iff]; simp; omega)
set_option maxRecDepth 100000 in
set_option maxHeartbeats 1000000 in
theorem vm_asked3 {b c : Nat} {n : Int} {a : Nat} (ha : a < 4294967296) (hn : -1000000000000 ≤ n ∧ n ≤ 1000000000000) (h : w.cell? ⟨b, 0, none⟩ = some (.int .u32 a)) (h2 : w.cell? ⟨c, 0, none⟩ = some (.int .i64 n)) :
    Calls Try.prog 77 #[.pointer (some ⟨b, 0, none⟩), .pointer (some ⟨c, 0, none⟩)] w fun e w' => e = .returned (.bool (decide ((a : Int) ≤ 16777216 - n))) ∧ w = w' := by
  go_enter Try.func77, Try.ntmps77
  go_wp2
  all_goals (go_ret; simp [*]; try omega)
set_option maxRecDepth 100000 in
set_option maxHeartbeats 1000000 in
theorem vm_parts {a : Nat} {n : Int} :
    Calls Try.prog 80 #[.int .u32 a, .int .i64 n] w fun e w' => e = .returned (.func (.func 85) #[] #[.pointer (some ⟨w.heap.size, 0, none⟩), .pointer (some ⟨w.heap.size + 1, 0, none⟩)]) ∧
      Ext w w' ∧ w'.cell? ⟨w.heap.size, 0, none⟩ = some (.int .u32 a) ∧ w'.cell? ⟨w.heap.size + 1, 0, none⟩ = some (.int .i64 n) := by
  go_enter Try.func80, Try.ntmps80
  go_wp2
  go_ret
  refine ⟨rfl, ext_n _ (ext_n _ (Ext.refl _)), ?_, ?_⟩
  · exact boxes_cell [(Value.int .u32 a, 34), (Value.int .i64 n, 3)] w 0 (by simp) (Ext.refl _)
  · exact boxes_cell [(Value.int .u32 a, 34), (Value.int .i64 n, 3)] w 1 (by simp) (Ext.refl _)
/-- the parts of a reach: a page, a place in it, how many bytes -/
def partsF : Nat → Nat → Nat → List (Nat × Nat × Nat)
  | 0, _, _ => []
  | k + 1, a, u => if a < u then (a / 256, a % 256, min (u - a) (256 - a % 256)) :: partsF k (a + min (u - a) (256 - a % 256)) u else []
def partsL (a n : Nat) : List (Nat × Nat × Nat) := partsF n a (a + n)
def encP (x : Nat × Nat × Nat) : Value := .agg #[.int .i64 (x.1 : Int), .int .i64 (x.2.1 : Int), .int .i64 (x.2.2 : Int)]
set_option maxRecDepth 100000 in
set_option maxHeartbeats 1000000 in
theorem vm_parts1 {a n b1 b2 : Nat} (hn : n ≤ 16777216) (ha : a < 4294967296) (l : Nat) (J Jx : List (Nat × Nat × Nat) → World → Prop) (W : World) (h1 : W.cell? ⟨b1, 0, none⟩ = some (.int .u32 a)) (h2 : W.cell? ⟨b2, 0, none⟩ = some (.int .i64 (n : Int)))
    (hJ : AbidesFrom W.heap.size J)
    (hY : ∀ pre x W1, J pre W1 → pre.length < n → pre ++ [x] <+: partsL a n → YieldAt Fence.wide (9 - 1) Try.prog l #[encP x] W1 fun e W' =>
      (e = .returned (.bool true) ∧ J (pre ++ [x]) W' ∧ True) ∨ (e = .returned (.bool false) ∧ Jx (pre ++ [x]) W')) (h0 : J [] W) :
    CallsIn Fence.wide 9 Try.prog 85 #[.func (.yield l) #[] #[], .pointer (some ⟨b1, 0, none⟩), .pointer (some ⟨b2, 0, none⟩)] W fun e W' => (∃ v, e = .returned v) ∧
      ((∃ xs, xs = partsL a n ∧ J xs W') ∨ (∃ pre, pre <+: partsL a n ∧ Jx pre W')) := by
  refine callsIn_of_wp Try.func85 rfl trivial ?_ rfl
  simp only [Try.ntmps85, List.size_toArray, List.length_cons, List.length_nil, Nat.reduceAdd, Nat.reduceSub, Array.replicate_succ, Array.replicate_zero, List.push_toArray, List.append_toArray, List.nil_append, List.cons_append]
  have hJd : ∀ k, J [] (W.drewN k) := fun k => by
    have hx := ext_drewN k (Ext.refl W)
    exact hJ _ W _ none h0 ⟨hx.os, hx.tape, hx.output, hx.size, fun k hk _ => hx.block k hk⟩ (by simp)
  have HJ := Lib.hid hJd
  have HY := Lib.hid hY
  have HA := Lib.hid hJ
  clear hJd hY hJ
  gi_wp2
  refine wpIn_wide.2 ?_
  go_quiet (fail)
  gi_wp2
  gi_loopw [4] (fun i wr => ∃ (k fr : Nat) (pre : List (Nat × Nat × Nat)), i = .int .i64 (fr : Int) ∧ partsL a n = pre ++ partsF k fr (a + n) ∧ J pre wr ∧ a ≤ fr ∧ fr ≤ a + n ∧ a + n - fr ≤ k ∧ pre.length ≤ fr - a)
    (fun i _ => (a + n) - (intOf i).toNat)
  case atStart => exact ⟨n, a, [], rfl, rfl, HJ.out _, Nat.le_refl _, by omega, by omega, by simp⟩
  case round =>
    obtain ⟨k, fr, pre, rfl, hpt, hJs, g1, g2, g3, g4⟩ := hrel
    by_cases hlt : fr < a + n
    · obtain ⟨k, rfl⟩ : ∃ k', k = k' + 1 := ⟨k - 1, by omega⟩
      have hpf : partsF (k + 1) fr (a + n) = (fr / 256, fr % 256, min (a + n - fr) (256 - fr % 256)) :: partsF k (fr + min (a + n - fr) (256 - fr % 256)) (a + n) := by
        rw [partsF, if_pos hlt]
      rw [hpf] at hpt
      obtain ⟨d, hd⟩ : ∃ d, d = min (a + n - fr) (256 - fr % 256) := ⟨_, rfl⟩
      rw [← hd] at hpt
      have hpre : pre ++ [(fr / 256, fr % 256, d)] <+: partsL a n := by rw [hpt]; exact ⟨partsF k (fr + d) (a + n), by simp⟩
      obtain ⟨fn, tmps, assign, body, hy, hR⟩ := HY.out pre (fr / 256, fr % 256, d) wr hJs (by omega) hpre
      have hpt2 : partsL a n = (pre ++ [(fr / 256, fr % 256, d)]) ++ partsF k (fr + d) (a + n) := by rw [hpt]; simp
      have HP := Lib.hid hpt2
      clear hpt hpf hpt2
      have hm := Nat.mod_lt fr (show 0 < 256 by omega)
      by_cases hc : 256 - fr % 256 < a + n - fr
      · have hd' : d = 256 - fr % 256 := by omega
        have he : encP (fr / 256, fr % 256, d) = .agg #[.int .i64 ((fr : Int) / 256), .int .i64 ((fr : Int) % 256), .int .i64 (256 - (fr : Int) % 256)] := by
          simp only [encP]
          rw [show ((d : Nat) : Int) = 256 - (fr : Int) % 256 by omega]
          rfl
        rw [he] at hy
        have hdH := Lib.hid hd'
        clear hd hd' he
        gi_wp2
        refine hR.mono ?_
        rintro e W3 (⟨rfl, hJ3, _⟩ | ⟨rfl, hJx3⟩)
        · gi_wp2
          have hd' := hdH.out
          go_roundw
          case rel => exact ⟨k, fr + d, _, by congr 1; omega, HP.out, hJ3, by omega, by omega, by omega, by simp; omega⟩
          case measure => simp [intOf]; omega
        · gi_wp2
          refine bodyPost_ret (results_none rfl _ _ _) rfl ?_
          exact ⟨⟨_, rfl⟩, .inr ⟨_, hpre, hJx3⟩⟩
      · have hd' : d = a + n - fr := by omega
        have he : encP (fr / 256, fr % 256, d) = .agg #[.int .i64 ((fr : Int) / 256), .int .i64 ((fr : Int) % 256), .int .i64 ((a : Int) + (n : Int) - (fr : Int))] := by
          simp only [encP]
          rw [show ((d : Nat) : Int) = (a : Int) + (n : Int) - (fr : Int) by omega]
          rfl
        rw [he] at hy
        have hdH := Lib.hid hd'
        clear hd hd' he
        gi_wp2
        refine hR.mono ?_
        rintro e W3 (⟨rfl, hJ3, _⟩ | ⟨rfl, hJx3⟩)
        · gi_wp2
          have hd' := hdH.out
          go_roundw
          case rel => exact ⟨k, fr + d, _, by congr 1; omega, HP.out, hJ3, by omega, by omega, by omega, by simp; omega⟩
          case measure => simp [intOf]; omega
        · gi_wp2
          refine bodyPost_ret (results_none rfl _ _ _) rfl ?_
          exact ⟨⟨_, rfl⟩, .inr ⟨_, hpre, hJx3⟩⟩
    · obtain rfl : fr = a + n := by omega
      have hpf : partsF k (a + n) (a + n) = [] := by cases k <;> simp [partsF]
      rw [hpf, List.append_nil] at hpt
      have hJ' : J (partsL a n) wr := by rw [hpt]; exact hJs
      clear hpt hpf
      gi_wp2
      go_end0
      exact ⟨⟨_, rfl⟩, .inl ⟨_, rfl, hJ'⟩⟩
theorem vm_stops {a n b1 b2 : Nat} (hn : n ≤ 16777216) (ha : a < 4294967296) (h1 : w.cell? ⟨b1, 0, none⟩ = some (.int .u32 a)) (h2 : w.cell? ⟨b2, 0, none⟩ = some (.int .i64 (n : Int))) :
    SeqStopsK Fence.wide 9 Try.prog 85 #[.pointer (some ⟨b1, 0, none⟩), .pointer (some ⟨b2, 0, none⟩)] (fun x => #[encP x]) (fun _ _ => True) (fun xs => xs = partsL a n) (fun pre => pre <+: partsL a n) n w := fun l J Jx W hW hJ _ hY h0 =>
  vm_parts1 hn ha l J Jx W ((hW.cell (World.block_lt_of_cell? _ _ h1)).trans h1) ((hW.cell (World.block_lt_of_cell? _ _ h2)).trans h2) hJ (fun pre x W1 hj hl _ => hY pre x W1 hj hl) h0
theorem vm_all {a n b1 b2 : Nat} (hn : n ≤ 16777216) (ha : a < 4294967296) (h1 : w.cell? ⟨b1, 0, none⟩ = some (.int .u32 a)) (h2 : w.cell? ⟨b2, 0, none⟩ = some (.int .i64 (n : Int))) :
    SeqAll Try.prog 85 #[.pointer (some ⟨b1, 0, none⟩), .pointer (some ⟨b2, 0, none⟩)] (fun x => #[encP x]) (partsL a n) w := fun l J W hW hJ hY h0 =>
  (vm_parts1 hn ha l J (fun _ _ => False) W ((hW.cell (World.block_lt_of_cell? _ _ h1)).trans h1) ((hW.cell (World.block_lt_of_cell? _ _ h2)).trans h2) hJ (fun pre x W1 hj _ hp => (hY pre x W1 hj hp).mono (fun e W' h => .inl ⟨h.1, h.2, trivial⟩)) h0).mono
    (by rintro e W' ⟨he, ⟨xs, rfl, hj⟩ | ⟨pre, _, hj⟩⟩; exact ⟨he, hj⟩; exact hj.elim)
end
end Go.Proofs.Ytlafdnbjkkbmfaa
