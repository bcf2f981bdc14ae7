/- package frame: New, the free frames, Take; no condition. -/
import Derived.Shelf.Abstract
import Derived.WalkKit
import Derived.OwnWalkIn
import Derived.TacticsInMore
import Derived.LoopNIn
import Derived.LoopIn
import Derived.Test.YtlafdnbjkkbmfaaRw
import Derived.Test.YtlafdnbjkkbmfaaRnd
namespace Go.Proofs.Ytlafdnbjkkbmfaa
open Go.RowKit
attribute [local go_sem] run_mf
attribute [local go_sem ↓] Go.wp_at_zero Go.wp_at_succ
attribute [local go_sem ↓] st_tak wp_load_tak
attribute [local go_sem] takC_zero
section
variable {w : World} {pb fb rb : Nat} {many : Int} {F : List (Int × Tak)} {R : List (Int × Int)}
def newE (many : Int) : Int := if many < 0 ∨ 16384 < many then 2 else 0
set_option maxRecDepth 100000 in
set_option maxHeartbeats 1000000 in
theorem frame_new (n : Int) : Calls Try.prog 14 #[.int .i64 n] w fun e w' => Ext w w' ∧ if newE n = 0 then
    ∃ pb fb rb, e = .returned (.tuple #[.pointer (some ⟨pb, 0, none⟩), .int .i64 0]) ∧ PoolAt w' pb fb rb n [] [] ∧ w.heap.size ≤ pb ∧ w.heap.size ≤ fb ∧ w.heap.size ≤ rb
    else e = .returned (.tuple #[.pointer none, .int .i64 (newE n)]) := by
  have hmm := @run_makeMap Try.prog
  have hd : newE n = 0 ↔ ¬ (n < 0 ∨ 16384 < n) := by unfold newE; split <;> simp_all
  by_cases h0 : newE n = 0
  · have h1 := hd.1 h0
    have h2 : decide (n < 0) = false := by simp; omega
    have h3 : decide (16384 < n) = false := by simp; omega
    simp only [h0, if_true]
    clear hd h0
    go_enter Try.func14, Try.ntmps14
    go_wp2
    refine bodyPost_ret (v := .tuple #[.pointer (some ⟨w.heap.size + 1 + 1, 0, none⟩), .int .i64 0]) ?_ rfl ⟨ext_n _ (ext_n _ (ext_n _ (Ext.refl _))), w.heap.size + 1 + 1, w.heap.size, w.heap.size + 1, rfl, ⟨?_, ?_, ?_, by omega⟩, by omega, by omega, by omega⟩
    · simp [results, Try.results14, go_sem]
    · have := World.alloc_heap_new ((w.alloc (.map #[] 0)).alloc (.map #[] 0)) (.cells #[.map (some w.heap.size), .map (some (w.heap.size + 1)), .int .i64 n] 71)
      simp only [World.size_alloc] at this
      exact this
    · exact ⟨.map #[] 0, (Below.heap_alloc _ _ _ (by simp; omega)).trans ((Below.heap_alloc _ _ _ (by simp)).trans (World.alloc_heap_new _ _)), #[], 0, rfl, by simp [MapE]⟩
    · refine ⟨.map #[] 0, (Below.heap_alloc _ _ _ (by simp)).trans ?_, #[], 0, rfl, by simp [MapE]⟩
      have := World.alloc_heap_new (w.alloc (.map #[] 0)) (.map #[] 0)
      rwa [World.size_alloc] at this
  · have h1 : n < 0 ∨ 16384 < n := by
      apply Classical.byContradiction; intro hh; exact h0 (hd.2 hh)
    have h2 : newE n = 2 := by unfold newE; rw [if_pos h1]
    rw [h2]
    simp only [show ((2 : Int) = 0) = False by simp, if_false]
    clear hd h0 h2
    by_cases h3 : n < 0
    · have h4 : decide (n < 0) = true := by simpa using h3
      go_enter Try.func14, Try.ntmps14
      go_wp2
      refine bodyPost_ret (v := .tuple #[.pointer none, .int .i64 2]) ?_ rfl ⟨Ext.refl _, rfl⟩
      simp [results, Try.results14, go_sem]
    · have h4 : decide (n < 0) = false := by simpa using h3
      have h5 : decide (16384 < n) = true := by simp; omega
      go_enter Try.func14, Try.ntmps14
      go_wp2
      refine bodyPost_ret (v := .tuple #[.pointer none, .int .i64 2]) ?_ rfl ⟨Ext.refl _, rfl⟩
      simp [results, Try.results14, go_sem]
/-- the free frames below k -/
def freeL (F : List (Int × Tak)) (k : Nat) : List Nat := (List.range k).filter fun n => (getL F (n : Int)).isNone
theorem freeL_succ (F : List (Int × Tak)) (k : Nat) : freeL F (k + 1) = if (getL F (k : Int)).isNone = true then freeL F k ++ [k] else freeL F k := by
  simp only [freeL, List.range_succ, List.filter_append, List.filter_cons, List.filter_nil]
  split <;> simp
theorem freeL_len (F : List (Int × Tak)) (k : Nat) : (freeL F k).length ≤ k := by
  have := List.length_filter_le (fun n : Nat => (getL F (n : Int)).isNone) (List.range k)
  simpa [freeL] using this
theorem freeL_prefix (F : List (Int × Tak)) {j k : Nat} (h : j ≤ k) : freeL F j <+: freeL F k := by
  induction h with
  | refl => exact List.prefix_refl _
  | step h ih =>
    rw [freeL_succ]
    split
    · exact ih.trans (List.prefix_append _ _)
    · exact ih
set_option maxRecDepth 100000 in
set_option maxHeartbeats 1000000 in
theorem frame_free (x : Option Addr) : Calls Try.prog 52 #[.pointer x] w fun e w' => e = .returned (.func (.func 71) #[] #[.pointer (some ⟨w.heap.size, 0, none⟩)]) ∧ w' = w.alloc (.cells #[.pointer x] 45) := by
  go_enter Try.func52, Try.ntmps52
  go_wp2
  go_ret
  exact ⟨rfl, rfl⟩
attribute [local go_sem] Oper.semAt_some
theorem wide_fn (f : FuncId) : Fence.wide.fn f = True := rfl
theorem wide_depth : Fence.wide.depth = none := rfl
theorem wide_round : Fence.wide.round = none := rfl
attribute [local go_sem] wide_fn wide_depth wide_round
set_option maxRecDepth 100000 in
set_option maxHeartbeats 1000000 in
theorem frame_free1 (hF : FOk F) (hmany : 0 ≤ many ∧ many ≤ 1000000) (l B : Nat) (J Jx : List Nat → World → Prop) (W : World) (hP : PoolAt W pb fb rb many F R) (hB : W.cell? ⟨B, 0, none⟩ = some (.pointer (some ⟨pb, 0, none⟩)))
    (hJ : AbidesFrom W.heap.size J)
    (hY : ∀ pre x W1, J pre W1 → pre.length < many.toNat → YieldAt Fence.wide (9 - 1) Try.prog l #[.int .i64 (x : Nat)] W1 fun e W' =>
      (e = .returned (.bool true) ∧ J (pre ++ [x]) W' ∧ KeepL [pb, fb, B] W1 W') ∨ (e = .returned (.bool false) ∧ Jx (pre ++ [x]) W')) (h0 : J [] W) :
    CallsIn Fence.wide 9 Try.prog 71 #[.func (.yield l) #[] #[], .pointer (some ⟨B, 0, none⟩)] W fun e W' => (∃ v, e = .returned v) ∧
      ((∃ xs, xs = freeL F many.toNat ∧ J xs W') ∨ (∃ pre, pre <+: freeL F many.toNat ∧ Jx pre W')) := by
  refine callsIn_of_wp Try.func71 rfl trivial ?_ rfl
  simp only [Try.ntmps71, List.size_toArray, List.length_cons, List.length_nil, Nat.reduceAdd, Nat.reduceSub, Array.replicate_succ, Array.replicate_zero, List.push_toArray, List.append_toArray, List.nil_append, List.cons_append]
  obtain ⟨m, rfl⟩ := Int.eq_ofNat_of_zero_le hmany.1
  have c2 := hP.c2
  have hpl := lt_of_block hP.blk
  have hBl := World.block_lt_of_cell? _ _ hB
  gi_wp2
  gi_loopw [10] (fun i wr => ∃ k : Nat, k ≤ m ∧ i = .int .i64 k ∧ J (freeL F k) wr ∧ KeepL [pb, fb, B] W wr)
    (fun i _ => m - (intOf i).toNat)
  case atStart => exact ⟨0, Nat.zero_le _, rfl, h0, Nat.le_refl _, fun _ _ => rfl⟩
  case round =>
    obtain ⟨k, hk, rfl, hJs, hkp⟩ := hrel
    by_cases hlt : k < m
    · have hfr := hP.fr.later (hkp.2 fb (by simp))
      have c0 : wr.cell? ⟨pb, 0, none⟩ = some (.map (some fb)) := (World.cell?_of_block (hkp.2 pb (by simp))).trans hP.c0
      have cB : wr.cell? ⟨B, 0, none⟩ = some (.pointer (some ⟨pb, 0, none⟩)) := (World.cell?_of_block (hkp.2 B (by simp))).trans hB
      have hl := hfr.look1 (P := Try.prog) Try.underlying66 Try.underlying3 Try.zeroValue96 (k : Int) (v := .agg (takC ((getL F (k : Int)).getD tak0))) (by cases getL F (k : Int); exact congrArg Value.agg tak0_cells; rfl) rfl
      have ht := tak_ok hF (k : Int)
      have hsucc := freeL_succ F k
      obtain ⟨t, htt⟩ : ∃ t, t = (getL F (k : Int)).getD tak0 := ⟨_, rfl⟩
      rw [← htt] at hl ht
      clear htt
      obtain ⟨W1, hW1⟩ : ∃ W1, W1 = wr.alloc (.cells (takC t) 96) := ⟨_, rfl⟩
      have hJ1 : J (freeL F k) W1 := hJ _ wr _ none hJs (by rw [hW1]; exact World.grownBy_alloc _ _ _) (by simp)
      have hk1 : KeepL [pb, fb, B] W W1 := keepL_t hkp (by
        rw [hW1]
        have h1 := hkp.1
        have h2 := hP.fr.lt
        refine ⟨by simp, fun i hi => Below.heap_alloc _ _ _ ?_⟩
        simp at hi
        rcases hi with rfl | rfl | rfl <;> omega)
      have hWH := Lib.hid hW1
      clear hW1
      cases hg : (getL F (k : Int)).isSome with
      | true =>
        rw [hg] at hl
        have hn : (getL F (k : Int)).isNone = false := by cases h : getL F (k : Int) <;> simp_all
        rw [hn, if_neg (by simp)] at hsucc
        clear hY hn hg
        gi_wp2
        go_roundw
        case rel => exact ⟨k + 1, by omega, by go_num, by rw [hsucc, ← hWH.out]; exact hJ1, by rw [← hWH.out]; exact hk1⟩
        case measure => simp [intOf]; omega
      | false =>
        rw [hg] at hl
        have hn : (getL F (k : Int)).isNone = true := by cases h : getL F (k : Int) <;> simp_all
        rw [hn, if_pos rfl] at hsucc
        obtain ⟨fn, tmps, assign, body, hy, hR⟩ := hY _ k W1 hJ1 (by have := freeL_len F k; simp; omega)
        clear hY hn hg
        rw [hWH.out] at hy
        gi_wp2
        rw [← hWH.out]
        refine hR.mono ?_
        rintro e W3 (⟨rfl, hJ3, hk3⟩ | ⟨rfl, hJx3⟩)
        · gi_wp2
          go_roundw
          case rel => exact ⟨k + 1, by omega, by go_num, by rw [hsucc]; exact hJ3, keepL_t hk1 hk3⟩
          case measure => simp [intOf]; omega
        · gi_wp2
          refine bodyPost_ret (results_none rfl _ _ _) rfl ?_
          exact ⟨⟨_, rfl⟩, .inr ⟨_, by rw [← hsucc]; exact freeL_prefix F (by omega), hJx3⟩⟩
    · obtain rfl : k = m := by omega
      gi_wp2
      go_end0
      exact ⟨⟨_, rfl⟩, .inl ⟨_, rfl, hJs⟩⟩
end
end Go.Proofs.Ytlafdnbjkkbmfaa
