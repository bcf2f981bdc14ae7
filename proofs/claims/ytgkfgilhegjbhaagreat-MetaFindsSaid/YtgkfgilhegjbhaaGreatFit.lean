/- slices.ContainsFunc, and what fits within a bound (packages window, meta); no condition. -/
import Derived.Test.YtgkfgilhegjbhaaGreatMem
import Derived.Test.YtgkfgilhegjbhaaGreatReg
namespace Go.Proofs.YtgkfgilhegjbhaaGreat
open Go.RowKit
attribute [local go_sem] run_mf
attribute [local go_sem ↓] Go.wp_at_zero Go.wp_at_succ
/-- a question on an integer that answers g in every later world -/
def QI (w : World) (v : Value) (g : Int → Bool) : Prop :=
  ∃ f first cap, v = .func (.func f) first cap ∧ (∀ a w, (callFunc f a).run Tryz.prog w = .ok (.enter f a) w) ∧
    ∀ w' n, Ext w w' → Calls Tryz.prog f (first ++ #[.int .i64 n] ++ cap) w' fun e w'' => e = .returned (.bool (g n)) ∧ Ext w' w''
def idxB (g : Int → Bool) : List Int → Option Nat
  | [] => none
  | n :: l => if g n = true then some 0 else (idxB g l).map (· + 1)
section
variable {w : World}
set_option maxRecDepth 100000 in
set_option maxHeartbeats 1000000 in
theorem s_indexI {lb : Nat} {L : List Int} {v : Value} {g : Int → Bool} (hlb : lb < w.heap.size) (hlen : L.length < 1000) (hc : ∀ k (h : k < L.length), w.cell? ⟨lb, k, none⟩ = some (.int .i64 L[k])) (hq : QI w v g) :
    Calls Tryz.prog 74 #[.slice (some ⟨lb, 0, none⟩) L.length L.length, v] w fun e w' => ∃ i : Int, e = .returned (.int .i64 i) ∧ (decide (0 ≤ i) = L.any g) ∧ Ext w w' := by
  obtain ⟨f, first, cap, rfl, hcf, hcall⟩ := hq
  have HC := Lib.hid hc
  clear hc
  go_enter Tryz.func74, Tryz.ntmps74
  go_wp2
  go_loopw [8] (fun i wr => ∃ k : Nat, k ≤ L.length ∧ i = .int .i64 k ∧ (L.take k).any g = false ∧ Ext w wr) (fun i _ => L.length - (intOf i).toNat)
  case atStart => exact ⟨0, Nat.zero_le _, rfl, rfl, Ext.refl _⟩
  case round =>
    obtain ⟨k, hk, rfl, hr, hx⟩ := hrel
    by_cases hlt : k < L.length
    · have h1 := (hx.cell (p := ⟨lb, k, none⟩) hlb).trans (HC.out k hlt)
      have hts : (L.take (k + 1)).any g = g L[k] := by rw [List.take_succ_eq_append_getElem hlt, List.any_append, hr]; simp
      have hall : g L[k] = true → L.any g = true := fun h => List.any_eq_true.2 ⟨_, List.getElem_mem hlt, h⟩
      have hcc := hcall wr L[k] hx
      obtain ⟨n, hn⟩ : ∃ n, L[k] = n := ⟨_, rfl⟩
      rw [hn] at h1 hts hall hcc
      have hlb' : lb < wr.heap.size := Nat.lt_of_lt_of_le hlb hx.size
      have HR := Lib.hid hr
      clear hr hn hcall
      cases hg : g n with
      | true =>
        rw [hg] at hcc hts
        have HA := Lib.hid (hall hg)
        clear hall hts hg
        go_wp2_with fail
        refine hcc.mono ?_
        rintro e w2 ⟨rfl, hx2⟩
        go_wp2
        go_ret
        exact ⟨_, rfl, by rw [HA.out]; simp, Ext.trans hx hx2⟩
      | false =>
        rw [hg] at hcc hts
        have HT := Lib.hid hts
        clear hall hts hg
        go_wp2_with fail
        refine hcc.mono ?_
        rintro e w2 ⟨rfl, hx2⟩
        go_wp2
        exact ⟨⟨k + 1, by omega, by go_num, HT.out, Ext.trans hx hx2⟩, by simp [intOf]; omega⟩
    · obtain rfl : k = L.length := by omega
      rw [List.take_length] at hr
      have HR := Lib.hid hr
      clear hr
      go_wp2
      go_ret
      exact ⟨-1, rfl, by rw [HR.out]; rfl, hx⟩
set_option maxRecDepth 100000 in
set_option maxHeartbeats 1000000 in
theorem s_containsI {lb : Nat} {L : List Int} {v : Value} {g : Int → Bool} (hlb : lb < w.heap.size) (hlen : L.length < 1000) (hc : ∀ k (h : k < L.length), w.cell? ⟨lb, k, none⟩ = some (.int .i64 L[k])) (hq : QI w v g) :
    Calls Tryz.prog 48 #[.slice (some ⟨lb, 0, none⟩) L.length L.length, v] w fun e w' => e = .returned (.bool (L.any g)) ∧ Ext w w' := by
  have hi := s_indexI hlb hlen hc hq
  obtain ⟨r, hr⟩ : ∃ r, L.any g = r := ⟨_, rfl⟩
  rw [hr] at hi ⊢
  obtain ⟨f, first, cap, rfl, hcf, hcall⟩ := hq
  clear hc hr hcall hcf
  go_enter Tryz.func48, Tryz.ntmps48
  go_wp2_with fail
  refine hi.mono ?_
  rintro e w2 ⟨i, rfl, hd, hx⟩
  have HD := Lib.hid hd
  clear hd
  go_wp2
  go_ret
  exact ⟨by rw [← HD.out]; rfl, hx⟩
end
end Go.Proofs.YtgkfgilhegjbhaaGreat
