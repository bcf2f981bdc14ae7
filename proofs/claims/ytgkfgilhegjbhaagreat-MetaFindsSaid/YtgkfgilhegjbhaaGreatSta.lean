/- package state: which states there are, their names; no condition. -/
import Derived.Test.YtgkfgilhegjbhaaGreatFit
import Derived.Test.YtgkfgilhegjbhaaGreatSz
namespace Go.Proofs.YtgkfgilhegjbhaaGreat
open Go.RowKit
attribute [local go_sem] run_mf
attribute [local go_sem ↓] Go.wp_at_zero Go.wp_at_succ
section
variable {w : World}
set_option maxRecDepth 100000 in
set_option maxHeartbeats 1000000 in
theorem s_indexS {lb : Nat} {L : List Int} {v : Value} {g : Int → Bool} (hlb : lb < w.heap.size) (hlen : L.length < 1000) (hc : ∀ k (h : k < L.length), w.cell? ⟨lb, k, none⟩ = some (.int .i64 L[k])) (hq : QI w v g) :
    Calls Tryz.prog 126 #[.slice (some ⟨lb, 0, none⟩) L.length L.length, v] w fun e w' => ∃ i : Int, e = .returned (.int .i64 i) ∧ (decide (0 ≤ i) = L.any g) ∧ Ext w w' := by
  obtain ⟨f, first, cap, rfl, hcf, hcall⟩ := hq
  have HC := Lib.hid hc
  clear hc
  go_enter Tryz.func126, Tryz.ntmps126
  go_wp2
  go_loopw [8] (fun i wr => ∃ k : Nat, k ≤ L.length ∧ i = .int .i64 k ∧ (L.take k).any g = false ∧ Ext w wr) (fun i _ => L.length - (intOf i).toNat)
  case atStart => exact ⟨0, Nat.zero_le _, rfl, rfl, Ext.refl _⟩
  case round =>
    obtain ⟨k, hk, rfl, hr, hx⟩ := hrel
    by_cases hlt : k < L.length
    · have h1 := (hx.cell (p := ⟨lb, k, none⟩) hlb).trans (HC.out k hlt)
      have hts : (L.take (k + 1)).any g = g L[k] := by rw [List.take_succ_eq_append_getElem hlt, List.any_append, hr]; simp
      have hall : g L[k] = true → L.any g = true := fun h => List.any_eq_true.2 ⟨_, List.getElem_mem hlt, h⟩
      have hcc := hcall wr L[k] hx
      obtain ⟨n, hn⟩ : ∃ n, L[k] = n := ⟨_, rfl⟩
      rw [hn] at h1 hts hall hcc
      have hlb' : lb < wr.heap.size := Nat.lt_of_lt_of_le hlb hx.size
      have HR := Lib.hid hr
      clear hr hn hcall
      cases hg : g n with
      | true =>
        rw [hg] at hcc hts
        have HA := Lib.hid (hall hg)
        clear hall hts hg
        go_wp2_with fail
        refine hcc.mono ?_
        rintro e w2 ⟨rfl, hx2⟩
        go_wp2
        go_ret
        exact ⟨_, rfl, by rw [HA.out]; simp, Ext.trans hx hx2⟩
      | false =>
        rw [hg] at hcc hts
        have HT := Lib.hid hts
        clear hall hts hg
        go_wp2_with fail
        refine hcc.mono ?_
        rintro e w2 ⟨rfl, hx2⟩
        go_wp2
        exact ⟨⟨k + 1, by omega, by go_num, HT.out, Ext.trans hx hx2⟩, by simp [intOf]; omega⟩
    · obtain rfl : k = L.length := by omega
      rw [List.take_length] at hr
      have HR := Lib.hid hr
      clear hr
      go_wp2
      go_ret
      exact ⟨-1, rfl, by rw [HR.out]; rfl, hx⟩
set_option maxRecDepth 100000 in
set_option maxHeartbeats 1000000 in
theorem s_containsS {lb : Nat} {L : List Int} {v : Value} {g : Int → Bool} (hlb : lb < w.heap.size) (hlen : L.length < 1000) (hc : ∀ k (h : k < L.length), w.cell? ⟨lb, k, none⟩ = some (.int .i64 L[k])) (hq : QI w v g) :
    Calls Tryz.prog 114 #[.slice (some ⟨lb, 0, none⟩) L.length L.length, v] w fun e w' => e = .returned (.bool (L.any g)) ∧ Ext w w' := by
  have hi := s_indexS hlb hlen hc hq
  obtain ⟨r, hr⟩ : ∃ r, L.any g = r := ⟨_, rfl⟩
  rw [hr] at hi ⊢
  obtain ⟨f, first, cap, rfl, hcf, hcall⟩ := hq
  clear hc hr hcall hcf
  go_enter Tryz.func114, Tryz.ntmps114
  go_wp2_with fail
  refine hi.mono ?_
  rintro e w2 ⟨i, rfl, hd, hx⟩
  have HD := Lib.hid hd
  clear hd
  go_wp2
  go_ret
  exact ⟨by rw [← HD.out]; rfl, hx⟩
set_option maxRecDepth 100000 in
set_option maxHeartbeats 1000000 in
theorem st_right1 (n : Int) : Calls Tryz.prog 115 #[.int .i64 n] w fun e w' => e = .returned (.bool (decide (n < 0) || decide (4 < n))) ∧ w = w' := by
  by_cases h1 : n < 0
  · have hd : decide (n < 0) = true := by simpa using h1
    go_enter Tryz.func115, Tryz.ntmps115
    go_wp2
    go_ret
    exact ⟨by simp [h1], rfl⟩
  · have hd : decide (n < 0) = false := by simpa using h1
    go_enter Tryz.func115, Tryz.ntmps115
    go_wp2
    go_ret
    exact ⟨by simp [h1], rfl⟩
set_option maxRecDepth 100000 in
set_option maxHeartbeats 1000000 in
theorem st_right {b : Nat} {n : Int} (hb : b = w.heap.size) : Calls Tryz.prog 95 #[.slice (some ⟨b, 0, none⟩) 1 1] (w.alloc (.cells #[.int .i64 n] 62)) fun e w' => e = .returned (.bool (inB 5 n)) ∧ Ext w w' := by
  subst hb
  have hx1 : Ext w (w.alloc (.cells #[.int .i64 n] 62)) := ext_n _ (Ext.refl _)
  have hq : QI (w.alloc (.cells #[.int .i64 n] 62)) (.func (.func 115) #[] #[]) (fun n => decide (n < 0) || decide (4 < n)) :=
    ⟨_, _, _, rfl, Tryz.call115, fun w' n hx => (st_right1 n).mono fun e w2 h => ⟨h.1, h.2 ▸ Ext.refl _⟩⟩
  have hcn := s_containsS (w := w.alloc (.cells #[.int .i64 n] 62)) (L := [n]) (lb := w.heap.size) (by simp) (by simp) (fun i h => by
    rw [World.cell?_alloc_new]
    match i, h with
    | 0, _ => rfl) hq
  have he : ([n].any fun n => decide (n < 0) || decide (4 < n)) = !inB 5 n := by
    unfold inB
    by_cases h1 : n < 0 <;> by_cases h2 : 4 < n <;> simp [h1, h2] <;> omega
  rw [he] at hcn
  obtain ⟨r, hr⟩ : ∃ r, inB 5 n = r := ⟨_, rfl⟩
  rw [hr] at hcn ⊢
  clear hr hq he
  go_enter Tryz.func95, Tryz.ntmps95
  go_wp2_with fail
  refine hcn.mono ?_
  rintro e w2 ⟨rfl, hx⟩
  go_wp2
  go_ret
  exact ⟨by simp, Ext.trans hx1 hx⟩
set_option maxRecDepth 100000 in
set_option maxHeartbeats 1000000 in
theorem run_names {n : Int} (h0 : 0 ≤ n) (h1 : n < 5) : ∃ s : ByteArray, s ≠ ⟨#[]⟩ ∧ ∀ w : World, (Instr.index 151 (.agg #[.string ⟨#[102, 114, 101, 101]⟩, .string ⟨#[107, 101, 112, 116]⟩, .string ⟨#[108, 105, 118, 101]⟩, .string ⟨#[104, 101, 108, 100]⟩, .string ⟨#[103, 111, 110, 101]⟩]) (.int .i64 n)).run Tryz.prog w = .ok (.string s) w := by
  rcases (show n = 0 ∨ n = 1 ∨ n = 2 ∨ n = 3 ∨ n = 4 by omega) with rfl | rfl | rfl | rfl | rfl
  · exact ⟨⟨#[102, 114, 101, 101]⟩, by decide, fun w => by simp [Instr.index, run_underlying Tryz.underlying151, asIntOf, part, sizeOf, go_sem, show Tryz.t9.size = 1 from rfl]⟩
  · exact ⟨⟨#[107, 101, 112, 116]⟩, by decide, fun w => by simp [Instr.index, run_underlying Tryz.underlying151, asIntOf, part, sizeOf, go_sem, show Tryz.t9.size = 1 from rfl]⟩
  · exact ⟨⟨#[108, 105, 118, 101]⟩, by decide, fun w => by simp [Instr.index, run_underlying Tryz.underlying151, asIntOf, part, sizeOf, go_sem, show Tryz.t9.size = 1 from rfl]⟩
  · exact ⟨⟨#[104, 101, 108, 100]⟩, by decide, fun w => by simp [Instr.index, run_underlying Tryz.underlying151, asIntOf, part, sizeOf, go_sem, show Tryz.t9.size = 1 from rfl]⟩
  · exact ⟨⟨#[103, 111, 110, 101]⟩, by decide, fun w => by simp [Instr.index, run_underlying Tryz.underlying151, asIntOf, part, sizeOf, go_sem, show Tryz.t9.size = 1 from rfl]⟩
set_option maxRecDepth 100000 in
set_option maxHeartbeats 1000000 in
theorem st_Name (n : Int) : Calls Tryz.prog 83 #[.int .i64 n] w fun e w' => ∃ s : ByteArray, e = .returned (.string s) ∧ (inB 5 n = false → s = ⟨#[]⟩) ∧ (inB 5 n = true → s ≠ ⟨#[]⟩) ∧ Ext w w' := by
  have hr := fun w : World => st_right (w := w) (n := n) rfl
  cases h5 : inB 5 n with
  | false =>
    simp only [h5] at hr
    clear h5
    go_enter Tryz.func83, Tryz.ntmps83
    go_wp2_with fail
    refine (hr _).mono ?_
    rintro e w2 ⟨rfl, hx⟩
    go_wp2
    go_ret
    exact ⟨_, rfl, fun _ => rfl, (fun h => by cases h), hx⟩
  | true =>
    simp only [h5] at hr
    obtain ⟨h0, h1⟩ := inB_iff.1 h5
    clear h5
    obtain ⟨s, hs, hix⟩ := run_names h0 h1
    go_enter Tryz.func83, Tryz.ntmps83
    go_wp2_with fail
    refine (hr _).mono ?_
    rintro e w2 ⟨rfl, hx⟩
    go_wp2
    go_ret
    exact ⟨_, rfl, (fun h => by cases h), (fun _ => hs), hx⟩
end
end Go.Proofs.YtgkfgilhegjbhaaGreat
