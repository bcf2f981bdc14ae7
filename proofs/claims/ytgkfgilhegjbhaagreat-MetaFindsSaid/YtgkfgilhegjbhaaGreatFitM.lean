/- package meta: fits; no condition. -/
import Derived.Test.YtgkfgilhegjbhaaGreatFit
namespace Go.Proofs.YtgkfgilhegjbhaaGreat
open Go.RowKit
attribute [local go_sem] run_mf
section
variable {w : World}
set_option maxRecDepth 100000 in
set_option maxHeartbeats 1000000 in
theorem me_fits1 {b : Nat} {k n : Int} (h : w.cell? ⟨b, 0, none⟩ = some (.int .i64 k)) : Calls Tryz.prog 49 #[.int .i64 n, .pointer (some ⟨b, 0, none⟩)] w fun e w' => e = .returned (.bool (decide (n < 0) || decide (k < n))) ∧ w = w' := by
  by_cases h1 : n < 0
  · have hd : decide (n < 0) = true := by simpa using h1
    go_enter Tryz.func49, Tryz.ntmps49
    go_wp2
    go_ret
    exact ⟨by simp [h1], rfl⟩
  · have hd : decide (n < 0) = false := by simpa using h1
    go_enter Tryz.func49, Tryz.ntmps49
    go_wp2
    go_ret
    exact ⟨by simp [h1], rfl⟩
/-- are all of some numbers from 0 to a bound? -/
def fitsM (k : Int) (L : List Int) : Bool := !(L.any fun n => decide (n < 0) || decide (k < n))
set_option maxRecDepth 100000 in
set_option maxHeartbeats 1000000 in
theorem me_fits {lb : Nat} {k : Int} {L : List Int} (hlb : lb < w.heap.size) (hlen : L.length < 1000) (hc : ∀ k (h : k < L.length), w.cell? ⟨lb, k, none⟩ = some (.int .i64 L[k])) :
    Calls Tryz.prog 27 #[.int .i64 k, .slice (some ⟨lb, 0, none⟩) L.length L.length] w fun e w' => e = .returned (.bool (fitsM k L)) ∧ Ext w w' := by
  have hx1 : Ext w (w.alloc (.cells #[.int .i64 k] 3)) := ext_n _ (Ext.refl _)
  have hq : QI (w.alloc (.cells #[.int .i64 k] 3)) (.func (.func 49) #[] #[.pointer (some ⟨w.heap.size, 0, none⟩)]) (fun n => decide (n < 0) || decide (k < n)) :=
    ⟨_, _, _, rfl, Tryz.call49, fun w' n hx => (me_fits1 (cell_new1 hx)).mono fun e w2 h => ⟨h.1, h.2 ▸ Ext.refl _⟩⟩
  have hcn := s_containsI (w := w.alloc (.cells #[.int .i64 k] 3)) (by simp; omega) hlen (fun i h => (hx1.cell (p := ⟨lb, i, none⟩) hlb).trans (hc i h)) hq
  rw [fitsM]
  obtain ⟨r, hr⟩ : ∃ r, (L.any fun n => decide (n < 0) || decide (k < n)) = r := ⟨_, rfl⟩
  rw [hr] at hcn ⊢
  clear hr hq hc
  go_enter Tryz.func27, Tryz.ntmps27
  go_wp2_with fail
  refine hcn.mono ?_
  rintro e w2 ⟨rfl, hx⟩
  go_wp2
  go_ret
  exact ⟨rfl, Ext.trans hx1 hx⟩
/-- .. of one that was just laid -/
theorem me_fits_new {k n : Int} : Calls Tryz.prog 27 #[.int .i64 k, .slice (some ⟨w.heap.size, 0, none⟩) 1 1] (w.alloc (.cells #[.int .i64 n] 3)) fun e w' => e = .returned (.bool (decide (0 ≤ n) && decide (n ≤ k))) ∧ Ext w w' := by
  refine (me_fits (L := [n]) (by simp) (by simp) (fun i h => ?_)).mono ?_
  · rw [World.cell?_alloc_new]
    match i, h with
    | 0, _ => rfl
  · rintro e w2 ⟨rfl, hx⟩
    refine ⟨?_, Ext.trans (ext_n _ (Ext.refl _)) hx⟩
    congr 2
    unfold fitsM
    by_cases h1 : n < 0 <;> by_cases h2 : k < n <;> simp [h1, h2] <;> omega
theorem me_fits_at {b : Nat} {k n : Int} (hb : b = w.heap.size) : Calls Tryz.prog 27 #[.int .i64 k, .slice (some ⟨b, 0, none⟩) 1 1] (w.alloc (.cells #[.int .i64 n] 3)) fun e w' => e = .returned (.bool (decide (0 ≤ n) && decide (n ≤ k))) ∧ Ext w w' := by
  subst hb
  exact me_fits_new
end
end Go.Proofs.YtgkfgilhegjbhaaGreat
