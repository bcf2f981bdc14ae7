/- New of the packages frame and page; no condition. -/
import Derived.Test.YtgkfgilhegjbhaaGreatMem
namespace Go.Proofs.YtgkfgilhegjbhaaGreat
open Go.RowKit
attribute [local go_sem] run_mf
section
variable {w : World} {pb fb rb : Nat} {many : Int} {F : List (Int × Tak)} {R : List (Int × Int)}
def newE (many : Int) : Int := if many < 0 ∨ 16384 < many then 2 else 0
set_option maxRecDepth 100000 in
set_option maxHeartbeats 1000000 in
theorem frame_new (n : Int) : Calls Tryz.prog 43 #[.int .i64 n] w fun e w' => Ext w w' ∧ if newE n = 0 then
    ∃ pb fb rb, e = .returned (.tuple #[.pointer (some ⟨pb, 0, none⟩), .int .i64 0]) ∧ PoolAt w' pb fb rb n [] [] ∧ w.heap.size ≤ pb ∧ w.heap.size ≤ fb ∧ w.heap.size ≤ rb
    else e = .returned (.tuple #[.pointer none, .int .i64 (newE n)]) := by
  have hmm := @run_makeMap Tryz.prog
  have hd : newE n = 0 ↔ ¬ (n < 0 ∨ 16384 < n) := by unfold newE; split <;> simp_all
  by_cases h0 : newE n = 0
  · have h1 := hd.1 h0
    have h2 : decide (n < 0) = false := by simp; omega
    have h3 : decide (16384 < n) = false := by simp; omega
    simp only [h0, if_true]
    clear hd h0
    go_enter Tryz.func43, Tryz.ntmps43
    go_wp2
    refine bodyPost_ret (v := .tuple #[.pointer (some ⟨w.heap.size + 1 + 1, 0, none⟩), .int .i64 0]) ?_ rfl ⟨ext_n _ (ext_n _ (ext_n _ (Ext.refl _))), w.heap.size + 1 + 1, w.heap.size, w.heap.size + 1, rfl, ⟨?_, ?_, ?_, by omega⟩, by omega, by omega, by omega⟩
    · simp [results, Tryz.results43, go_sem]
    · have := World.alloc_heap_new ((w.alloc (.map #[] 0)).alloc (.map #[] 0)) (.cells #[.map (some w.heap.size), .map (some (w.heap.size + 1)), .int .i64 n] 110)
      simp only [World.size_alloc] at this
      exact this
    · exact ⟨.map #[] 0, (Below.heap_alloc _ _ _ (by simp; omega)).trans ((Below.heap_alloc _ _ _ (by simp)).trans (World.alloc_heap_new _ _)), #[], 0, rfl, by simp [MapE]⟩
    · refine ⟨.map #[] 0, (Below.heap_alloc _ _ _ (by simp)).trans ?_, #[], 0, rfl, by simp [MapE]⟩
      have := World.alloc_heap_new (w.alloc (.map #[] 0)) (.map #[] 0)
      rwa [World.size_alloc] at this
  · have h1 : n < 0 ∨ 16384 < n := by
      apply Classical.byContradiction; intro hh; exact h0 (hd.2 hh)
    have h2 : newE n = 2 := by unfold newE; rw [if_pos h1]
    rw [h2]
    simp only [show ((2 : Int) = 0) = False by simp, if_false]
    clear hd h0 h2
    by_cases h3 : n < 0
    · have h4 : decide (n < 0) = true := by simpa using h3
      go_enter Tryz.func43, Tryz.ntmps43
      go_wp2
      refine bodyPost_ret (v := .tuple #[.pointer none, .int .i64 2]) ?_ rfl ⟨Ext.refl _, rfl⟩
      simp [results, Tryz.results43, go_sem]
    · have h4 : decide (n < 0) = false := by simpa using h3
      have h5 : decide (16384 < n) = true := by simp; omega
      go_enter Tryz.func43, Tryz.ntmps43
      go_wp2
      refine bodyPost_ret (v := .tuple #[.pointer none, .int .i64 2]) ?_ rfl ⟨Ext.refl _, rfl⟩
      simp [results, Tryz.results43, go_sem]
set_option maxRecDepth 100000 in
set_option maxHeartbeats 1000000 in
theorem page_new : Calls Tryz.prog 44 #[] w fun e w' => ∃ tb eb, e = .returned (.pointer (some ⟨tb, 0, none⟩)) ∧ Ext w w' ∧ TabAt w' tb eb [] ∧ w.heap.size ≤ tb ∧ w.heap.size ≤ eb := by
  have hmm := @run_makeMap Tryz.prog
  go_enter Tryz.func44, Tryz.ntmps44
  go_wp2
  go_ret
  refine ⟨w.heap.size + 1, w.heap.size, rfl, ext_n _ (ext_n _ (Ext.refl _)), ⟨?_, ?_⟩, by omega, Nat.le_refl _⟩
  · have := World.alloc_heap_new (w.alloc (.map #[] 0)) (.cells #[.map (some w.heap.size)] 114)
    rw [World.size_alloc] at this
    exact this
  · exact ⟨.map #[] 0, (Below.heap_alloc _ _ _ (by simp)).trans (World.alloc_heap_new _ _), #[], 0, rfl, by simp [MapE]⟩
end
end Go.Proofs.YtgkfgilhegjbhaaGreat
