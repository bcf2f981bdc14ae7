/- the statement's function returns true; no condition. -/
import Derived.Test.YtlafdnbjkkbmfaaLawB
namespace Go.Proofs.Ytlafdnbjkkbmfaa
open Go.RowKit
attribute [local go_sem] run_mf
section
variable {w0 w : World} {mb tb eb pb fb rb nb wb : Nat} {v : Value}
def l9R : List (Int × Int) := [(1, 4), (2, 4)]
theorem l9_res1 (h : MemAt w mb tb eb pb fb rb 8 [] [] []) :
    Calls Try.prog 8 #[.pointer (some ⟨mb, 0, none⟩), .int .i64 1, .int .i64 4] w fun e w' => e = .returned (.int .i64 0) ∧ Upd [rb] w w' ∧ MemAt w' mb tb eb pb fb rb 8 [] [] [(1, 4)] := by
  have := vm_reserve (p := 1) (n := 4) h ⟨by simp, by simp⟩ ⟨by simp, by simp [sumR], by omega, by omega, by simp⟩
  exact this
theorem l9_res2 (h : MemAt w mb tb eb pb fb rb 8 [] [] [(1, 4)]) :
    Calls Try.prog 8 #[.pointer (some ⟨mb, 0, none⟩), .int .i64 2, .int .i64 4] w fun e w' => e = .returned (.int .i64 0) ∧ Upd [rb] w w' ∧ MemAt w' mb tb eb pb fb rb 8 [] [] l9R := by
  have := vm_reserve (p := 2) (n := 4) h ⟨by simp, by simp⟩ ⟨by simp, by simp [sumR], by omega, by omega, by simp⟩
  exact this
theorem l9_inv0 : MemInv [] [] l9R 4 (fun _ => 0) 20 :=
  ⟨rfl, rfl, ⟨by simp [l9R], by simp [sumR, l9R], by omega, by omega, by simp [l9R]⟩, ⟨by simp, by simp⟩, by simp, by simp, by simp, by simp [hasN], by simp [hasN], fun n x hx => by simp [getL] at hx, fun _ _ _ => rfl, fun g h x y hx => by simp [getL] at hx⟩
theorem l9_zc : Try.zeroCells31 = nowC (List.replicate 5120 0) := by kernel_rfl
set_option maxRecDepth 100000 in
set_option maxHeartbeats 1000000 in
theorem l9_holds {L : List ActL} (hv : ActsAt w v L) : Calls Try.prog 3 #[v] w fun e w' => e = .returned (.bool true) ∧ Ext w w' := by
  have hfw := l9_few (most := 40) hv
  obtain ⟨q, hq⟩ : ∃ q, fewB L 40 = q := ⟨_, rfl⟩
  rw [hq] at hfw
  have HQ := Lib.hid hq
  have HV := Lib.hid hv
  clear hq hv
  cases q with
  | false =>
    go_enter Try.func3, Try.ntmps3
    go_wp2_with fail
    refine hfw.mono ?_
    rintro e w1 ⟨rfl, rfl⟩
    go_wp2_with fail
    refine l9_works.mono ?_
    rintro e w1 ⟨rfl, hx⟩
    go_wp2
    go_ret
    exact ⟨rfl, hx⟩
  | true =>
    have hn := vm_new (w := w) 8
    rw [show newE 8 = 0 by decide] at hn
    simp only [if_true] at hn
    go_enter Try.func3, Try.ntmps3
    go_wp2_with fail
    refine hfw.mono ?_
    rintro e w1 ⟨rfl, rfl⟩
    go_wp2_with fail
    refine hn.mono ?_
    rintro e w1 ⟨hx1, mb, tb, eb, pb, fb, rb, rfl, hm1, hl⟩
    have le : w.heap.size ≤ eb := hl eb (by simp)
    have lf : w.heap.size ≤ fb := hl fb (by simp)
    have lr : w.heap.size ≤ rb := hl rb (by simp)
    clear hl hn hfw
    go_wp2_with fail
    refine (l9_num _).mono ?_
    rintro e w2 ⟨rfl, rfl⟩
    go_wp2_with fail
    refine (l9_res1 hm1).mono ?_
    rintro e w2 ⟨rfl, hu2, hm2⟩
    have hx2 := ext_upd hx1 hu2 (by simpa using lr)
    go_wp2_with fail
    refine (l9_res2 hm2).mono ?_
    rintro e w3 ⟨rfl, hu3, hm3⟩
    have hx3 := ext_upd hx2 hu3 (by simpa using lr)
    clear hx1 hx2 hm1 hm2 hu2 hu3
    go_wp2_with fail
    refine l9_loop (L := L) (T := []) (F := []) (R := l9R) (whose := fun _ => 0) (now := List.replicate 5120 0) (mb := mb) (tb := tb) (eb := eb) (pb := pb) (fb := fb) (rb := rb) (nb := w3.heap.size) (wb := w3.heap.size + 1) (w0 := w) (v := v) (fr_mk rfl ⟨rfl, rfl, rfl, rfl, rfl, trivial⟩) ?hls HV.out HQ.out ?_
    case hls =>
      have e1 : ∀ o o' : Obj, Ext w3 ((w3.alloc o).alloc o') := fun o o' => ext_n _ (ext_n _ (Ext.refl _))
      refine ⟨Ext.trans hx3 (e1 _ _), hm3.ext (e1 _ _), l9_inv0, fun g x hx => by simp [getL] at hx, List.length_replicate, ?_, ?_, by omega, ⟨le, lf, lr, hx3.size, by have := hx3.size; omega⟩⟩
      · rw [← l9_zc]
        exact ((ext_n _ (Ext.refl _)).block _ (by simp)).trans (World.alloc_heap_new w3 _)
      · have := World.alloc_heap_new (w3.alloc (.cells Try.zeroCells31 31)) (.cells (whoC (fun _ => 0)) 32)
        rw [World.size_alloc] at this
        exact this
    intro a' w' T' F' whose' now' hf' hl'
    have HL := Lib.hid hl'
    clear hl'
    obtain ⟨g, rfl, hgg⟩ := fr_lit288 hf'
    obtain ⟨hg0, hg3, hg5, hg6, hg7, -⟩ := hgg
    rw [hg0, hg3, hg5, hg6, hg7]
    clear hg0 hg3 hg5 hg6 hg7
    clear hf'
    go_wp2_with fail
    refine l9_last (mb := mb) (nb := w3.heap.size) (wb := w3.heap.size + 1) (fr_mk rfl ⟨rfl, rfl, rfl, rfl, trivial⟩) HL.out ?_
    intro a' w2 hf' hx'
    obtain ⟨g, rfl, -⟩ := fr_lit288 hf'
    go_wp2_with fail
    refine l9_works.mono ?_
    rintro e w1 ⟨rfl, hx⟩
    go_wp2
    go_ret
    exact ⟨rfl, Ext.trans hx' hx⟩
end
end Go.Proofs.Ytlafdnbjkkbmfaa
