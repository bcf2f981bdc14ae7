/- the statement MetaFinds; no condition. -/
import Derived.Test.YtgkfgilhegjbhaaGreatMePv
import Derived.Test.YtgkfgilhegjbhaaGreatMeF
import Derived.Test.YtgkfgilhegjbhaaGreatR15f
namespace Go.Proofs.YtgkfgilhegjbhaaGreat
open Go.RowKit
attribute [local go_sem] run_mf
attribute [local go_sem ↓] Go.wp_at_zero Go.wp_at_succ
theorem l15_f1 {x : Array Value} {no : Int} (h : FindR 1048848 x no) : x = #[.int .i64 0, .int .i64 0, .int .i64 0] ∧ no = 0 :=
  FindR.unique h (.inl ⟨0, 0, 0, ⟨by decide, by decide, by decide, by decide, by decide, by decide⟩, by decide, rfl, rfl⟩)
theorem l15_f2 {x : Array Value} {no : Int} (h : FindR 1048849 x no) : x = #[.int .i64 0, .int .i64 0, .int .i64 0] ∧ no = 250 :=
  FindR.unique h (.inr ⟨fun s c i h1 e => by
    obtain ⟨p, hp, p0, p1⟩ := h1.page
    rw [e] at hp
    obtain ⟨rfl, rfl⟩ := reg_inj (s := 0) (c := 0) (p := 0) (by decide) (by decide) (by decide) (by decide) h1.c0 h1.c8 p0 p1 (by rw [← hp]; decide)
    have hs : sloI 0 = 48 := by decide
    have hr : regI 0 0 = 4097 := by decide
    unfold atI at e
    rw [hs, hr] at e
    omega, rfl, rfl⟩)
theorem FindR.form {a no : Int} {x : Array Value} (h : FindR a x no) : ∃ p q r, x = #[.int .i64 p, .int .i64 q, .int .i64 r] := by
  rcases h with ⟨s, c, i, _, _, rfl, _⟩ | ⟨_, rfl, _⟩
  · exact ⟨s, c, i, rfl⟩
  · exact ⟨0, 0, 0, rfl⟩
section
variable {w : World}
set_option maxRecDepth 100000 in
set_option maxHeartbeats 1000000 in
theorem l15_num (n : Int) : Calls Tryz.prog 6 #[.int .i64 n] w fun e w' => e = .returned (.int .i64 n) ∧ w = w' := by
  go_enter Tryz.func6, Tryz.ntmps6
  go_wp2
  go_ret
  exact ⟨rfl, rfl⟩
set_option maxRecDepth 100000 in
set_option maxHeartbeats 1000000 in
theorem l15_works : Calls Tryz.prog 10 #[] w fun e w' => e = .returned (.bool true) ∧ Ext w w' := by
  have a1 := fun w : World => me_At (w := w) 0 0 0
  have a2 := fun w : World => me_At (w := w) 0 0 1
  have a3 := fun w : World => me_At (w := w) 0 0 85
  have a4 := fun w : World => me_At (w := w) 4 0 0
  rw [show asksI 0 0 0 = 0 by decide, if_pos rfl, show atI 0 0 0 = 1048848 by decide] at a1
  rw [show asksI 0 0 1 = 0 by decide, if_pos rfl, show atI 0 0 1 = 1048896 by decide] at a2
  rw [show asksI 0 0 85 = 4 by decide, if_neg (by decide)] at a3
  rw [show asksI 4 0 0 = 2 by decide, if_neg (by decide)] at a4
  have f1 := fun w : World => me_Find (w := w) (a := 1048848) (by decide)
  have f2 := fun w : World => me_Find (w := w) (a := 1048849) (by decide)
  have hn := fun w : World => vm_new (w := w) 1
  simp only [show newE 1 = 0 by decide, if_true] at hn
  go_enter Tryz.func10, Tryz.ntmps10
  go_wp2_with fail
  refine (a1 _).mono ?_
  rintro e w1 ⟨rfl, hx1⟩
  go_wp2_with fail
  refine (a2 _).mono ?_
  rintro e w2 ⟨rfl, hx2⟩
  go_wp2_with fail
  refine (f1 _).mono ?_
  rintro e w3 ⟨x, no, rfl, hf, hx3⟩
  obtain ⟨rfl, rfl⟩ := l15_f1 hf
  clear hf
  go_wp2_with fail
  refine (f2 _).mono ?_
  rintro e w4 ⟨x, no, rfl, hf, hx4⟩
  obtain ⟨rfl, rfl⟩ := l15_f2 hf
  clear hf
  go_wp2_with fail
  refine (a3 _).mono ?_
  rintro e w5 ⟨rfl, hx5⟩
  go_wp2_with fail
  refine (a4 _).mono ?_
  rintro e w6 ⟨rfl, hx6⟩
  go_wp2_with fail
  refine (hn _).mono ?_
  rintro e w7 ⟨hx7, mb, tb, eb, pb, fb, rb, rfl, hm, -⟩
  have hput := me_PutNo (s := 0) (c := 0) (i := 0) (st := 0) (sz := 0) (nn := 0) (r := 5) hm (by decide) (by decide)
  clear hm
  go_wp2_with fail
  refine hput.mono ?_
  rintro e w8 ⟨rfl, hx8⟩
  have hx48 : Ext (w3.alloc (.cells #[.int .i64 0, .int .i64 0, .int .i64 0] 23)) w8 := Ext.trans hx4 (Ext.trans (Ext.trans (ext_n _ (Ext.refl _)) hx5) (Ext.trans hx6 (Ext.trans hx7 hx8)))
  have hb := (hx48.block _ (by simp)).trans (World.alloc_heap_new w3 (.cells #[.int .i64 0, .int .i64 0, .int .i64 0] 23))
  have c0 := cell_at (i := 0) hb rfl
  have c1 := cell_at (i := 1) hb rfl
  have c2 := cell_at (i := 2) hb rfl
  have hxw : Ext w w8 := Ext.trans hx1 (Ext.trans hx2 (Ext.trans hx3 (Ext.trans (ext_n _ (Ext.refl _)) hx48)))
  clear hb hput hn f1 f2 a1 a2 a3 a4 hx1 hx2 hx3 hx4 hx5 hx6 hx7 hx8 hx48
  go_wp2_with (go_at_call 6; refine (l15_num _).mono ?_; rintro e w' ⟨rfl, rfl⟩)
  go_ret
  exact ⟨rfl, hxw⟩
set_option maxRecDepth 100000 in
set_option maxHeartbeats 1000000 in
theorem l15_holds {s c i a : Int} (a0 : 0 ≤ a) : Calls Tryz.prog 3 #[.agg #[.int .i64 s, .int .i64 c, .int .i64 i], .int .u32 a] w fun e w' => e = .returned (.bool true) ∧ Ext w w' := by
  have hat := fun w : World => me_At (w := w) s c i
  have hak := fun w : World => r15_Asks (w := w) s c i
  have hfi := fun w : World => me_Find (w := w) (a := a) a0
  have hrf := fun w : World => r15_Find (w := w) (a := a)
  obtain ⟨W, hW⟩ : ∃ W, w.alloc (.cells #[.int .i64 s, .int .i64 c, .int .i64 i] 23) = W := ⟨_, rfl⟩
  have hxW : Ext w W := hW ▸ ext_n _ (Ext.refl _)
  have hc : ∀ w2, Ext W w2 → w2.cell? ⟨w.heap.size, 0, none⟩ = some (.int .i64 s) ∧ w2.cell? ⟨w.heap.size, 1, none⟩ = some (.int .i64 c) ∧ w2.cell? ⟨w.heap.size, 2, none⟩ = some (.int .i64 i) := fun w2 hx => by
    rw [← hW] at hx
    have hb := (hx.block _ (by simp)).trans (World.alloc_heap_new w (.cells #[.int .i64 s, .int .i64 c, .int .i64 i] 23))
    exact ⟨cell_at (i := 0) hb rfl, cell_at (i := 1) hb rfl, cell_at (i := 2) hb rfl⟩
  have HC := Lib.hid hc
  have HW := Lib.hid hW
  have hlast : ∀ (q : Nat) (W' : World), True := fun _ _ => trivial
  clear hc hW hlast
  by_cases hok : asksI s c i = 0
  · have hOK := asksI_ok.1 hok
    have hra := fun w : World => r15_At (w := w) hOK
    have hfn := fun w : World => me_Find (w := w) (a := atI s c i) (by have := hOK.bound; omega)
    have huq : ∀ x no, FindR (atI s c i) x no → x = #[.int .i64 s, .int .i64 c, .int .i64 i] ∧ no = 0 := fun x no h => FindR.unique h (.inl ⟨s, c, i, hOK, rfl, rfl, rfl⟩)
    have HU := Lib.hid huq
    obtain ⟨A, hA⟩ : ∃ A, atI s c i = A := ⟨_, rfl⟩
    rw [if_pos hok] at hat
    simp only [hok, hA] at hat hak hra hfn
    clear huq hok hOK
    rw [hA] at HU
    clear hA
    go_enter Tryz.func3, Tryz.ntmps3
    go_wp2_with fail
    rw [HW.out]
    obtain ⟨c0, c1, c2⟩ := HC.out _ (Ext.refl W)
    refine (hat _).mono ?_
    rintro e w2 ⟨rfl, hx2⟩
    obtain ⟨c0, c1, c2⟩ := HC.out _ hx2
    go_wp2_with fail
    refine (hak _).mono ?_
    rintro e w3 ⟨rfl, hx3⟩
    obtain ⟨c0, c1, c2⟩ := HC.out _ (Ext.trans hx2 hx3)
    go_wp2_with (first | (go_at_call 6; refine (l15_num _).mono ?_; rintro e w' ⟨rfl, rfl⟩))
    refine (hra _).mono ?_
    rintro e w4 ⟨rfl, hx4⟩
    clear c0 c1 c2
    have hx24 := Ext.trans hx2 (Ext.trans hx3 hx4)
    go_wp2_with fail
    refine (hfn _).mono ?_
    rintro e w4b ⟨x, no, rfl, hf, hx4b⟩
    obtain ⟨rfl, rfl⟩ := HU.out _ _ hf
    clear hf
    have hx4c := Ext.trans hx24 (Ext.trans hx4b (ext_n (.cells #[.int .i64 s, .int .i64 c, .int .i64 i] 23) (Ext.refl w4b)))
    obtain ⟨c0, c1, c2⟩ := HC.out _ hx4c
    go_wp2_with (first | (go_at_call 6; refine (l15_num _).mono ?_; rintro e w' ⟨rfl, rfl⟩))
    refine (hfi _).mono ?_
    rintro e w5 ⟨x, no, rfl, hf, hx5⟩
    obtain ⟨p, q, r', rfl⟩ := hf.form
    have HF := Lib.hid hf
    clear hf
    go_wp2_with fail
    refine (hrf _).mono ?_
    rintro e w6 ⟨x', no', rfl, hf, hx6⟩
    obtain ⟨rfl, rfl⟩ := FindR.unique HF.out hf
    clear hf HF
    have hb := (hx6.block _ (by simp)).trans (World.alloc_heap_new w5 (.cells #[.int .i64 p, .int .i64 q, .int .i64 r'] 23))
    have hb' := (Below.heap_alloc w6 (.cells #[.int .i64 p, .int .i64 q, .int .i64 r'] 23) _ (lt_of_block hb)).trans hb
    have d0 := cell_at (i := 0) hb' rfl
    have d1 := cell_at (i := 1) hb' rfl
    have d2 := cell_at (i := 2) hb' rfl
    have hxl : Ext w (w6.alloc (.cells #[.int .i64 p, .int .i64 q, .int .i64 r'] 23)) := Ext.trans hxW (Ext.trans (hx4c) (Ext.trans hx5 (Ext.trans (ext_n (.cells #[.int .i64 p, .int .i64 q, .int .i64 r'] 23) (Ext.refl w5)) (Ext.trans hx6 (ext_n _ (Ext.refl _))))))
    clear hb hb' hfi hrf
    go_wp2_with (first | (go_at_call 6; refine (l15_num _).mono ?_; rintro e w' ⟨rfl, rfl⟩))
    refine l15_works.mono ?_
    rintro e w7 ⟨rfl, hx7⟩
    go_wp2
    go_ret
    exact ⟨rfl, Ext.trans hxl hx7⟩
  · obtain ⟨r, hr⟩ : ∃ r, asksI s c i = r := ⟨_, rfl⟩
    rw [if_neg hok] at hat
    simp only [hr] at hat hak hok
    have hr0 : (r != 0) = true := by simpa using hok
    have hr1 : (r == 0) = false := by simpa using hok
    clear hr
    go_enter Tryz.func3, Tryz.ntmps3
    go_wp2_with fail
    rw [HW.out]
    obtain ⟨c0, c1, c2⟩ := HC.out _ (Ext.refl W)
    refine (hat _).mono ?_
    rintro e w2 ⟨rfl, hx2⟩
    obtain ⟨c0, c1, c2⟩ := HC.out _ hx2
    go_wp2_with fail
    refine (hak _).mono ?_
    rintro e w3 ⟨rfl, hx3⟩
    clear c0 c1 c2
    go_wp2_with (first | (go_at_call 6; refine (l15_num _).mono ?_; rintro e w' ⟨rfl, rfl⟩))
    refine (hfi _).mono ?_
    rintro e w5 ⟨x, no, rfl, hf, hx5⟩
    obtain ⟨p, q, r', rfl⟩ := hf.form
    have HF := Lib.hid hf
    clear hf
    go_wp2_with fail
    refine (hrf _).mono ?_
    rintro e w6 ⟨x', no', rfl, hf, hx6⟩
    obtain ⟨rfl, rfl⟩ := FindR.unique HF.out hf
    clear hf HF
    have hb := (hx6.block _ (by simp)).trans (World.alloc_heap_new w5 (.cells #[.int .i64 p, .int .i64 q, .int .i64 r'] 23))
    have hb' := (Below.heap_alloc w6 (.cells #[.int .i64 p, .int .i64 q, .int .i64 r'] 23) _ (lt_of_block hb)).trans hb
    have d0 := cell_at (i := 0) hb' rfl
    have d1 := cell_at (i := 1) hb' rfl
    have d2 := cell_at (i := 2) hb' rfl
    have hxl : Ext w (w6.alloc (.cells #[.int .i64 p, .int .i64 q, .int .i64 r'] 23)) := Ext.trans hxW (Ext.trans (Ext.trans hx2 hx3) (Ext.trans hx5 (Ext.trans (ext_n (.cells #[.int .i64 p, .int .i64 q, .int .i64 r'] 23) (Ext.refl w5)) (Ext.trans hx6 (ext_n _ (Ext.refl _))))))
    clear hb hb' hfi hrf
    go_wp2_with (first | (go_at_call 6; refine (l15_num _).mono ?_; rintro e w' ⟨rfl, rfl⟩))
    refine l15_works.mono ?_
    rintro e w7 ⟨rfl, hx7⟩
    go_wp2
    go_ret
    exact ⟨rfl, Ext.trans hxl hx7⟩
end
end Go.Proofs.YtgkfgilhegjbhaaGreat
