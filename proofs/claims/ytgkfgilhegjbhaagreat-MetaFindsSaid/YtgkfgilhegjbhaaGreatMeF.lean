/- package meta: Find; no condition. -/
import Derived.Test.YtgkfgilhegjbhaaGreatMeP
import Derived.Test.YtgkfgilhegjbhaaGreatMeA
namespace Go.Proofs.YtgkfgilhegjbhaaGreat
open Go.RowKit
attribute [local go_sem] run_mf
attribute [local go_sem ↓] Go.wp_at_zero Go.wp_at_succ
section
variable {w : World}
set_option maxRecDepth 100000 in
set_option maxHeartbeats 1000000 in
theorem me_find1 {a : Int} (h : 16777216 ≤ a) : Calls Tryz.prog 8 #[.int .u32 a] w fun e w' => e = .returned (.tuple #[.agg (spotC 0 0 0), .int .i64 250]) ∧ Ext w w' := by
  have hsp := fun w : World => wi_Split' (w := w) h
  unfold spotC
  go_enter Tryz.func8, Tryz.ntmps8
  go_wp2_with fail
  refine (hsp _).mono ?_
  rintro e w2 ⟨rfl, rfl⟩
  go_wp2
  refine bodyPost_ret (v := .tuple #[.agg #[.int .i64 0, .int .i64 0, .int .i64 0], .int .i64 250]) ?_ rfl ⟨rfl, ext_n _ (Ext.refl _)⟩
  simp [results, Tryz.results8, go_sem]
set_option maxRecDepth 100000 in
set_option maxHeartbeats 1000000 in
theorem me_find2 {a : Int} (a0 : 0 ≤ a) (h : a < 16777216) : Calls Tryz.prog 8 #[.int .u32 a] w fun e w' => ∃ x no, e = .returned (.tuple #[.agg x, .int .i64 no]) ∧ FindR a x no ∧ Ext w w' := by
  have hsp := fun w : World => wi_Split (w := w) a0 h
  have hof := fun w : World => wi_Of (w := w) (page := a / 256) (by omega) (by omega)
  obtain ⟨W, hW⟩ : ∃ W, w.alloc (.cells #[.int .i64 0, .int .i64 0, .int .i64 0] 23) = W := ⟨_, rfl⟩
  have hxW : Ext w W := hW ▸ ext_n _ (Ext.refl _)
  have hrb : W.heap[w.heap.size]? = some (.cells #[.int .i64 0, .int .i64 0, .int .i64 0] 23 (0, 0)) := hW ▸ World.alloc_heap_new _ _
  have HW := Lib.hid hW
  have HRB := Lib.hid hrb
  clear hW hrb
  go_enter Tryz.func8, Tryz.ntmps8
  go_wp2_with fail
  rw [HW.out]
  refine (hsp _).mono ?_
  rintro e w2 ⟨rfl, rfl⟩
  go_wp2_with fail
  refine (hof _).mono ?_
  rintro e w3 ⟨x, rfl, hx, hx3⟩
  obtain ⟨k, s, c, p0, rfl, hcase⟩ := of_find hx
  have HC := Lib.hid hcase
  clear hx hcase hsp hof
  unfold sC
  have hr3 := (hx3.block _ (lt_of_block HRB.out)).trans HRB.out
  have hlr := lt_of_block hr3
  have f0 := frz (i := 0) hr3
  have f1 := frz (i := 1) hr3
  have f2 := frz (i := 2) hr3
  have b0 := cell_at (i := 0) hr3 rfl
  have b1 := cell_at (i := 1) hr3 rfl
  have b2 := cell_at (i := 2) hr3 rfl
  have HR3 := Lib.hid hr3
  clear hr3
  by_cases hk : k = 2
  · obtain ⟨_, s0, s4, c0, c8, ⟨q, hq, q0, q1⟩, huniq⟩ : _ ∧ _ := (HC.out.resolve_left (fun h => h.1 hk))
    subst hk
    clear HC
    have hok := ok0 s0 s4 c0 c8
    have hat := fun w : World => me_At (w := w) s c 0
    rw [if_pos (asksI_ok.2 hok), asksI_ok.2 hok] at hat
    have hslo := fun w : World => sz_Slot (w := w) c
    rw [if_pos (inB_iff.2 ⟨c0, c8⟩), if_pos (inB_iff.2 ⟨c0, c8⟩)] at hslo
    have hbd := hok.bound
    have hps := sloI_pos c
    have HU := Lib.hid (And.intro huniq hq)
    clear hq
    obtain ⟨f, hf⟩ : ∃ f, atI s c 0 = f := ⟨_, rfl⟩
    obtain ⟨p, hp⟩ : ∃ p, sloI c = p := ⟨_, rfl⟩
    simp only [hf, hp] at hat hslo hbd hps
    have HF := Lib.hid (And.intro hf hp)
    clear hf hp huniq
    go_wp2_with fail
    refine (hat _).mono ?_
    rintro e w4 ⟨rfl, hx4⟩
    have hlr4 := hx4.size
    simp only [World.size_alloc] at hlr4
    have hp4 : w4.heap[w3.heap.size + 1]? = some (.cells #[.int .i64 s, .int .i64 c, .int .i64 0] 23 (0, 0)) := by
      refine (hx4.block _ (by simp)).trans ?_
      have := World.alloc_heap_new (w3.alloc (.cells #[.int .i64 2, .int .i64 s, .int .i64 c, .int .i64 p0] 56)) (.cells #[.int .i64 s, .int .i64 c, .int .i64 0] 23)
      rwa [World.size_alloc] at this
    have hx34 : Ext w3 w4 := Ext.trans (ext_n _ (ext_n _ (Ext.refl _))) hx4
    have d1 := cell_at (i := 1) hp4 rfl
    have HP4 := Lib.hid hp4
    clear hp4 f0 f1 f2 b0 b1 b2 hat
    go_wp2_with fail
    refine (hslo _).mono ?_
    rintro e w5 ⟨rfl, hx5⟩
    have hp5 := (hx5.block _ (lt_of_block HP4.out)).trans HP4.out
    have e0 := cell_at (i := 0) hp5 rfl
    have e1 := cell_at (i := 1) hp5 rfl
    have e2 := cell_at (i := 2) hp5 rfl
    have f2 := frz (i := 2) hp5
    have HP5 := Lib.hid hp5
    clear hp5 hslo d1
    obtain ⟨qq, hqq⟩ : ∃ qq, (a - f).tdiv p = qq := ⟨_, rfl⟩
    have hqb : -16777216 ≤ qq ∧ qq ≤ 16777216 := by
      rw [← hqq]
      have := Int.natAbs_tdiv_le_natAbs (a - f) p
      omega
    have hwq : IntKind.i64.wrap qq = qq := IntWalk.i64_in _ (by omega)
    have hat := fun w : World => me_At (w := w) s c qq
    obtain ⟨r, hr⟩ : ∃ r, asksI s c qq = r := ⟨_, rfl⟩
    obtain ⟨y, hy⟩ : ∃ y, (if r = 0 then atI s c qq else 0) = y := ⟨_, rfl⟩
    simp only [hr, hy] at hat
    have hp0 : p ≠ 0 := by omega
    have HRY := Lib.hid (And.intro hr (And.intro hy hqq))
    clear hr hy
    have hs5 : Ext w3 (w5.setCell ⟨w3.heap.size + 1, 2, none⟩ (.int .i64 qq)) := ext_set _ (Ext.trans hx34 hx5) (by simp)
    have hp6 := heap_setc (i := 2) (u := .int .i64 qq) HP5.out
    have HP6 := Lib.hid (And.intro hp6 hs5)
    clear hp6 hs5
    go_wp2_with fail
    refine (hat _).mono ?_
    rintro e w6 ⟨rfl, hx6⟩
    have hx36 := Ext.trans HP6.out.2 hx6
    have hr6 := (hx36.block _ hlr).trans HR3.out
    have hp6 : w6.heap[w3.heap.size + 1]? = some (.cells #[.int .i64 s, .int .i64 c, .int .i64 qq] 23 (0, 0)) := (hx6.block _ (lt_of_block HP6.out.1)).trans HP6.out.1
    have f0 := frz (i := 0) hr6
    have f1 := frz (i := 1) hr6
    have f3 := frz (i := 2) hr6
    have b0 := cell_at (i := 0) hr6 rfl
    have b1 := cell_at (i := 1) hr6 rfl
    have b2 := cell_at (i := 2) hr6 rfl
    have g0 := cell_at (i := 0) hp6 rfl
    have g1 := cell_at (i := 1) hp6 rfl
    have g2 := cell_at (i := 2) hp6 rfl
    have hlr6 := lt_of_block hr6
    have HX := Lib.hid (And.intro hr6 hp6)
    clear hr6 hp6 hat e0 e1 e2 f2 hlr4 hwq hqb hp0 hqq hps hbd
    have hsets : ∀ u0 u1 u2, Ext w (((w6.setCell ⟨w.heap.size, 0, none⟩ u0).setCell ⟨w.heap.size, 1, none⟩ u1).setCell ⟨w.heap.size, 2, none⟩ u2) := fun u0 u1 u2 => ext_set _ (ext_set _ (ext_set _ (Ext.trans (Ext.trans hxW hx3) hx36) (by simp)) (by simp)) (by simp)
    have hh : ∀ u0 u1 u2, (((w6.setCell ⟨w.heap.size, 0, none⟩ u0).setCell ⟨w.heap.size, 1, none⟩ u1).setCell ⟨w.heap.size, 2, none⟩ u2).heap[w.heap.size]? = some (.cells #[u0, u1, u2] 23 (0, 0)) := fun u0 u1 u2 => heap_setc (i := 2) (heap_setc (i := 1) (heap_setc (i := 0) HX.out.1))
    have HS := Lib.hid hsets
    have HH := Lib.hid hh
    clear hsets hh
    have no : (r ≠ 0 ∨ y ≠ a) → ∀ s c i, OkS s c i → atI s c i ≠ a := by
      intro hn s' c' i' h1 h2
      obtain ⟨rfl, rfl⟩ := HU.out.1 s' c' i' h1 h2
      obtain ⟨k1, k2, k3⟩ := HRY.out
      have := find_idx (q := qq) h2 (by rw [HF.out.1, HF.out.2]; exact k3.symm)
      subst this
      rw [asksI_ok.2 h1] at k1
      rw [← k1, if_pos rfl, h2] at k2
      rcases hn with hn | hn
      · exact hn k1.symm
      · exact hn k2.symm
    have NO := Lib.hid no
    clear no
    by_cases hr0 : r = 0
    · by_cases hya : y = a
      · have hok' : OkS s c qq ∧ atI s c qq = a := by
          obtain ⟨k1, k2, _⟩ := HRY.out
          rw [hr0] at k1 k2
          rw [if_pos rfl] at k2
          exact ⟨asksI_ok.1 k1, k2.trans hya⟩
        have HOK := Lib.hid hok'
        subst hr0
        subst hya
        clear hok'
        go_wp2
        have z := HH.out (.int .i64 s) (.int .i64 c) (.int .i64 qq)
        have z0 := cell_at (i := 0) z rfl
        have z1 := cell_at (i := 1) z rfl
        have z2 := cell_at (i := 2) z rfl
        refine bodyPost_ret (v := .tuple #[.agg (spotC s c qq), .int .i64 0]) ?_ rfl ⟨_, _, rfl, .inl ⟨s, c, qq, HOK.out.1, HOK.out.2, rfl, rfl⟩, HS.out _ _ _⟩
        clear z f0 f1 f3 b0 b1 b2 g0 g1 g2
        unfold spotC
        simp [results, Tryz.results8, go_sem, z0, z1, z2]
      · have hya' : (y != a) = true := by simpa using hya
        subst hr0
        have HNO := Lib.hid (NO.out (.inr hya))
        clear NO
        go_wp2
        have z := HH.out (.int .i64 0) (.int .i64 0) (.int .i64 0)
        have z0 := cell_at (i := 0) z rfl
        have z1 := cell_at (i := 1) z rfl
        have z2 := cell_at (i := 2) z rfl
        refine bodyPost_ret (v := .tuple #[.agg (spotC 0 0 0), .int .i64 250]) ?_ rfl ⟨_, _, rfl, .inr ⟨HNO.out, rfl, rfl⟩, HS.out _ _ _⟩
        clear z f0 f1 f3 b0 b1 b2 g0 g1 g2
        unfold spotC
        simp [results, Tryz.results8, go_sem, z0, z1, z2]
    · have hr0' : (r != 0) = true := by simpa using hr0
      have HNO := Lib.hid (NO.out (.inl hr0))
      clear NO
      go_wp2
      have z := HH.out (.int .i64 0) (.int .i64 0) (.int .i64 0)
      have z0 := cell_at (i := 0) z rfl
      have z1 := cell_at (i := 1) z rfl
      have z2 := cell_at (i := 2) z rfl
      refine bodyPost_ret (v := .tuple #[.agg (spotC 0 0 0), .int .i64 250]) ?_ rfl ⟨_, _, rfl, .inr ⟨HNO.out, rfl, rfl⟩, HS.out _ _ _⟩
      clear z f0 f1 f3 b0 b1 b2 g0 g1 g2
      unfold spotC
      simp [results, Tryz.results8, go_sem, z0, z1, z2]
  · have hk' : (k != 2) = true := by simpa using hk
    have hno := (HC.out.resolve_right (fun h => hk h.1)).2
    have HN := Lib.hid hno
    clear hno HC
    go_wp2
    refine bodyPost_ret (v := .tuple #[.agg #[.int .i64 0, .int .i64 0, .int .i64 0], .int .i64 250]) ?_ rfl ⟨_, _, rfl, .inr ⟨HN.out, rfl, rfl⟩, ?_⟩
    · clear f0 f1 f2
      simp [results, Tryz.results8, go_sem, *]
    · exact ext_n _ (ext_set _ (ext_set _ (ext_set _ (Ext.trans hxW hx3) (by simp)) (by simp)) (by simp))
theorem me_Find {a : Int} (a0 : 0 ≤ a) : Calls Tryz.prog 8 #[.int .u32 a] w fun e w' => ∃ x no, e = .returned (.tuple #[.agg x, .int .i64 no]) ∧ FindR a x no ∧ Ext w w' := by
  by_cases h : a < 16777216
  · exact me_find2 a0 h
  · refine (me_find1 (by omega)).mono ?_
    rintro e w' ⟨rfl, hx⟩
    exact ⟨_, _, rfl, .inr ⟨find_far (by omega), rfl, rfl⟩, hx⟩
end
end Go.Proofs.YtgkfgilhegjbhaaGreat
