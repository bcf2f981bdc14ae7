/- the reference of meta: Find; no condition. -/
import Derived.Test.YtgkfgilhegjbhaaGreatR15a
import Derived.Test.YtgkfgilhegjbhaaGreatFra
namespace Go.Proofs.YtgkfgilhegjbhaaGreat
open Go.RowKit
attribute [local go_sem] run_mf
attribute [local go_sem ↓] Go.wp_at_zero Go.wp_at_succ
set_option maxRecDepth 100000 in
theorem fr_lit32 {L : List (Nat × Value)} {a : Act} (h : Fr 32 L a) : ∃ g : Nat → Value, a = ⟨List.toArray (g 0 :: g 1 :: g 2 :: g 3 :: g 4 :: g 5 :: g 6 :: g 7 :: g 8 :: g 9 :: g 10 :: g 11 :: g 12 :: g 13 :: g 14 :: g 15 :: g 16 :: g 17 :: g 18 :: g 19 :: g 20 :: g 21 :: g 22 :: g 23 :: g 24 :: g 25 :: g 26 :: g 27 :: g 28 :: g 29 :: g 30 :: g 31 :: []), []⟩ ∧ FrG L g := by
  obtain ⟨g, h1, h2⟩ := h.lit
  exact ⟨g, h1.trans (by kernel_rfl), h2⟩
section
variable {w : World} {R : Exit → Act → World → Prop} {act : Act} {rb : Nat} {a s c : Int}
abbrev rfG (a : Int) (rb : Nat) : List (Nat × Value) := [(0, .int .u32 a), (2, .pointer (some ⟨rb, 0, none⟩))]
set_option maxRecDepth 100000 in
set_option maxHeartbeats 1000000 in
theorem r15_l4 (s0 : 0 ≤ s) (s4 : s < 4) (c0 : 0 ≤ c) (c8 : c < 8) (hf : Fr 32 ((6, .int .i64 0) :: (4, .int .i64 s) :: (5, .int .i64 c) :: rfG a rb) act) (hb : w.heap[rb]? = some (.cells (spotC 0 0 0) 23 (0, 0)))
    (hR : ∀ a' w', Fr 32 ((4, .int .i64 s) :: (5, .int .i64 c) :: rfG a rb) a' → Ext w w' → (∀ i, OkS s c i → atI s c i ≠ a) → R .normal a' w')
    (hT : ∀ a' w' i, Fr 32 [(2, .pointer (some ⟨rb, 0, none⟩)), (3, .int .i64 0)] a' → Upd [rb] w w' → OkS s c i → atI s c i = a → w'.heap[rb]? = some (.cells (spotC s c i) 23 (0, 0)) → R .ret a' w') :
    (Code.loop (lblk Tryz.f9 4)).wp Tryz.prog (Exit.inBlock 4 R) act w := by
  refine wp_loop (fun a' w' => ∃ i : Nat, (i : Int) ≤ cntI c ∧ (∀ j : Int, OkS s c j → j < i → atI s c j ≠ a) ∧ Fr 32 ((6, .int .i64 i) :: (4, .int .i64 s) :: (5, .int .i64 c) :: rfG a rb) a' ∧ Ext w w')
    (fun a' _ => (cntI c).toNat - (intOf (a'.tmps.getD 6 undef)).toNat) ⟨0, by have := (ok0 s0 s4 c0 c8).iN; omega, fun j hj h => by have := hj.i0; omega, hf, Ext.refl _⟩ ?_
  rintro a' w' ⟨i, hi, hn, hf', hx⟩
  have hb' := (hx.block _ (lt_of_block hb)).trans hb
  have hcnt := fun w : World => r03_count (w := w) c0 c8
  obtain ⟨g, rfl, hgg⟩ := fr_lit32 hf'
  obtain ⟨hg6, hg4, hg5, hg0, hg2, -⟩ := hgg
  rw [hg6, hg4, hg5, hg0, hg2]
  clear hg6 hg4 hg5 hg0 hg2
  conv => arg 2; whnf
  clear hf hf' hb
  by_cases hlt : (i : Int) < cntI c
  · have hok : OkS s c i := ⟨s0, s4, c0, c8, by omega, hlt⟩
    have hat := fun w : World => r15_At (w := w) hok
    have hbd := hok.bound
    obtain ⟨A, hA⟩ : ∃ A, atI s c i = A := ⟨_, rfl⟩
    have hcb : cntI c < 100000 := by
      unfold cntI
      rcases eight c0 c8 with rfl | rfl | rfl | rfl | rfl | rfl | rfl | rfl <;> simp [sloI, payI]
    obtain ⟨n, hnn⟩ : ∃ n, cntI c = n := ⟨_, rfl⟩
    simp only [hA] at hat hbd
    simp only [hnn] at hcnt hlt hcb
    have HH := Lib.hid (And.intro hb' (And.intro hn (And.intro hR (And.intro hT (And.intro hok (And.intro hA hnn))))))
    clear hb' hn hR hT hA hnn
    go_wp2_with fail
    refine (hcnt _).mono ?_
    rintro e w2 ⟨rfl, rfl⟩
    go_wp2_with fail
    refine (hat _).mono ?_
    rintro e w3 ⟨rfl, hx3⟩
    have hx13 : Ext w' w3 := Ext.trans (ext_n _ (Ext.refl _)) hx3
    have hp3 : w3.heap[w'.heap.size]? = some (.cells #[.int .i64 s, .int .i64 c, .int .i64 i] 23 (0, 0)) := (hx3.block _ (by simp)).trans (World.alloc_heap_new _ _)
    have hr3 := (hx13.block _ (lt_of_block HH.out.1)).trans HH.out.1
    unfold spotC at hr3
    have p0 := cell_at (i := 0) hp3 rfl
    have p1 := cell_at (i := 1) hp3 rfl
    have p2 := cell_at (i := 2) hp3 rfl
    have b0 := cell_at (i := 0) hr3 rfl
    have b1 := cell_at (i := 1) hr3 rfl
    have b2 := cell_at (i := 2) hr3 rfl
    have f0 := frz (i := 0) hr3
    have f1 := frz (i := 1) hr3
    have f2 := frz (i := 2) hr3
    have HR3 := Lib.hid hr3
    clear hp3 hr3 hat hcnt
    by_cases haa : A = a
    · subst haa
      go_wp2
      exact HH.out.2.2.2.1 _ _ i (fr_mk rfl ⟨rfl, rfl, trivial⟩) (upd_setc _ (upd_setc _ (upd_setc _ (Upd.of_ext (Ext.trans hx hx13)) (by simp)) (by simp)) (by simp)) hok HH.out.2.2.2.2.2.1 (heap_setc (i := 2) (heap_setc (i := 1) (heap_setc (i := 0) HR3.out)))
    · have hb0 : (A == a) = false := by simpa using haa
      go_wp2
      have hnn := HH.out.2.2.2.2.2.2
      refine ⟨⟨i + 1, by omega, fun j hj hlt' => ?_, fr_mk rfl ⟨by go_num, rfl, rfl, rfl, rfl, trivial⟩, Ext.trans hx hx13⟩, by simp [intOf]; omega⟩
      rcases (show j < i ∨ j = i by omega) with h | rfl
      · exact HH.out.2.1 j hj h
      · rw [HH.out.2.2.2.2.2.1]
        exact haa
  · have hin : (i : Int) = cntI c := by omega
    have hall : ∀ j, OkS s c j → atI s c j ≠ a := fun j hj => hn j hj (by have := hj.iN; omega)
    have hge : ¬ (i : Int) < cntI c := hlt
    have hcb : cntI c < 100000 := by
      unfold cntI
      rcases eight c0 c8 with rfl | rfl | rfl | rfl | rfl | rfl | rfl | rfl <;> simp [sloI, payI]
    obtain ⟨n, hnn⟩ : ∃ n, cntI c = n := ⟨_, rfl⟩
    simp only [hnn] at hcnt hge hcb hin
    have HH := Lib.hid (And.intro hR (And.intro hall hnn))
    clear hR hT hn hall hb' hi hlt hnn
    go_wp2_with fail
    refine (hcnt _).mono ?_
    rintro e w2 ⟨rfl, rfl⟩
    go_wp2
    exact HH.out.1 _ _ (fr_mk rfl ⟨rfl, rfl, rfl, rfl, trivial⟩) hx HH.out.2.1
set_option maxRecDepth 100000 in
set_option maxHeartbeats 1000000 in
theorem r15_l2 (s0 : 0 ≤ s) (s4 : s < 4) (hf : Fr 32 ((5, .int .i64 0) :: (4, .int .i64 s) :: rfG a rb) act) (hb : w.heap[rb]? = some (.cells (spotC 0 0 0) 23 (0, 0)))
    (hR : ∀ a' w', Fr 32 ((4, .int .i64 s) :: rfG a rb) a' → Ext w w' → (∀ c i, OkS s c i → atI s c i ≠ a) → R .normal a' w')
    (hT : ∀ a' w' c i, Fr 32 [(2, .pointer (some ⟨rb, 0, none⟩)), (3, .int .i64 0)] a' → Upd [rb] w w' → OkS s c i → atI s c i = a → w'.heap[rb]? = some (.cells (spotC s c i) 23 (0, 0)) → R .ret a' w') :
    (Code.loop (lblk Tryz.f9 2)).wp Tryz.prog (Exit.inBlock 2 R) act w := by
  refine wp_loop (fun a' w' => ∃ c : Nat, c ≤ 8 ∧ (∀ j i : Int, OkS s j i → j < c → atI s j i ≠ a) ∧ Fr 32 ((5, .int .i64 c) :: (4, .int .i64 s) :: rfG a rb) a' ∧ Ext w w')
    (fun a' _ => 8 - (intOf (a'.tmps.getD 5 undef)).toNat) ⟨0, by omega, fun j i hj h => by have := hj.c0; omega, hf, Ext.refl _⟩ ?_
  rintro a' w' ⟨c, hi, hn, hf', hx⟩
  have hb' := (hx.block _ (lt_of_block hb)).trans hb
  obtain ⟨g, rfl, hgg⟩ := fr_lit32 hf'
  obtain ⟨hg5, hg4, hg0, hg2, -⟩ := hgg
  rw [hg5, hg4, hg0, hg2]
  clear hg5 hg4 hg0 hg2
  conv => arg 2; whnf
  clear hf hf' hb
  have HH := Lib.hid (And.intro hb' (And.intro hn (And.intro hR hT)))
  clear hb' hn hR hT
  by_cases hlt : c < 8
  · go_wp2
    refine r15_l4 (rb := rb) (a := a) (s := s) (c := c) s0 s4 (by omega) (by omega) (fr_mk rfl ⟨rfl, rfl, rfl, rfl, rfl, trivial⟩) HH.out.1 ?_ ?_
    · intro a' w2 hf2 hx2 hno
      have HN := Lib.hid hno
      clear hno
      obtain ⟨g, rfl, hgg⟩ := fr_lit32 hf2
      obtain ⟨hg4, hg5, hg0, hg2, -⟩ := hgg
      rw [hg4, hg5, hg0, hg2]
      clear hg4 hg5 hg0 hg2
      clear hf2
      go_wp2
      refine ⟨⟨c + 1, by omega, fun j i hj hlt' => ?_, fr_mk rfl ⟨by go_num, rfl, rfl, rfl, trivial⟩, Ext.trans hx hx2⟩, by simp [intOf]; omega⟩
      rcases (show j < c ∨ j = c by omega) with h | rfl
      · exact HH.out.2.1 j i hj h
      · exact HN.out i hj
    · intro a' w2 i hf2 hu hok hat hr
      exact HH.out.2.2.2 _ _ c i hf2 (Upd.trans (Upd.of_ext hx) hu) hok hat hr
  · go_wp2
    exact HH.out.2.2.1 _ _ (fr_mk rfl ⟨rfl, rfl, rfl, trivial⟩) hx (fun j i hj => HH.out.2.1 j i hj (by have := hj.c8; omega))
set_option maxRecDepth 100000 in
set_option maxHeartbeats 1000000 in
theorem r15_l0 (hf : Fr 32 ((4, .int .i64 0) :: rfG a rb) act) (hb : w.heap[rb]? = some (.cells (spotC 0 0 0) 23 (0, 0)))
    (hR : ∀ a' w', Fr 32 (rfG a rb) a' → Ext w w' → (∀ s c i, OkS s c i → atI s c i ≠ a) → R .normal a' w')
    (hT : ∀ a' w' s c i, Fr 32 [(2, .pointer (some ⟨rb, 0, none⟩)), (3, .int .i64 0)] a' → Upd [rb] w w' → OkS s c i → atI s c i = a → w'.heap[rb]? = some (.cells (spotC s c i) 23 (0, 0)) → R .ret a' w') :
    (Code.loop (lblk Tryz.f9 0)).wp Tryz.prog (Exit.inBlock 0 R) act w := by
  refine wp_loop (fun a' w' => ∃ s : Nat, s ≤ 4 ∧ (∀ t j i : Int, OkS t j i → t < s → atI t j i ≠ a) ∧ Fr 32 ((4, .int .i64 s) :: rfG a rb) a' ∧ Ext w w')
    (fun a' _ => 4 - (intOf (a'.tmps.getD 4 undef)).toNat) ⟨0, by omega, fun t j i hj h => by have := hj.s0; omega, hf, Ext.refl _⟩ ?_
  rintro a' w' ⟨s, hi, hn, hf', hx⟩
  have hb' := (hx.block _ (lt_of_block hb)).trans hb
  obtain ⟨g, rfl, hgg⟩ := fr_lit32 hf'
  obtain ⟨hg4, hg0, hg2, -⟩ := hgg
  rw [hg4, hg0, hg2]
  clear hg4 hg0 hg2
  conv => arg 2; whnf
  clear hf hf' hb
  have HH := Lib.hid (And.intro hb' (And.intro hn (And.intro hR hT)))
  clear hb' hn hR hT
  by_cases hlt : s < 4
  · go_wp2
    refine r15_l2 (rb := rb) (a := a) (s := s) (by omega) (by omega) (fr_mk rfl ⟨rfl, rfl, rfl, rfl, trivial⟩) HH.out.1 ?_ ?_
    · intro a' w2 hf2 hx2 hno
      have HN := Lib.hid hno
      clear hno
      obtain ⟨g, rfl, hgg⟩ := fr_lit32 hf2
      obtain ⟨hg4, hg0, hg2, -⟩ := hgg
      rw [hg4, hg0, hg2]
      clear hg4 hg0 hg2
      clear hf2
      go_wp2
      refine ⟨⟨s + 1, by omega, fun t j i hj hlt' => ?_, fr_mk rfl ⟨by go_num, rfl, rfl, trivial⟩, Ext.trans hx hx2⟩, by simp [intOf]; omega⟩
      rcases (show t < s ∨ t = s by omega) with h | rfl
      · exact HH.out.2.1 t j i hj h
      · exact HN.out j i hj
    · intro a' w2 c i hf2 hu hok hat hr
      exact HH.out.2.2.2 _ _ s c i hf2 (Upd.trans (Upd.of_ext hx) hu) hok hat hr
  · go_wp2
    exact HH.out.2.2.1 _ _ (fr_mk rfl ⟨rfl, rfl, trivial⟩) hx (fun t j i hj => HH.out.2.1 t j i hj (by have := hj.s4; omega))
set_option maxRecDepth 100000 in
set_option maxHeartbeats 1000000 in
theorem r15_Find : Calls Tryz.prog 9 #[.int .u32 a] w fun e w' => ∃ x no, e = .returned (.tuple #[.agg x, .int .i64 no]) ∧ FindR a x no ∧ Ext w w' := by
  obtain ⟨W, hW⟩ : ∃ W, w.alloc (.cells #[.int .i64 0, .int .i64 0, .int .i64 0] 23) = W := ⟨_, rfl⟩
  have hxW : Ext w W := hW ▸ ext_n _ (Ext.refl _)
  have hrb : W.heap[w.heap.size]? = some (.cells (spotC 0 0 0) 23 (0, 0)) := hW ▸ World.alloc_heap_new _ _
  have HW := Lib.hid hW
  have HRB := Lib.hid hrb
  clear hW hrb
  go_enter Tryz.func9, Tryz.ntmps9
  go_wp2
  rw [HW.out]
  refine r15_l0 (rb := w.heap.size) (a := a) (fr_mk rfl ⟨rfl, rfl, rfl, trivial⟩) HRB.out ?_ ?_
  · intro a' w2 hf2 hx2 hno
    have HN := Lib.hid hno
    have hr2 := (hx2.block _ (lt_of_block HRB.out)).trans HRB.out
    unfold spotC at hr2
    have f0 := frz (i := 0) hr2
    have f1 := frz (i := 1) hr2
    have f2 := frz (i := 2) hr2
    have b0 := cell_at (i := 0) hr2 rfl
    have b1 := cell_at (i := 1) hr2 rfl
    have b2 := cell_at (i := 2) hr2 rfl
    have z := heap_setc (i := 2) (u := .int .i64 0) (heap_setc (i := 1) (u := .int .i64 0) (heap_setc (i := 0) (u := .int .i64 0) hr2))
    have z0 := cell_at (i := 0) z rfl
    have z1 := cell_at (i := 1) z rfl
    have z2 := cell_at (i := 2) z rfl
    clear hno hr2 z
    obtain ⟨g, rfl, hgg⟩ := fr_lit32 hf2
    obtain ⟨hg0, hg2, -⟩ := hgg
    rw [hg0, hg2]
    clear hg0 hg2
    clear hf2
    go_wp2
    refine bodyPost_ret (v := .tuple #[.agg (spotC 0 0 0), .int .i64 250]) ?_ rfl ⟨_, _, rfl, .inr ⟨HN.out, rfl, rfl⟩, ext_set _ (ext_set _ (ext_set _ (Ext.trans hxW hx2) (by simp)) (by simp)) (by simp)⟩
    clear f0 f1 f2 b0 b1 b2
    unfold spotC
    simp [results, Tryz.results9, go_sem, z0, z1, z2]
  · intro a' w2 s c i hf2 hu hok hat hr
    unfold spotC at hr
    have z0 := cell_at (i := 0) hr rfl
    have z1 := cell_at (i := 1) hr rfl
    have z2 := cell_at (i := 2) hr rfl
    obtain ⟨g, rfl, hgg⟩ := fr_lit32 hf2
    obtain ⟨hg2, hg3, -⟩ := hgg
    rw [hg2, hg3]
    clear hg2 hg3
    go_wp2
    refine bodyPost_ret (v := .tuple #[.agg (spotC s c i), .int .i64 0]) ?_ rfl ⟨_, _, rfl, .inl ⟨s, c, i, hok, hat, rfl, rfl⟩, (Upd.trans (Upd.of_ext hxW) hu).new (by simp)⟩
    clear hf2 hr
    unfold spotC
    simp [results, Tryz.results9, go_sem, z0, z1, z2]
end
end Go.Proofs.YtgkfgilhegjbhaaGreat
