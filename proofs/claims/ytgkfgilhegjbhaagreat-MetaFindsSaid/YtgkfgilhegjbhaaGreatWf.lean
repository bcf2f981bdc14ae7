/- package window: the kinds; the first of them that says yes; no condition. -/
import Derived.Test.YtgkfgilhegjbhaaGreatWo
import Derived.Test.YtgkfgilhegjbhaaGreatFra
namespace Go.Proofs.YtgkfgilhegjbhaaGreat
open Go.RowKit
attribute [local go_sem] run_mf
attribute [local go_sem ↓] Go.wp_at_zero Go.wp_at_succ
set_option maxRecDepth 100000 in
theorem fr_lit25 {L : List (Nat × Value)} {a : Act} (h : Fr 25 L a) : ∃ g : Nat → Value, a = ⟨List.toArray (g 0 :: g 1 :: g 2 :: g 3 :: g 4 :: g 5 :: g 6 :: g 7 :: g 8 :: g 9 :: g 10 :: g 11 :: g 12 :: g 13 :: g 14 :: g 15 :: g 16 :: g 17 :: g 18 :: g 19 :: g 20 :: g 21 :: g 22 :: g 23 :: g 24 :: []), []⟩ ∧ FrG L g := by
  obtain ⟨g, h1, h2⟩ := h.lit
  exact ⟨g, h1.trans (by kernel_rfl), h2⟩
def kV (k : Int) : Value := .agg #[.int .i64 k, .func (.func (kF k)) #[] #[]]
def kS : Array Value := #[.int .i64 1, .func (.func 55) #[] #[], .int .i64 2, .func (.func 57) #[] #[], .int .i64 3, .func (.func 58) #[] #[], .int .i64 4, .func (.func 59) #[] #[]]
/-- the first kind of which b tells -/
def firstK (b : Int → Bool) : Int := if b 1 then 1 else if b 2 then 2 else if b 3 then 3 else if b 4 then 4 else 0
section
variable {w : World}
set_option maxRecDepth 100000 in
set_option maxHeartbeats 1000000 in
theorem wi_kinds : Calls Tryz.prog 40 #[] w fun e w' => ∃ lb, e = .returned (.slice (some ⟨lb, 0, none⟩) 4 4) ∧ Ext w w' ∧ w'.heap[lb]? = some (.cells kS 83 (0, 0)) ∧ w.heap.size ≤ lb := by
  go_enter Tryz.func40, Tryz.ntmps40
  go_wp2
  go_ret
  exact ⟨w.heap.size, rfl, ext_n _ (Ext.refl _), World.alloc_heap_new _ _, Nat.le_refl _⟩
variable {R : Exit → Act → World → Prop} {a : Act} {lb rb pb gb : Nat} {c p : Int → Int} {b : Int → Bool} {s : Int}
abbrev ofV (pb gb : Nat) : Value := .func (.func 41) #[] #[.pointer (some ⟨pb, 0, none⟩), .pointer (some ⟨gb, 0, none⟩)]
abbrev ffG (lb rb pb gb : Nat) : List (Nat × Value) := [(1, ofV pb gb), (4, .pointer (some ⟨rb, 0, none⟩)), (9, .slice (some ⟨lb, 0, none⟩) 4 4), (10, .int .i64 4)]
theorem firstK_at {b : Int → Bool} {i : Nat} (hi : i < 4) (hn : ∀ j : Nat, j < i → b (j + 1) = false) (h : b (i + 1) = true) : firstK b = i + 1 := by
  have h0 := hn 0
  have h1 := hn 1
  have h2 := hn 2
  rcases (show i = 0 ∨ i = 1 ∨ i = 2 ∨ i = 3 by omega) with rfl | rfl | rfl | rfl <;> simp at h0 h1 h2 h <;> simp [firstK, h0, h1, h2, h]
theorem firstK_none {b : Int → Bool} (hn : ∀ j : Nat, j < 4 → b (j + 1) = false) : firstK b = 0 := by
  have h0 := hn 0 (by omega)
  have h1 := hn 1 (by omega)
  have h2 := hn 2 (by omega)
  have h3 := hn 3 (by omega)
  simp at h0 h1 h2 h3
  simp [firstK, h0, h1, h2, h3]
def sC (k s c p : Int) : Array Value := #[.int .i64 k, .int .i64 s, .int .i64 c, .int .i64 p]
set_option maxRecDepth 100000 in
set_option maxHeartbeats 1000000 in
theorem wi_floop {k0 s0 c0 p0 : Int} (hof : ∀ k, (k = 1 ∨ k = 2 ∨ k = 3 ∨ k = 4) → ∀ w2, Upd [rb] w w2 → Calls Tryz.prog 41 #[kV k, .pointer (some ⟨pb, 0, none⟩), .pointer (some ⟨gb, 0, none⟩)] w2 fun e w' => e = .returned (.tuple #[siteV k s (c k) (p k), .bool (b k)]) ∧ Ext w2 w')
    (hl : w.heap[lb]? = some (.cells kS 83 (0, 0))) (hb : w.heap[rb]? = some (.cells (sC k0 s0 c0 p0) 56 (0, 0))) (hne : lb ≠ rb) (hf : Fr 25 ((11, .int .i64 0) :: ffG lb rb pb gb) a)
    (hR : ∀ a' w' k1 s1 c1 p1, Fr 25 (ffG lb rb pb gb) a' → Upd [rb] w w' → w'.heap[rb]? = some (.cells (sC k1 s1 c1 p1) 56 (0, 0)) → firstK b = 0 → R .normal a' w')
    (hT : ∀ a' w', Fr 25 [(4, .pointer (some ⟨rb, 0, none⟩)), (5, .bool true)] a' → Upd [rb] w w' → firstK b ≠ 0 → w'.heap[rb]? = some (.cells (sC (firstK b) s (c (firstK b)) (p (firstK b))) 56 (0, 0)) → R .ret a' w') :
    (Code.loop (lblk Tryz.f39 0)).wp Tryz.prog (Exit.inBlock 0 R) a w := by
  refine wp_loop (fun a' w' => ∃ i : Nat, i ≤ 4 ∧ (∀ j : Nat, j < i → b (j + 1) = false) ∧ Fr 25 ((11, .int .i64 i) :: ffG lb rb pb gb) a' ∧ Upd [rb] w w' ∧ ∃ k1 s1 c1 p1, w'.heap[rb]? = some (.cells (sC k1 s1 c1 p1) 56 (0, 0)))
    (fun a' _ => 4 - (intOf (a'.tmps.getD 11 undef)).toNat) ⟨0, Nat.zero_le _, fun _ h => by omega, hf, Upd.refl _ _, k0, s0, c0, p0, hb⟩ ?_
  rintro a' w' ⟨i, hi, hn, hf', hu, k1, s1, c1, p1, hb'⟩
  have hl' := (hu.block _ (lt_of_block hl) (by simpa using hne)).trans hl
  obtain ⟨g, rfl, hgg⟩ := fr_lit25 hf'
  obtain ⟨hg11, hg1, hg4, hg9, hg10, -⟩ := hgg
  rw [hg11, hg1, hg4, hg9, hg10]
  clear hg11 hg1 hg4 hg9 hg10
  conv => arg 2; whnf
  clear hf hf' hb hl
  by_cases hlt : i < 4
  · have e0 : w'.cell? ⟨lb, i * 2, none⟩ = some (.int .i64 ((i : Int) + 1)) := by
      rcases (show i = 0 ∨ i = 1 ∨ i = 2 ∨ i = 3 by omega) with rfl | rfl | rfl | rfl <;> exact cell_at hl' rfl
    have e1 : w'.cell? ⟨lb, i * 2 + 1, none⟩ = some (.func (.func (kF ((i : Int) + 1))) #[] #[]) := by
      rcases (show i = 0 ∨ i = 1 ∨ i = 2 ∨ i = 3 by omega) with rfl | rfl | rfl | rfl <;> exact cell_at hl' rfl
    have hk := hof ((i : Int) + 1) (by omega)
    have HH := Lib.hid (And.intro hb' (And.intro hl' (And.intro hn (And.intro hR (And.intro hT hof)))))
    unfold kV siteV at hk
    clear hb' hl' hn hR hT hof
    go_wp2_with fail
    refine (hk _ (upd_n _ hu)).mono ?_
    rintro e w2 ⟨rfl, hx2⟩
    have hu2 : Upd [rb] w w2 := Upd.trans (upd_n _ hu) (Upd.of_ext hx2)
    have hb2 := ((Ext.trans (ext_n _ (Ext.refl _)) hx2).block _ (lt_of_block HH.out.1)).trans HH.out.1
    unfold sC at hb2
    have b0 := cell_at (i := 0) hb2 rfl
    have b1 := cell_at (i := 1) hb2 rfl
    have b2 := cell_at (i := 2) hb2 rfl
    have b3 := cell_at (i := 3) hb2 rfl
    have f0 := frz (i := 0) hb2
    have f1 := frz (i := 1) hb2
    have f2 := frz (i := 2) hb2
    have f3 := frz (i := 3) hb2
    have hb3 := heap_set4 (b0 := .int .i64 (i + 1)) (b1 := .int .i64 s) (b2 := .int .i64 (c (i + 1))) (b3 := .int .i64 (p (i + 1))) hb2
    have hu3 : Upd [rb] w ((((w2.setCell ⟨rb, 0, none⟩ (.int .i64 (i + 1))).setCell ⟨rb, 1, none⟩ (.int .i64 s)).setCell ⟨rb, 2, none⟩ (.int .i64 (c (i + 1)))).setCell ⟨rb, 3, none⟩ (.int .i64 (p (i + 1)))) :=
      upd_setc _ (upd_setc _ (upd_setc _ (upd_setc _ hu2 (by simp)) (by simp)) (by simp)) (by simp)
    have hb4 := heap_set4 (b0 := .int .i64 (i + 1)) (b1 := .int .i64 s) (b2 := .int .i64 (c (i + 1))) (b3 := .int .i64 (p (i + 1))) hb3
    have hu4 := upd_setc (i := 3) (b := rb) (.int .i64 (p (i + 1))) (upd_setc (i := 2) (b := rb) (.int .i64 (c (i + 1))) (upd_setc (i := 1) (b := rb) (.int .i64 s) (upd_setc (i := 0) (b := rb) (.int .i64 (i + 1)) hu3 (by simp)) (by simp)) (by simp)) (by simp)
    have HB3 := Lib.hid (And.intro hb3 (And.intro hu3 (And.intro hb4 hu4)))
    clear hb2 hb3 hu3 hb4 hu4 hk
    by_cases hbi : b (i + 1) = true
    · rw [hbi]
      have hfk := firstK_at hlt HH.out.2.2.1 hbi
      go_wp2
      refine HH.out.2.2.2.2.1 _ _ (fr_mk rfl ⟨rfl, rfl, trivial⟩) HB3.out.2.2.2 (by omega) ?_
      rw [hfk]
      exact HB3.out.2.2.1
    · rw [Bool.eq_false_iff.2 hbi]
      go_wp2
      refine ⟨⟨i + 1, by omega, fun j hj => ?_, fr_mk rfl ⟨by go_num, rfl, rfl, rfl, rfl, trivial⟩, HB3.out.2.1, _, _, _, _, HB3.out.1⟩, by simp [intOf]; omega⟩
      rcases (show j < i ∨ j = i by omega) with h | rfl
      · exact HH.out.2.2.1 j h
      · exact Bool.eq_false_iff.2 hbi
  · obtain rfl : i = 4 := by omega
    have hfk := firstK_none (b := b) (fun j h => hn j h)
    have HH := Lib.hid (And.intro hb' (And.intro hR hfk))
    clear hb' hR hT hof hn hfk
    go_wp2
    exact HH.out.2.1 _ _ _ _ _ _ (fr_mk rfl ⟨rfl, rfl, rfl, rfl, trivial⟩) hu HH.out.1 HH.out.2.2
def fV (b : Int → Bool) (c p : Int → Int) (s : Int) : Value := if firstK b = 0 then siteV 0 0 0 0 else siteV (firstK b) s (c (firstK b)) (p (firstK b))
set_option maxRecDepth 100000 in
set_option maxHeartbeats 1000000 in
theorem wi_first (hof : ∀ k, (k = 1 ∨ k = 2 ∨ k = 3 ∨ k = 4) → ∀ w2, Ext w w2 → Calls Tryz.prog 41 #[kV k, .pointer (some ⟨pb, 0, none⟩), .pointer (some ⟨gb, 0, none⟩)] w2 fun e w' => e = .returned (.tuple #[siteV k s (c k) (p k), .bool (b k)]) ∧ Ext w2 w')
    (hl : w.heap[lb]? = some (.cells kS 83 (0, 0))) :
    Calls Tryz.prog 39 #[.slice (some ⟨lb, 0, none⟩) 4 4, ofV pb gb] w fun e w' => e = .returned (.tuple #[fV b c p s, .bool (decide (firstK b ≠ 0))]) ∧ Ext w w' := by
  have hlt := lt_of_block hl
  obtain ⟨W, hW⟩ : ∃ W, w.alloc (.cells #[.int .i64 0, .int .i64 0, .int .i64 0, .int .i64 0] 56) = W := ⟨_, rfl⟩
  have hxW : Ext w W := hW ▸ ext_n _ (Ext.refl _)
  have hrb : W.heap[w.heap.size]? = some (.cells (sC 0 0 0 0) 56 (0, 0)) := hW ▸ World.alloc_heap_new _ _
  have hup : ∀ w2, Upd [w.heap.size] W w2 → Ext w w2 := fun w2 hu => (Upd.trans ((Upd.of_ext hxW)) hu).new (by simp)
  have HL := Lib.hid (hl)
  have HH := Lib.hid (And.intro hof (And.intro hrb (And.intro hup hxW)))
  have HW := Lib.hid hW
  clear hl hof hrb hup hW
  go_enter Tryz.func39, Tryz.ntmps39
  go_wp2
  rw [HW.out]
  refine wi_floop (rb := w.heap.size) (lb := lb) (pb := pb) (gb := gb) (b := b) (c := c) (p := p) (s := s) (fun k hk w2 hu => HH.out.1 k hk w2 (HH.out.2.2.1 _ hu)) ((HH.out.2.2.2.block _ hlt).trans HL.out) HH.out.2.1 (by omega) (fr_mk rfl ⟨rfl, rfl, rfl, rfl, rfl, trivial⟩) ?_ ?_
  · intro a' w' k1 s1 c1 p1 hf hu hb' hk
    have hx := HH.out.2.2.1 _ hu
    obtain ⟨g, rfl, hgg⟩ := fr_lit25 hf
    obtain ⟨hg1, hg4, hg9, hg10, -⟩ := hgg
    rw [hg1, hg4, hg9, hg10]
    clear hg1 hg4 hg9 hg10
    have hltr : w.heap.size < w'.heap.size := lt_of_block hb'
    unfold sC at hb'
    have b0 := cell_at (i := 0) hb' rfl
    have b1 := cell_at (i := 1) hb' rfl
    have b2 := cell_at (i := 2) hb' rfl
    have b3 := cell_at (i := 3) hb' rfl
    have f0 := frz (i := 0) hb'
    have f1 := frz (i := 1) hb'
    have f2 := frz (i := 2) hb'
    have f3 := frz (i := 3) hb'
    have HB := Lib.hid hb'
    clear hb' hf
    go_wp2
    have hb9 := heap_set4 (b0 := .int .i64 0) (b1 := .int .i64 0) (b2 := .int .i64 0) (b3 := .int .i64 0) HB.out
    have hb10 := fun o => (Below.heap_alloc _ o _ (lt_of_block hb9)).trans hb9
    have d0 := fun o => cell_at (i := 0) (hb10 o) rfl
    have d1 := fun o => cell_at (i := 1) (hb10 o) rfl
    have d2 := fun o => cell_at (i := 2) (hb10 o) rfl
    have d3 := fun o => cell_at (i := 3) (hb10 o) rfl
    refine bodyPost_ret (v := .tuple #[fV b c p s, .bool false]) ?_ rfl ⟨by simp [hk], ext_n _ (ext_set _ (ext_set _ (ext_set _ (ext_set _ hx (by simp)) (by simp)) (by simp)) (by simp))⟩
    clear HB b0 b1 b2 b3 f0 f1 f2 f3 hb9 hb10
    unfold fV siteV
    rw [if_pos hk]
    simp [results, Tryz.results39, go_sem, d0, d1, d2, d3]
  · intro a' w' hf hu hk hb'
    have hx := HH.out.2.2.1 _ hu
    obtain ⟨g, rfl, hgg⟩ := fr_lit25 hf
    obtain ⟨hg4, hg5, -⟩ := hgg
    rw [hg4, hg5]
    clear hg4 hg5
    unfold sC at hb'
    have b0 := cell_at (i := 0) hb' rfl
    have b1 := cell_at (i := 1) hb' rfl
    have b2 := cell_at (i := 2) hb' rfl
    have b3 := cell_at (i := 3) hb' rfl
    go_wp2
    refine bodyPost_ret (v := .tuple #[fV b c p s, .bool true]) ?_ rfl ⟨by rw [decide_eq_true hk], hx⟩
    clear hb' hf
    unfold fV siteV
    rw [if_neg hk]
    simp [results, Tryz.results39, go_sem, b0, b1, b2, b3]
end
end Go.Proofs.YtgkfgilhegjbhaaGreat
