/- the statement's switch: Unmap, Store, Load; no condition. -/
import Derived.Test.YtlafdnbjkkbmfaaLaw8
namespace Go.Proofs.Ytlafdnbjkkbmfaa
open Go.RowKit
attribute [local go_sem] run_mf
attribute [local go_sem ↓] Go.wp_at_zero Go.wp_at_succ
theorem undN : Try.prog.underlying 31 = some (.array (Try.prog.arrayLen 31) (Try.prog.elem 31)) := by kernel_rfl
theorem lenN : Try.prog.arrayLen 31 = 5120 := by kernel_rfl
theorem elemN : Try.prog.elem 31 = 5 := by kernel_rfl
theorem run_slN {W : World} {b i k : Nat} (h : i + k ≤ 5120) (hk : 1 ≤ k) :
    (Instr.sliceAt 31 (.pointer (some ⟨b, 0, none⟩)) (some (.int .i64 (i : Int))) (some (.int .i64 ((i : Int) + (k : Int)))) none).run Try.prog W = .ok (.slice (some ⟨b, i, none⟩) k (5120 - i)) W := by
  have e2 : ((i : Int) + (k : Int)).toNat = i + k := by omega
  rw [run_sliceAt_array_lh (P := Try.prog) W _ ⟨b, 0, none⟩ undN .i64 .i64 i (i + k) (by omega) (by omega) (by rw [lenN]; omega), elemN, sizeB, lenN, Result.andThen_ok, e2, slicedAt]
  simp only [Int.toNat_natCast, Nat.mul_one, Nat.add_sub_cancel_left]
  rw [if_neg (by omega), add_lit, Nat.zero_add]
theorem nowC_bytes {w : World} {nb aa n : Nat} {now : List UInt8} {t : TypeId} {fr : Nat × Nat} (hb : w.heap[nb]? = some (.cells (nowC now) t fr)) (hl : now.length = 5120) (h : aa + n ≤ 5120) :
    BytesAt w (.slice (some ⟨nb, aa, none⟩) n (5120 - aa)) ((now.drop aa).take n) := by
  have hn : ((now.drop aa).take n).length = n := by simp; omega
  refine .inr ⟨nb, aa, 5120 - aa, by rw [hn], by omega, by simp [maxLen]; omega, lt_of_block hb, fun j u hu => cell_at hb ?_⟩
  simp only [u8s, List.getElem?_map, List.getElem?_take, List.getElem?_drop] at hu
  split at hu
  · simpa [nowC, u8s] using hu
  · cases hu
section
variable {w0 w : World} {mb tb eb pb fb rb nb wb xb : Nat} {T : List (Int × Ent)} {F : List (Int × Tak)} {R : List (Int × Int)} {whose : Nat → Int} {now : List UInt8} {v : Value} {i ow : Int} {Z : Exit → Act → World → Prop} {a : Act}
set_option maxRecDepth 100000 in
set_option maxHeartbeats 1000000 in
theorem l9_case2 {x : ActL} {p : Nat} (hf : Fr 288 ((88, .int .i64 2) :: l9G v mb nb wb i xb ow) a) (h : LS w0 w mb tb eb pb fb rb nb wb T F R whose now) (hx : w.heap[xb]? = some (.cells (actC x) 37 (0, 0))) 
    (hpp : x.page = (p : Int)) (hp : p < 20)
    (hR : ∀ a' w' T' F' whose' now', Fr 288 (l9G v mb nb wb i xb ow) a' → LS w0 w' mb tb eb pb fb rb nb wb T' F' R whose' now' → Z .normal a' w') :
    (Code.block 2 (blk Try.f3 2)).wp Try.prog Z a w := by
  have hmap := l9_unmap h hp
  obtain ⟨g, rfl, hgg⟩ := fr_lit288 hf
  obtain ⟨hg88, hg0, hg3, hg5, hg6, hg7, hg8, hg9, -⟩ := hgg
  rw [hg88, hg0, hg3, hg5, hg6, hg7, hg8, hg9]
  clear hg88 hg0 hg3 hg5 hg6 hg7 hg8 hg9
  have c1 : w.cell? ⟨xb, 1, none⟩ = some (.int .i64 (p : Int)) := by rw [← hpp]; exact cell_at hx rfl
  have HR := Lib.hid hR
  have HX := Lib.hid hx
  have HP := Lib.hid hpp
  have HH := Lib.hid h
  clear hR hf hx h hpp
  conv => arg 2; arg 2; whnf
  go_wp2_with fail
  refine hmap.mono ?_
  rintro e w1 ⟨r, rfl, hu, hr1, hr2⟩
  have hx1 := (hu.block _ (lt_of_block HX.out) (by simp; exact ⟨(HH.out.m.nm HX.out).1, (HH.out.m.nm HX.out).2.1⟩)).trans HX.out
  have c1 : w1.cell? ⟨xb, 1, none⟩ = some (.int .i64 (p : Int)) := by rw [← HP.out]; exact cell_at hx1 rfl
  clear hmap
  by_cases h0 : r = 0
  · subst h0
    obtain ⟨T', F', hm, hi, hpg⟩ := hr2 rfl
    have hn1 := (hu.block _ (lt_of_block HH.out.nw) (by simp; exact ⟨(HH.out.m.nm HH.out.nw).1, (HH.out.m.nm HH.out.nw).2.1⟩)).trans HH.out.nw
    have hw1 := (hu.block _ (lt_of_block HH.out.wh) (by simp; exact ⟨(HH.out.m.nm HH.out.wh).1, (HH.out.m.nm HH.out.wh).2.1⟩)).trans HH.out.wh
    have cw := cell_at hw1 (whoC_get whose hp)
    have cf := frz (i := p) hw1
    obtain ⟨z, hz⟩ : ∃ z, whose p = z := ⟨_, rfl⟩
    rw [hz] at cw
    have HN := Lib.hid hn1
    have HW := Lib.hid hw1
    have HX1 := Lib.hid hx1
    clear hr1 hr2 hz hn1 hw1 hx1
    have hu2 : Upd [wb] w1 (w1.setCell ⟨wb, p, none⟩ (.int .i64 0)) := upd_setc _ (Upd.refl _ _) (by simp)
    have hw2 := heap_setc (i := p) (u := .int .i64 0) HW.out
    rw [whoC_set _ hp] at hw2
    have hn2 := (hu2.block _ (lt_of_block HN.out) (by simpa using HH.out.nwb)).trans HN.out
    have HN2 := Lib.hid hn2
    have HW2 := Lib.hid hw2
    have HU2 := Lib.hid hu2
    clear hn2 hw2 hu2
    go_wp2
    have lo := HH.out.lo
    refine HR.out _ _ T' F' (upW whose p 0) now (fr_mk rfl ⟨rfl, rfl, rfl, rfl, rfl, rfl, rfl, trivial⟩) ⟨?_, ?_, hi, hpg, HH.out.nl, HN2.out, HW2.out, HH.out.nwb, lo⟩
    · exact ext_upd (ext_upd HH.out.x hu (by simp; omega)) HU2.out (by simp; omega)
    · refine hm.keep HU2.out (fun k hk => by simpa using hm.nb HW.out (by decide) k hk)
  · have hb0 : (r == 0) = false := by simpa using h0
    have hl := hr1 h0
    have HL := Lib.hid hl
    clear hr1 hr2 hl hx1
    go_wp2
    exact HR.out _ _ _ _ _ _ (fr_mk rfl ⟨rfl, rfl, rfl, rfl, rfl, rfl, rfl, trivial⟩) HL.out
set_option maxRecDepth 100000 in
set_option maxHeartbeats 1000000 in
theorem l9_case5 {x : ActL} (hf : Fr 288 ((88, .int .i64 5) :: l9G v mb nb wb i xb ow) a) (h : LS w0 w mb tb eb pb fb rb nb wb T F R whose now) (hx : w.heap[xb]? = some (.cells (actC x) 37 (0, 0))) (hxn : xb ≠ nb)
    (ho : ow = 1 ∨ ow = 2) (hby : BytesIn w0 x.bv x.bytes) (hab : x.at' + x.bytes.length ≤ 5120)
    (hR : ∀ a' w' T' F' whose' now', Fr 288 (l9G v mb nb wb i xb ow) a' → LS w0 w' mb tb eb pb fb rb nb wb T' F' R whose' now' → Z .normal a' w') :
    (Code.block 2 (blk Try.f3 2)).wp Try.prog Z a w := by
  have hst := l9_store h ho hab (hby.ext h.x)
  obtain ⟨g, rfl, hgg⟩ := fr_lit288 hf
  obtain ⟨hg88, hg0, hg3, hg5, hg6, hg7, hg8, hg9, -⟩ := hgg
  rw [hg88, hg0, hg3, hg5, hg6, hg7, hg8, hg9]
  clear hg88 hg0 hg3 hg5 hg6 hg7 hg8 hg9
  have c6 : w.cell? ⟨xb, 6, none⟩ = some (.int .u32 (x.at' : Int)) := cell_at hx rfl
  have c7 : w.cell? ⟨xb, 7, none⟩ = some x.bv := cell_at hx rfl
  have HBY := Lib.hid hby
  obtain ⟨⟨va, vc, hva⟩, _⟩ := hby
  obtain ⟨n, hn⟩ : ∃ n, x.bytes.length = n := ⟨_, rfl⟩
  obtain ⟨aa, haa⟩ : ∃ n, x.at' = n := ⟨_, rfl⟩
  rw [hn] at hva
  rw [hva] at c7 hst
  rw [haa] at c6 hst hab
  rw [hn] at hab
  have HR := Lib.hid hR
  have HX := Lib.hid hx
  have HH := Lib.hid h
  have HVA := Lib.hid hva
  have HNN := Lib.hid hn
  have HAA := Lib.hid haa
  clear hR hf hx h hva hn haa
  conv => arg 2; arg 2; whnf
  go_wp2_with fail
  refine hst.mono ?_
  rintro e w1 ⟨r, rfl, hu, hr0, hr1, hr2⟩
  have hx1 := (hu.block _ (lt_of_block HX.out) (by simp; exact ⟨(HH.out.m.nm HX.out).1, (HH.out.m.nm HX.out).2.1⟩)).trans HX.out
  have c6 : w1.cell? ⟨xb, 6, none⟩ = some (.int .u32 (aa : Int)) := by rw [← HAA.out]; exact cell_at hx1 rfl
  have c7 : w1.cell? ⟨xb, 7, none⟩ = some (.slice va n vc) := by rw [← HVA.out]; exact cell_at hx1 rfl
  have hw1 := (hu.block _ (lt_of_block HH.out.wh) (by simp; exact ⟨(HH.out.m.nm HH.out.wh).1, (HH.out.m.nm HH.out.wh).2.1⟩)).trans HH.out.wh
  have HW := Lib.hid hw1
  have HX1 := Lib.hid hx1
  have H0 := Lib.hid hr0
  have H1 := Lib.hid hr1
  have H2 := Lib.hid hr2
  clear hst hr0 hr1 hr2 hw1 hx1
  by_cases hn0 : 0 < n
  · have hd : decide ((0 : Int) < (n : Int)) = true := by simpa using hn0
    go_wp2
    clear hd
    refine l9_fineS (v := v) (mb := mb) (nb := nb) (i := i) (ow := ow) (f := r) (s := true) (n := n) (fr_mk rfl ⟨rfl, rfl, rfl, rfl, rfl, rfl, rfl, rfl, rfl, rfl, trivial⟩) HX1.out (by rw [← HAA.out]; rfl) (by rw [← HVA.out]; rfl) hab HW.out ?_
    intro a' hf'
    clear c6 c7
    rw [Bool.true_and] at hf'
    obtain ⟨q, hq⟩ : ∃ q, finB whose ow aa n = q := ⟨_, rfl⟩
    rw [hq] at hf'
    obtain ⟨g, rfl, hgg⟩ := fr_lit288 hf'
    obtain ⟨hg11, hg12, hg0, hg3, hg5, hg6, hg7, hg8, hg9, -⟩ := hgg
    rw [hg11, hg12, hg0, hg3, hg5, hg6, hg7, hg8, hg9]
    clear hg11 hg12 hg0 hg3 hg5 hg6 hg7 hg8 hg9
    clear hf'
    have hQ := Lib.hid hq
    clear hq
    cases q with
    | true =>
      have hr : r = 0 := by rw [H0.out, HNN.out]; exact ⟨hn0, hQ.out⟩
      subst hr
      go_wp2_with (go_at_call 7; refine (l9_num _).mono ?_; rintro e w' ⟨rfl, rfl⟩)
      clear H0 H1
      obtain ⟨F', hm, hi, hpg⟩ := H2.out trivial
      have hn1 := (hu.block _ (lt_of_block HH.out.nw) (by simp; exact ⟨(HH.out.m.nm HH.out.nw).1, (HH.out.m.nm HH.out.nw).2.1⟩)).trans HH.out.nw
      have hlen : x.bytes.length = n := HNN.out
      have hx01 : Ext w0 w1 := ext_upd HH.out.x hu (by simp; exact ⟨HH.out.lo.1, HH.out.lo.2.1⟩)
      rcases HBY.out.2 (by omega) with ⟨_, hnil⟩ | ⟨bb, bo, cap, hbv, _, _, hbl, hbc⟩
      · rw [hnil] at hlen; simp at hlen; omega
      · have lo := HH.out.lo
        refine l9_copy (at' := aa) (bs := x.bytes) (v := v) (mb := mb) (nb := nb) (wb := wb) (i := i) (ow := ow) (fr_mk rfl ⟨rfl, rfl, rfl, rfl, rfl, rfl, rfl, rfl, rfl, trivial⟩) HX1.out (by rw [← HAA.out]; rfl) (by rw [← hbv]; rfl) (by omega) HH.out.nl hn1 hxn (by omega) (fun j u hu => (hx01.cell (p := ⟨bb, bo + j, none⟩) hbl).trans (hbc j u hu)) (Nat.lt_of_lt_of_le hbl hx01.size) ?_
        intro a' w' hf' hu' hn'
        refine HR.out a' w' T F' whose _ hf' ⟨ext_upd hx01 hu' (by simp; omega), hm.keep hu' (fun k hk => by simpa using hm.nb hn1 (by decide) k hk), hi, hpg, ?_, hn', ?_, HH.out.nwb, lo⟩
        · rw [length_splice _ _ _ (by have := HH.out.nl; omega)]; exact HH.out.nl
        · exact (hu'.block _ (lt_of_block HW.out) (by simpa using Ne.symm HH.out.nwb)).trans HW.out
    | false =>
      have hr : ¬ r = 0 := by rw [H0.out, HNN.out, hQ.out]; simp
      have hb0 : (r == 0) = false := by simpa using hr
      go_wp2_with (go_at_call 7; refine (l9_num _).mono ?_; rintro e w' ⟨rfl, rfl⟩)
      refine l9_copy0 (v := v) (mb := mb) (nb := nb) (wb := wb) (i := i) (ow := ow) (n := n) (fr_mk rfl ⟨rfl, rfl, rfl, rfl, rfl, rfl, rfl, rfl, rfl, trivial⟩) HX1.out (by rw [← HVA.out]; rfl) (by omega) ?_
      intro a' hf'
      exact HR.out a' w1 T F whose now hf' (H1.out hr)
  · obtain rfl : n = 0 := by omega
    go_wp2
    refine l9_fineS (v := v) (mb := mb) (nb := nb) (i := i) (ow := ow) (f := r) (s := false) (n := 0) (fr_mk rfl ⟨rfl, rfl, rfl, rfl, rfl, rfl, rfl, rfl, rfl, rfl, trivial⟩) HX1.out (by rw [← HAA.out]; rfl) (by rw [← HVA.out]; rfl) hab HW.out ?_
    intro a' hf'
    clear c6 c7
    rw [Bool.false_and] at hf'
    obtain ⟨g, rfl, hgg⟩ := fr_lit288 hf'
    obtain ⟨hg11, hg12, hg0, hg3, hg5, hg6, hg7, hg8, hg9, -⟩ := hgg
    rw [hg11, hg12, hg0, hg3, hg5, hg6, hg7, hg8, hg9]
    clear hg11 hg12 hg0 hg3 hg5 hg6 hg7 hg8 hg9
    clear hf'
    have hr : ¬ r = 0 := by rw [H0.out, HNN.out]; simp
    have hb0 : (r == 0) = false := by simpa using hr
    go_wp2_with (go_at_call 7; refine (l9_num _).mono ?_; rintro e w' ⟨rfl, rfl⟩)
    refine l9_copy0 (v := v) (mb := mb) (nb := nb) (wb := wb) (i := i) (ow := ow) (n := 0) (fr_mk rfl ⟨rfl, rfl, rfl, rfl, rfl, rfl, rfl, rfl, rfl, trivial⟩) HX1.out (by rw [← HVA.out]; rfl) (by omega) ?_
    intro a' hf'
    exact HR.out a' w1 T F whose now hf' (H1.out hr)
set_option maxRecDepth 100000 in
set_option maxHeartbeats 1000000 in
theorem l9_cased {x : ActL} {wt : Int} {n : Nat} (hf : Fr 288 ((88, .int .i64 wt) :: l9G v mb nb wb i xb ow) a) (h : LS w0 w mb tb eb pb fb rb nb wb T F R whose now) (hx : w.heap[xb]? = some (.cells (actC x) 37 (0, 0)))
    (w1 : ¬ wt = 1) (w2 : ¬ wt = 2) (w5 : ¬ wt = 5) (ho : ow = 1 ∨ ow = 2) (hn : x.many = (n : Int)) (h1n : 1 ≤ n) (hab : x.at' + n ≤ 5120)
    (hR : ∀ a' w' T' F' whose' now', Fr 288 (l9G v mb nb wb i xb ow) a' → LS w0 w' mb tb eb pb fb rb nb wb T' F' R whose' now' → Z .normal a' w') :
    (Code.block 2 (blk Try.f3 2)).wp Try.prog Z a w := by
  have hst := l9_load h ho hab
  have b1 : (wt == 1) = false := by simpa using w1
  have b2 : (wt == 2) = false := by simpa using w2
  have b5 : (wt == 5) = false := by simpa using w5
  clear w1 w2 w5
  obtain ⟨g, rfl, hgg⟩ := fr_lit288 hf
  obtain ⟨hg88, hg0, hg3, hg5, hg6, hg7, hg8, hg9, -⟩ := hgg
  rw [hg88, hg0, hg3, hg5, hg6, hg7, hg8, hg9]
  clear hg88 hg0 hg3 hg5 hg6 hg7 hg8 hg9
  obtain ⟨aa, haa⟩ : ∃ n, x.at' = n := ⟨_, rfl⟩
  have c6 : w.cell? ⟨xb, 6, none⟩ = some (.int .u32 (aa : Int)) := by rw [← haa]; exact cell_at hx rfl
  have c4 : w.cell? ⟨xb, 4, none⟩ = some (.int .i64 (n : Int)) := by rw [← hn]; exact cell_at hx rfl
  rw [haa] at hst hab
  have HR := Lib.hid hR
  have HX := Lib.hid hx
  have HH := Lib.hid h
  have HNN := Lib.hid hn
  have HAA := Lib.hid haa
  clear hR hf hx h hn haa
  conv => arg 2; arg 2; whnf
  go_wp2_with fail
  refine hst.mono ?_
  rintro e w1 ⟨vb, r, rfl, hr0, hu, hl, hb⟩
  have hx1 := (hu.block _ (lt_of_block HX.out) (by simp; exact ⟨(HH.out.m.nm HX.out).1, (HH.out.m.nm HX.out).2.1⟩)).trans HX.out
  have c6 : w1.cell? ⟨xb, 6, none⟩ = some (.int .u32 (aa : Int)) := by rw [← HAA.out]; exact cell_at hx1 rfl
  have c4 : w1.cell? ⟨xb, 4, none⟩ = some (.int .i64 (n : Int)) := by rw [← HNN.out]; exact cell_at hx1 rfl
  obtain ⟨va, vc, hvb⟩ := hb.form
  obtain ⟨m, hm⟩ : ∃ m, (if r = 0 then List.take n (List.drop aa now) else []).length = m := ⟨_, rfl⟩
  rw [hm] at hvb
  subst hvb
  have HX1 := Lib.hid hx1
  have H0 := Lib.hid hr0
  have HL := Lib.hid hl
  have HB := Lib.hid hb
  have HM := Lib.hid hm
  clear hst hx1 hr0 hl hb hm
  go_wp2
  refine l9_fineL (v := v) (mb := mb) (nb := nb) (i := i) (ow := ow) (f := r) (n := n) (fr_mk rfl ⟨rfl, rfl, rfl, rfl, rfl, rfl, rfl, rfl, rfl, rfl, rfl, trivial⟩) HX1.out (by rw [← HAA.out]; rfl) (by rw [← HNN.out]; rfl) hab HL.out.wh ?_
  intro a' hf'
  obtain ⟨q, hq⟩ : ∃ q, finB whose ow aa n = q := ⟨_, rfl⟩
  rw [hq] at hf'
  obtain ⟨g, rfl, hgg⟩ := fr_lit288 hf'
  obtain ⟨hg15, hg16, hg17, hg0, hg3, hg5, hg6, hg7, hg8, hg9, -⟩ := hgg
  rw [hg15, hg16, hg17, hg0, hg3, hg5, hg6, hg7, hg8, hg9]
  clear hg15 hg16 hg17 hg0 hg3 hg5 hg6 hg7 hg8 hg9
  clear hf'
  have hQ := Lib.hid hq
  clear hq
  cases q with
  | true =>
    have hr : r = 0 := by rw [H0.out]; exact ⟨by omega, hQ.out⟩
    subst hr
    have hs : ∀ q, (convert 35 9 (.slice va m vc)).run Try.prog (w1.drewN q) = .ok (.string ⟨((now.drop aa).take n).toArray⟩) (w1.drewN q) := fun q => by
      have := run_str (HB.out.ext (ext_drewN q (Ext.refl _)))
      rwa [if_pos rfl] at this
    have ht : ∀ q, (convert 35 9 (.slice (some ⟨nb, aa, none⟩) n (5120 - aa))).run Try.prog (w1.drewN q) = .ok (.string ⟨((now.drop aa).take n).toArray⟩) (w1.drewN q) := fun q =>
      run_str (nowC_bytes ((HL.out.ext (ext_drewN q (Ext.refl _))).nw) HL.out.nl hab)
    have hsl := fun W : World => run_slN (W := W) (b := nb) hab h1n
    have e1 : IntKind.i64.wrap (aa : Int) = aa := IntWalk.i64_in _ (by omega)
    have e2 : IntKind.i64.wrap ((aa : Int) + n) = aa + n := IntWalk.i64_in _ (by omega)
    obtain ⟨str, hstr⟩ : ∃ s : ByteArray, s = ⟨((now.drop aa).take n).toArray⟩ := ⟨_, rfl⟩
    rw [← hstr] at hs ht
    clear hstr
    go_wp2
    go_quiet ((go_at_call 7; exact Calls.quiet_of_same (l9_numq _)))
    go_wp2
    exact HR.out _ _ _ _ _ _ (fr_mk rfl ⟨rfl, rfl, rfl, rfl, rfl, rfl, rfl, trivial⟩) (HL.out.ext (ext_drewN nq (Ext.refl _)))
  | false =>
    have hr : ¬ r = 0 := by rw [H0.out, hQ.out]; simp
    have hb0 : (r == 0) = false := by simpa using hr
    have hm0 : m = 0 := by have := HM.out; rw [if_neg hr] at this; exact this.symm
    subst hm0
    go_wp2
    go_quiet ((go_at_call 7; exact Calls.quiet_of_same (l9_numq _)))
    go_wp2
    exact HR.out _ _ _ _ _ _ (fr_mk rfl ⟨rfl, rfl, rfl, rfl, rfl, rfl, rfl, trivial⟩) (HL.out.ext (ext_drewN nq (Ext.refl _)))
end
end Go.Proofs.Ytlafdnbjkkbmfaa
