/- the statement's switch: Map, Unmap; no condition. -/
import Derived.Test.YtlafdnbjkkbmfaaLaw7
namespace Go.Proofs.Ytlafdnbjkkbmfaa
open Go.RowKit
attribute [local go_sem] run_mf
def actC (x : ActL) : Array Value := #[.int .i64 x.what, .int .i64 x.page, .int .i64 x.owner, .int .i64 x.payer, .int .i64 x.many, .int .i64 x.may, .int .u32 (x.at' : Int), x.bv]
section
variable {w0 w : World} {mb tb eb pb fb rb nb wb xb : Nat} {T : List (Int × Ent)} {F : List (Int × Tak)} {R : List (Int × Int)} {whose : Nat → Int} {now : List UInt8} {v : Value} {i ow : Int} {Z : Exit → Act → World → Prop} {a : Act}
set_option maxRecDepth 100000 in
set_option maxHeartbeats 1000000 in
theorem l9_case1 {x : ActL} {p : Nat} (hf : Fr 288 ((88, .int .i64 1) :: l9G v mb nb wb i xb ow) a) (h : LS w0 w mb tb eb pb fb rb nb wb T F R whose now) (hx : w.heap[xb]? = some (.cells (actC x) 37 (0, 0))) (hxn : xb ≠ nb) (hxw : xb ≠ wb)
    (hpp : x.page = (p : Int)) (hp : p < 20) (ho : ow = 1 ∨ ow = 2)
    (hR : ∀ a' w' T' F' whose' now', Fr 288 (l9G v mb nb wb i xb ow) a' → LS w0 w' mb tb eb pb fb rb nb wb T' F' R whose' now' → Z .normal a' w') :
    (Code.block 2 (blk Try.f3 2)).wp Try.prog Z a w := by
  have hmap := l9_map h hp ho
  obtain ⟨g, rfl, hgg⟩ := fr_lit288 hf
  obtain ⟨hg88, hg0, hg3, hg5, hg6, hg7, hg8, hg9, -⟩ := hgg
  rw [hg88, hg0, hg3, hg5, hg6, hg7, hg8, hg9]
  clear hg88 hg0 hg3 hg5 hg6 hg7 hg8 hg9
  have c1 : w.cell? ⟨xb, 1, none⟩ = some (.int .i64 (p : Int)) := by rw [← hpp]; exact cell_at hx rfl
  have HR := Lib.hid hR
  have HX := Lib.hid hx
  have HP := Lib.hid hpp
  have HH := Lib.hid h
  clear hR hf hx h hpp
  conv => arg 2; arg 2; whnf
  go_wp2_with fail
  refine hmap.mono ?_
  rintro e w1 ⟨r, rfl, hu, hr1, hr2⟩
  have hx1 := (hu.block _ (lt_of_block HX.out) (by simp; exact ⟨(HH.out.m.nm HX.out).1, (HH.out.m.nm HX.out).2.1⟩)).trans HX.out
  have c1 : w1.cell? ⟨xb, 1, none⟩ = some (.int .i64 (p : Int)) := by rw [← HP.out]; exact cell_at hx1 rfl
  clear hmap
  by_cases h0 : r = 0
  · subst h0
    obtain ⟨T', F', hm, hi, hpg⟩ := hr2 rfl
    have hn1 := (hu.block _ (lt_of_block HH.out.nw) (by simp; exact ⟨(HH.out.m.nm HH.out.nw).1, (HH.out.m.nm HH.out.nw).2.1⟩)).trans HH.out.nw
    have hw1 := (hu.block _ (lt_of_block HH.out.wh) (by simp; exact ⟨(HH.out.m.nm HH.out.wh).1, (HH.out.m.nm HH.out.wh).2.1⟩)).trans HH.out.wh
    have cw := cell_at hw1 (whoC_get whose hp)
    have cf := frz (i := p) hw1
    obtain ⟨z, hz⟩ : ∃ z, whose p = z := ⟨_, rfl⟩
    rw [hz] at cw
    have HN := Lib.hid hn1
    have HW := Lib.hid hw1
    have HX1 := Lib.hid hx1
    clear hr1 hr2 hz hn1 hw1 hx1
    have hu2 : Upd [wb] w1 (w1.setCell ⟨wb, p, none⟩ (.int .i64 ow)) := upd_setc _ (Upd.refl _ _) (by simp)
    have hw2 := heap_setc (i := p) (u := .int .i64 ow) HW.out
    rw [whoC_set _ hp] at hw2
    have hn2 := (hu2.block _ (lt_of_block HN.out) (by simpa using HH.out.nwb)).trans HN.out
    have hx2 := (hu2.block _ (lt_of_block HX1.out) (by simpa using hxw)).trans HX1.out
    have HX2 := Lib.hid hx2
    have HN2 := Lib.hid hn2
    have HW2 := Lib.hid hw2
    have HU2 := Lib.hid hu2
    clear hx2 hn2 hw2 hu2
    go_wp2
    refine l9_zero (v := v) (mb := mb) (i := i) (ow := ow) (wb := wb) (fr_mk rfl ⟨rfl, rfl, rfl, rfl, rfl, rfl, rfl, rfl, trivial⟩) HX2.out (by rw [← HP.out]; rfl) hp HH.out.nl HN2.out hxn ?_
    intro a' w' hf' hu' hn'
    have lo := HH.out.lo
    refine HR.out a' w' T' F' (upW whose p ow) (splice now (256 * p) (List.replicate 256 0)) hf' ⟨?_, ?_, hi, hpg, ?_, hn', ?_, HH.out.nwb, lo⟩
    · exact ext_upd (ext_upd (ext_upd HH.out.x hu (by simp; omega)) HU2.out (by simp; omega)) hu' (by simp; omega)
    · refine (hm.keep HU2.out ?_).keep hu' ?_
      · exact fun k hk => by simpa using hm.nb HW.out (by decide) k hk
      · exact fun k hk => by simpa using hm.nb HN.out (by decide) k hk
    · rw [length_splice _ _ _ (by have := HH.out.nl; simp; omega)]; exact HH.out.nl
    · exact (hu'.block _ (lt_of_block HW2.out) (by simpa using Ne.symm HH.out.nwb)).trans HW2.out
  · have hb0 : (r == 0) = false := by simpa using h0
    have hl := hr1 h0
    have HL := Lib.hid hl
    clear hr1 hr2 hl hx1
    go_wp2
    exact HR.out _ _ _ _ _ _ (fr_mk rfl ⟨rfl, rfl, rfl, rfl, rfl, rfl, rfl, trivial⟩) HL.out
end
end Go.Proofs.Ytlafdnbjkkbmfaa
