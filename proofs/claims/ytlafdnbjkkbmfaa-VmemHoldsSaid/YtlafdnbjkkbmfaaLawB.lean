/- the statement's loops, whole; no condition. -/
import Derived.Test.YtlafdnbjkkbmfaaLawA
namespace Go.Proofs.Ytlafdnbjkkbmfaa
open Go.RowKit
attribute [local go_sem] run_mf
section
variable {w0 w : World} {mb tb eb pb fb rb nb wb : Nat} {T : List (Int × Ent)} {F : List (Int × Tak)} {R : List (Int × Int)} {whose : Nat → Int} {now : List UInt8} {v : Value} {Z : Exit → Act → World → Prop} {a : Act}
set_option maxRecDepth 100000 in
set_option maxHeartbeats 1000000 in
theorem l9_loop {L : List ActL} (hf : Fr 288 (l9B v mb nb wb 0) a) (h : LS w0 w mb tb eb pb fb rb nb wb T F R whose now) (hv : ActsAt w0 v L) (hfew : fewB L 40 = true)
    (hR : ∀ a' w' T' F' whose' now', Fr 288 (l9B v mb nb wb L.length) a' → LS w0 w' mb tb eb pb fb rb nb wb T' F' R whose' now' → Z .normal a' w') :
    (Code.loop (lblk Try.f3 0)).wp Try.prog (Exit.inBlock 0 Z) a w := by
  simp only [fewB, Bool.and_eq_true, decide_eq_true_eq, List.all_eq_true] at hfew
  obtain ⟨hall, hlen⟩ := hfew
  refine wp_loop (fun a' w' => ∃ (k : Nat) (T' : List (Int × Ent)) (F' : List (Int × Tak)) (whose' : Nat → Int) (now' : List UInt8), k ≤ L.length ∧ Fr 288 (l9B v mb nb wb k) a' ∧ LS w0 w' mb tb eb pb fb rb nb wb T' F' R whose' now')
    (fun a' _ => L.length - (intOf (a'.tmps.getD 7 undef)).toNat) ⟨0, T, F, whose, now, Nat.zero_le _, hf, h⟩ ?_
  rintro a' w' ⟨k, T', F', whose', now', hk, hf', h'⟩
  by_cases hlt : k < L.length
  · obtain ⟨av, c, rfl, hl, hc⟩ := hv
    obtain ⟨b, o, rfl, hb, hA⟩ := hc (by omega)
    refine l9_round hf' h' hlt (by omega) (hA k hlt) hb (hall _ (List.getElem_mem hlt)) ?_
    intro a2 w2 T2 F2 whose2 now2 hf2 h2
    refine ⟨⟨k + 1, T2, F2, whose2, now2, by omega, hf2, h2⟩, ?_⟩
    have e1 := hf'.s
    have e2 := hf2.s
    simp only [FrL] at e1 e2
    rw [e1.2.2.2.2.1, e2.2.2.2.2.1]
    simp [intOf]
    omega
  · obtain rfl : k = L.length := by omega
    obtain ⟨av, c, rfl, hl, _⟩ := hv
    obtain ⟨g, rfl, hgg⟩ := fr_lit288 hf'
    obtain ⟨hg0, hg3, hg5, hg6, hg7, -⟩ := hgg
    rw [hg0, hg3, hg5, hg6, hg7]
    clear hg0 hg3 hg5 hg6 hg7
    have HR := Lib.hid hR
    have HH := Lib.hid h'
    clear hR h' hf hf' h hall
    conv => arg 2; whnf
    go_wp2
    exact HR.out _ _ _ _ _ _ (fr_mk rfl ⟨rfl, rfl, rfl, rfl, rfl, trivial⟩) HH.out
abbrev l9E (mb nb wb : Nat) (i : Int) : List (Nat × Value) :=
  [(3, .pointer (some ⟨mb, 0, none⟩)), (5, .pointer (some ⟨nb, 0, none⟩)), (6, .pointer (some ⟨wb, 0, none⟩)), (19, .int .i64 i)]
theorem who_range (h : MemInv T F R 4 whose 20) {n : Nat} (hn : n < 20) : whose n = 0 ∨ whose n = 1 ∨ whose n = 2 := by
  cases hg : getL T (n : Int) with
  | none => exact .inl (h.no n hn hg)
  | some x =>
    obtain ⟨_, _, _, h4, h5, _⟩ := h.rng _ _ hg
    simp only [Int.toNat_natCast] at h4
    omega
theorem fin_page {ow : Int} {n : Nat} : finB whose ow (256 * n) 256 = true ↔ whose n = ow := by
  rw [finB_iff]
  constructor
  · intro h
    have := h 0 (by omega)
    rwa [show (256 * n + 0) / 256 = n by omega] at this
  · intro h i hi
    rwa [show (256 * n + i) / 256 = n by omega]
theorem l9_loadp {k : Nat} {ow : Int} (h : LS w0 w mb tb eb pb fb rb nb wb T F R whose now) (ho : ow = 1 ∨ ow = 2) (hk : k < 20) :
    Calls Try.prog 12 #[.pointer (some ⟨mb, 0, none⟩), .int .i64 ow, .int .u32 (256 * (k : Int)), .int .i64 256] w fun e w' => ∃ v r, e = .returned (.tuple #[v, .int .i64 r]) ∧ (r = 0 ↔ whose k = ow) ∧
      LS w0 w' mb tb eb pb fb rb nb wb T F R whose now ∧ BytesAt w' v (if r = 0 then (now.drop (256 * k)).take 256 else []) := by
  have := l9_load (a := 256 * k) (n := 256) h ho (by omega)
  rw [show ((256 * k : Nat) : Int) = 256 * (k : Int) by omega, show ((256 : Nat) : Int) = 256 from rfl] at this
  refine this.mono ?_
  rintro e w' ⟨v, r, he, hr, _, hl, hb⟩
  exact ⟨v, r, he, by rw [hr, fin_page]; simp, hl, hb⟩
theorem run_slP {W : World} {b k : Nat} (h : k < 20) :
    (Instr.sliceAt 31 (.pointer (some ⟨b, 0, none⟩)) (some (.int .i64 (256 * (k : Int)))) (some (.int .i64 (256 * (k : Int) + 256))) none).run Try.prog W = .ok (.slice (some ⟨b, 256 * k, none⟩) 256 (5120 - 256 * k)) W := by
  have := run_slN (W := W) (b := b) (i := 256 * k) (k := 256) (by omega) (by omega)
  rwa [show ((256 * k : Nat) : Int) = 256 * (k : Int) by omega, show ((256 : Nat) : Int) = 256 from rfl] at this
set_option maxRecDepth 100000 in
set_option maxHeartbeats 1000000 in
theorem l9_last (hf : Fr 288 (l9E mb nb wb 0) a) (h : LS w0 w mb tb eb pb fb rb nb wb T F R whose now)
    (hR : ∀ a' w', Fr 288 [] a' → Ext w0 w' → Z .normal a' w') :
    (Code.loop (lblk Try.f3 11)).wp Try.prog (Exit.inBlock 11 Z) a w := by
  refine wp_loop (fun a' w' => ∃ (k : Nat), k ≤ 20 ∧ Fr 288 (l9E mb nb wb k) a' ∧ LS w0 w' mb tb eb pb fb rb nb wb T F R whose now)
    (fun a' _ => 20 - (intOf (a'.tmps.getD 19 undef)).toNat) ⟨0, Nat.zero_le _, hf, h⟩ ?_
  rintro a' w' ⟨k, hk, hf', h'⟩
  obtain ⟨g, rfl, hgg⟩ := fr_lit288 hf'
  obtain ⟨hg3, hg5, hg6, hg19, -⟩ := hgg
  rw [hg3, hg5, hg6, hg19]
  clear hg3 hg5 hg6 hg19
  have HR := Lib.hid hR
  clear hR hf hf' h
  conv => arg 2; whnf
  by_cases hlt : k < 20
  · have cw := cell_at h'.wh (whoC_get whose hlt)
    have hwr := who_range h'.inv hlt
    obtain ⟨z, hz⟩ : ∃ z, whose k = z := ⟨_, rfl⟩
    rw [hz] at cw hwr
    have HLO := Lib.hid (fun ow (ho : ow = 1 ∨ ow = 2) => l9_loadp (ow := ow) h' ho hlt)
    have HZ := Lib.hid hz
    clear hz h'
    rcases hwr with rfl | hz0
    · go_wp2_with fail
      refine (HLO.out 1 (.inl rfl)).mono ?_
      rintro e w1 ⟨vb, r, rfl, hr, hl, hb⟩
      have hr0 : ¬ r = 0 := by rw [hr, HZ.out]; omega
      have hb0 : (r == 0) = false := by simpa using hr0
      rw [if_neg hr0] at hb
      obtain ⟨va, vc, rfl⟩ := hb.form
      have cw1 := cell_at hl.wh (whoC_get whose hlt)
      rw [HZ.out] at cw1
      have HL := Lib.hid hl
      clear hr hl hb hr0
      go_wp2
      go_quiet ((go_at_call 7; exact Calls.quiet_of_same (l9_numq _)))
      go_wp2
      exact ⟨⟨k + 1, by omega, fr_mk rfl ⟨rfl, rfl, rfl, by go_num, trivial⟩, HL.out.ext (ext_drewN nq (Ext.refl _))⟩, by simp [intOf]; omega⟩
    · have hzp : ∀ (ow : Int), whose k = ow → ow = 1 ∨ ow = 2 → ∀ (w1 : World) (vb : Value) (r : Int), (r = 0 ↔ whose k = ow) → LS w0 w1 mb tb eb pb fb rb nb wb T F R whose now → BytesAt w1 vb (if r = 0 then (now.drop (256 * k)).take 256 else []) →
          r = 0 ∧ w1.cell? ⟨wb, k, none⟩ = some (.int .i64 ow) ∧ ∃ (str : ByteArray) (va : Option Addr) (vc : Nat), vb = .slice va 256 vc ∧ (∀ q, (convert 35 9 (.slice va 256 vc)).run Try.prog (w1.drewN q) = .ok (.string str) (w1.drewN q)) ∧
            ∀ q, (convert 35 9 (.slice (some ⟨nb, 256 * k, none⟩) 256 (5120 - 256 * k))).run Try.prog (w1.drewN q) = .ok (.string str) (w1.drewN q) := by
        intro ow hw ho w1 vb r hr hl hb
        have hr0 : r = 0 := hr.2 hw
        rw [if_pos hr0] at hb
        have hlen : ((now.drop (256 * k)).take 256).length = 256 := by have := hl.nl; simp; omega
        obtain ⟨va, vc, hv⟩ := hb.form
        rw [hlen] at hv
        refine ⟨hr0, by rw [← hw]; exact cell_at hl.wh (whoC_get whose hlt), ⟨((now.drop (256 * k)).take 256).toArray⟩, va, vc, hv, fun q => ?_, fun q => ?_⟩
        · rw [← hv]; exact run_str (hb.ext (ext_drewN q (Ext.refl _)))
        · exact run_str (nowC_bytes ((hl.ext (ext_drewN q (Ext.refl _))).nw) hl.nl (by omega))
      have HZP := Lib.hid hzp
      have hsl := fun W : World => run_slP (W := W) (b := nb) hlt
      clear hzp
      rcases hz0 with rfl | rfl
      · go_wp2_with fail
        refine (HLO.out 1 (.inl rfl)).mono ?_
        rintro e w1 ⟨vb, r, rfl, hr, hl, hb⟩
        obtain ⟨rfl, cw1, str, va, vc, rfl, hs, ht⟩ := HZP.out 1 HZ.out (.inl rfl) w1 vb r hr hl hb
        have HL := Lib.hid hl
        clear hr hl hb
        go_wp2
        go_quiet ((go_at_call 7; exact Calls.quiet_of_same (l9_numq _)))
        go_wp2
        exact ⟨⟨k + 1, by omega, fr_mk rfl ⟨rfl, rfl, rfl, by go_num, trivial⟩, HL.out.ext (ext_drewN nq (Ext.refl _))⟩, by simp [intOf]; omega⟩
      · go_wp2_with fail
        refine (HLO.out 2 (.inr rfl)).mono ?_
        rintro e w1 ⟨vb, r, rfl, hr, hl, hb⟩
        obtain ⟨rfl, cw1, str, va, vc, rfl, hs, ht⟩ := HZP.out 2 HZ.out (.inr rfl) w1 vb r hr hl hb
        have HL := Lib.hid hl
        clear hr hl hb
        go_wp2
        go_quiet ((go_at_call 7; exact Calls.quiet_of_same (l9_numq _)))
        go_wp2
        exact ⟨⟨k + 1, by omega, fr_mk rfl ⟨rfl, rfl, rfl, by go_num, trivial⟩, HL.out.ext (ext_drewN nq (Ext.refl _))⟩, by simp [intOf]; omega⟩
  · obtain rfl : k = 20 := by omega
    have HL := Lib.hid h'
    clear h'
    go_wp2
    exact HR.out _ _ (fr_mk rfl trivial) HL.out.x
end
end Go.Proofs.Ytlafdnbjkkbmfaa
