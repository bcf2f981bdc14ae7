/- the statement's loop over the calls; no condition. -/
import Derived.Test.YtlafdnbjkkbmfaaLaw9
import Derived.Deep.CutBlock
namespace Go.Proofs.Ytlafdnbjkkbmfaa
open Go.RowKit
attribute [local go_sem] run_mf
/-- a call that the statement passes over -/
def skA (x : ActL) : Bool := decide (x.page < 0) || (decide (20 ≤ x.page) || (decide (5120 ≤ (x.at' : Int)) || (decide (x.many < 1) || (decide (600 < x.many) || decide (5120 < (x.at' : Int) + max x.many (x.bytes.length : Int))))))
abbrev l9B (v : Value) (mb nb wb : Nat) (i : Int) : List (Nat × Value) :=
  [(0, v), (3, .pointer (some ⟨mb, 0, none⟩)), (5, .pointer (some ⟨nb, 0, none⟩)), (6, .pointer (some ⟨wb, 0, none⟩)), (7, .int .i64 i)]
theorem and1 (n : Int) : ∃ b : Int, (b = 0 ∨ b = 1) ∧ bits .and .i64 n 1 = b := by
  have h : bits .and .i64 n 1 = IntKind.i64.wrap (((BitVec.ofInt 64 n).toNat % 2 : Nat) : Int) := by
    simp only [bits, BitVec.toNat_and]
    rw [show (BitVec.ofInt IntKind.i64.bits 1).toNat = 1 by decide, Nat.and_one_is_mod]
    rfl
  rw [h]
  rcases Nat.mod_two_eq_zero_or_one (BitVec.ofInt 64 n).toNat with e | e
  · rw [e]; exact ⟨0, .inl rfl, by decide⟩
  · rw [e]; exact ⟨1, .inr rfl, by decide⟩
section
variable {w0 w : World} {mb tb eb pb fb rb nb wb : Nat} {T : List (Int × Ent)} {F : List (Int × Tak)} {R : List (Int × Int)} {whose : Nat → Int} {now : List UInt8} {v : Value} {Z : Exit → Act → World → Prop} {a : Act}
theorem l9_switch {i ow : Int} {xb : Nat} {x : ActL} {wt : Int} {p m : Int} (hf : Fr 288 ((88, .int .i64 wt) :: l9G v mb nb wb i xb ow) a) (h : LS w0 w mb tb eb pb fb rb nb wb T F R whose now) (hx : w.heap[xb]? = some (.cells (actC x) 37 (0, 0))) (hxn : xb ≠ nb) (hxw : xb ≠ wb)
    (ho : ow = 1 ∨ ow = 2) (hpp : x.page = p) (hp0 : 0 ≤ p) (hp : p < 20) (hby : BytesIn w0 x.bv x.bytes) (hab : x.at' + x.bytes.length ≤ 5120) (hmm : x.many = m) (hm : 1 ≤ m) (ham : (x.at' : Int) + m ≤ 5120)
    (hR : ∀ a' w' T' F' whose' now', Fr 288 (l9G v mb nb wb i xb ow) a' → LS w0 w' mb tb eb pb fb rb nb wb T' F' R whose' now' → Z .normal a' w') :
    (Code.block 2 (blk Try.f3 2)).wp Try.prog Z a w := by
  obtain ⟨p', rfl⟩ := Int.eq_ofNat_of_zero_le hp0
  obtain ⟨m', rfl⟩ := Int.eq_ofNat_of_zero_le (by omega : 0 ≤ m)
  by_cases w1 : wt = 1
  · subst w1; exact l9_case1 hf h hx hxn hxw hpp (by omega) ho hR
  · by_cases w2 : wt = 2
    · subst w2; exact l9_case2 hf h hx hpp (by omega) hR
    · by_cases w5 : wt = 5
      · subst w5; exact l9_case5 hf h hx hxn ho hby hab hR
      · exact l9_cased hf h hx w1 w2 w5 ho hmm (by omega) (by omega) hR
set_option maxRecDepth 100000 in
set_option maxHeartbeats 1000000 in
theorem l9_round {L : List ActL} {k : Nat} {x : ActL} {b o c : Nat} (hf : Fr 288 (l9B (.slice (some ⟨b, o, none⟩) L.length c) mb nb wb k) a) (h : LS w0 w mb tb eb pb fb rb nb wb T F R whose now)
    (hk : k < L.length) (hlm : L.length ≤ 40) (hx : ActAt w0 b (o + k * 8) x) (hb : b < w0.heap.size) (hok : okA x = true)
    (hR : ∀ a' w' T' F' whose' now', Fr 288 (l9B (.slice (some ⟨b, o, none⟩) L.length c) mb nb wb (k + 1 : Nat)) a' → LS w0 w' mb tb eb pb fb rb nb wb T' F' R whose' now' → Z .normal a' w') :
    (lblk Try.f3 0).wp Try.prog Z a w := by
  obtain ⟨g, rfl, hgg⟩ := fr_lit288 hf
  obtain ⟨hg0, hg3, hg5, hg6, hg7, -⟩ := hgg
  rw [hg0, hg3, hg5, hg6, hg7]
  clear hg0 hg3 hg5 hg6 hg7
  have hc : ∀ i u, w0.cell? ⟨b, o + k * 8 + i, none⟩ = some u → w.cell? ⟨b, o + k * 8 + i, none⟩ = some u := fun i u hu => (h.x.cell (p := ⟨b, o + k * 8 + i, none⟩) hb).trans hu
  have c0 := hc 0 _ hx.c0
  have c1 := hc 1 _ hx.c1
  have c2 := hc 2 _ hx.c2
  have c3 := hc 3 _ hx.c3
  have c4 := hc 4 _ hx.c4
  have c5 := hc 5 _ hx.c5
  have c6 := hc 6 _ hx.c6
  have c7 := hc 7 _ hx.c7
  rw [Nat.add_zero] at c0
  clear hc
  obtain ⟨⟨va, vc, hva⟩, _⟩ := hx.by'
  obtain ⟨n, hn⟩ : ∃ n, x.bytes.length = n := ⟨_, rfl⟩
  obtain ⟨aa, haa⟩ : ∃ n, x.at' = n := ⟨_, rfl⟩
  obtain ⟨p, hp⟩ : ∃ n, x.page = n := ⟨_, rfl⟩
  obtain ⟨m, hm⟩ : ∃ n, x.many = n := ⟨_, rfl⟩
  obtain ⟨wt, hwt⟩ : ∃ n, x.what = n := ⟨_, rfl⟩
  obtain ⟨oo, hoo⟩ : ∃ n, x.owner = n := ⟨_, rfl⟩
  have hact : actC x = #[.int .i64 wt, .int .i64 p, .int .i64 oo, .int .i64 x.payer, .int .i64 m, .int .i64 x.may, .int .u32 (aa : Int), .slice va n vc] := by rw [actC, hwt, hp, hoo, hm, haa, hva, hn]
  have W1 := hx.w1
  have W4 := hx.w4
  have W6 := hx.w6
  have W7 := hx.w7
  have W8 : x.bytes.length ≤ 600 := by simp [okA] at hok; omega
  rw [hp] at W1
  rw [hm] at W4
  rw [haa] at W6
  rw [hn] at W7 W8
  rw [hva, hn] at c7
  rw [haa] at c6
  rw [hm] at c4
  rw [hoo] at c2
  rw [hp] at c1
  rw [hwt] at c0
  have hgo : skA x = (decide (p < 0) || (decide (20 ≤ p) || (decide (5120 ≤ (aa : Int)) || (decide (m < 1) || (decide (600 < m) || decide (5120 < (aa : Int) + max m (n : Int))))))) := by rw [skA, hp, haa, hm, hn]
  have HR := Lib.hid hR
  have HX := Lib.hid hx
  have HH := Lib.hid h
  have HA := Lib.hid hact
  have HG := Lib.hid hgo
  have HP := Lib.hid hp
  have HM := Lib.hid hm
  have HN := Lib.hid hn
  have HAA := Lib.hid haa
  clear hR hf hx h hact hgo hp hm hn haa hoo hwt hva
  conv => arg 2; whnf
  by_cases k1 : p < 0
  · go_wp2
    refine HR.out _ _ _ _ _ _ (fr_mk rfl ⟨rfl, rfl, rfl, rfl, by go_num, trivial⟩) (HH.out.ext ?_); exact ext_n _ (Ext.refl _)
  · by_cases k2 : 20 ≤ p
    · go_wp2
      refine HR.out _ _ _ _ _ _ (fr_mk rfl ⟨rfl, rfl, rfl, rfl, by go_num, trivial⟩) (HH.out.ext ?_); exact ext_n _ (Ext.refl _)
    · by_cases k3 : 5120 ≤ (aa : Int)
      · go_wp2
        refine HR.out _ _ _ _ _ _ (fr_mk rfl ⟨rfl, rfl, rfl, rfl, by go_num, trivial⟩) (HH.out.ext ?_); exact ext_n _ (Ext.refl _)
      · by_cases k4 : m < 1
        · go_wp2
          refine HR.out _ _ _ _ _ _ (fr_mk rfl ⟨rfl, rfl, rfl, rfl, by go_num, trivial⟩) (HH.out.ext ?_); exact ext_n _ (Ext.refl _)
        · by_cases k5 : 600 < m
          · go_wp2
            refine HR.out _ _ _ _ _ _ (fr_mk rfl ⟨rfl, rfl, rfl, rfl, by go_num, trivial⟩) (HH.out.ext ?_); exact ext_n _ (Ext.refl _)
          · obtain ⟨mx, hmx⟩ : ∃ mx, (if m < (n : Int) then (n : Int) else m) = mx := ⟨_, rfl⟩
            have hmx2 : 1 ≤ mx ∧ mx ≤ 600 ∧ m ≤ mx ∧ (n : Int) ≤ mx := by
              rw [← hmx]
              split <;> omega
            obtain ⟨x1, x2, x3, x4⟩ := hmx2
            by_cases k6 : 5120 < (aa : Int) + mx
            · go_wp2
              refine HR.out _ _ _ _ _ _ (fr_mk rfl ⟨rfl, rfl, rfl, rfl, by go_num, trivial⟩) (HH.out.ext ?_); exact ext_n _ (Ext.refl _)
            · obtain ⟨bb, hbb, hand⟩ := and1 oo
              have y1 : 0 ≤ bb := by omega
              have y2 : bb ≤ 1 := by omega
              go_upto_block 2 with fail
              have hxb := World.alloc_heap_new w (.cells #[.int .i64 wt, .int .i64 p, .int .i64 oo, .int .i64 x.payer, .int .i64 m, .int .i64 x.may, .int .u32 (aa : Int), .slice va n vc] 37)
              rw [← HA.out] at hxb ⊢
              have HW := HH.out.ext (ext_n (.cells (actC x) 37) (Ext.refl w))
              have hn1 := lt_of_block HH.out.nw
              have hn2 := lt_of_block HH.out.wh
              refine l9_switch (xb := w.heap.size) (i := (k : Int)) (ow := 1 + bb) (wt := wt) (p := p) (m := m) (x := x) (fr_mk rfl ⟨rfl, rfl, rfl, rfl, rfl, rfl, rfl, rfl, trivial⟩) HW hxb (by omega) (by omega) (by omega) HP.out (by omega) (by omega) HX.out.by' (by have := HN.out; have := HAA.out; omega) HM.out (by omega) (by have := HAA.out; omega) ?_
              intro a' w' T' F' whose' now' hf' hl'
              have HL := Lib.hid hl'
              clear hl' HW hxb hn1 hn2 c0 c1 c2 c3 c4 c5 c6 c7
              obtain ⟨g, rfl, hgg⟩ := fr_lit288 hf'
              obtain ⟨hg0, hg3, hg5, hg6, hg7, hg8, hg9, -⟩ := hgg
              rw [hg0, hg3, hg5, hg6, hg7, hg8, hg9]
              clear hg0 hg3 hg5 hg6 hg7 hg8 hg9
              clear hf'
              go_wp2
              exact HR.out _ _ _ _ _ _ (fr_mk rfl ⟨rfl, rfl, rfl, rfl, by go_num, trivial⟩) HL.out
end
end Go.Proofs.Ytlafdnbjkkbmfaa
