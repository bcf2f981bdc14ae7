/- An argument that is a slice of calls: what stands in memory; no condition. -/
import Derived.Test.YtlafdnbjkkbmfaaLaw2
import Derived.Deep.Slices
import Derived.Deep.Fields
namespace Go.Proofs.Ytlafdnbjkkbmfaa
open Go.ChangeShapes Go.WideShapes Go.RowKit Go.Deep
section
variable {H : Type} {enc : TypeId × Value → H} {w : World} {base : Nat} {held : Bool}
theorem u8_of_int {n : Int} (h : (Lit.int .u8 n).wf = true) : ∃ b : UInt8, n = (b.toNat : Int) := by
  have h' : IntKind.min .u8 ≤ n ∧ n ≤ IntKind.max .u8 := by simpa [Lit.wf] using h
  have h1 : (0 : Int) ≤ n := h'.1
  have h2 : n ≤ 255 := h'.2
  refine ⟨UInt8.ofNat n.toNat, ?_⟩
  simp
  omega
theorem wf_i64 {n : Int} (h : (Lit.int .i64 n).wf = true) : -9223372036854775808 ≤ n ∧ n ≤ 9223372036854775807 := by
  have h' : IntKind.min .i64 ≤ n ∧ n ≤ IntKind.max .i64 := by simpa [Lit.wf] using h
  exact ⟨h'.1, h'.2⟩
theorem wf_u32 {n : Int} (h : (Lit.int .u32 n).wf = true) : ∃ a : Nat, n = (a : Int) ∧ a < 4294967296 := by
  have h' : IntKind.min .u32 ≤ n ∧ n ≤ IntKind.max .u32 := by simpa [Lit.wf] using h
  have h1 : (0 : Int) ≤ n := h'.1
  have h2 : n ≤ 4294967295 := h'.2
  exact ⟨n.toNat, by omega, by omega⟩
theorem open_bytesIn {fuel : Nat} {v : Value} {x : DataW H × List MemPlace} (h : DataW.trod enc Try.prog w base (fun _ => true) held fuel 35 [v] = some x) : ∃ bs : List UInt8, BytesIn w v bs ∧ bs.length ≤ 9223372036854775807 := by
  rcases open_ints Try.underlying35 Try.underlying5 (by kernel_rfl) h with ⟨hcs, _⟩ | ⟨a, len, cap, zs, hcs, _, hl, hm, hz, _, hc, hwf⟩
  · simp at hcs
    exact ⟨[], ⟨⟨none, 0, hcs⟩, fun h => by simp at h⟩, by simp⟩
  · simp only [if_true] at hz
    simp only [List.cons.injEq, and_true] at hcs
    subst hcs
    simp only [maxLen] at hm
    have hb : ∀ i, i < len → ∃ b : UInt8, zs.getD i 0 = (b.toNat : Int) := fun i hi => u8_of_int (hwf _ (by
      have hi' : i < zs.length := by omega
      simp [hi']))
    refine ⟨(List.range len).map fun i => UInt8.ofNat (zs.getD i 0).toNat, ⟨⟨some a, cap, by simp⟩, fun h0 => ?_⟩, by simp; omega⟩
    simp at h0
    obtain ⟨ab, ao, asp⟩ := a
    have h1 := hc 0 (by omega)
    have hsp : asp = none := by simpa [Addr.add] using World.cell?_spot h1
    subst hsp
    refine .inr ⟨ab, ao, cap, by simp, by simpa using hl, by simpa [maxLen] using hm, World.block_lt_of_cell? _ _ h1, fun j u hu => ?_⟩
    simp only [u8s, List.getElem?_map] at hu
    by_cases hj : j < len
    · have h2 := hc j (by omega)
      obtain ⟨b, hb⟩ := hb j hj
      rw [add_lit] at h2
      rw [h2, hb]
      simp [hj] at hu
      rw [← hu]
      simp at hb
      rw [hb]
      have := b.toNat_lt
      have e : max (b.toNat : Int) 0 % 256 = (b.toNat : Int) := by omega
      rw [e]
    · simp [hj] at hu
set_option maxRecDepth 100000 in
set_option maxHeartbeats 1000000 in
/-- the eight fields of one call -/
theorem open_act {fuel b o : Nat} {cs : List Value} {x : DataW H × List MemPlace} (h : DataW.trod enc Try.prog w base (fun _ => true) held fuel 37 cs = some x) (hc : ∀ j, j < 8 → w.cell? ⟨b, o + j, none⟩ = cs[j]?) : ∃ y, ActAt w b o y := by
  obtain ⟨xs, n, _, _, hlen, hxl, hf⟩ := DataW.trod_struct Try.underlying37 h
  have hl8 : cs.length = 8 := hlen.trans (by kernel_rfl)
  match cs, hl8 with
  | [v0, v1, v2, v3, v4, v5, v6, v7], _ =>
    have hi : ∀ (i : Nat) (t : TypeId) (v : Value), (DataW.trod enc Try.prog w base (fun _ => true) held n t [v] = xs[i]?) → i < xs.length → ∃ y, DataW.trod enc Try.prog w base (fun _ => true) held n t [v] = some y := fun i t v h hlt => ⟨xs[i], by rw [h, List.getElem?_eq_getElem hlt]⟩
    have hx8 : xs.length = 8 := hxl
    obtain ⟨y0, h0⟩ := hi 0 _ _ (hf 0 _ rfl) (by omega)
    obtain ⟨y1, h1⟩ := hi 1 _ _ (hf 1 _ rfl) (by omega)
    obtain ⟨y2, h2⟩ := hi 2 _ _ (hf 2 _ rfl) (by omega)
    obtain ⟨y3, h3⟩ := hi 3 _ _ (hf 3 _ rfl) (by omega)
    obtain ⟨y4, h4⟩ := hi 4 _ _ (hf 4 _ rfl) (by omega)
    obtain ⟨y5, h5⟩ := hi 5 _ _ (hf 5 _ rfl) (by omega)
    obtain ⟨y6, h6⟩ := hi 6 _ _ (hf 6 _ rfl) (by omega)
    obtain ⟨y7, h7⟩ := hi 7 _ _ (hf 7 _ rfl) (by omega)
    obtain ⟨n0, e0, _, w0⟩ := DataW.trod_int Try.underlying3 h0
    obtain ⟨n1, e1, _, w1⟩ := DataW.trod_int Try.underlying3 h1
    obtain ⟨n2, e2, _, w2⟩ := DataW.trod_int Try.underlying3 h2
    obtain ⟨n3, e3, _, w3⟩ := DataW.trod_int Try.underlying3 h3
    obtain ⟨n4, e4, _, w4⟩ := DataW.trod_int Try.underlying3 h4
    obtain ⟨n5, e5, _, w5⟩ := DataW.trod_int Try.underlying33 h5
    obtain ⟨n6, e6, _, w6⟩ := DataW.trod_int Try.underlying34 h6
    obtain ⟨bs, hb, hbl⟩ := open_bytesIn h7
    obtain ⟨a6, e6', l6⟩ := wf_u32 w6
    subst e6'
    simp only [List.cons.injEq, and_true] at e0 e1 e2 e3 e4 e5 e6
    subst e0 e1 e2 e3 e4 e5 e6
    exact ⟨⟨n0, n1, n2, n3, n4, n5, a6, v7, bs⟩, ⟨hc 0 (by omega), hc 1 (by omega), hc 2 (by omega), hc 3 (by omega), hc 4 (by omega), hc 5 (by omega), hc 6 (by omega), hc 7 (by omega), hb, wf_i64 w0, wf_i64 w1, wf_i64 w2, wf_i64 w4, l6, hbl⟩⟩
theorem open_acts {fuel : Nat} {v : Value} {x : DataW H × List MemPlace} (h : DataW.trod enc Try.prog w base (fun _ => true) held fuel 22 [v] = some x) : ∃ L, ActsAt w v L := by
  rcases open_slice Try.underlying22 h with ⟨hcs, _⟩ | ⟨a, len, cap, m, n, D, Pl, hcs, hb, hl, hm, hmm, hx, hi⟩
  · simp only [List.cons.injEq, and_true] at hcs
    exact ⟨[], none, 0, hcs, by simp, fun h => by simp at h⟩
  · simp only [List.cons.injEq, and_true] at hcs
    subst hcs
    simp only [if_true] at hmm
    simp only [maxLen] at hm
    have h8 : Try.prog.cellsOf 37 = 8 := by kernel_rfl
    obtain ⟨ab, ao, asp⟩ := a
    by_cases h0 : 0 < len
    · have hsp : asp = none ∧ ab < w.heap.size := by
        obtain ⟨cs', hc, _⟩ := hi 0 (by omega)
        obtain ⟨_, _, hat⟩ := World.cells?_some hc
        have h1 := hat 0 (by rw [h8]; omega)
        rw [Nat.zero_mul] at h1
        obtain ⟨u, hu⟩ : ∃ u, w.cell? ⟨ab, ao, asp⟩ = some u := by
          have hlen : 0 < cs'.length := by
            obtain ⟨_, hl, _⟩ := World.cells?_some hc
            rw [hl, h8]; omega
          exact ⟨cs'[0], by simpa [Addr.add, hlen] using h1⟩
        exact ⟨World.cell?_spot hu, World.block_lt_of_cell? _ _ hu⟩
      obtain ⟨rfl, hlt⟩ := hsp
      have each : ∀ i, i < len → ∃ y, ActAt w ab (ao + i * 8) y := fun i hil => by
        obtain ⟨cs', hc, ht⟩ := hi i (by omega)
        obtain ⟨_, _, hat⟩ := World.cells?_some hc
        refine open_act ht (fun j hj => ?_)
        have := hat j (by rw [h8]; exact hj)
        rw [h8, add_lit, add_lit] at this
        exact this
      let f : Nat → ActL := fun i => if h : i < len then Classical.choose (each i h) else ⟨0, 0, 0, 0, 0, 0, 0, .slice none 0 0, []⟩
      have hf : ∀ i, i < len → ActAt w ab (ao + i * 8) (f i) := fun i hi => by
        show ActAt w ab (ao + i * 8) (if h : i < len then Classical.choose (each i h) else _)
        rw [dif_pos hi]
        exact Classical.choose_spec (each i hi)
      exact ⟨(List.range len).map f, some ⟨ab, ao, none⟩, cap, by simp, by simp; omega, fun _ => ⟨ab, ao, rfl, hlt, fun i hi => by simpa using hf i (by simpa using hi)⟩⟩
    · obtain rfl : len = 0 := by omega
      exact ⟨[], _, _, rfl, by simp, fun h => by simp at h⟩
end
end Go.Proofs.Ytlafdnbjkkbmfaa
