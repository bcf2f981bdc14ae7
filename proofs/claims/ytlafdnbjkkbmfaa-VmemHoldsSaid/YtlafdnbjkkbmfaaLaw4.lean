/- the statement's own loops; no condition. -/
import Derived.Test.YtlafdnbjkkbmfaaLaw3
import Derived.Test.YtlafdnbjkkbmfaaFra
namespace Go.Proofs.Ytlafdnbjkkbmfaa
open Go.RowKit
attribute [local go_sem] run_mf
abbrev l9G (v : Value) (mb nb wb : Nat) (i : Int) (xb : Nat) (ow : Int) : List (Nat × Value) :=
  [(0, v), (3, .pointer (some ⟨mb, 0, none⟩)), (5, .pointer (some ⟨nb, 0, none⟩)), (6, .pointer (some ⟨wb, 0, none⟩)), (7, .int .i64 i), (8, .pointer (some ⟨xb, 0, none⟩)), (9, .int .i64 ow)]
def nowC (now : List UInt8) : Array Value := (u8s now).toArray
theorem nowC_set (now : List UInt8) (i : Nat) (b : UInt8) (h : i < now.length) : (nowC now).setIfInBounds i (.int .u8 (b.toNat : Int)) = nowC (splice now i [b]) := by
  apply Array.ext_getElem?
  intro j
  rw [Array.getElem?_setIfInBounds]
  have hs := splice_get now i [b] (by simp; omega) j
  simp only [nowC, u8s, List.getElem?_toArray, List.getElem?_map, hs, List.size_toArray, List.length_map, List.length_singleton]
  by_cases hj : i = j
  · subst hj
    simp [h]
  · rw [if_neg hj, if_neg (by omega)]
theorem frz {w : World} {b i : Nat} {c : Array Value} {t : TypeId} (h : w.heap[b]? = some (.cells c t (0, 0))) : w.frozen? ⟨b, i, none⟩ = false := by
  simp [World.frozen?, h]
theorem upd_setc {S : List Nat} {w w' : World} {b i : Nat} (u : Value) (h : Upd S w w') (hb : b ∈ S) : Upd S w (w'.setCell ⟨b, i, none⟩ u) :=
  ⟨h.os, h.tape, h.output, by simp [World.setCell]; exact h.size, fun k hk hs => (Below.heap_setCell _ _ _ _ (by rintro rfl; exact hs hb)).trans (h.block k hk hs)⟩
theorem nowC_cell {now : List UInt8} {i : Nat} (h : i < now.length) : (nowC now)[i]? = some (.int .u8 (now[i].toNat : Int)) := by
  simp [nowC, u8s, h]
theorem splice_snoc {α : Type} (L : List α) (o : Nat) (c : List α) (x : α) (h : o + c.length < L.length) : splice (splice L o c) (o + c.length) [x] = splice L o (c ++ [x]) := by
  have hl : (splice L o c).length = L.length := length_splice _ _ _ (by omega)
  apply List.ext_getElem?
  intro i
  rw [splice_get _ _ _ (by simp; omega), splice_get _ _ _ (by omega), splice_get _ _ _ (by simp; omega)]
  simp only [List.length_append, List.length_singleton]
  by_cases h1 : o + c.length ≤ i ∧ i < o + c.length + 1
  · rw [if_pos h1, if_pos (by omega)]
    obtain rfl : i = o + c.length := by omega
    rw [List.getElem?_append_right (by omega)]
    simp
  · rw [if_neg h1]
    by_cases h2 : o ≤ i ∧ i < o + c.length
    · rw [if_pos h2, if_pos (by omega), List.getElem?_append_left (by omega)]
    · rw [if_neg h2, if_neg (by omega)]
section
variable {v : Value} {mb nb wb xb : Nat} {i ow : Int} {R : Exit → Act → World → Prop} {a : Act} {w : World} {t : TypeId}
set_option maxRecDepth 100000 in
set_option maxHeartbeats 1000000 in
theorem l9_zero {p : Nat} {now : List UInt8} {cs : Array Value} {tx : TypeId} {fr : Nat × Nat} (hf : Fr 288 ((10, .int .i64 0) :: l9G v mb nb wb i xb ow) a) (hx : w.heap[xb]? = some (.cells cs tx fr)) (hp : cs[1]? = some (.int .i64 (p : Int))) (hp20 : p < 20) (hnow : now.length = 5120)
    (hb : w.heap[nb]? = some (.cells (nowC now) t (0, 0))) (hne : xb ≠ nb)
    (hR : ∀ a' w', Fr 288 (l9G v mb nb wb i xb ow) a' → Upd [nb] w w' → w'.heap[nb]? = some (.cells (nowC (splice now (256 * p) (List.replicate 256 0))) t (0, 0)) → R .normal a' w') :
    (Code.loop (lblk Try.f3 5)).wp Try.prog (Exit.inBlock 5 R) a w := by
  refine wp_loop (fun a' w' => ∃ k : Nat, k ≤ 256 ∧ Fr 288 ((10, .int .i64 k) :: l9G v mb nb wb i xb ow) a' ∧ Upd [nb] w w' ∧ w'.heap[nb]? = some (.cells (nowC (splice now (256 * p) (List.replicate k 0))) t (0, 0)))
    (fun a' _ => 256 - (intOf (a'.tmps.getD 10 undef)).toNat) ⟨0, Nat.zero_le _, hf, Upd.refl _ _, by simpa [splice] using hb⟩ ?_
  rintro a' w' ⟨k, hk, hf', hu, hb'⟩
  have c1 := (hu.cell (a := ⟨xb, 1, none⟩) (lt_of_block hx) (by simpa using hne)).trans (cell_at hx hp)
  obtain ⟨g, rfl, hgg⟩ := fr_lit288 hf'
  obtain ⟨hg10, hg0, hg3, hg5, hg6, hg7, hg8, hg9, -⟩ := hgg
  rw [hg10, hg0, hg3, hg5, hg6, hg7, hg8, hg9]
  clear hg10 hg0 hg3 hg5 hg6 hg7 hg8 hg9
  conv => arg 2; whnf
  by_cases hlt : k < 256
  · have hls : (splice now (256 * p) (List.replicate k (0 : UInt8))).length = now.length := length_splice _ _ _ (by simp; omega)
    obtain ⟨u, cb⟩ : ∃ u, w'.cell? ⟨nb, 256 * p + k, none⟩ = some (.int .u8 u) := ⟨_, cell_at hb' (nowC_cell (i := 256 * p + k) (by omega))⟩
    have cf := frz (i := 256 * p + k) hb'
    have hb2 := heap_setc (i := 256 * p + k) (u := .int .u8 0) hb'
    have hss : splice (splice now (256 * p) (List.replicate k (0 : UInt8))) (256 * p + k) [0] = splice now (256 * p) (List.replicate (k + 1) 0) := by
      have := splice_snoc now (256 * p) (List.replicate k (0 : UInt8)) 0 (by simp; omega)
      rw [List.length_replicate, ← List.replicate_succ'] at this
      exact this
    rw [show (Value.int .u8 0) = .int .u8 (((0 : UInt8).toNat : Nat) : Int) from rfl, nowC_set _ _ _ (by omega), hss] at hb2
    have HB2 := Lib.hid hb2
    clear hb2 hss hls hf hf' hb hb' hR
    go_wp2
    exact ⟨⟨k + 1, by omega, fr_mk rfl ⟨by go_num, rfl, rfl, rfl, rfl, rfl, rfl, rfl, trivial⟩, upd_setc _ hu (by simp), HB2.out⟩, by simp [intOf]; omega⟩
  · obtain rfl : k = 256 := by omega
    have HB := Lib.hid hb'
    clear hb' hb hf hf'
    go_wp2
    exact hR _ _ (fr_mk rfl ⟨rfl, rfl, rfl, rfl, rfl, rfl, rfl, trivial⟩) hu HB.out
end
end Go.Proofs.Ytlafdnbjkkbmfaa
