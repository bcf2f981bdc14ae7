/- Rows of bytes: what a slice holds; slices.Clone; no condition. -/
import Derived.Laws.AppendOwnNone
import Derived.Laws.CopyOwn
import Derived.Lib.AppendZerosOnto
import Derived.Lib.SliceRun
import Derived.Test.YtlafdnbjkkbmfaaTk
namespace Go.Proofs.Ytlafdnbjkkbmfaa
open Go.RowKit
attribute [local go_sem] run_mf
/-- a slice of bytes, and which -/
def BytesAt (w : World) (v : Value) (bs : List UInt8) : Prop :=
  (v = .slice none 0 0 ∧ bs = []) ∨ ∃ b o cap, v = .slice (some ⟨b, o, none⟩) bs.length cap ∧ bs.length ≤ cap ∧ cap ≤ maxLen ∧ b < w.heap.size ∧ ∀ j u, (u8s bs)[j]? = some u → w.cell? ⟨b, o + j, none⟩ = some u
theorem u8s_len (bs : List UInt8) : (u8s bs).length = bs.length := by simp [u8s]
theorem u8s_app (a b : List UInt8) : u8s (a ++ b) = u8s a ++ u8s b := by simp [u8s]
theorem u8s_one (bs : List UInt8) : ∀ u ∈ u8s bs, u.oneCell' = true := by
  intro u hu
  simp [u8s] at hu
  obtain ⟨a, _, rfl⟩ := hu
  rfl
theorem BytesAt.ext {w w' : World} {v : Value} {bs : List UInt8} (h : BytesAt w v bs) (hx : Ext w w') : BytesAt w' v bs := by
  rcases h with h | ⟨b, o, cap, h1, h2, h3, h4, h5⟩
  · exact .inl h
  · exact .inr ⟨b, o, cap, h1, h2, h3, Nat.lt_of_lt_of_le h4 hx.size, fun j u hu => (hx.cell (p := ⟨b, o + j, none⟩) h4).trans (h5 j u hu)⟩
theorem BytesAt.of_owns {w : World} {B : Nat} {e : TypeId} {v : Value} {bs : List UInt8} {n : Nat} (h : w.ownsRow B e 1 v n (u8s bs)) : BytesAt w v bs := by
  obtain ⟨hl, h⟩ := h
  rw [u8s_len, Nat.mul_one] at hl
  subst hl
  rcases h with ⟨rfl, h0⟩ | ⟨g, cap, cur, rfl, hB, hg, hn, hm, hs, ht⟩
  · exact .inl ⟨rfl, List.eq_nil_of_length_eq_zero h0⟩
  · refine .inr ⟨g, 0, cap, rfl, hn, hm, lt_of_block hg, fun j u hu => ?_⟩
    rw [← ht, List.getElem?_take] at hu
    split at hu
    · exact cell_at hg (by simpa using hu)
    · cases hu
theorem byteInfo : ∃ i, Try.prog.info? 5 = some i ∧ i.zero = some (.int .u8 0) ∧ i.size = 1 ∧ i.bytes = 1 := by
  have : (Try.prog.info? 5).map (fun i => (i.zero, i.size, i.bytes)) = some (some (.int .u8 0), 1, 1) := by kernel_rfl
  cases h : Try.prog.info? 5 with
  | none => rw [h] at this; cases this
  | some i => rw [h] at this; simp at this; exact ⟨i, rfl, this.1, this.2.1, this.2.2⟩
theorem ext_grown {w w1 w2 : World} {v : Value} (h : Ext w w1) (hg : w1.grownBy w2 v.ownBlock) (hb : ∀ k, v.ownBlock = some k → w.heap.size ≤ k) : Ext w w2 :=
  ⟨hg.os.trans h.os, hg.tape.trans h.tape, hg.output.trans h.output, Nat.le_trans h.size hg.size, fun k hk => (hg.block k (Nat.lt_of_lt_of_le hk h.size) (fun he => by have := hb k he.symm; omega)).trans (h.block k hk)⟩
theorem add_lit (b o j : Nat) : (⟨b, o, none⟩ : Addr).add j = ⟨b, o + j, none⟩ := by unfold Addr.add; split <;> simp_all
/-- bytes behind a row that the call itself made -/
theorem run_append_b {w : World} {B ty : Nat} {v x : Value} {xs bs : List UInt8} (hown : w.ownsRow B 5 1 v xs.length (u8s xs)) (hx : BytesAt w x bs) (hn : xs.length + bs.length ≤ 1000000000) (hB : B ≤ w.heap.size) :
    ∃ v' w', (Builtin.append_ #[35, 35] ty #[v, x]).run Try.prog w = .ok v' w' ∧ w'.ownsRow B 5 1 v' (xs ++ bs).length (u8s (xs ++ bs)) ∧ w.grownBy w' v.ownBlock ∧ (v' = .slice none 0 0 ↔ v = .slice none 0 0 ∧ bs = []) := by
  obtain ⟨i, hi, hz, hs, hb⟩ := byteInfo
  rcases hx with ⟨rfl, rfl⟩ | ⟨b, o, cap, rfl, h1, h2, h3, h4⟩
  · have hrun := run_append_owned_none (P := Try.prog) (w := w) B 35 ty 5 i 1 Try.underlying35 hi v _ _ hown
    refine ⟨_, _, hrun, by simpa using hown, ⟨rfl, rfl, rfl, Nat.le_refl _, fun _ _ _ => rfl⟩, by simp⟩
  · obtain ⟨v', w', hrun, ho, hg, hnil⟩ := run_append_own (P := Try.prog) w B 35 ty 5 i (.int .u8 0) 1 1 Try.underlying35 hi hz hs hb rfl (by decide) v xs.length (u8s xs) hown ⟨b, o, none⟩ bs.length cap (u8s bs) (by rw [u8s_len]; simp)
      (fun j u hu => by rw [add_lit]; exact h4 j u hu) (u8s_one bs) (by simp [maxLen]; omega) (by omega) hB
    refine ⟨v', w', hrun, by rw [List.length_append, u8s_app]; exact ho, hg, by rw [hnil]; simp⟩
set_option maxRecDepth 100000 in
set_option maxHeartbeats 1000000 in
theorem s_clone {w : World} {v : Value} {bs : List UInt8} (h : BytesAt w v bs) (hn : bs.length ≤ 1000000000) :
    Calls Try.prog 82 #[v] w fun e w' => ∃ v', e = .returned v' ∧ BytesAt w' v' bs ∧ Ext w w' ∧ (v' = .slice none 0 0 ↔ v = .slice none 0 0) := by
  have hnl := fun (a : Option Addr) (n c : Nat) => Lib.run_eql_slice_nil (P := Try.prog) w _ _ a n c 0 0 Try.underlying35
  rcases h with ⟨rfl, rfl⟩ | hh
  · go_enter Try.func82, Try.ntmps82
    go_wp2
    go_ret
    exact ⟨_, rfl, .inl ⟨rfl, rfl⟩, Ext.refl _, by simp⟩
  · have hB : BytesAt w v bs := .inr hh
    obtain ⟨b, o, cap, rfl, h1, h2, h3, h4⟩ := hh
    have hown : (w.alloc (.cells #[] 5)).ownsRow w.heap.size 5 1 (.slice (some ⟨w.heap.size, 0, none⟩) 0 0) 0 (u8s []) := World.ownsRow_made w #[] 0 (Nat.le_refl _) (by simp [maxLen]) (by simp)
    obtain ⟨v', w', hrun, ho, hg, hnil⟩ := run_append_b (ty := 35) (xs := []) hown (hB.ext (ext_n _ (Ext.refl _))) (by simpa using hn) (by simp)
    have hx' : Ext w w' := ext_grown (ext_n _ (Ext.refl _)) hg (fun k hk => by simp [Value.ownBlock] at hk; omega)
    clear hown hg h4 hB
    go_enter Try.func82, Try.ntmps82
    go_wp2_with (at_builtin; refine Lib.wpList_append_run _ rfl _ _ _ _ rfl _ _ rfl rfl _ _ hrun ?_)
    go_ret
    refine ⟨v', rfl, .of_owns ho, hx', by rw [hnil]; simp⟩
set_option maxRecDepth 100000 in
set_option maxHeartbeats 1000000 in
theorem s_grow {w : World} {n : Nat} (hn : n ≤ 1000000000) :
    Calls Try.prog 86 #[.slice none 0 0, .int .i64 n] w fun e w' => ∃ v', e = .returned v' ∧ w'.ownsRow w.heap.size 5 1 v' 0 (u8s []) ∧ Ext w w' := by
  obtain ⟨i, hi, hz, hs, hb⟩ := byteInfo
  have hneg : ((n : Int) < 0) = False := by simp
  by_cases h0 : n = 0
  · subst h0
    go_enter Try.func86, Try.ntmps86
    go_wp2
    go_ret
    exact ⟨_, rfl, World.ownsRow_nil _ _ _ _, Ext.refl _⟩
  · have hrun := Lib.run_append_nil_zeros (P := Try.prog) w 35 3 35 5 i (.int .u8 0) .i64 .i64 Try.underlying35 Try.underlying3 hi hz n (by omega) (by omega) (by omega) (by rw [hb]; omega)
    have hge := grownCap_ge w n 0 5
    have hle := grownCap_le_maxLen w n 0 5 (by simp only [maxLen]; omega)
    obtain ⟨cap, hcap⟩ : ∃ cap, cap = grownCap w n 0 5 := ⟨_, rfl⟩
    rw [← hcap] at hrun hge hle
    obtain ⟨cur, hcur⟩ : ∃ cur : Array Value, cur = Builtin.zeroCells (Value.int .u8 0).cells n ++ Builtin.zeroCells (Value.int .u8 0).cells (cap - n) := ⟨_, rfl⟩
    rw [← hcur] at hrun
    have hcs : cur.size = cap := by rw [hcur, Array.size_append, size_zeroCells, size_zeroCells]; simp [Value.cells]; omega
    have hown : (w.drew.alloc (.cells cur 5)).ownsRow w.heap.size 5 1 (.slice (some ⟨w.heap.size, 0, none⟩) 0 cap) 0 (u8s []) :=
      ⟨rfl, .inr ⟨w.heap.size, cap, cur, rfl, Nat.le_refl _, World.alloc_heap_new _ _, Nat.zero_le _, hle, by rw [hcs]; simp, rfl⟩⟩
    have hx : Ext w (w.drew.alloc (.cells cur 5)) := ext_n _ (ext_drew (Ext.refl _))
    obtain ⟨W, hW⟩ : ∃ W, W = w.drew.alloc (.cells cur 5) := ⟨_, rfl⟩
    rw [← hW] at hrun hown hx
    clear hW hcs hcur hcap hi hz hs hb
    have hpos : ((0 : Int) < (n : Int)) = True := by simp; omega
    have hgt : decide ((0 : Int) < (n : Int)) = true := by simp; omega
    have hwr : IntKind.i64.wrap (n : Int) = n := IntWalk.i64_in _ (by omega)
    go_enter Try.func86, Try.ntmps86
    go_wp2_with (at_builtin; refine Lib.wpList_append_run _ rfl _ _ _ _ rfl _ _ rfl rfl _ _ hrun ?_)
    go_ret
    exact ⟨_, rfl, hown, hx⟩
theorem BytesAt.form {w : World} {v : Value} {bs : List UInt8} (h : BytesAt w v bs) : ∃ a c, v = .slice a bs.length c := by
  rcases h with ⟨rfl, rfl⟩ | ⟨b, o, cap, rfl, _⟩
  · exact ⟨_, _, rfl⟩
  · exact ⟨_, _, rfl⟩
def lensV (L : List (Value × List UInt8)) : Nat := (L.map (·.2.length)).sum
def joinV (L : List (Value × List UInt8)) : List UInt8 := (L.map (·.2)).flatten
theorem joinV_len (L : List (Value × List UInt8)) : (joinV L).length = lensV L := by simp [joinV, lensV, List.length_flatten, Function.comp_def]
theorem lensV_take {L : List (Value × List UInt8)} {k : Nat} (h : k < L.length) : lensV (L.take (k + 1)) = lensV (L.take k) + L[k].2.length := by
  simp only [lensV, List.take_succ_eq_append_getElem h, List.map_append, List.sum_append, List.map_cons, List.map_nil, List.sum_cons, List.sum_nil, Nat.add_zero]
theorem joinV_take {L : List (Value × List UInt8)} {k : Nat} (h : k < L.length) : joinV (L.take (k + 1)) = joinV (L.take k) ++ L[k].2 := by
  simp only [joinV, List.take_succ_eq_append_getElem h, List.map_append, List.flatten_append, List.map_cons, List.map_nil, List.flatten_cons, List.flatten_nil, List.append_nil]
theorem lensV_le (L : List (Value × List UInt8)) (k : Nat) : lensV (L.take k) ≤ lensV L := by
  have h : lensV L = lensV (L.take k) + lensV (L.drop k) := by
    simp only [lensV]
    rw [← List.sum_append, ← List.map_append, List.take_append_drop]
  omega
set_option maxRecDepth 100000 in
set_option maxHeartbeats 1000000 in
theorem s_concat {w : World} {lb : Nat} (L : List (Value × List UInt8)) (hlb : lb < w.heap.size) (hlen : L.length < 1000) (hsum : lensV L ≤ 1000000000)
    (hc : ∀ k (h : k < L.length), w.cell? ⟨lb, k, none⟩ = some L[k].1 ∧ BytesAt w L[k].1 L[k].2) :
    Calls Try.prog 83 #[.slice (some ⟨lb, 0, none⟩) L.length L.length] w fun e w' => ∃ v', e = .returned v' ∧ BytesAt w' v' (joinV L) ∧ Ext w w' := by
  have HC := Lib.hid hc
  have HS := Lib.hid hsum
  clear hc
  go_enter Try.func83, Try.ntmps83
  go_wp2
  go_loopw [3, 11] (fun sz i wr => ∃ k : Nat, k ≤ L.length ∧ i = .int .i64 k ∧ sz = .int .i64 (lensV (L.take k) : Nat) ∧ w = wr) (fun _ i _ => L.length - (intOf i).toNat)
  case atStart => exact ⟨0, Nat.zero_le _, rfl, rfl, rfl⟩
  case round =>
    obtain ⟨k, hk, rfl, rfl, rfl⟩ := hrel
    by_cases hlt : k < L.length
    · obtain ⟨hc1, hc2⟩ := HC.out k hlt
      obtain ⟨a, c, hv⟩ := hc2.form
      rw [hv] at hc1
      have hle := lensV_le L (k + 1)
      have htk := lensV_take hlt
      rw [htk] at hle
      obtain ⟨m, hm⟩ : ∃ m, m = lensV (L.take k) := ⟨_, rfl⟩
      obtain ⟨d, hd⟩ : ∃ d, d = L[k].2.length := ⟨_, rfl⟩
      rw [← hm, ← hd] at hle
      rw [← hd] at hc1
      rw [← hm]
      rw [← hm, ← hd] at htk
      have htkH := Lib.hid htk
      clear htk hm hd hv
      go_wp2
      exact ⟨⟨k + 1, by omega, by go_num, by rw [htkH.out]; go_num, by first | rfl | trivial⟩, by simp [intOf]; omega⟩
    · obtain rfl : k = L.length := by omega
      rw [List.take_length]
      obtain ⟨m, hm⟩ : ∃ m, m = lensV L := ⟨_, rfl⟩
      rw [← hm]
      rw [← hm] at hsum
      clear hm
      go_wp2_with fail
      refine (s_grow hsum).mono ?_
      rintro e w1 ⟨v1, rfl, hown1, hx1⟩
      go_wp2
      go_loopw [6, 27] (fun r i wr => ∃ k : Nat, k ≤ L.length ∧ i = .int .i64 k ∧ wr.ownsRow w.heap.size 5 1 r (joinV (L.take k)).length (u8s (joinV (L.take k))) ∧ Ext w wr) (fun _ i _ => L.length - (intOf i).toNat)
      case atStart => exact ⟨0, Nat.zero_le _, rfl, hown1, hx1⟩
      case round =>
        obtain ⟨k, hk, rfl, hown, hx⟩ := hrel
        by_cases hlt : k < L.length
        · obtain ⟨hc1, hc2⟩ := HC.out k hlt
          replace hc1 := (hx.cell (p := ⟨lb, k, none⟩) hlb).trans hc1
          replace hc2 := hc2.ext hx
          have hle := lensV_le L (k + 1)
          rw [← joinV_len, joinV_take hlt, List.length_append] at hle
          have hlb2 : lb < wr.heap.size := Nat.lt_of_lt_of_le hlb hx.size
          obtain ⟨v', w', hrun, ho, hg, hnil⟩ := run_append_b (ty := 35) hown hc2 (by have := HS.out; omega) hx.size
          rw [← joinV_take hlt] at ho
          have hx' : Ext w w' := ext_grown hx hg (fun k hk => (hown.lt k hk).1)
          obtain ⟨s, hs⟩ : ∃ s, s = L[k].1 := ⟨_, rfl⟩
          rw [← hs] at hc1 hrun
          clear hown hg hnil hs hle hc2 hown1
          go_wp2_with (at_builtin; refine Lib.wpList_append_run _ rfl _ _ _ _ rfl _ _ rfl rfl _ _ hrun ?_)
          exact ⟨⟨k + 1, by omega, by go_num, ho, hx'⟩, by simp [intOf]; omega⟩
        · obtain rfl : k = L.length := by omega
          rw [List.take_length] at hown
          go_wp2
          go_ret
          exact ⟨_, rfl, .of_owns hown, hx⟩
set_option maxRecDepth 100000 in
set_option maxHeartbeats 1000000 in
theorem w_joined {w : World} {lb : Nat} (L : List (Value × List UInt8)) (hlb : lb < w.heap.size) (hlen : L.length < 1000) (hsum : lensV L ≤ 1000000000)
    (hc : ∀ k (h : k < L.length), w.cell? ⟨lb, k, none⟩ = some L[k].1 ∧ BytesAt w L[k].1 L[k].2) :
    Calls Try.prog 60 #[.slice (some ⟨lb, 0, none⟩) L.length L.length] w fun e w' => ∃ v', e = .returned v' ∧ BytesAt w' v' (joinV L) ∧ Ext w w' := by
  have h := s_concat L hlb hlen hsum hc
  clear hc
  go_enter Try.func60, Try.ntmps60
  go_wp2_with fail
  refine h.mono ?_
  rintro e w1 ⟨v1, rfl, hb, hx⟩
  go_wp2
  go_ret
  exact ⟨_, rfl, hb, hx⟩
end Go.Proofs.Ytlafdnbjkkbmfaa
