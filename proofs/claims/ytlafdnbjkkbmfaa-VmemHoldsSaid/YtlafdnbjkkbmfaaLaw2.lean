/- the statement's own functions: few; no condition. -/
import Derived.Test.YtlafdnbjkkbmfaaLaw1
namespace Go.Proofs.Ytlafdnbjkkbmfaa
open Go.RowKit
attribute [local go_sem] run_mf
structure ActL where
  what : Int
  page : Int
  owner : Int
  payer : Int
  many : Int
  may : Int
  at' : Nat
  bv : Value
  bytes : List UInt8
/-- a slice's bytes; of an empty one the address is not known -/
def BytesIn (w : World) (v : Value) (bs : List UInt8) : Prop := (∃ a c, v = .slice a bs.length c) ∧ (0 < bs.length → BytesAt w v bs)
theorem BytesIn.ext {w w' : World} {v : Value} {bs : List UInt8} (h : BytesIn w v bs) (hx : Ext w w') : BytesIn w' v bs := ⟨h.1, fun h0 => (h.2 h0).ext hx⟩
structure ActAt (w : World) (b o : Nat) (x : ActL) : Prop where
  c0 : w.cell? ⟨b, o, none⟩ = some (.int .i64 x.what)
  c1 : w.cell? ⟨b, o + 1, none⟩ = some (.int .i64 x.page)
  c2 : w.cell? ⟨b, o + 2, none⟩ = some (.int .i64 x.owner)
  c3 : w.cell? ⟨b, o + 3, none⟩ = some (.int .i64 x.payer)
  c4 : w.cell? ⟨b, o + 4, none⟩ = some (.int .i64 x.many)
  c5 : w.cell? ⟨b, o + 5, none⟩ = some (.int .i64 x.may)
  c6 : w.cell? ⟨b, o + 6, none⟩ = some (.int .u32 (x.at' : Int))
  c7 : w.cell? ⟨b, o + 7, none⟩ = some x.bv
  by' : BytesIn w x.bv x.bytes
  w0 : -9223372036854775808 ≤ x.what ∧ x.what ≤ 9223372036854775807
  w1 : -9223372036854775808 ≤ x.page ∧ x.page ≤ 9223372036854775807
  w2 : -9223372036854775808 ≤ x.owner ∧ x.owner ≤ 9223372036854775807
  w4 : -9223372036854775808 ≤ x.many ∧ x.many ≤ 9223372036854775807
  w6 : x.at' < 4294967296
  w7 : x.bytes.length ≤ 9223372036854775807
def ActsAt (w : World) (v : Value) (L : List ActL) : Prop :=
  ∃ av c, v = .slice av L.length c ∧ L.length ≤ 9223372036854775807 ∧ (0 < L.length → ∃ b o, av = some ⟨b, o, none⟩ ∧ b < w.heap.size ∧ ∀ i (h : i < L.length), ActAt w b (o + i * 8) L[i])
theorem ret_bool {a b : Bool} (h : a = b) : Ending.returned (.bool a) = .returned (.bool b) := by rw [h]
def okA (x : ActL) : Bool := !(decide (600 < x.bytes.length) || (decide (600 < x.many) && decide (x.many ≤ 16777216)))
def fewB (L : List ActL) (most : Int) : Bool := L.all okA && decide ((L.length : Int) ≤ most)
set_option maxRecDepth 100000 in
set_option maxHeartbeats 1000000 in
theorem l9_few {w : World} {v : Value} {L : List ActL} {most : Int} (h : ActsAt w v L) : Calls Try.prog 4 #[v, .int .i64 most] w fun e w' => e = .returned (.bool (fewB L most)) ∧ w = w' := by
  obtain ⟨av, c, rfl, hl, hc⟩ := h
  have HC := Lib.hid hc
  clear hc
  go_enter Try.func4, Try.ntmps4
  go_wp2
  go_loop [5] (fun i => ∃ k : Nat, k ≤ L.length ∧ i = .int .i64 k ∧ (L.take k).all okA = true) (fun i => L.length - (intOf i).toNat)
  case atStart => exact ⟨0, Nat.zero_le _, rfl, rfl⟩
  case round =>
    obtain ⟨k, hk, rfl, hr⟩ := hrel
    by_cases hlt : k < L.length
    · obtain ⟨b, o, rfl, hb, hA⟩ := HC.out (by omega)
      have hA := hA k hlt
      obtain ⟨⟨ba, bc, hbv⟩, _⟩ := hA.by'
      have c7 := hA.c7
      have c4 := hA.c4
      have w4 := hA.w4
      have w7 := hA.w7
      have hts : (L.take (k + 1)).all okA = ((L.take k).all okA && okA L[k]) := by rw [List.take_succ_eq_append_getElem hlt, List.all_append, List.all_cons, List.all_nil, Bool.and_true]
      have hall : L.all okA = true → okA L[k] = true := fun h => List.all_eq_true.1 h _ (List.getElem_mem hlt)
      have hokd : okA L[k] = !(decide (600 < L[k].bytes.length) || (decide (600 < L[k].many) && decide (L[k].many ≤ 16777216))) := rfl
      rw [hr, Bool.true_and] at hts
      obtain ⟨n, hn⟩ : ∃ n, L[k].bytes.length = n := ⟨_, rfl⟩
      obtain ⟨m, hm⟩ : ∃ m, L[k].many = m := ⟨_, rfl⟩
      obtain ⟨q, hq⟩ : ∃ q, okA L[k] = q := ⟨_, rfl⟩
      rw [hbv, hn] at c7
      rw [hm] at c4 w4
      rw [hn] at w7
      rw [hn, hm, hq] at hokd
      rw [hq] at hts hall
      have HT := Lib.hid hts
      have HL := Lib.hid hall
      have HR := Lib.hid hr
      clear hts hall hr hbv hA hn hm hq HC
      by_cases h1 : 600 < n
      · have hq : q = false := by rw [hokd]; simp [h1]
        clear hokd
        subst hq
        go_wp2
        go_ret
        exact ⟨ret_bool (by symm; rw [fewB, Bool.and_eq_false_iff]; exact .inl (by cases hc : L.all okA with | false => rfl | true => exact absurd (HL.out hc) (by simp))), rfl⟩
      · by_cases h2 : 600 < m
        · by_cases h3 : m ≤ 16777216
          · have hq : q = false := by rw [hokd]; simp [h2, h3]
            clear hokd
            subst hq
            go_wp2
            go_ret
            exact ⟨ret_bool (by symm; rw [fewB, Bool.and_eq_false_iff]; exact .inl (by cases hc : L.all okA with | false => rfl | true => exact absurd (HL.out hc) (by simp))), rfl⟩
          · have hq : q = true := by rw [hokd]; simp [h1, h3]
            clear hokd
            subst hq
            go_wp2
            go_round
            case rel => exact ⟨k + 1, by omega, by go_num, HT.out⟩
            case measure => simp [intOf]; omega
        · have hq : q = true := by rw [hokd]; simp [h1, h2]
          clear hokd
          subst hq
          go_wp2
          go_round
          case rel => exact ⟨k + 1, by omega, by go_num, HT.out⟩
          case measure => simp [intOf]; omega
    · obtain rfl : k = L.length := by omega
      rw [List.take_length] at hr
      have HR := Lib.hid hr
      clear hr HC
      go_wp2
      go_ret
      exact ⟨ret_bool (by rw [fewB, HR.out, Bool.true_and]), rfl⟩
end Go.Proofs.Ytlafdnbjkkbmfaa
