/- the statement's own loops: whose a reach is; no condition. -/
import Derived.Test.YtlafdnbjkkbmfaaLaw4
namespace Go.Proofs.Ytlafdnbjkkbmfaa
open Go.RowKit
attribute [local go_sem] run_mf
def whoC (whose : Nat → Int) : Array Value := ((List.range 20).map fun n => Value.int .i64 (whose n)).toArray
theorem whoC_get (whose : Nat → Int) {n : Nat} (h : n < 20) : (whoC whose)[n]? = some (.int .i64 (whose n)) := by
  simp [whoC, h]
def finB (whose : Nat → Int) (ow : Int) (a : Nat) : Nat → Bool
  | 0 => true
  | k + 1 => finB whose ow a k && decide (whose ((a + k) / 256) = ow)
theorem finB_iff (whose : Nat → Int) (ow : Int) (a n : Nat) : finB whose ow a n = true ↔ ∀ i, i < n → whose ((a + i) / 256) = ow := by
  induction n with
  | zero => simp [finB]
  | succ n ih =>
    rw [finB, Bool.and_eq_true, ih, decide_eq_true_eq]
    constructor
    · intro ⟨h1, h2⟩ i hi
      by_cases e : i = n
      · rw [e]; exact h2
      · exact h1 i (by omega)
    · intro h
      exact ⟨fun i hi => h i (by omega), h n (by omega)⟩
section
variable {v : Value} {mb nb wb xb : Nat} {i ow : Int} {R : Exit → Act → World → Prop} {a : Act} {w : World} {t : TypeId}
set_option maxRecDepth 100000 in
set_option maxHeartbeats 1000000 in
theorem l9_fineS {f : Int} {s : Bool} {at' n : Nat} {whose : Nat → Int} {cs : Array Value} {tx tw : TypeId} {ba : Option Addr} {bc : Nat} (hf : Fr 288 ((11, .int .i64 f) :: (12, .bool s) :: (13, .int .i64 0) :: l9G v mb nb wb i xb ow) a)
    (hx : w.heap[xb]? = some (.cells cs tx (0, 0))) (h6 : cs[6]? = some (.int .u32 (at' : Int))) (h7 : cs[7]? = some (.slice ba n bc)) (han : at' + n ≤ 5120)
    (hw : w.heap[wb]? = some (.cells (whoC whose) tw (0, 0)))
    (hR : ∀ a', Fr 288 ((11, .int .i64 f) :: (12, .bool (s && finB whose ow at' n)) :: l9G v mb nb wb i xb ow) a' → R .normal a' w) :
    (Code.loop (lblk Try.f3 7)).wp Try.prog (Exit.inBlock 7 R) a w := by
  refine wp_loop (fun a' w' => w = w' ∧ ∃ k : Nat, k ≤ n ∧ Fr 288 ((11, .int .i64 f) :: (12, .bool (s && finB whose ow at' k)) :: (13, .int .i64 k) :: l9G v mb nb wb i xb ow) a')
    (fun a' _ => n - (intOf (a'.tmps.getD 13 undef)).toNat) ⟨rfl, 0, Nat.zero_le _, by simpa [finB] using hf⟩ ?_
  rintro a' w' ⟨rfl, k, hk, hf'⟩
  have c6 := cell_at hx h6
  have c7 := cell_at hx h7
  obtain ⟨q, hq⟩ : ∃ q, (s && finB whose ow at' k) = q := ⟨_, rfl⟩
  rw [hq] at hf'
  obtain ⟨g, rfl, hgg⟩ := fr_lit288 hf'
  obtain ⟨hg11, hg12, hg13, hg0, hg3, hg5, hg6, hg7, hg8, hg9, -⟩ := hgg
  rw [hg11, hg12, hg13, hg0, hg3, hg5, hg6, hg7, hg8, hg9]
  clear hg11 hg12 hg13 hg0 hg3 hg5 hg6 hg7 hg8 hg9
  have HR := Lib.hid hR
  clear hR
  conv => arg 2; whnf
  by_cases hlt : k < n
  · have cw := cell_at hw (whoC_get whose (n := (at' + k) / 256) (by omega))
    have hfs : (s && finB whose ow at' (k + 1)) = (q && decide (whose ((at' + k) / 256) = ow)) := by rw [finB, ← Bool.and_assoc, hq]
    obtain ⟨z, hz⟩ : ∃ z, whose ((at' + k) / 256) = z := ⟨_, rfl⟩
    rw [hz] at cw hfs
    have HF := Lib.hid hfs
    clear hfs hz hq hf hf'
    cases q with
    | true =>
      go_wp2
      exact ⟨⟨trivial, k + 1, by omega, fr_mk rfl ⟨rfl, by rw [HF.out]; rfl, by go_num, rfl, rfl, rfl, rfl, rfl, rfl, rfl, trivial⟩⟩, by simp [intOf]; omega⟩
    | false =>
      go_wp2
      exact ⟨⟨trivial, k + 1, by omega, fr_mk rfl ⟨rfl, by rw [HF.out]; rfl, by go_num, rfl, rfl, rfl, rfl, rfl, rfl, rfl, trivial⟩⟩, by simp [intOf]; omega⟩
  · obtain rfl : k = n := by omega
    have HQ := Lib.hid hq
    clear hq hf hf'
    go_wp2
    exact HR.out _ (fr_mk rfl ⟨rfl, by rw [HQ.out]; rfl, rfl, rfl, rfl, rfl, rfl, rfl, rfl, trivial⟩)
end
end Go.Proofs.Ytlafdnbjkkbmfaa
