/- package frame: how many are unreserved; no condition. -/
import Derived.Test.YtlafdnbjkkbmfaaCnt
namespace Go.Proofs.Ytlafdnbjkkbmfaa
open Go.RowKit
attribute [local go_sem] run_mf
def sumR : List (Int × Int) → Int
  | [] => 0
  | p :: r => p.2 + sumR r
/-- reservations as they must be -/
def ROk (R : List (Int × Int)) (many : Int) : Prop := (∀ p ∈ R, 0 ≤ p.2) ∧ sumR R ≤ many ∧ 0 ≤ many ∧ many ≤ 1000000 ∧ R.length < 100000
theorem sumR_erase {l : List (Int × Int)} {j : Nat} (hj : j < l.length) : sumR l = sumR (l.eraseIdx j) + l[j].2 := by
  induction l generalizing j with
  | nil => simp at hj
  | cons a l ih =>
    cases j with
    | zero => simp [sumR]; omega
    | succ j => simp only [List.eraseIdx_cons_succ, sumR, List.getElem_cons_succ, ih (by simpa using hj : j < l.length)]; omega
theorem sumR_nonneg {l : List (Int × Int)} (h : ∀ p ∈ l, 0 ≤ p.2) : 0 ≤ sumR l := by
  induction l with
  | nil => simp [sumR]
  | cons a l ih => have := ih (fun p hp => h p (List.mem_cons_of_mem _ hp)); have := h a (by simp); simp only [sumR]; omega
set_option maxRecDepth 100000 in
set_option maxHeartbeats 1000000 in
theorem frame_room {w : World} {pb fb rb : Nat} {many : Int} {F : List (Int × Tak)} {R : List (Int × Int)} (h : PoolAt w pb fb rb many F R) (hR : ROk R many) :
    Calls Try.prog 38 #[.pointer (some ⟨pb, 0, none⟩)] w fun e w' => e = .returned (.int .i64 (many - sumR R)) ∧ Ext w w' := by
  have h1 := h.c1
  have h2 := h.c2
  obtain ⟨hR0, hR1, hR2, hR3, _⟩ := hR
  obtain ⟨o, hrun, hr0⟩ := h.rs.range (P := Try.prog) Try.underlying67
  go_enter Try.func38, Try.ntmps38
  go_wp2_with (go_at_call 61; refine (frame_none h).mono ?_; rintro e w' ⟨rfl, rfl⟩)
  go_loopg [3] R.length (fun m n wr => ∃ (rest : List (Int × Int)) (k : Int), m = rest.length ∧ n = .int .i64 k ∧ Hid (k = many - sumR R + sumR rest) ∧ RngI .i64 encI wr rb w.heap.size rest ∧ Ext w wr ∧ (∀ p ∈ rest, 0 ≤ p.2) ∧ 0 ≤ k ∧ k ≤ 1000000)
  case atStart => exact ⟨R, many, rfl, rfl, by show _ = _; omega, hr0, ext_n _ (Ext.refl _), hR0, hR2, hR3⟩
  case round =>
    obtain ⟨rest, k, rfl, rfl, hk, hrg, hx, hsub, hk0, hk1⟩ := hrel
    rcases hrg.next (P := Try.prog) 0 with ⟨rfl, hnx⟩ | ⟨j, hj, w1, hnx, hrg1, hu, hsz, hen⟩
    · go_wp2
      go_ret
      refine ⟨?_, hx⟩
      have := hk.out
      simp only [sumR] at this
      rw [this]; simp
    · have hx1 : Ext w w1 := ⟨hu.os.trans hx.os, hu.tape.trans hx.tape, hu.output.trans hx.output, Nat.le_trans hx.size hu.size, fun k hk => (hu.block k (Nat.lt_of_lt_of_le hk hx.size) (by simp; omega)).trans (hx.block k hk)⟩
      have hse := sumR_erase hj
      have hsub' : ∀ p ∈ rest.eraseIdx j, 0 ≤ p.2 := fun p hp => hsub p (List.mem_of_mem_eraseIdx hp)
      have hge := sumR_nonneg hsub'
      have hge0 := hsub _ (List.getElem_mem hj)
      have hko := hk.out
      have hlast : 0 ≤ k - rest[j].2 := by omega
      have hkk : k - rest[j].2 = many - sumR R + sumR (rest.eraseIdx j) := by omega
      have hkkH := Lib.hid hkk
      clear hkk hko hse hsz
      have hencT : encI rest[j].2 = .int .i64 rest[j].2 := rfl
      rw [hencT] at hnx hen
      clear hencT hrun
      obtain ⟨v, hv⟩ : ∃ v, v = rest[j].2 := ⟨_, rfl⟩
      obtain ⟨kk, hkk⟩ : ∃ kk, kk = rest[j].1 := ⟨_, rfl⟩
      rw [← hv] at hnx hen hge0 hlast hkkH
      rw [← hkk] at hnx hen
      clear hv hkk
      go_wp2
      go_roundg (rest.length - 1)
      case measure => omega
      case rel =>
        exact ⟨rest.eraseIdx j, k - v, by rw [List.length_eraseIdx_of_lt hj], by go_num, hkkH, hrg1, hx1, hsub', by omega, by omega⟩
end Go.Proofs.Ytlafdnbjkkbmfaa
