/- The plain law: a write keeps the state; no condition. -/
import Derived.Test.YtlafdnbjkkbmfaaPl4
namespace Go.Proofs.Ytlafdnbjkkbmfaa
theorem hasN_put {F : List (Int × Tak)} (hn : (F.map (·.1)).Nodup) {f : Int} {t t' : Tak} (hf : getL F f = some t) (ho : t'.owner = t.owner) (o : Int) : hasN (putL F f t') o = hasN F o := by
  induction F with
  | nil => simp [getL] at hf
  | cons a F ih =>
    simp only [List.map_cons, List.nodup_cons] at hn
    by_cases h : a.1 = f
    · have ha : a.2 = t := by
        simp only [getL, List.find?_cons, show (a.1 == f) = true by simpa using h] at hf
        simpa using hf
      rw [putL]
      rw [if_pos (by simpa using h)]
      simp only [hasN, List.countP_cons, ho, ha]
    · have hf' : getL F f = some t := by
        simp only [getL, List.find?_cons, show (a.1 == f) = false by simpa using h] at hf ⊢
        exact hf
      rw [putL]
      rw [if_neg (by simpa using h)]
      have := ih hn.2 hf'
      simp only [hasN, List.countP_cons] at this ⊢
      omega
theorem inv_put {T : List (Int × Ent)} {F : List (Int × Tak)} {R : List (Int × Int)} {q : Int} {whose : Nat → Int} {pages : Nat} (h : MemInv T F R q whose pages) {f : Int} {t t' : Tak} (hf : getL F f = some t) (ho : t'.owner = t.owner) (hs : (takC t').size = 257) : MemInv T (putL F f t') R q whose pages := by
  have hsome : (getL F f).isSome = true := by rw [hf]; rfl
  refine ⟨h.r1, h.r2, h.rok, ⟨fun p hp => ?_, ?_⟩, putL_nodup h.fnd _ _, h.tnd, fun p hp => ?_, ?_, ?_, fun n x hx => ?_, h.no, h.inj⟩
  · rcases putL_mem hp with hp | rfl
    · exact h.fok.1 p hp
    · exact hs
  · rw [putL_len hsome]; exact h.fok.2
  · rcases putL_mem hp with hp | rfl
    · exact h.own p hp
    · show t'.owner = 1 ∨ t'.owner = 2
      rw [ho]
      exact h.own _ (getL_mem hf)
  · rw [hasN_put h.fnd hf ho]; exact h.has1
  · rw [hasN_put h.fnd hf ho]; exact h.has2
  · obtain ⟨b1, b2, b3, b4, b5, b6, b7, b8⟩ := h.rng n x hx
    refine ⟨b1, b2, b3, b4, b5, b6, b7, ?_⟩
    rw [getL_putL]
    split
    · rfl
    · exact b8
theorem inv_wfold {T : List (Int × Ent)} {F : List (Int × Tak)} {R : List (Int × Int)} {q : Int} {whose : Nat → Int} {pages : Nat} {bs : List UInt8} {L : List Part} (h : MemInv T F R q whose pages)
    (hM : ∀ p ∈ L, thrE F (2 * q) (frP T p) (p.2.1 : Int) (p.2.2 : Int) = 0) (hsum : (L.map (·.2.2)).sum ≤ bs.length) : ∀ pre, pre <+: L → MemInv T (wfold T F bs pre).1 R q whose pages := by
  intro pre
  induction pre using rev_ind with
  | h0 => exact fun _ => h
  | h1 l x ih =>
    intro hp
    have hl := (List.prefix_append l [x]).trans hp
    have h1 := ih hl
    obtain ⟨k1, k2⟩ := wfold_ok h.fok hM hsum l hl
    have k3 := wfold_ok h.fok hM hsum (l ++ [x]) hp
    have hx : x ∈ L := hp.subset (by simp)
    have hthr := hM x hx
    rw [← k2] at hthr
    obtain ⟨q1, q2, q3, q4, q5, q6, q7⟩ := thr_ok hthr
    obtain ⟨t, ht⟩ := Option.isSome_iff_exists.1 q7
    rw [wfold_snoc] at k3 ⊢
    simp only [wstep, ht, Option.getD_some] at k3 ⊢
    refine inv_put h1 ht rfl ?_
    have := tak_ok k3.1 (frP T x)
    rw [getL_putL, if_pos rfl] at this
    exact this
end Go.Proofs.Ytlafdnbjkkbmfaa
