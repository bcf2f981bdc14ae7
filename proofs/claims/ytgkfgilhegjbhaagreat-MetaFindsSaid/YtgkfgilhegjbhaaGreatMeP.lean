/- a spot and its page; no condition, no program in sight. -/
import Derived.Test.YtgkfgilhegjbhaaGreatWof
import Derived.Test.YtgkfgilhegjbhaaGreatR15
namespace Go.Proofs.YtgkfgilhegjbhaaGreat
open Go.RowKit
def spotC (s c i : Int) : Array Value := #[.int .i64 s, .int .i64 c, .int .i64 i]
/-- what Find tells of an address -/
def FindR (a : Int) (x : Array Value) (no : Int) : Prop := (∃ s c i, OkS s c i ∧ atI s c i = a ∧ x = spotC s c i ∧ no = 0) ∨ ((∀ s c i, OkS s c i → atI s c i ≠ a) ∧ x = spotC 0 0 0 ∧ no = 250)
theorem OkS.page {s c i : Int} (h : OkS s c i) : ∃ p, atI s c i / 256 = regI s c + p ∧ 0 ≤ p ∧ p < 16 := by
  have hm := h.mul
  have hp := sloI_pos c
  refine ⟨(i * sloI c + 16) / 256, ?_, by omega, by omega⟩
  unfold atI
  omega
theorem reg_inj {s c p s' c' p' : Int} (c0 : 0 ≤ c) (c8 : c < 8) (p0 : 0 ≤ p) (p1 : p < 16) (c0' : 0 ≤ c') (c8' : c' < 8) (p0' : 0 ≤ p') (p1' : p' < 16) (h : regI s c + p = regI s' c' + p') : s = s' ∧ c = c' := by
  unfold regI at h
  have hs : s = s' := by
    rcases (show s < s' ∨ s = s' ∨ s' < s by omega) with k | k | k
    · omega
    · exact k
    · omega
  subst hs
  refine ⟨rfl, ?_⟩
  rcases (show c < c' ∨ c = c' ∨ c' < c by omega) with k | k | k
  · omega
  · exact k
  · omega
theorem atI_inj {s c i s' c' i' : Int} (h : OkS s c i) (h' : OkS s' c' i') (e : atI s c i = atI s' c' i') : s = s' ∧ c = c' ∧ i = i' := by
  obtain ⟨p, hp, p0, p1⟩ := h.page
  obtain ⟨p', hp', p0', p1'⟩ := h'.page
  rw [e, hp'] at hp
  obtain ⟨rfl, rfl⟩ := reg_inj h.c0 h.c8 p0 p1 h'.c0 h'.c8 p0' p1' hp.symm
  refine ⟨rfl, rfl, ?_⟩
  unfold atI at e
  have := sloI_pos c
  exact Int.eq_of_mul_eq_mul_right (a := sloI c) (by omega) (by omega)
theorem FindR.unique {a no no' : Int} {x x' : Array Value} (h : FindR a x no) (h' : FindR a x' no') : x = x' ∧ no = no' := by
  rcases h with ⟨s, c, i, h1, h2, rfl, rfl⟩ | ⟨h1, rfl, rfl⟩
  · rcases h' with ⟨s', c', i', k1, k2, rfl, rfl⟩ | ⟨k1, rfl, rfl⟩
    · obtain ⟨rfl, rfl, rfl⟩ := atI_inj h1 k1 (h2.trans k2.symm)
      exact ⟨rfl, rfl⟩
    · exact absurd h2 (k1 _ _ _ h1)
  · rcases h' with ⟨s', c', i', k1, k2, rfl, rfl⟩ | ⟨k1, rfl, rfl⟩
    · exact absurd k2 (h1 _ _ _ k1)
    · exact ⟨rfl, rfl⟩
theorem kB1_iff {s g : Int} : kB 1 s g = true ↔ 0 ≤ g - (64 * s + 1) ∧ g - (64 * s + 1) < 48 := by
  unfold kB
  rw [if_pos rfl, inB_iff]
theorem kB2_iff {s g : Int} : kB 2 s g = true ↔ 0 < g - 4096 * (s + 1) ∧ (g - 4096 * (s + 1) - 1) / 17 < 8 ∧ (g - 4096 * (s + 1) - 1) % 17 < 16 := by
  unfold kB
  rw [if_neg (by decide), if_pos rfl, Bool.and_eq_true, Bool.and_eq_true, decide_eq_true_eq, decide_eq_true_eq, decide_eq_true_eq]
theorem kB3_iff {s g : Int} : kB 3 s g = true ↔ 256 ≤ g - 4096 * (s + 1) ∧ g - 4096 * (s + 1) < 4096 := by
  unfold kB
  rw [if_neg (by decide), if_neg (by decide), if_pos rfl, Bool.and_eq_true, decide_eq_true_eq, decide_eq_true_eq]
theorem kB4_iff {s g : Int} : kB 4 s g = true ↔ 0 ≤ g - 4096 * (s + 1) ∧ g - 4096 * (s + 1) < 4096 := by
  unfold kB
  rw [if_neg (by decide), if_neg (by decide), if_neg (by decide), inB_iff]
theorem hit_region {s c p : Int} (s0 : 0 ≤ s) (s4 : s < 4) (c0 : 0 ≤ c) (c8 : c < 8) (p0 : 0 ≤ p) (p1 : p < 16) : hitK (regI s c + p) s = 2 := by
  obtain ⟨g, hg⟩ : ∃ g, regI s c + p = g := ⟨_, rfl⟩
  rw [hg]
  unfold regI at hg
  have h1 : kB 1 s g = false := by
    rw [Bool.eq_false_iff, ne_eq, kB1_iff]
    omega
  have h2 : kB 2 s g = true := by
    rw [kB2_iff]
    omega
  simp [hitK, firstK, h1, h2]
theorem hit_only {s c p s' : Int} (s0 : 0 ≤ s) (s4 : s < 4) (c0 : 0 ≤ c) (c8 : c < 8) (p0 : 0 ≤ p) (p1 : p < 16) (t0 : 0 ≤ s') (t4 : s' < 4) (h : hitK (regI s c + p) s' ≠ 0) : s' = s := by
  obtain ⟨g, hg⟩ : ∃ g, regI s c + p = g := ⟨_, rfl⟩
  rw [hg] at h
  unfold regI at hg
  have hb : ∀ q, 0 ≤ g - 4096 * (q + 1) → g - 4096 * (q + 1) < 4096 → q = s := fun q h1 h2 => by omega
  unfold hitK firstK at h
  split at h
  · rename_i h1
    rw [kB1_iff] at h1
    omega
  · split at h
    · rename_i h1
      rw [kB2_iff] at h1
      exact hb _ (by omega) (by omega)
    · split at h
      · rename_i h1
        rw [kB3_iff] at h1
        exact hb _ (by omega) (by omega)
      · split at h
        · rename_i h1
          rw [kB4_iff] at h1
          exact hb _ (by omega) (by omega)
        · exact absurd rfl h
theorem hit2_inv {page s : Int} (h : hitK page s = 2) : ∃ p, page = regI s (kC 2 s page) + p ∧ 0 ≤ p ∧ p < 16 ∧ 0 ≤ kC 2 s page ∧ kC 2 s page < 8 := by
  have h2 : kB 2 s page = true := by
    unfold hitK firstK at h
    split at h
    · cases h
    · split at h
      · assumption
      · split at h
        · cases h
        · split at h <;> cases h
  rw [kB2_iff] at h2
  have hc : kC 2 s page = (page - 4096 * (s + 1) - 1) / 17 := by
    unfold kC
    rw [if_pos rfl, if_pos (by omega)]
  rw [hc]
  refine ⟨(page - 4096 * (s + 1) - 1) % 17, ?_, by omega, by omega, by omega, by omega⟩
  unfold regI
  omega
/-- what Of tells of an address's page, for Find -/
theorem of_find {a : Int} {x : Array Value} (h : OfIs (a / 256) x) : ∃ k s c p, x = sC k s c p ∧ ((k ≠ 2 ∧ ∀ s c i, OkS s c i → atI s c i ≠ a) ∨
    (k = 2 ∧ 0 ≤ s ∧ s < 4 ∧ 0 ≤ c ∧ c < 8 ∧ (∃ q, a / 256 = regI s c + q ∧ 0 ≤ q ∧ q < 16) ∧ ∀ s' c' i', OkS s' c' i' → atI s' c' i' = a → s' = s ∧ c' = c)) := by
  have key : ∀ s c i, OkS s c i → atI s c i = a → hitK (a / 256) s = 2 ∧ ∀ s', 0 ≤ s' → s' < 4 → hitK (a / 256) s' ≠ 0 → s' = s := by
    intro s c i h1 h2
    obtain ⟨p, hp, p0, p1⟩ := h1.page
    rw [h2] at hp
    rw [hp]
    exact ⟨hit_region h1.s0 h1.s4 h1.c0 h1.c8 p0 p1, fun s' t0 t4 ht => hit_only h1.s0 h1.s4 h1.c0 h1.c8 p0 p1 t0 t4 ht⟩
  rcases h with ⟨t, ht, rfl⟩ | ⟨hn, rfl⟩
  · refine ⟨_, _, _, _, rfl, ?_⟩
    by_cases h2 : hitK (a / 256) t.val = 2
    · right
      rw [h2]
      obtain ⟨q, hq, q0, q1, c0, c8⟩ := hit2_inv h2
      have hlt := t.isLt
      refine ⟨rfl, by omega, by omega, c0, c8, ⟨q, hq, q0, q1⟩, fun s' c' i' h1 e => ?_⟩
      obtain ⟨p, hp, p0, p1⟩ := h1.page
      rw [e] at hp
      exact reg_inj h1.c0 h1.c8 p0 p1 c0 c8 q0 q1 (hp.symm.trans hq)
    · left
      refine ⟨h2, fun s c i h1 e => ?_⟩
      obtain ⟨k1, k2⟩ := key s c i h1 e
      have hlt := t.isLt
      have := k2 t.val (by omega) (by omega) ht
      rw [this] at h2
      exact h2 k1
  · refine ⟨0, 0, 0, 0, rfl, .inl ⟨by decide, fun s c i h1 e => ?_⟩⟩
    obtain ⟨k1, -⟩ := key s c i h1 e
    have := hn ⟨s.toNat, by have := h1.s0; have := h1.s4; omega⟩
    rw [show ((⟨s.toNat, by have := h1.s0; have := h1.s4; omega⟩ : Fin 4).val : Int) = s by have := h1.s0; simp; omega] at this
    rw [this] at k1
    cases k1
/-- no spot lies past the windows -/
theorem find_far {a : Int} (h : 16777216 ≤ a) : ∀ s c i, OkS s c i → atI s c i ≠ a := fun s c i h1 e => by
  have := h1.bound
  omega
theorem ok0 {s c : Int} (s0 : 0 ≤ s) (s4 : s < 4) (c0 : 0 ≤ c) (c8 : c < 8) : OkS s c 0 := by
  refine ⟨s0, s4, c0, c8, by omega, ?_⟩
  unfold cntI
  rcases eight c0 c8 with rfl | rfl | rfl | rfl | rfl | rfl | rfl | rfl <;> simp [sloI, payI]
/-- the index that Find tries -/
theorem find_idx {a s c q i' : Int} (ha : atI s c i' = a) (hq : q = (a - atI s c 0).tdiv (sloI c)) : q = i' := by
  have := sloI_pos c
  unfold atI at ha hq
  rw [hq, show a - (256 * regI s c + 0 * sloI c + 16) = i' * sloI c by omega]
  exact Int.mul_tdiv_cancel _ (by omega)
end Go.Proofs.YtgkfgilhegjbhaaGreat
