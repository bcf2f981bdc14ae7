/- The plain law: what a reach reads and writes; no condition. -/
import Derived.Test.YtlafdnbjkkbmfaaVmA
namespace Go.Proofs.Ytlafdnbjkkbmfaa
theorem take_drop_add {α : Type} (l : List α) (a d n : Nat) (h : d ≤ n) : (l.drop a).take d ++ (l.drop (a + d)).take (n - d) = (l.drop a).take n := by
  rw [← List.drop_drop]
  have : n = d + (n - d) := by omega
  conv => rhs; rw [this, List.take_add]
theorem rfold_partsF {T : List (Int × Ent)} {F : List (Int × Tak)} {now : List UInt8} : ∀ (k a u : Nat), u - a ≤ k → (∀ p ∈ partsF k a u, rdB F (frP T p) p = (now.drop (p.1 * 256 + p.2.1)).take p.2.2) →
    rfold T F (partsF k a u) = (now.drop a).take (u - a)
  | 0, a, u, h, _ => by
    have : u - a = 0 := by omega
    simp [partsF, rfold, this]
  | k + 1, a, u, h, hp => by
    rw [partsF] at hp ⊢
    by_cases hlt : a < u
    · rw [if_pos hlt] at hp ⊢
      have hm := Nat.mod_lt a (show 0 < 256 by omega)
      have hd := Nat.div_add_mod a 256
      have h1 := hp _ (List.mem_cons_self)
      have h2 := rfold_partsF (T := T) (F := F) (now := now) k (a + min (u - a) (256 - a % 256)) u (by omega) (fun p hq => hp p (List.mem_cons_of_mem _ hq))
      simp only [rfold, List.map_cons, List.flatten_cons] at h2 ⊢
      rw [h1, h2]
      simp only
      rw [show a / 256 * 256 + a % 256 = a by omega, show u - (a + min (u - a) (256 - a % 256)) = (u - a) - min (u - a) (256 - a % 256) by omega]
      exact take_drop_add now a _ _ (by omega)
    · rw [if_neg hlt]
      have : u - a = 0 := by omega
      simp [rfold, this]
theorem rfold_parts {T : List (Int × Ent)} {F : List (Int × Tak)} {now : List UInt8} {a n : Nat} (hp : ∀ p ∈ partsL a n, rdB F (frP T p) p = (now.drop (p.1 * 256 + p.2.1)).take p.2.2) : rfold T F (partsL a n) = (now.drop a).take n := by
  have := rfold_partsF (T := T) (F := F) (now := now) n a (a + n) (by omega) hp
  rwa [show a + n - a = n by omega] at this
/-- the pages that a reach touches -/
theorem parts_pages {a n i : Nat} (hi : i < n) : ∃ p ∈ partsL a n, p.1 = (a + i) / 256 := by
  have key : ∀ (k a u x : Nat), u - a ≤ k → a ≤ x → x < u → ∃ p ∈ partsF k a u, p.1 = x / 256 := by
    intro k
    induction k with
    | zero => intro a u x h1 h2 h3; omega
    | succ k ih =>
      intro a u x h1 h2 h3
      have hlt : a < u := by omega
      have hm := Nat.mod_lt a (show 0 < 256 by omega)
      have hd := Nat.div_add_mod a 256
      rw [partsF, if_pos hlt]
      by_cases hx : x < a + min (u - a) (256 - a % 256)
      · exact ⟨_, List.mem_cons_self, by show a / 256 = x / 256; omega⟩
      · obtain ⟨p, hp, he⟩ := ih (a + min (u - a) (256 - a % 256)) u x (by omega) (by omega) h3
        exact ⟨p, List.mem_cons_of_mem _ hp, he⟩
  exact key n a (a + n) (a + i) (by omega) (by omega) (by omega)
theorem parts_of_page {a n : Nat} {p : Part} (h : p ∈ partsL a n) : ∃ i, i < n ∧ p.1 = (a + i) / 256 := by
  obtain ⟨h1, h2, h3, h4⟩ := partsF_ok n a (a + n) p h
  exact ⟨p.1 * 256 + p.2.1 - a, by omega, by omega⟩
/-- all pages of a reach are reached just where all its bytes' pages are -/
theorem allReach_iff (T : List (Int × Ent)) (o m : Int) (a n : Nat) : allReach T o m a n = true ↔ ∀ i, i < n → reachB T o m (((a + i) / 256 : Nat) : Int) = true := by
  rw [allReach, List.all_eq_true]
  constructor
  · intro h i hi
    obtain ⟨p, hp, he⟩ := parts_pages hi (a := a)
    rw [← he]
    exact h p hp
  · intro h p hp
    obtain ⟨i, hi, he⟩ := parts_of_page hp
    rw [he]
    exact h i hi
end Go.Proofs.Ytlafdnbjkkbmfaa
