/- The plain law: which frame is taken; no condition. -/
import Derived.Test.YtlafdnbjkkbmfaaPl2
namespace Go.Proofs.Ytlafdnbjkkbmfaa
theorem nodup_sub_len : ∀ {l m : List Int}, l.Nodup → (∀ x ∈ l, x ∈ m) → l.length ≤ m.length := by
  intro l
  induction l with
  | nil => intro m _ _; simp
  | cons x l ih =>
    intro m hn hs
    have hx := hs x (by simp)
    have h1 := ih (m := m.erase x) (List.nodup_cons.1 hn).2 (fun y hy => by
      have hne : y ≠ x := fun e => (List.nodup_cons.1 hn).1 (e ▸ hy)
      exact (List.mem_erase_of_ne hne).2 (hs y (by simp [hy])))
    have h2 := List.length_erase_of_mem hx
    have h3 := List.length_pos_of_mem hx
    simp only [List.length_cons]
    omega
theorem has_sum : ∀ {F : List (Int × Tak)}, (∀ p ∈ F, p.2.owner = 1 ∨ p.2.owner = 2) → F.length = hasN F 1 + hasN F 2
  | [], _ => by simp [hasN]
  | p :: F, h => by
    have ih := has_sum (F := F) (fun q hq => h q (List.mem_cons_of_mem _ hq))
    simp only [hasN] at ih ⊢
    rw [List.countP_cons, List.countP_cons, List.length_cons]
    rcases h p List.mem_cons_self with e | e <;> simp [e] <;> omega
theorem range_nodup_int (k : Nat) : ((List.range k).map (fun n : Nat => (n : Int))).Nodup := by
  rw [List.nodup_iff_pairwise_ne, List.pairwise_map]
  exact (List.nodup_range (n := k)).imp (fun h e => h (by exact_mod_cast e))
/-- where a frame is left, one is free -/
theorem free_ne {F : List (Int × Tak)} {k : Nat} (h : F.length < k) : freeL F k ≠ [] := by
  intro he
  have hall : ∀ n, n < k → (getL F (n : Int)).isSome = true := fun n hn => by
    cases hg : getL F (n : Int) with
    | some _ => rfl
    | none =>
      have hm : n ∈ freeL F k := by simp [freeL, hn, hg]
      rw [he] at hm
      cases hm
  have hl := nodup_sub_len (range_nodup_int k) (m := F.map (·.1)) (fun x hx => by
    simp at hx
    obtain ⟨n, hn, rfl⟩ := hx
    apply Classical.byContradiction
    intro hno
    have := hall n hn
    rw [(getL_none_iff F (n : Int)).2 hno] at this
    cases this)
  simp at hl
  omega
theorem takN_free {F : List (Int × Tak)} {many : Int} (h : F.length < many.toNat) : 0 ≤ takN F many ∧ takN F many < many ∧ getL F (takN F many) = none := by
  have hne := free_ne h
  cases hc : freeL F many.toNat with
  | nil => exact absurd hc hne
  | cons n l =>
    have hn : n ∈ freeL F many.toNat := by rw [hc]; simp
    have ht : takN F many = (n : Int) := by simp [takN, hc]
    simp [freeL] at hn
    refine ⟨by omega, by omega, ?_⟩
    rw [ht]
    exact hn.2
end Go.Proofs.Ytlafdnbjkkbmfaa
