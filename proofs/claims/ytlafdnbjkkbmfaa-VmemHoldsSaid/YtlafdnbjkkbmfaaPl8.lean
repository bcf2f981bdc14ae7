/- The plain law: a reach is let just where all its bytes are the owner's; no condition. -/
import Derived.Test.YtlafdnbjkkbmfaaPl7
namespace Go.Proofs.Ytlafdnbjkkbmfaa
theorem ask_law {T : List (Int × Ent)} {F : List (Int × Tak)} {R : List (Int × Int)} {q : Int} {whose : Nat → Int} {pages : Nat} (h : MemInv T F R q whose pages) (hpg : pages ≤ 65536) {o m : Int} (ho : o = 1 ∨ o = 2) (hm : m = 1 ∨ m = 2) {a n : Nat} (hn : a + n ≤ 256 * pages) :
    askE T o m a n = 0 ↔ 1 ≤ n ∧ ∀ i, i < n → whose ((a + i) / 256) = o := by
  have h2 : ask2 o = true := by rcases ho with rfl | rfl <;> simp [ask2]
  have h3 : ask3 a n = true := by simp [ask3]; omega
  have h4 := allReach_iff T o m a n
  unfold askE
  by_cases h1 : ask1 n = true
  · rw [if_pos h1, if_pos h2, if_pos h3]
    have h1' : 1 ≤ n := by simp [ask1] at h1; omega
    by_cases hr : allReach T o m a n = true
    · rw [if_pos hr]
      exact ⟨fun _ => ⟨h1', fun i hi => (reach_law h ho hm (by omega)).1 (h4.1 hr i hi)⟩, fun _ => rfl⟩
    · rw [if_neg hr]
      exact ⟨(fun e => by cases e), fun e => absurd (h4.2 fun i hi => (reach_law h ho hm (by omega)).2 (e.2 i hi)) hr⟩
  · rw [if_neg h1]
    refine ⟨(fun e => by cases e), fun e => absurd ?_ h1⟩
    simp [ask1]
    try omega
end Go.Proofs.Ytlafdnbjkkbmfaa
