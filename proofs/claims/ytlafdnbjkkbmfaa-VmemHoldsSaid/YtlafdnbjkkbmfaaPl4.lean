/- The plain law: the state of a memory with two owners; Map and Unmap; no condition. -/
import Derived.Test.YtlafdnbjkkbmfaaPl3
import Derived.Test.YtlafdnbjkkbmfaaVm4
namespace Go.Proofs.Ytlafdnbjkkbmfaa
/-- what stands between two calls: many frames, all of owners 1 and 2, each at most half -/
structure MemInv (T : List (Int × Ent)) (F : List (Int × Tak)) (R : List (Int × Int)) (q : Int) (whose : Nat → Int) (pages : Nat) : Prop where
  r1 : getL R 1 = some q
  r2 : getL R 2 = some q
  rok : ROk R (2 * q)
  fok : FOk F
  fnd : (F.map (·.1)).Nodup
  tnd : (T.map (·.1)).Nodup
  own : ∀ p ∈ F, p.2.owner = 1 ∨ p.2.owner = 2
  has1 : (hasN F 1 : Int) ≤ q
  has2 : (hasN F 2 : Int) ≤ q
  rng : ∀ n x, getL T n = some x → 0 ≤ n ∧ n < pages ∧ x.may = 2 ∧ x.owner = whose n.toNat ∧ (x.owner = 1 ∨ x.owner = 2) ∧ 0 ≤ x.frame ∧ x.frame < 2 * q ∧ (getL F x.frame).isSome = true
  no : ∀ n : Nat, n < pages → getL T (n : Int) = none → whose n = 0
  inj : ∀ g h x y, getL T g = some x → getL T h = some y → x.frame = y.frame → g = h
theorem mem_getL {α : Type} : ∀ {l : List (Int × α)} {k : Int} {v : α}, (l.map (·.1)).Nodup → (k, v) ∈ l → getL l k = some v
  | [], _, _, _, h => by cases h
  | a :: l, k, v, hn, h => by
    simp only [List.map_cons, List.nodup_cons] at hn
    rcases List.mem_cons.1 h with rfl | h
    · simp [getL]
    · have hne : a.1 ≠ k := fun e => hn.1 (by rw [e]; exact List.mem_map.2 ⟨_, h, rfl⟩)
      have := mem_getL hn.2 h
      simp only [getL, List.find?_cons] at this ⊢
      rw [show (a.1 == k) = false by simpa using hne]
      exact this
theorem used_free {T : List (Int × Ent)} {F : List (Int × Tak)} {R : List (Int × Int)} {q : Int} {whose : Nat → Int} {pages : Nat} (h : MemInv T F R q whose pages) {f : Int} (hf : getL F f = none) : usedF T f = false := by
  rw [usedF, List.any_eq_false]
  intro p hp he
  have he' : p.2.frame = f := by simpa using he
  have hg := mem_getL h.tnd (k := p.1) (v := p.2) hp
  obtain ⟨_, _, _, _, _, _, _, h8⟩ := h.rng _ _ hg
  rw [he', hf] at h8
  cases h8
theorem hasN_new {F : List (Int × Tak)} {f : Int} (hf : getL F f = none) (p o : Int) : hasN (putL F f (tak1 p)) o = hasN F o + (if p = o then 1 else 0) := by
  rw [putL_new ((getL_none_iff F f).1 hf)]
  simp only [hasN, List.countP_append, List.countP_cons, List.countP_nil, tak1]
  by_cases hp : p = o <;> simp [hp]
def upW (whose : Nat → Int) (n : Nat) (p : Int) : Nat → Int := fun k => if k = n then p else whose k
theorem map_law {T : List (Int × Ent)} {F : List (Int × Tak)} {R : List (Int × Int)} {q : Int} {whose : Nat → Int} {pages : Nat} (h : MemInv T F R q whose pages) (hq : q ≤ 4000) {n : Nat} (hn : n < pages) {p : Int} (hp : p = 1 ∨ p = 2) (hv : vmaE T F R n p p 2 = 0) :
    mapE T n ⟨p, 2, takN F (2 * q)⟩ = 0 ∧ getL T (n : Int) = none ∧ getL F (takN F (2 * q)) = none ∧ MemInv (putL T n ⟨p, 2, takN F (2 * q)⟩) (putL F (takN F (2 * q)) (tak1 p)) R q (upW whose n p) pages := by
  obtain ⟨v1, v2, v3, v4⟩ := vmaE_ok hv
  obtain ⟨m1, m2, m3, m4, m5, m6, m7, m8, m9⟩ := mapE_ok v3
  have hlt : (hasN F p : Int) < q := by
    unfold takE at v4
    split at v4
    · cases v4
    · split at v4
      · cases v4
      · rename_i _ hh
        rcases hp with rfl | rfl
        · rw [h.r1] at hh; simpa using hh
        · rw [h.r2] at hh; simpa using hh
  have hsum := has_sum h.own
  have h1 := h.has1
  have h2 := h.has2
  have hFl : F.length < (2 * q).toNat := by rcases hp with rfl | rfl <;> omega
  obtain ⟨f1, f2, f3⟩ := takN_free hFl
  have hu := used_free h f3
  have hm : mapE T n ⟨p, 2, takN F (2 * q)⟩ = 0 := by
    unfold mapE
    simp only at *
    rw [if_neg (by simp), if_neg (by simp; omega), if_neg (by simp; omega), if_neg (by simp [m8]), if_neg (by simp [hu])]
  refine ⟨hm, m8, f3, h.r1, h.r2, h.rok, ⟨fun x hx => ?_, ?_⟩, putL_nodup h.fnd _ _, putL_nodup h.tnd _ _, fun x hx => ?_, ?_, ?_, ?_, ?_, ?_⟩
  · rcases putL_mem hx with hx | rfl
    · exact h.fok.1 x hx
    · rw [takC_size]; simp only [tak1, List.length_replicate]
  · rw [putL_new ((getL_none_iff F _).1 f3)]
    simp
    omega
  · rcases putL_mem hx with hx | rfl
    · exact h.own x hx
    · exact hp
  · rw [hasN_new f3]; rcases hp with rfl | rfl <;> simp <;> omega
  · rw [hasN_new f3]; rcases hp with rfl | rfl <;> simp <;> omega
  · intro k x hx
    rw [getL_putL] at hx
    split at hx
    · rename_i e
      cases hx
      subst e
      refine ⟨by omega, by omega, rfl, by simp [upW], hp, f1, f2, ?_⟩
      rw [getL_putL, if_pos rfl]; rfl
    · rename_i e
      obtain ⟨a1, a2, a3, a4, a5, a6, a7, a8⟩ := h.rng k x hx
      refine ⟨a1, a2, a3, ?_, a5, a6, a7, ?_⟩
      · rw [upW, if_neg (by omega)]; exact a4
      · rw [getL_putL]
        split
        · rfl
        · exact a8
  · intro k hk hnone
    rw [getL_putL] at hnone
    split at hnone
    · cases hnone
    · rename_i e
      rw [upW, if_neg (by omega)]
      exact h.no k hk hnone
  · intro g k x y hx hy he
    rw [getL_putL] at hx hy
    split at hx
    · rename_i e1
      split at hy
      · rename_i e2; omega
      · cases hx
        obtain ⟨_, _, _, _, _, _, _, a8⟩ := h.rng k y hy
        simp only at he
        rw [← he, f3] at a8
        cases a8
    · split at hy
      · cases hy
        obtain ⟨_, _, _, _, _, _, _, a8⟩ := h.rng g x hx
        simp only at he
        rw [he, f3] at a8
        cases a8
      · exact h.inj g k x y hx hy he
theorem hasN_del : ∀ {F : List (Int × Tak)} (f o : Int), hasN (delL F f) o ≤ hasN F o := fun f o => by
  simp only [hasN]
  exact List.Sublist.countP_le (delL_sub _ f)
theorem unmap_law {T : List (Int × Ent)} {F : List (Int × Tak)} {R : List (Int × Int)} {q : Int} {whose : Nat → Int} {pages : Nat} (h : MemInv T F R q whose pages) {n : Nat} (hn : n < pages) (hu : unmE T n = 0) :
    ∃ x, getL T (n : Int) = some x ∧ (getL T (n : Int)).getD ent0 = x ∧ thrE F (2 * q) x.frame 0 0 = 0 ∧ MemInv (delL T n) (delL F x.frame) R q (upW whose n 0) pages := by
  have hs : ∃ x, getL T (n : Int) = some x := by
    unfold unmE at hu
    split at hu
    · cases hu
    · split at hu
      · cases hu
      · rename_i _ hh
        cases hg : getL T (n : Int) with
        | none => rw [hg] at hh; exact absurd rfl hh
        | some x => exact ⟨x, rfl⟩
  obtain ⟨x, hx⟩ := hs
  obtain ⟨a1, a2, a3, a4, a5, a6, a7, a8⟩ := h.rng _ _ hx
  refine ⟨x, hx, by rw [hx]; rfl, ?_, h.r1, h.r2, h.rok, ⟨fun p hp => h.fok.1 p ((delL_sub _ _).subset hp), ?_⟩, delL_nodup h.fnd _, delL_nodup h.tnd _, fun p hp => h.own p ((delL_sub _ _).subset hp), ?_, ?_, ?_, ?_, ?_⟩
  · unfold thrE
    rw [if_neg (by simp; omega), if_neg (by simp), if_neg (by cases hg : getL F x.frame <;> simp_all)]
  · exact Nat.lt_of_le_of_lt (List.Sublist.length_le (delL_sub _ _)) h.fok.2
  · have := hasN_del (F := F) x.frame 1; have := h.has1; omega
  · have := hasN_del (F := F) x.frame 2; have := h.has2; omega
  · intro k y hy
    rw [getL_delL h.tnd] at hy
    split at hy
    · cases hy
    · rename_i e
      obtain ⟨b1, b2, b3, b4, b5, b6, b7, b8⟩ := h.rng k y hy
      refine ⟨b1, b2, b3, ?_, b5, b6, b7, ?_⟩
      · rw [upW, if_neg (by omega)]; exact b4
      · rw [getL_delL h.fnd, if_neg (fun e2 => e (h.inj _ _ _ _ hx hy e2))]
        exact b8
  · intro k hk hnone
    by_cases e : k = n
    · rw [upW, if_pos e]
    · rw [upW, if_neg e]
      rw [getL_delL h.tnd, if_neg (by omega)] at hnone
      exact h.no k hk hnone
  · intro g k y z hy hz he
    rw [getL_delL h.tnd] at hy hz
    split at hy
    · cases hy
    · split at hz
      · cases hz
      · exact h.inj g k y z hy hz he
end Go.Proofs.Ytlafdnbjkkbmfaa
