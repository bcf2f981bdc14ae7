/- The plain law: what a write leaves; no condition. -/
import Derived.Test.YtlafdnbjkkbmfaaPl1
namespace Go.Proofs.Ytlafdnbjkkbmfaa
theorem splice_get {α : Type} (L : List α) (o : Nat) (c : List α) (h : o + c.length ≤ L.length) (i : Nat) : (splice L o c)[i]? = if o ≤ i ∧ i < o + c.length then c[i - o]? else L[i]? := by
  simp only [splice]
  by_cases h1 : i < o
  · rw [List.getElem?_append_left (by simp; omega), List.getElem?_take, if_pos h1, if_neg (by omega)]
  · rw [List.getElem?_append_right (by simp; omega)]
    simp only [List.length_take]
    rw [show min o L.length = o by omega]
    by_cases h2 : i < o + c.length
    · rw [List.getElem?_append_left (by omega), if_pos (by omega)]
    · rw [List.getElem?_append_right (by omega), if_neg (by omega), List.getElem?_drop]
      congr 1
      omega
/-- every mapped page's frame holds the page's bytes -/
def PgI (T : List (Int × Ent)) (F : List (Int × Tak)) (now : List UInt8) : Prop :=
  ∀ (g : Nat) (x : Ent), getL T (g : Int) = some x → ((getL F x.frame).getD tak0).bytes = (now.drop (256 * g)).take 256
theorem page_get? (now : List UInt8) (g j : Nat) : ((now.drop (256 * g)).take 256)[j]? = if j < 256 then now[256 * g + j]? else none := by
  rw [List.getElem?_take]
  split
  · rw [List.getElem?_drop]
  · rfl
theorem write_partsF {T : List (Int × Ent)} (hinj : ∀ g h x y, getL T g = some x → getL T h = some y → x.frame = y.frame → g = h) :
    ∀ (k a u : Nat) (F : List (Int × Tak)) (bs now : List UInt8), u - a ≤ k → u - a ≤ bs.length → u ≤ now.length → now.length % 256 = 0 → PgI T F now → (∀ p ∈ partsF k a u, (getL T (p.1 : Int)).isSome = true) →
      PgI T (wfold T F bs (partsF k a u)).1 (splice now a (bs.take (u - a)))
  | 0, a, u, F, bs, now, h1, _, _, _, hI, _ => by
    have h0 : u - a = 0 := by omega
    have : splice now a ([] : List UInt8) = now := by simp [splice]
    simpa [partsF, wfold, h0, this] using hI
  | k + 1, a, u, F, bs, now, h1, h2, h3, h4, hI, hp => by
    rw [partsF] at hp ⊢
    by_cases hlt : a < u
    · rw [if_pos hlt] at hp ⊢
      have hm := Nat.mod_lt a (show 0 < 256 by omega)
      have hd := Nat.div_add_mod a 256
      obtain ⟨d, hde⟩ : ∃ d, d = min (u - a) (256 - a % 256) := ⟨_, rfl⟩
      rw [← hde] at hp ⊢
      have hx := hp _ (List.mem_cons_self)
      simp only at hx
      obtain ⟨x, hx⟩ := Option.isSome_iff_exists.1 hx
      have hfr : frP T (a / 256, a % 256, d) = x.frame := by
        show ((getL T ((a / 256 : Nat) : Int)).getD ent0).frame = x.frame
        rw [hx]; rfl
      have hbl : (bs.take d).length = d := by simp; omega
      have hnl : (splice now a (bs.take d)).length = now.length := length_splice _ _ _ (by omega)
      have hpg := hI _ _ hx
      have hI1 : PgI T (putL F x.frame (wrt ((getL F x.frame).getD tak0) (a % 256) (bs.take d))) (splice now a (bs.take d)) := by
        intro g y hy
        rw [getL_putL]
        by_cases he : x.frame = y.frame
        · have hg : ((a / 256 : Nat) : Int) = (g : Int) := hinj _ _ _ _ hx hy he
          have hg' : a / 256 = g := by omega
          rw [if_pos he]
          simp only [Option.getD_some, wrt]
          apply List.ext_getElem?
          intro j
          have hl : ((getL F x.frame).getD tak0).bytes.length = 256 := by rw [hpg]; simp; omega
          rw [splice_get _ _ _ (by omega), page_get?, splice_get _ _ _ (by omega), hpg, page_get?, hbl]
          by_cases hj : j < 256
          · simp only [hj, if_true]
            by_cases hc : a % 256 ≤ j ∧ j < a % 256 + d
            · rw [if_pos hc, if_pos (by omega)]
              congr 1
              omega
            · rw [if_neg hc, if_neg (by omega)]
              rw [hg']
          · simp only [hj, if_false]
            rw [if_neg (by omega)]
        · rw [if_neg he, hI g y hy]
          have hg : a / 256 ≠ g := by
            intro e
            subst e
            rw [hx] at hy
            cases hy
            exact he rfl
          apply List.ext_getElem?
          intro j
          rw [page_get?, page_get?]
          by_cases hj : j < 256
          · simp only [hj, if_true]
            rw [splice_get _ _ _ (by omega), if_neg (by omega)]
          · simp only [hj, if_false]
      have ih := write_partsF hinj k (a + d) u _ (bs.drop d) (splice now a (bs.take d)) (by omega) (by simp; omega) (by omega) (by omega) hI1 (fun p hq => hp p (List.mem_cons_of_mem _ hq))
      have hnow : splice (splice now a (bs.take d)) (a + d) ((bs.drop d).take (u - (a + d))) = splice now a (bs.take (u - a)) := by
        apply List.ext_getElem?
        intro i
        have hl1 : ((bs.drop d).take (u - (a + d))).length = u - (a + d) := by simp; omega
        have hl2 : (bs.take (u - a)).length = u - a := by simp; omega
        rw [splice_get _ _ _ (by omega), splice_get _ _ _ (by omega), splice_get _ _ _ (by omega), hl1, hl2, hbl]
        by_cases hc : a + d ≤ i ∧ i < a + d + (u - (a + d))
        · rw [if_pos hc, if_pos (by omega), List.getElem?_take, if_pos (by omega), List.getElem?_drop, List.getElem?_take, if_pos (by omega)]
          congr 1
          omega
        · rw [if_neg hc]
          by_cases hc2 : a ≤ i ∧ i < a + d
          · rw [if_pos hc2, if_pos (by omega), List.getElem?_take, if_pos (by omega), List.getElem?_take, if_pos (by omega)]
          · rw [if_neg hc2, if_neg (by omega)]
      rw [hnow] at ih
      simp only [wfold, List.foldl_cons, wstep, hfr] at ih ⊢
      exact ih
    · rw [if_neg hlt]
      have h0 : u - a = 0 := by omega
      have : splice now a ([] : List UInt8) = now := by simp [splice]
      simpa [wfold, h0, this] using hI
end Go.Proofs.Ytlafdnbjkkbmfaa
