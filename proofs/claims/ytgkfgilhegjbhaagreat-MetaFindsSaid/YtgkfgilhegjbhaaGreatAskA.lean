/- package meta: questions behind questions: append; no condition. -/
import Derived.ArgAppend
import Derived.Test.YtgkfgilhegjbhaaGreatAskM
import Derived.Test.YtgkfgilhegjbhaaGreatMem
namespace Go.Proofs.YtgkfgilhegjbhaaGreat
open Go.RowKit
theorem maskInfo : ∃ i, Tryz.prog.info? 39 = some i ∧ i.zero = some (.agg #[Value.nilFunc, .int .i64 0]) ∧ i.size = 2 ∧ i.bytes = 16 := by
  have : (Tryz.prog.info? 39).map (fun i => (i.zero, i.size, i.bytes)) = some (some (.agg #[Value.nilFunc, .int .i64 0]), 2, 16) := by kernel_rfl
  cases h : Tryz.prog.info? 39 with
  | none => rw [h] at this; cases this
  | some i => rw [h] at this; simp at this; exact ⟨i, rfl, this.1, this.2.1, this.2.2⟩
def askL (qs : List (Value × Int × Bool)) : List Value := qs.flatMap fun q => [q.1, .int .i64 q.2.1]
theorem askL_len : ∀ qs : List (Value × Int × Bool), (askL qs).length = qs.length * 2
  | [] => rfl
  | q :: qs => by
    have := askL_len qs
    simp only [askL, List.flatMap_cons, List.length_append, List.length_cons, List.length_nil] at this ⊢
    omega
theorem askL_app (a b : List (Value × Int × Bool)) : askL (a ++ b) = askL a ++ askL b := by simp [askL]
theorem askC_toArray (qs : List (Value × Int × Bool)) : askC qs = (askL qs).toArray := rfl
theorem mask_add (b o j : Nat) : (⟨b, o, none⟩ : Addr).add j = ⟨b, o + j, none⟩ := by unfold Addr.add; split <;> simp_all
/-- a row of questions -/
def AsksIn (w : World) (b : Nat) (qs : List (Value × Int × Bool)) : Prop := b < w.heap.size ∧ ∀ j u, (askL qs)[j]? = some u → w.cell? ⟨b, j, none⟩ = some u
theorem AsksIn.ext {w w' : World} {b : Nat} {qs : List (Value × Int × Bool)} (h : AsksIn w b qs) (hx : Ext w w') : AsksIn w' b qs := ⟨Nat.lt_of_lt_of_le h.1 hx.size, fun j u hu => (hx.cell (p := ⟨b, j, none⟩) h.1).trans (h.2 j u hu)⟩
theorem asksIn_new {w : World} (qs : List (Value × Int × Bool)) : AsksIn (w.alloc (.cells (askC qs) 39)) w.heap.size qs :=
  ⟨by simp, fun j u hu => cell_at (World.alloc_heap_new _ _) (by rw [askC_toArray]; simpa using hu)⟩
theorem app_asks {w : World} {b1 b2 c1 c2 : Nat} {q1 q2 : List (Value × Int × Bool)} (h1 : AsksIn w b1 q1) (h2 : AsksIn w b2 q2) (hg : c1 < q1.length + q2.length) (hn : q1.length + q2.length ≤ 1000) :
    ∃ g cap w', (Builtin.append_ #[65, 65] 65 #[.slice (some ⟨b1, 0, none⟩) q1.length c1, .slice (some ⟨b2, 0, none⟩) q2.length c2]).run Tryz.prog w = .ok (.slice (some ⟨g, 0, none⟩) (q1 ++ q2).length cap) w' ∧ Ext w w' ∧ AsksIn w' g (q1 ++ q2) := by
  obtain ⟨i, hi, hz, hs, hb⟩ := maskInfo
  obtain ⟨v', w', hrun, ho, hgr⟩ := run_append_arg_grows (P := Tryz.prog) w 65 65 39 i _ 2 16 Tryz.underlying65 hi hz hs hb rfl (by decide) ⟨b1, 0, none⟩ q1.length c1 (askL q1) (askL_len _)
    (fun j u hu => by rw [mask_add, Nat.zero_add]; exact h1.2 j u hu) ⟨b2, 0, none⟩ q2.length c2 (askL q2) (askL_len _) (fun j u hu => by rw [mask_add, Nat.zero_add]; exact h2.2 j u hu) hg (by simp [maxLen]; omega) (by omega)
  have hx : Ext w w' := ⟨hgr.os, hgr.tape, hgr.output, hgr.size, fun k hk => hgr.block k hk (by simp)⟩
  obtain ⟨hl, ho'⟩ := ho
  rcases ho' with ⟨_, h0⟩ | ⟨g, cap, cur, rfl, hB, hgg, hcn, hcm, hsz, ht⟩
  · omega
  · refine ⟨g, cap, w', by rw [List.length_append]; exact hrun, hx, lt_of_block hgg, fun j u hu => ?_⟩
    rw [askL_app, ← ht, List.getElem?_take] at hu
    split at hu
    · exact cell_at hgg (by simpa using hu)
    · cases hu
end Go.Proofs.YtgkfgilhegjbhaaGreat
