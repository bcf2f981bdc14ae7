/- A range over a function whose rounds all go on, each value known by its place; no condition. -/
import Derived.Test.YtgkfgilhegjbhaaGreatRnd
namespace Go.Proofs.YtgkfgilhegjbhaaGreat
open Go.RowKit
section
variable {P : Program} {α : Type}
/-- an iterator that hands out the list L, if every round goes on: each round is asked for only where it stands in L -/
def SeqAll (P : Program) (gf : Nat) (lb : Array Value) (encs : α → Array Value) (L : List α) (w : World) : Prop :=
  ∀ (l : Nat) (J : List α → World → Prop) (W : World), Below w.heap.size w W → AbidesFrom W.heap.size J →
    (∀ pre x W1, J pre W1 → pre ++ [x] <+: L → YieldAt Fence.wide 8 P l (encs x) W1 fun e W' => e = .returned (.bool true) ∧ J (pre ++ [x]) W') → J [] W →
    CallsIn Fence.wide 9 P gf (#[.func (.yield l) #[] #[]] ++ lb) W fun e W' => (∃ v, e = .returned v) ∧ J L W'
theorem wpIn_range_all {g : Operand} {ps : Array Tmp} {assign body : Code} {Q : Exit → Act → World → Prop} {a : Act} {w : World} {gf : Nat} {lb : Array Value} (hg : a.eval g = .func (.func gf) #[] lb) (eg : ∀ args w, (callFunc gf args).run P w = .ok (.enter gf args) w)
    {encs : α → Array Value} {L : List α} (hseq : SeqAll P gf lb encs L w) (hps : ∀ x, (encs x).size = ps.size)
    (I : List α → World → Prop) (hI : OwnFrom w.heap.size I) (h0 : I [] w) (Ax : α → Act → World → Prop) (hAx : ∀ x a', OwnFrom w.heap.size (fun (_ : Unit) W => Ax x a' W))
    (hassign : ∀ (l : Nat) (pre : List α) (x : α) (W : World) (K : Act → World → Prop), I pre W → (∀ a' W', KeepsFrom w.heap.size W W' → I pre W' → Ax x a' W' → K a' W') →
      assign.wpIn (Fence.wide.inRound l) 8 P (Exit.then K (fun _ _ _ => False)) { tmps := (ps.zip (encs x)).foldl (fun t (p, v) => t.setIfInBounds p v) a.tmps, defers := [] } W)
    (hbody : ∀ (l : Nat) (pre : List α) (x : α) (a' : Act) (W : World), I pre W → Ax x a' W → pre ++ [x] <+: L → body.wpIn (Fence.wide.inRound l) 8 P (fun e _ W' => e = .normal ∧ KeepsFrom w.heap.size W W' ∧ I (pre ++ [x]) W') a' W)
    (hdone : ∀ (D : Nat) (W : World), w.heap.size ≤ D → I L W → W.heap[D]? = some (.deferred (some [])) → Q .normal { a with defers := { target := .collected D, args := #[] } :: a.defers } W) :
    (Code.rangeFunc g ps assign body).wpIn Fence.wide 10 P Q a w := by
  refine wpIn_rangeFunc fun fn _ => ?_
  let B := w.heap.size
  let rec0 : LoopState → Option Code → Loop := fun st pe => { state := st, pending := pe, fn, tmps := a.tmps, params := ps, assign, body, defers := B }
  let W1 := (w.alloc (.deferred (some []))).alloc (.loop (rec0 .ready none))
  have hL1 : W1.heap[B + 1]? = some (.loop (rec0 .ready none)) := by
    have := World.alloc_heap_new (w.alloc (.deferred (some []))) (.loop (rec0 .ready none))
    rwa [World.size_alloc] at this
  have hK1 : W1.heap[B]? = some (.deferred (some [])) := (Below.heap_alloc _ _ _ (by simp [B])).trans (World.alloc_heap_new w _)
  have hs1 : W1.heap.size = B + 2 := by simp [W1, B]
  refine ⟨B + 1, [{ target := .collected B, args := #[] }], W1, { target := .fn (.func gf) lb, args := #[.func (.yield (B + 1)) #[] #[]] }, W1, gf, #[.func (.yield (B + 1)) #[] #[]] ++ lb, W1, run_enterLoop_outer _ _ _ _ _, ?_, fun _ _ => trivial, ?_, (fun h => by cases h), ?_⟩
  · simp only [resolve, hg]
    simp [go_sem]
  · simp [invoke, go_sem, eg]
  · have hwk : ∀ {X : World} {row : Option Nat}, (∀ r, row = some r → W1.heap.size ≤ r ∧ ∃ o : Obj, X.heap[r]? = some o ∧ o.isWalk = true) → (∀ r, row = some r → B ≤ r ∧ ∃ o : Obj, X.heap[r]? = some o ∧ o.isCells = false) := fun h r e => by
      obtain ⟨h1, o, ho, hw⟩ := h r e
      exact ⟨by omega, o, ho, Obj.not_cells_of_walk hw⟩
    have hBel : Below w.heap.size w W1 := ((Below.refl _ w).alloc (Nat.le_refl _) _).alloc (by simp) _
    refine (hseq (B + 1) (fun pre W => I pre W ∧ W.heap[B + 1]? = some (.loop (rec0 .ready none)) ∧ W.heap[B]? = some (.deferred (some []))) W1 hBel ?_ ?_ ⟨hI.alloc _ (hI.alloc _ h0), hL1, hK1⟩).mono ?_
    · rintro s X Y row ⟨h1, h2, h3⟩ hgr hr
      exact ⟨hI s X Y row h1 hgr (hwk hr), (grownBy_keeps hgr (fun r e => (hr r e).2) h2 rfl).trans h2, (grownBy_keeps hgr (fun r e => (hr r e).2) h3 rfl).trans h3⟩
    · rintro pre x W ⟨hi, hl, hk⟩ hpx
      refine ⟨fn, _, assign, body, run_yield (P := P) (args := encs x) hl (hps x), roundIn_of_wpIn trivial (hassign _ pre x W _ hi fun a' Wa hkf hia hax => ?_)⟩
      have hl' := hkf.same _ _ (by simp [B]) hl rfl
      have hk' := hkf.same _ _ (Nat.le_refl _) hk rfl
      have hlt : B + 1 < Wa.heap.size := lt_of_block hl'
      refine ⟨_, run_beginRound hl' rfl, ?_⟩
      let busy : Obj := .loop { rec0 .ready none with state := .busy }
      have hl2 : (Wa.putObj (B + 1) busy).heap[B + 1]? = some busy := World.putObj_heap_same hlt
      have hk2 : (Wa.putObj (B + 1) busy).heap[B]? = some (.deferred (some [])) := (World.putObj_heap_other (by omega)).trans hk'
      refine wpIn_mono (hbody _ pre x a' _ (hI.putObj _ hia (by simp [B]) hl' rfl) ((hAx x a').putObj (s := ()) _ hax (by simp [B]) hl' rfl) hpx) ?_
      rintro e a3 W3 ⟨rfl, hk3, hi3⟩
      have hl3 := hk3.same _ _ (by simp [B]) hl2 rfl
      have hD3 := hk3.same _ _ (Nat.le_refl _) hk2 rfl
      exact ⟨_, _, run_endRound (P := P) none hl3, rfl, hI.putObj _ hi3 (by simp [B]) hl3 rfl, World.putObj_heap_same (lt_of_block hl3), (World.putObj_heap_other (by omega)).trans hD3⟩
    · rintro e W2 ⟨⟨v, rfl⟩, hi, hl, hk⟩
      exact ⟨none, _, run_endLoop (P := P) hl (by simp [rec0]), hdone _ _ (Nat.le_refl _) (hI.putObj _ hi (by simp [B]) hl rfl) ((World.putObj_heap_other (by omega)).trans hk)⟩
end
section
variable {P : Program} {ops : Array Oper} {Q R : Exit → Act → World → Prop} {S : World → Prop} {l n : Nat} {a : Act} {w w' : World} {fuel : Nat} {listed : Array Bool} {oi : Oper} {v : Value}
/-- a post that only lets the end be come to -/
def onlyN (Z : Act → World → Prop) : Exit → Act → World → Prop
  | .normal, a, w => Z a w
  | _, _, _ => False
theorem round_drawn' {id : Nat} (Z : Act → World → Prop) (S : World → Prop) (hm : P.follows .mixedOrders = true) (hd : ops.all Oper.noDefer = true) (h : wpAnyH P .any ops (onlyN Z) S ops.size (Array.replicate ops.size false) a w.drew) (hQ : ∀ a w, Z a w → Q .normal a w) :
    (Code.region id ops true).wpIn (Fence.wide.inRound l) n P Q a w :=
  wpIn_mono (round_drawn hm S hd (fun ⟨_, _, hq⟩ => hq) h) (fun e a w hz => by cases e <;> first | exact hQ _ _ hz | exact hz.elim)
theorem rg_two (i j : Nat) (hr : Region.ready .any ops listed = [i, j]) (h1 : wpOp P ops R i (fun a' w' => S w' ∧ wpAnyH P .any ops R S fuel (listed.setIfInBounds i true) a' w') a w)
    (h2 : wpOp P ops R j (fun a' w' => S w' ∧ wpAnyH P .any ops R S fuel (listed.setIfInBounds j true) a' w') a w) : wpAnyH P .any ops R S (fuel + 1) listed a w :=
  wpAnyH_all hr (by simp) (fun k hk => by
    simp at hk
    rcases hk with rfl | rfl
    · exact h1
    · exact h2)
theorem op_call (i : Nat) (d : Option Tmp) {K : Act → World → Prop} {f : FuncId} {args : Array Operand} {ts : Array TypeId} (hi : ops[i]? = some oi) (hd : oi.dst = d) (ho : oi.op = .call { callee := .value (.func f), args := args, argTypes := ts }) (hw : Region.wanted oi (yielded ops a.tmps) = true)
    (he : ∀ args w, (callFunc f args).run P w = .ok (.enter f args) w) (hc : Calls P f (args.toList.map a.eval).toArray w fun e w' => ∃ v, e = .returned v ∧ K (a.put d v) w') : wpOp P ops R i K a w := by
  subst hd
  unfold wpOp
  simp only [hi, hw, if_true]
  left
  have hrun : (execOp a.eval oi).run P w = .ok (.enter f (args.map a.eval)) w := by
    unfold execOp
    simp only [ho]
    simp [resolve, invoke, Act.eval, he, Deferred.ofValue]
  unfold Oper.wp
  have hargs : args.map a.eval = (args.toList.map a.eval).toArray := by cases args; simp
  rw [hrun, Oper.upon_enter, hargs]
  refine hc.mono ?_
  rintro e w2 ⟨v, rfl, h⟩
  exact h
/-- the call of a function value without what it captured -/
theorem op_callv (i : Nat) (d : Option Tmp) {K : Act → World → Prop} {f : FuncId} {x : Operand} {args : Array Operand} {ts : Array TypeId} (hi : ops[i]? = some oi) (hd : oi.dst = d) (ho : oi.op = .call { callee := .value x, args := args, argTypes := ts }) (hx : a.eval x = .func (.func f) #[] #[]) (hw : Region.wanted oi (yielded ops a.tmps) = true)
    (he : ∀ args w, (callFunc f args).run P w = .ok (.enter f args) w) (hc : Calls P f (args.toList.map a.eval).toArray w fun e w' => ∃ v, e = .returned v ∧ K (a.put d v) w') : wpOp P ops R i K a w := by
  subst hd
  unfold wpOp
  simp only [hi, hw, if_true]
  left
  have hrun : (execOp a.eval oi).run P w = .ok (.enter f (args.map a.eval)) w := by
    unfold execOp
    simp only [ho]
    simp [resolve, invoke, hx, he, Deferred.ofValue]
  unfold Oper.wp
  have hargs : args.map a.eval = (args.toList.map a.eval).toArray := by cases args; simp
  rw [hrun, Oper.upon_enter, hargs]
  refine hc.mono ?_
  rintro e w2 ⟨v, rfl, h⟩
  exact h
theorem rg_callv (i : Nat) (d : Option Tmp) {f : FuncId} {x : Operand} {args : Array Operand} {ts : Array TypeId} (hi : ops[i]? = some oi) (hd : oi.dst = d) (hr : Region.ready .any ops listed = [i]) (ho : oi.op = .call { callee := .value x, args := args, argTypes := ts }) (hx : a.eval x = .func (.func f) #[] #[]) (hw : Region.wanted oi (yielded ops a.tmps) = true)
    (he : ∀ args w, (callFunc f args).run P w = .ok (.enter f args) w)
    (hc : Calls P f (args.toList.map a.eval).toArray w fun e w' => ∃ v, e = .returned v ∧ S w' ∧ wpAnyH P .any ops R S fuel (listed.setIfInBounds i true) (a.put d v) w') : wpAnyH P .any ops R S (fuel + 1) listed a w :=
  rg_one i hr (op_callv i d hi hd ho hx hw he hc)
theorem op_value (i : Nat) (d : Option Tmp) {K : Act → World → Prop} (hi : ops[i]? = some oi) (hd : oi.dst = d) (hw : Region.wanted oi (yielded ops a.tmps) = true) (hrun : (execOp a.eval oi).run P w = .ok (.value v) w') (h : K (a.put d v) w') : wpOp P ops R i K a w := by
  subst hd
  unfold wpOp
  simp only [hi, hw, if_true]
  left
  unfold Oper.wp
  rw [hrun]
  exact h
end
end Go.Proofs.YtgkfgilhegjbhaaGreat
