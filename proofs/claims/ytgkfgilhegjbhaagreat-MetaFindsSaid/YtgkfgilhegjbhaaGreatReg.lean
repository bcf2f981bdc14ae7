/- A region that draws its order, walked by hand: what only reads is taken first, each call as it comes; no condition. -/
import Derived.Test.YtgkfgilhegjbhaaGreatRng
namespace Go.Proofs.YtgkfgilhegjbhaaGreat
open Go.RowKit
section
variable {P : Program} {ops : Array Oper} {R : Exit → Act → World → Prop} {S : World → Prop} {a : Act} {w w' : World} {fuel : Nat} {listed : Array Bool} {oi : Oper} {v : Value}
theorem rg_begin (S : World → Prop) {id : Nat} (hm : P.follows .mixedOrders = true) (h : wpAnyH P .any ops R S ops.size (Array.replicate ops.size false) a w.drew) : (Code.region id ops true).wp P R a w :=
  wp_region_held hm h
theorem rg_held (i : Nat) (d : Option Tmp) (hi : ops[i]? = some oi) (hd : oi.dst = d) (hs : Region.noSelect ops = true) (hf : Region.free .any ops listed i = true) (hr : (Region.ready .any ops listed).contains i = true)
    (hQ : ∀ c a w, R (.panic c) (a.put d v) w → R (.panic c) a w) (hw : Region.wanted oi (yielded ops a.tmps) = true) (hrun : ∀ w', S w' → (execOp a.eval oi).run P w' = .ok (.value v) w') (hS : S w)
    (h : wpAnyH P .any ops R S fuel (listed.setIfInBounds i true) (a.put d v) w) : wpAnyH P .any ops R S (fuel + 1) listed a w :=
  by subst hd; exact wpAnyH_take hi hs hf hr hQ (.inl ⟨hw, hrun⟩) hS h
theorem rg_skip (i : Nat) (d : Option Tmp) (hi : ops[i]? = some oi) (hd : oi.dst = d) (hs : Region.noSelect ops = true) (hf : Region.free .any ops listed i = true) (hr : (Region.ready .any ops listed).contains i = true)
    (hQ : ∀ c a w, R (.panic c) (a.put d undef) w → R (.panic c) a w) (hw : Region.wanted oi (yielded ops a.tmps) = false) (hS : S w)
    (h : wpAnyH P .any ops R S fuel (listed.setIfInBounds i true) (a.put d undef) w) : wpAnyH P .any ops R S (fuel + 1) listed a w :=
  by subst hd; exact wpAnyH_take hi hs hf hr hQ (.inr ⟨hw, rfl⟩) hS h
theorem rg_one (i : Nat) (hr : Region.ready .any ops listed = [i]) (h : wpOp P ops R i (fun a' w' => S w' ∧ wpAnyH P .any ops R S fuel (listed.setIfInBounds i true) a' w') a w) : wpAnyH P .any ops R S (fuel + 1) listed a w :=
  wpAnyH_all hr (by simp) (fun j hj => by
    simp at hj; subst hj; exact h)
theorem rg_call (i : Nat) (d : Option Tmp) {f : FuncId} {args : Array Operand} {ts : Array TypeId} (hi : ops[i]? = some oi) (hd : oi.dst = d) (hr : Region.ready .any ops listed = [i]) (ho : oi.op = .call { callee := .value (.func f), args := args, argTypes := ts }) (hw : Region.wanted oi (yielded ops a.tmps) = true)
    (he : ∀ args w, (callFunc f args).run P w = .ok (.enter f args) w)
    (hc : Calls P f (args.toList.map a.eval).toArray w fun e w' => ∃ v, e = .returned v ∧ S w' ∧ wpAnyH P .any ops R S fuel (listed.setIfInBounds i true) (a.put d v) w') : wpAnyH P .any ops R S (fuel + 1) listed a w := by
  subst hd
  refine rg_one i hr ?_
  unfold wpOp
  simp only [hi, hw, if_true]
  left
  have hrun : (execOp a.eval oi).run P w = .ok (.enter f (args.map a.eval)) w := by
    unfold execOp
    simp only [ho]
    simp [resolve, invoke, Act.eval, he, Deferred.ofValue]
  unfold Oper.wp
  have hargs : args.map a.eval = (args.toList.map a.eval).toArray := by cases args; simp
  rw [hrun, Oper.upon_enter, hargs]
  refine hc.mono ?_
  rintro e w2 ⟨v, rfl, hS, h⟩
  exact ⟨hS, h⟩
theorem rg_value (i : Nat) (d : Option Tmp) (hi : ops[i]? = some oi) (hd : oi.dst = d) (hr : Region.ready .any ops listed = [i]) (hw : Region.wanted oi (yielded ops a.tmps) = true) (hrun : (execOp a.eval oi).run P w = .ok (.value v) w') (hS : S w')
    (h : wpAnyH P .any ops R S fuel (listed.setIfInBounds i true) (a.put d v) w') : wpAnyH P .any ops R S (fuel + 1) listed a w := by
  subst hd
  refine rg_one i hr ?_
  unfold wpOp
  simp only [hi, hw, if_true]
  left
  unfold Oper.wp
  rw [hrun]
  exact ⟨hS, h⟩
theorem rg_unit (i : Nat) (d : Option Tmp) (hi : ops[i]? = some oi) (hd : oi.dst = d) (hr : Region.ready .any ops listed = [i]) (hw : Region.wanted oi (yielded ops a.tmps) = true) (hrun : (execOp a.eval oi).run P w = .ok .skip w') (hS : S w')
    (h : wpAnyH P .any ops R S fuel (listed.setIfInBounds i true) (a.put d undef) w') : wpAnyH P .any ops R S (fuel + 1) listed a w := by
  subst hd
  refine rg_one i hr ?_
  unfold wpOp
  simp only [hi, hw, if_true]
  left
  unfold Oper.wp
  rw [hrun]
  exact ⟨hS, h⟩
theorem rg_done (hr : Region.ready .any ops listed = []) (h : R .normal a w) : wpAnyH P .any ops R S fuel listed a w := wpAnyH_done hr h _
end
end Go.Proofs.YtgkfgilhegjbhaaGreat
