/- Small words on calls of function values, used by every walk: a question that answers b in every later world; no condition. -/
import Derived.WalkKit
import Derived.WalkSpells
import Derived.WalkLawsBesides
import Derived.Outline
import Derived.Deep.QuietTactic
import Derived.BigQuiet
import Derived.Deep.RegionHeld3
import Derived.Deep.DrawnRows
import Derived.Deep.DeepFit
import Derived.Deep.DeepCutAuto
import Derived.RangeFuncRecord
import Derived.Deep.LoopGhost
import Derived.Laws.EntriesVeiled
import Derived.ScopeJumps
import Derived.WalkMore
import Derived.Lib.Hide
import Derived.Test.YtgkfgilhegjbhaaGreatProg
namespace Go.Proofs.YtgkfgilhegjbhaaGreat
open Go.RowKit
theorem run_mf (P : Program) (fn : Fn) (first cap : Array Value) (w : World) : (Instr.makeFunc fn first cap).run P w = .ok (.func fn first cap) w := rfl
/-- the call of a function value -/
def CallV (P : Program) (v : Value) (args : Array Value) (w : World) (R : Ending → World → Prop) : Prop :=
  ∃ f first cap, v = .func (.func f) first cap ∧ (∀ a w, (callFunc f a).run P w = .ok (.enter f a) w) ∧ Calls P f (first ++ args ++ cap) w R
/-- what nothing old has turned -/
abbrev Ext (w w' : World) : Prop := Below w.heap.size w w'
theorem Ext.refl (w : World) : Ext w w := Below.refl _ _
theorem Ext.trans {a b c : World} (h : Ext a b) (k : Ext b c) : Ext a c := Below.trans h (Below.mono k h.size)
/-- a question that answers b in every later world -/
def Q (P : Program) (w : World) (v : Value) (r : Value) : Prop :=
  ∃ f first cap, v = .func (.func f) first cap ∧ (∀ a w, (callFunc f a).run P w = .ok (.enter f a) w) ∧
    ∀ w', Ext w w' → Calls P f (first ++ #[] ++ cap) w' fun e w'' => e = .returned r ∧ Ext w' w''
theorem Q.later {P : Program} {w w' : World} {v r : Value} (h : Q P w v r) (hb : Ext w w') : Q P w' v r := by
  obtain ⟨f, first, cap, e, hc, hk⟩ := h
  exact ⟨f, first, cap, e, hc, fun w'' hb' => hk w'' (hb.trans hb')⟩
/-- questions, each asked where those ahead of it said no -/
def QL (P : Program) (w : World) : List (Value × Int × Bool) → Prop
  | [] => True
  | (v, _, b) :: r => Q P w v (.bool b) ∧ (b = false → QL P w r)
theorem QL.later {P : Program} {w w' : World} (hb : Ext w w') : ∀ {l : List (Value × Int × Bool)}, QL P w l → QL P w' l
  | [], _ => trivial
  | (_, _, _) :: _, h => ⟨h.1.later hb, fun e => QL.later hb (h.2 e)⟩
def firstE : List (Value × Int × Bool) → Int
  | [] => 0
  | (_, e, b) :: r => if b = true then e else firstE r
theorem jump_ret {l : Nat} {J : Act → World → Prop} {R : Exit → Act → World → Prop} {a : Act} {w : World} : Exit.jump l J R .ret a w = R .ret a w := rfl
theorem jump_goto {l : Nat} {J : Act → World → Prop} {R : Exit → Act → World → Prop} {a : Act} {w : World} (h : J a w) : Exit.jump l J R (.goto l) a w := ⟨rfl, h⟩
end Go.Proofs.YtgkfgilhegjbhaaGreat
