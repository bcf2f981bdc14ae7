/- package meta: Put, asked; no condition. -/
import Derived.Test.YtgkfgilhegjbhaaGreatMeR
import Derived.Test.YtgkfgilhegjbhaaGreatAskA
namespace Go.Proofs.YtgkfgilhegjbhaaGreat
open Go.RowKit
attribute [local go_sem] run_mf
attribute [local go_sem ↓] Go.wp_at_zero Go.wp_at_succ
section
variable {w w' : World} {mb tb eb pb fb rb : Nat} {many : Int} {T : List (Int × Ent)} {F : List (Int × Tak)} {R : List (Int × Int)}
/-- the parts of a record's shape -/
def recP : Array Value := #[.int .i64 1, .func (.func 66) #[] #[], .func (.func 67) #[] #[], .int .i64 1, Value.nilFunc, Value.nilFunc, .int .i64 2, .func (.func 68) #[] #[], .func (.func 69) #[] #[], .int .i64 4, .func (.func 70) #[] #[], .func (.func 71) #[] #[]]
def recS (b : Nat) : Value := .agg #[.slice (some ⟨b, 0, none⟩) 4 4, .func (.func 72) #[] #[]]
set_option maxRecDepth 100000 in
set_option maxHeartbeats 1000000 in
theorem me_records : Calls Tryz.prog 46 #[] w fun e w' => ∃ b, e = .returned (recS b) ∧ Ext w w' ∧ ∃ t, w'.heap[b]? = some (.cells recP t (0, 0)) := by
  unfold recS recP
  go_enter Tryz.func46, Tryz.ntmps46
  go_wp2
  have hn := fun o1 o2 : Obj => World.alloc_heap_new (w.alloc o1) o2
  simp only [World.size_alloc] at hn
  have hr := fun o1 o2 : Obj => (Below.heap_alloc (w.alloc o1) o2 w.heap.size (by simp)).trans (World.alloc_heap_new w o1)
  have c0 := cell_at (i := 0) (hr (.cells #[.slice (some ⟨w.heap.size + 1, 0, none⟩) 4 4, .func (.func 72) #[] #[]] 100) (.cells recP 122)) rfl
  have c1 := cell_at (i := 1) (hr (.cells #[.slice (some ⟨w.heap.size + 1, 0, none⟩) 4 4, .func (.func 72) #[] #[]] 100) (.cells recP 122)) rfl
  unfold recP at c0 c1
  refine bodyPost_ret (v := .agg #[.slice (some ⟨w.heap.size + 1, 0, none⟩) 4 4, .func (.func 72) #[] #[]]) ?_ rfl ⟨w.heap.size + 1, rfl, ext_n _ (ext_n _ (Ext.refl _)), _, hn _ _⟩
  simp [results, Tryz.results46, go_sem, c0, c1]
set_option maxRecDepth 100000 in
set_option maxHeartbeats 1000000 in
theorem me_put1 {sb qb : Nat} {st sz nn : Int} (h1 : w.cell? ⟨sb, 1, none⟩ = some (.func (.func 72) #[] #[])) (h2 : w.heap[qb]? = some (.cells #[.int .i64 st, .int .i64 sz, .int .u32 nn] 64 (0, 0))) :
    Calls Tryz.prog 60 #[.pointer (some ⟨sb, 0, none⟩), .pointer (some ⟨qb, 0, none⟩)] w fun e w' => e = .returned (.bool (!rightB st sz)) ∧ Ext w w' := by
  have hr := me_right (w := w) st sz nn
  obtain ⟨r, hrr⟩ : ∃ r, rightB st sz = r := ⟨_, rfl⟩
  rw [hrr] at hr ⊢
  have c0 := cell_at (i := 0) h2 rfl
  have c1 := cell_at (i := 1) h2 rfl
  have c2 := cell_at (i := 2) h2 rfl
  clear h2 hrr
  go_enter Tryz.func60, Tryz.ntmps60
  go_wp2_with fail
  refine hr.mono ?_
  rintro e w2 ⟨rfl, hx⟩
  go_wp2
  go_ret
  exact ⟨rfl, hx⟩
end
end Go.Proofs.YtgkfgilhegjbhaaGreat
