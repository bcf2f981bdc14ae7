/- The statement MetaFinds: for every spot and every address the law returns true and its arguments read as before; no condition. -/
import Derived.Test.YtgkfgilhegjbhaaGreatRows
import Derived.Test.YtgkfgilhegjbhaaGreatL15
import Derived.Lib.SmallJoins
import Derived.Carry
import Derived.ProofKit
import Derived.OpenShut
namespace Go.Proofs.YtgkfgilhegjbhaaGreat
open Go.Joins Go.ChangeShapes Go.WideShapes Go.ChangeAt Go.RowKit
theorem own : ownKnob Tryz.prog.godebug = none := by kernel_rfl
theorem laid : laidOutB Tryz.prog = true := by kernel_rfl
theorem spotCells : Tryz.prog.cellsOf 23 = 3 := by kernel_rfl
set_option maxRecDepth 100000 in
theorem lifted15 (os : Os) (started : os.Started) (H : Type) (enc : TypeId × Value → H) :
    ReturnsInHanded {} Tryz.checked os 3 .any (Rows.metaFindsSpec.pre6 enc Tryz.prog Tryz.f3 Rows.metaFindsRow.domain false) (Rows.metaFindsSpec.post enc Tryz.prog Tryz.f3 false true false false) := by
  refine returnsInHanded_of_change (C := Tryz.checked) own started (by kernel_rfl) Tryz.func3
    (ChangeSpec.witness6 (enc := enc) (C := Tryz.checked) false ⟨#[], #[.agg #[.int .i64 0, .int .i64 0, .int .i64 0], .int .u32 0], []⟩ 8 (by kernel_rfl) (by kernel_rfl) (by kernel_rfl) (by kernel_rfl)) ?_
  intro W base args ds gs before hval0 hW hcnd _
  have hval : ∀ (j : Nat) t v, Tryz.f3.params[j]? = some t → args[j]? = some v → Value.okWide Tryz.prog W .any base t v := hval0
  have hW' := hW
  obtain ⟨p, q, hA0, hV, rfl, hfz, hnd⟩ := hW
  have hA : DataW.TrodAll enc Tryz.prog W 0 (fun _ => true) true Tryz.f3.params.toList args.toList ds p := hA0
  rw [Tryz.params3] at hA hval
  obtain ⟨v0, vs0, d0, ds0, p0, q0, hargs, rfl, rfl, h0, r0⟩ := trodAll_cons hA
  obtain ⟨v1, vs1, d1, ds1, p1, q1, hargs1, rfl, rfl, h1, r1⟩ := trodAll_cons r0
  obtain ⟨rfl, rfl, rfl⟩ := trodAll_nil r1
  subst hargs1
  obtain rfl : args = #[v0, v1] := by cases args; simp_all
  obtain ⟨rfl, rfl⟩ := trodVars_none hV
  clear hA0 hval0
  simp only [List.append_nil] at hW'
  have hlt0 : ∀ x ∈ p0, x.block < W.heap.size := fun x hx => by simpa using hW'.lt x (by simp [hx])
  have hlt1 : ∀ x ∈ p1, x.block < W.heap.size := fun x hx => by simpa using hW'.lt x (by simp [hx])
  have hread0 : ∀ (W' : World), Below W.heap.size W W' → DataW.Trod enc Tryz.prog W' 0 (fun b => decide (b < W.heap.size)) true 23 v0 d0 p0 :=
    fun W' hn => Below.trod laid (by kernel_rfl) (of_decide_eq_true (by kernel_rfl)) h0 hn hlt0
  have hread1 : ∀ (W' : World), Below W.heap.size W W' → DataW.Trod enc Tryz.prog W' 0 (fun b => decide (b < W.heap.size)) true 24 v1 d1 p1 :=
    fun W' hn => Below.trod laid (by kernel_rfl) (of_decide_eq_true (by kernel_rfl)) h1 hn hlt1
  obtain ⟨c0, c1, c2, y0, y1, y2, n, hv, hd, hp, k0, k1, k2⟩ := open_agg3 Tryz.underlying23 (by kernel_rfl) spotCells (hval 0 23 v0 rfl rfl) h0
  obtain ⟨s, e0, _, _⟩ := DataW.trod_int Tryz.underlying3 k0
  obtain ⟨c, e1, _, _⟩ := DataW.trod_int Tryz.underlying3 k1
  obtain ⟨i, e2, _, _⟩ := DataW.trod_int Tryz.underlying3 k2
  obtain ⟨a, rfl⟩ := okWide_int Tryz.underlying24 (hval 1 24 v1 rfl rfl)
  have w3 : (Lit.int .u32 a).wf = true := by
    obtain ⟨fuel, hf⟩ := h1
    obtain ⟨a', e, _, hw⟩ := DataW.trod_int Tryz.underlying24 hf
    obtain rfl : a = a' := by simpa [Value.cells] using e
    exact hw
  have a0 : 0 ≤ a := by
    simp only [Lit.wf, Bool.and_eq_true, decide_eq_true_eq] at w3
    have := w3.1
    simpa [IntKind.min, IntKind.signed] using this
  obtain rfl : c0 = .int .i64 s := by simpa using e0
  obtain rfl : c1 = .int .i64 c := by simpa using e1
  obtain rfl : c2 = .int .i64 i := by simpa using e2
  subst hv
  refine (l15_holds (s := s) (c := c) (i := i) a0).mono fun e W' ⟨he, hn⟩ => ?_
  subst he
  exact ⟨_, rfl, _, _, _, [], p0 ++ p1, [], hW', trodAll_mk1 (shut_bool Tryz.underlying4 _), trodAll_mk2 (hread0 _ hn) (hread1 _ hn), rfl, hn.frame _, fun h => by cases h⟩
theorem over15 : Rows.metaFindsRow.holds Tryz.pinned (OpenSpec.ofChange Rows.metaFindsSpec) :=
  OpenClaim.holds_of_wide 3 Tryz.f3 rfl rfl rfl rfl rfl rfl rfl ⟨rfl, rfl, rfl, rfl, rfl⟩ rfl rfl rfl rfl rfl (by kernel_rfl) Tryz.func3 (by kernel_rfl)
    (of_decide_eq_true (by kernel_rfl)) (by unfold Func.isWrapper; first | (rw [if_pos (by decide +kernel)]; kernel_rfl) | (rw [if_neg (by decide +kernel)]; exact ⟨rfl, rfl⟩))
    (fun os started H enc _ => lifted15 os started H enc)
/-- the statement -/
theorem metaFinds_holds : Rows.MetaFindsSaid := over15
#print axioms metaFinds_holds
end Go.Proofs.YtgkfgilhegjbhaaGreat
