/- package meta: records: what may be one, where it stands; no condition. -/
import Derived.Test.YtgkfgilhegjbhaaGreatMeM
import Derived.Test.YtgkfgilhegjbhaaGreatSta
import Derived.Laws.Closers25b
namespace Go.Proofs.YtgkfgilhegjbhaaGreat
open Go.RowKit
attribute [local go_sem] run_mf
attribute [local go_sem ↓] Go.wp_at_zero Go.wp_at_succ
section
variable {w : World}
set_option maxRecDepth 100000 in
set_option maxHeartbeats 1000000 in
theorem me_known (n : Int) : Calls Tryz.prog 73 #[.int .i64 n] w fun e w' => e = .returned (.bool (inB 5 n)) ∧ Ext w w' := by
  have hN := fun w : World => st_Name (w := w) n
  cases h5 : inB 5 n with
  | false =>
    go_enter Tryz.func73, Tryz.ntmps73
    go_wp2_with fail
    refine (hN _).mono ?_
    rintro e w2 ⟨s, rfl, hs, -, hx⟩
    have := hs h5
    subst this
    go_wp2
    go_ret
    exact ⟨rfl, hx⟩
  | true =>
    go_enter Tryz.func73, Tryz.ntmps73
    go_wp2_with fail
    refine (hN _).mono ?_
    rintro e w2 ⟨s, rfl, -, hs, hx⟩
    have hb := hs h5
    go_wp2
    go_ret
    have ht : s.toList.isEmpty = false := by
      rw [List.isEmpty_eq_false_iff]
      exact fun h => hb ((toList_nil_iff_emptyBytes s).1 h)
    refine ⟨?_, hx⟩
    show Ending.returned (Value.bool !s.toList.isEmpty) = _
    rw [ht]
    rfl
/-- may a record be? -/
def rightB (st sz : Int) : Bool := inB 5 st && inB 65536 sz
set_option maxRecDepth 100000 in
set_option maxHeartbeats 1000000 in
theorem me_right (st sz nn : Int) : Calls Tryz.prog 72 #[.agg #[.int .i64 st, .int .i64 sz, .int .u32 nn]] w fun e w' => e = .returned (.bool (rightB st sz)) ∧ Ext w w' := by
  have hk := fun w : World => me_known (w := w) st
  have hf := fun w : World => me_fits_new (w := w) (k := 65535) (n := sz)
  rw [show (decide (0 ≤ sz) && decide (sz ≤ 65535)) = inB 65536 sz from inB_le 65536 sz] at hf
  unfold rightB
  have hxn : Ext w (w.alloc (.cells #[.int .i64 st, .int .i64 sz, .int .u32 nn] 64)) := ext_n _ (Ext.refl _)
  obtain ⟨r, hr⟩ : ∃ r, inB 65536 sz = r := ⟨_, rfl⟩
  simp only [hr] at hf ⊢
  cases h5 : inB 5 st with
  | false =>
    simp only [h5] at hk
    go_enter Tryz.func72, Tryz.ntmps72
    go_wp2_with fail
    refine (hk _).mono ?_
    rintro e w2 ⟨rfl, hx⟩
    go_wp2
    go_ret
    exact ⟨by simp, Ext.trans hxn hx⟩
  | true =>
    simp only [h5] at hk
    go_enter Tryz.func72, Tryz.ntmps72
    go_wp2_with fail
    refine (hk _).mono ?_
    rintro e w2 ⟨rfl, hx⟩
    have hb2 : w2.heap[w.heap.size]? = some (.cells #[.int .i64 st, .int .i64 sz, .int .u32 nn] 64 (0, 0)) := (hx.block _ (by simp)).trans (World.alloc_heap_new _ _)
    have c1 := cell_at (i := 1) hb2 rfl
    clear hb2
    go_wp2_with fail
    refine (hf _).mono ?_
    rintro e w3 ⟨rfl, hx3⟩
    go_wp2
    go_ret
    exact ⟨by simp, Ext.trans hxn (Ext.trans hx hx3)⟩
/-- where a spot's record stands in its book -/
def placeI (c i : Int) : Int := if (inB 8 c && inB 65536 i) = true then 3 * c * 256 + 8 * i else 0
set_option maxRecDepth 100000 in
set_option maxHeartbeats 1000000 in
theorem me_place (s c i : Int) : Calls Tryz.prog 47 #[.agg #[.int .i64 s, .int .i64 c, .int .i64 i]] w fun e w' => e = .returned (.int .i64 (placeI c i)) ∧ Ext w w' := by
  have hf7 := fun (w : World) (b : Nat) (hb : b = w.heap.size) => me_fits_at (w := w) (k := 7) (n := c) hb
  have hf6 := fun w : World => me_fits_new (w := w) (k := 65535) (n := i)
  rw [show (decide (0 ≤ c) && decide (c ≤ 7)) = inB 8 c from inB_le 8 c] at hf7
  rw [show (decide (0 ≤ i) && decide (i ≤ 65535)) = inB 65536 i from inB_le 65536 i] at hf6
  have hxn : Ext w (w.alloc (.cells #[.int .i64 s, .int .i64 c, .int .i64 i] 23)) := ext_n _ (Ext.refl _)
  have hbl : ∀ w2, Ext (w.alloc (.cells #[.int .i64 s, .int .i64 c, .int .i64 i] 23)) w2 → w2.cell? ⟨w.heap.size, 1, none⟩ = some (.int .i64 c) ∧ w2.cell? ⟨w.heap.size, 2, none⟩ = some (.int .i64 i) := fun w2 hx => by
    have hb := (hx.block _ (by simp)).trans (World.alloc_heap_new w (.cells #[.int .i64 s, .int .i64 c, .int .i64 i] 23))
    exact ⟨cell_at (i := 1) hb rfl, cell_at (i := 2) hb rfl⟩
  have HB := Lib.hid hbl
  clear hbl
  unfold placeI
  cases h8 : inB 8 c with
  | false =>
    simp only [h8] at hf7
    go_enter Tryz.func47, Tryz.ntmps47
    go_wp2_with fail
    refine (hf7 _ _ (by simp)).mono ?_
    rintro e w2 ⟨rfl, hx⟩
    go_wp2
    go_ret
    exact ⟨by simp, Ext.trans hxn hx⟩
  | true =>
    simp only [h8] at hf7
    obtain ⟨c0, c8⟩ := inB_iff.1 h8
    cases h6 : inB 65536 i with
    | false =>
      simp only [h6] at hf6
      go_enter Tryz.func47, Tryz.ntmps47
      go_wp2_with fail
      refine (hf7 _ _ (by simp)).mono ?_
      rintro e w2 ⟨rfl, hx⟩
      obtain ⟨d1, d2⟩ := HB.out _ hx
      go_wp2_with fail
      refine (hf6 _).mono ?_
      rintro e w3 ⟨rfl, hx3⟩
      go_wp2
      go_ret
      exact ⟨by simp, Ext.trans hxn (Ext.trans hx hx3)⟩
    | true =>
      simp only [h6] at hf6
      obtain ⟨i0, i6⟩ := inB_iff.1 h6
      go_enter Tryz.func47, Tryz.ntmps47
      go_wp2_with fail
      refine (hf7 _ _ (by simp)).mono ?_
      rintro e w2 ⟨rfl, hx⟩
      obtain ⟨d1, d2⟩ := HB.out _ hx
      go_wp2_with fail
      refine (hf6 _).mono ?_
      rintro e w3 ⟨rfl, hx3⟩
      obtain ⟨e1, e2⟩ := HB.out _ (Ext.trans hx hx3)
      go_wp2
      go_ret
      exact ⟨by simp, Ext.trans hxn (Ext.trans hx hx3)⟩
end
end Go.Proofs.YtgkfgilhegjbhaaGreat
