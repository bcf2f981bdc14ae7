/- A memory's blocks, its pool's, its table's; none, New; no condition. -/
import Derived.Test.YtgkfgilhegjbhaaGreatNew
namespace Go.Proofs.YtgkfgilhegjbhaaGreat
open Go.RowKit
attribute [local go_sem] run_mf
section
variable {w : World} {pb fb rb : Nat} {many : Int} {F : List (Int × Tak)} {R : List (Int × Int)}
theorem PoolAt.keep {w' : World} {S : List Nat} (h : PoolAt w pb fb rb many F R) (hu : Upd S w w') (h1 : pb ∉ S) (h2 : fb ∉ S) (h3 : rb ∉ S) : PoolAt w' pb fb rb many F R :=
  ⟨(hu.block _ (lt_of_block h.blk) h1).trans h.blk, h.fr.later (hu.block _ h.fr.lt h2), h.rs.later (hu.block _ h.rs.lt h3), h.ne⟩
end
/-- a memory: its block, its table, its pool -/
structure MemAt (w : World) (mb tb eb pb fb rb : Nat) (many : Int) (T : List (Int × Ent)) (F : List (Int × Tak)) (R : List (Int × Int)) : Prop where
  blk : w.heap[mb]? = some (.cells #[.pointer (some ⟨tb, 0, none⟩), .pointer (some ⟨pb, 0, none⟩)] 95 (0, 0))
  tab : TabAt w tb eb T
  pool : PoolAt w pb fb rb many F R
  ef : eb ≠ fb
  er : eb ≠ rb
section
variable {w w' : World} {mb tb eb pb fb rb : Nat} {many : Int} {T : List (Int × Ent)} {F : List (Int × Tak)} {R : List (Int × Int)}
theorem MemAt.ext (h : MemAt w mb tb eb pb fb rb many T F R) (hx : Ext w w') : MemAt w' mb tb eb pb fb rb many T F R :=
  ⟨(hx.block _ (lt_of_block h.blk)).trans h.blk, h.tab.ext hx, h.pool.ext hx, h.ef, h.er⟩
theorem TabAt.keep {S : List Nat} (h : TabAt w tb eb T) (hu : Upd S w w') (h1 : tb ∉ S) (h2 : eb ∉ S) : TabAt w' tb eb T :=
  ⟨(hu.block _ (lt_of_block h.blk) h1).trans h.blk, h.en.later (hu.block _ h.en.lt h2)⟩
theorem MemAt.c0 (h : MemAt w mb tb eb pb fb rb many T F R) : w.cell? ⟨mb, 0, none⟩ = some (.pointer (some ⟨tb, 0, none⟩)) := cell_at (i := 0) h.blk rfl
theorem MemAt.c1 (h : MemAt w mb tb eb pb fb rb many T F R) : w.cell? ⟨mb, 1, none⟩ = some (.pointer (some ⟨pb, 0, none⟩)) := cell_at (i := 1) h.blk rfl
/-- which blocks are no map -/
theorem MemAt.nm {c : Nat} {cs : Array Value} {t : TypeId} {fr : Nat × Nat} (h : MemAt w mb tb eb pb fb rb many T F R) (hc : w.heap[c]? = some (.cells cs t fr)) : c ≠ eb ∧ c ≠ fb ∧ c ≠ rb :=
  ⟨map_ne h.tab.en hc, map_ne h.pool.fr hc, map_ne h.pool.rs hc⟩
theorem MemAt.keep {S : List Nat} (h : MemAt w mb tb eb pb fb rb many T F R) (hu : Upd S w w') (hS : ∀ k ∈ [mb, tb, eb, pb, fb, rb], k ∉ S) : MemAt w' mb tb eb pb fb rb many T F R :=
  ⟨(hu.block _ (lt_of_block h.blk) (hS _ (by simp))).trans h.blk, h.tab.keep hu (hS _ (by simp)) (hS _ (by simp)), h.pool.keep hu (hS _ (by simp)) (hS _ (by simp)) (hS _ (by simp)), h.ef, h.er⟩
theorem MemAt.set_tab {T' : List (Int × Ent)} (h : MemAt w mb tb eb pb fb rb many T F R) (hu : Upd [eb] w w') (ht : TabAt w' tb eb T') : MemAt w' mb tb eb pb fb rb many T' F R :=
  ⟨(hu.block _ (lt_of_block h.blk) (by simp; exact (h.nm h.blk).1)).trans h.blk, ht, h.pool.keep hu (by simp; exact (h.nm h.pool.blk).1) (by simp; exact Ne.symm h.ef) (by simp; exact Ne.symm h.er), h.ef, h.er⟩
theorem MemAt.set_fr {F' : List (Int × Tak)} (h : MemAt w mb tb eb pb fb rb many T F R) (hu : Upd [fb] w w') (hp : PoolAt w' pb fb rb many F' R) : MemAt w' mb tb eb pb fb rb many T F' R :=
  ⟨(hu.block _ (lt_of_block h.blk) (by simp; exact (h.nm h.blk).2.1)).trans h.blk, h.tab.keep hu (by simp; exact (h.nm h.tab.blk).2.1) (by simp; exact h.ef), hp, h.ef, h.er⟩
theorem MemAt.set_rs {R' : List (Int × Int)} (h : MemAt w mb tb eb pb fb rb many T F R) (hu : Upd [rb] w w') (hp : PoolAt w' pb fb rb many F R') : MemAt w' mb tb eb pb fb rb many T F R' :=
  ⟨(hu.block _ (lt_of_block h.blk) (by simp; exact (h.nm h.blk).2.2)).trans h.blk, h.tab.keep hu (by simp; exact (h.nm h.tab.blk).2.2) (by simp; exact h.er), hp, h.ef, h.er⟩
set_option maxRecDepth 100000 in
set_option maxHeartbeats 1000000 in
theorem vm_none (h : MemAt w mb tb eb pb fb rb many T F R) : Calls Tryz.prog 84 #[.pointer (some ⟨mb, 0, none⟩)] w fun e w' => e = .returned (.bool false) ∧ w = w' := by
  have h1 := h.c1
  go_enter Tryz.func84, Tryz.ntmps84
  go_wp2
  go_ret
  exact ⟨rfl, rfl⟩
set_option maxRecDepth 100000 in
set_option maxHeartbeats 1000000 in
theorem vm_new (n : Int) : Calls Tryz.prog 24 #[.int .i64 n] w fun e w' => Ext w w' ∧ if newE n = 0 then
    ∃ mb tb eb pb fb rb, e = .returned (.tuple #[.pointer (some ⟨mb, 0, none⟩), .int .i64 0]) ∧ MemAt w' mb tb eb pb fb rb n [] [] [] ∧ (∀ k ∈ [mb, tb, eb, pb, fb, rb], w.heap.size ≤ k)
    else e = .returned (.tuple #[.pointer none, .int .i64 (newE n)]) := by
  have hn := frame_new (w := w) n
  by_cases h0 : newE n = 0
  · simp only [h0, if_true] at hn ⊢
    clear h0
    go_enter Tryz.func24, Tryz.ntmps24
    go_wp2_with fail
    refine hn.mono ?_
    rintro e w2 ⟨hx, pb, fb, rb, rfl, hp, l1, l2, l3⟩
    go_wp2_with fail
    refine page_new.mono ?_
    rintro e w3 ⟨tb, eb, rfl, hx3, ht, l4, l5⟩
    have hx0 := hx.size
    have hpf := hp.fr.lt
    have hpr := hp.rs.lt
    go_wp2_with fail
    refine bodyPost_ret (v := .tuple #[.pointer (some ⟨w3.heap.size, 0, none⟩), .int .i64 0]) ?_ rfl ⟨ext_n _ (Ext.trans hx hx3), w3.heap.size, tb, eb, pb, fb, rb, rfl, ⟨World.alloc_heap_new _ _, ht.ext (ext_n _ (Ext.refl _)), hp.ext (ext_n _ hx3), by omega, by omega⟩, ?_⟩
    · simp [results, Tryz.results24, go_sem]
    · have := hx3.size
      intro k hk
      simp at hk
      rcases hk with rfl | rfl | rfl | rfl | rfl | rfl <;> omega
  · have hr0 : (newE n != 0) = true := by simp [h0]
    simp only [h0, if_false] at hn ⊢
    obtain ⟨r, hr⟩ : ∃ r, r = newE n := ⟨_, rfl⟩
    rw [← hr] at hr0 hn ⊢
    clear hr h0
    go_enter Tryz.func24, Tryz.ntmps24
    go_wp2_with fail
    refine hn.mono ?_
    rintro e w2 ⟨hx, rfl⟩
    go_wp2
    refine bodyPost_ret (v := .tuple #[.pointer none, .int .i64 r]) ?_ rfl ⟨hx, rfl⟩
    simp [results, Tryz.results24, go_sem]
end
end Go.Proofs.YtgkfgilhegjbhaaGreat
