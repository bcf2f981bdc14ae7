/- package vmem: New, Reserve, Map, Unmap; no condition. -/
import Derived.Test.YtlafdnbjkkbmfaaVm2
namespace Go.Proofs.Ytlafdnbjkkbmfaa
open Go.RowKit
attribute [local go_sem] run_mf
attribute [local go_sem ↓] Go.wp_at_zero Go.wp_at_succ
section
variable {w w' : World} {mb tb eb pb fb rb : Nat} {many : Int} {T : List (Int × Ent)} {F : List (Int × Tak)} {R : List (Int × Int)}
set_option maxRecDepth 100000 in
set_option maxHeartbeats 1000000 in
theorem vm_who (n : Int) : Calls Try.prog 29 #[.int .i64 n] w fun e w' => e = .returned (.int .i64 (max n (-1))) ∧ w = w' := by
  go_enter Try.func29, Try.ntmps29
  go_wp2
  all_goals (go_ret; refine ⟨?_, rfl⟩; simp; omega)
set_option maxRecDepth 100000 in
set_option maxHeartbeats 1000000 in
theorem vm_reserve {p n : Int} (h : MemAt w mb tb eb pb fb rb many T F R) (hF : FOk F) (hR : ROk R many) :
    Calls Try.prog 8 #[.pointer (some ⟨mb, 0, none⟩), .int .i64 p, .int .i64 n] w fun e w' => e = .returned (.int .i64 (resE F R many p n)) ∧ Upd [rb] w w' ∧ MemAt w' mb tb eb pb fb rb many T F (if resE F R many p n = 0 then resR R p n else R) := by
  have hres := frame_reserve (who := p) (n := n) h.pool hF hR
  obtain ⟨R', hR'⟩ : ∃ R', R' = (if resE F R many p n = 0 then resR R p n else R) := ⟨_, rfl⟩
  rw [← hR'] at hres ⊢
  clear hR'
  have h1 := h.c1
  go_enter Try.func8, Try.ntmps8
  go_wp2_with (go_at_call 16; refine (vm_none h).mono ?_; rintro e w' ⟨rfl, rfl⟩)
  refine hres.mono ?_
  rintro e w2 ⟨rfl, hu, hp⟩
  go_wp2
  go_ret
  exact ⟨rfl, hu, h.set_rs hu hp⟩
set_option maxRecDepth 100000 in
set_option maxHeartbeats 1000000 in
theorem vm_new (n : Int) : Calls Try.prog 6 #[.int .i64 n] w fun e w' => Ext w w' ∧ if newE n = 0 then
    ∃ mb tb eb pb fb rb, e = .returned (.tuple #[.pointer (some ⟨mb, 0, none⟩), .int .i64 0]) ∧ MemAt w' mb tb eb pb fb rb n [] [] [] ∧ (∀ k ∈ [mb, tb, eb, pb, fb, rb], w.heap.size ≤ k)
    else e = .returned (.tuple #[.pointer none, .int .i64 (newE n)]) := by
  have hn := frame_new (w := w) n
  by_cases h0 : newE n = 0
  · simp only [h0, if_true] at hn ⊢
    clear h0
    go_enter Try.func6, Try.ntmps6
    go_wp2_with fail
    refine hn.mono ?_
    rintro e w2 ⟨hx, pb, fb, rb, rfl, hp, l1, l2, l3⟩
    go_wp2_with fail
    refine page_new.mono ?_
    rintro e w3 ⟨tb, eb, rfl, hx3, ht, l4, l5⟩
    have hx0 := hx.size
    have hpf := hp.fr.lt
    have hpr := hp.rs.lt
    go_wp2_with fail
    refine bodyPost_ret (v := .tuple #[.pointer (some ⟨w3.heap.size, 0, none⟩), .int .i64 0]) ?_ rfl ⟨ext_n _ (Ext.trans hx hx3), w3.heap.size, tb, eb, pb, fb, rb, rfl, ⟨World.alloc_heap_new _ _, ht.ext (ext_n _ (Ext.refl _)), hp.ext (ext_n _ hx3), by omega, by omega⟩, ?_⟩
    · simp [results, Try.results6, go_sem]
    · have := hx3.size
      intro k hk
      simp at hk
      rcases hk with rfl | rfl | rfl | rfl | rfl | rfl <;> omega
  · have hr0 : (newE n != 0) = true := by simp [h0]
    simp only [h0, if_false] at hn ⊢
    obtain ⟨r, hr⟩ : ∃ r, r = newE n := ⟨_, rfl⟩
    rw [← hr] at hr0 hn ⊢
    clear hr h0
    go_enter Try.func6, Try.ntmps6
    go_wp2_with fail
    refine hn.mono ?_
    rintro e w2 ⟨hx, rfl⟩
    go_wp2
    refine bodyPost_ret (v := .tuple #[.pointer none, .int .i64 r]) ?_ rfl ⟨hx, rfl⟩
    simp [results, Try.results6, go_sem]
/-- Unmap: what is told -/
def vunE (T : List (Int × Ent)) (F : List (Int × Tak)) (many n : Int) : Int := if unmE T n = 0 then thrE F many ((getL T n).getD ent0).frame 0 0 else unmE T n
set_option maxRecDepth 100000 in
set_option maxHeartbeats 1000000 in
theorem vm_unmap {n : Int} (h : MemAt w mb tb eb pb fb rb many T F R) (hF : FOk F) :
    Calls Try.prog 10 #[.pointer (some ⟨mb, 0, none⟩), .int .i64 n] w fun e w' => e = .returned (.int .i64 (vunE T F many n)) ∧ Upd [eb, fb] w w' ∧
      MemAt w' mb tb eb pb fb rb many (if unmE T n = 0 then delL T n else T) (if vunE T F many n = 0 then delL F ((getL T n).getD ent0).frame else F) R := by
  have hun := page_unmap h.tab n
  have hc0 := h.c0
  by_cases h0 : unmE T n = 0
  · have hv : vunE T F many n = thrE F many ((getL T n).getD ent0).frame 0 0 := by rw [vunE, if_pos h0]
    rw [hv]
    simp only [h0, if_true] at hun ⊢
    obtain ⟨x, hx⟩ : ∃ x, x = (getL T n).getD ent0 := ⟨_, rfl⟩
    rw [← hx] at hun ⊢
    obtain ⟨T', hT'⟩ : ∃ T', T' = delL T n := ⟨_, rfl⟩
    rw [← hT'] at hun ⊢
    obtain ⟨F', hF'⟩ : ∃ F', F' = (if thrE F many x.frame 0 0 = 0 then delL F x.frame else F) := ⟨_, rfl⟩
    obtain ⟨r, hr⟩ : ∃ r, r = thrE F many x.frame 0 0 := ⟨_, rfl⟩
    have hgv : ∀ w2, PoolAt w2 pb fb rb many F R → Calls Try.prog 27 #[.pointer (some ⟨pb, 0, none⟩), .int .i64 x.frame] w2 fun e w' => e = .returned (.int .i64 r) ∧ Upd [fb] w2 w' ∧ PoolAt w' pb fb rb many F' R := fun w2 hp => by
      rw [hr, hF']; exact frame_give hp hF
    rw [← hF', ← hr]
    have HG := Lib.hid hgv
    clear hgv hF' hr hT' hx h0 hv
    unfold encE at hun
    go_enter Try.func10, Try.ntmps10
    go_wp2_with (go_at_call 16; refine (vm_none h).mono ?_; rintro e w' ⟨rfl, rfl⟩)
    refine hun.mono ?_
    rintro e w2 ⟨rfl, hu, ht⟩
    have h2 := h.set_tab hu ht
    obtain ⟨W3, hW3⟩ : ∃ W3, w2.alloc (.cells #[.int .i64 x.owner, .int .i64 x.may, .int .i64 x.frame] 55) = W3 := ⟨_, rfl⟩
    have hx3 : Ext w2 W3 := hW3 ▸ ext_n _ (Ext.refl _)
    have hb3 : W3.heap[w2.heap.size]? = some (.cells #[.int .i64 x.owner, .int .i64 x.may, .int .i64 x.frame] 55 (0, 0)) := hW3 ▸ World.alloc_heap_new _ _
    have h3 := h2.ext hx3
    have hx34 : Ext W3 W3.drew := ext_drew (Ext.refl _)
    have hB : ∀ w', Upd [fb] W3 w' → w'.cell? ⟨mb, 1, none⟩ = some (.pointer (some ⟨pb, 0, none⟩)) ∧ w'.cell? ⟨w2.heap.size, 2, none⟩ = some (.int .i64 x.frame) := fun w' hu =>
      ⟨(hu.cell (lt_of_block h3.blk) (by simp; exact (h3.nm h3.blk).2.1)).trans h3.c1, cell_at (i := 2) ((hu.block _ (lt_of_block hb3) (by simp; exact (h3.nm hb3).2.1)).trans hb3) rfl⟩
    have HB := Lib.hid hB
    have HW := Lib.hid hW3
    clear hW3 hb3 hB
    go_wp2_with fail
    rw [HW.out]
    refine rg_begin ((fun w' => Upd [fb] W3 w')) (by kernel_rfl) ?_
    have hS : Upd [fb] W3 W3.drew := Upd.of_ext hx34
    refine rg_held 0 (some 22) (v := ?v1) rfl rfl (by kernel_rfl) (by kernel_rfl) (by kernel_rfl) (fun _ _ _ h => h) (by rfl) ?h1 hS ?_
    case h1 => (intro w' hS'; (skip); go_simp; try with_reducible rfl)
    simp only [Act.put, List.setIfInBounds_toArray, List.set_cons_zero, List.set_cons_succ]
    refine rg_held 1 (some 23) (v := ?v2) rfl rfl (by kernel_rfl) (by kernel_rfl) (by kernel_rfl) (fun _ _ _ h => h) (by rfl) ?h2 hS ?_
    case h2 => (intro w' hS'; (skip); go_simp; try with_reducible rfl)
    simp only [Act.put, List.setIfInBounds_toArray, List.set_cons_zero, List.set_cons_succ]
    refine rg_held 2 (some 24) (v := ?v3) rfl rfl (by kernel_rfl) (by kernel_rfl) (by kernel_rfl) (fun _ _ _ h => h) (by rfl) ?h3 hS ?_
    case h3 => (intro w' hS'; (skip); go_simp; try with_reducible rfl)
    simp only [Act.put, List.setIfInBounds_toArray, List.set_cons_zero, List.set_cons_succ]
    refine rg_held 3 (some 25) (v := ?v4) rfl rfl (by kernel_rfl) (by kernel_rfl) (by kernel_rfl) (fun _ _ _ h => h) (by rfl) ?h4 hS ?_
    case h4 => (intro w' hS'; (obtain ⟨c0, c1⟩ := HB.out _ hS'); go_simp; try with_reducible rfl)
    simp only [Act.put, List.setIfInBounds_toArray, List.set_cons_zero, List.set_cons_succ]
    refine rg_held 4 (some 26) (v := ?v5) rfl rfl (by kernel_rfl) (by kernel_rfl) (by kernel_rfl) (fun _ _ _ h => h) (by rfl) ?h5 hS ?_
    case h5 => (intro w' hS'; (skip); go_simp; try with_reducible rfl)
    simp only [Act.put, List.setIfInBounds_toArray, List.set_cons_zero, List.set_cons_succ]
    refine rg_held 5 (some 27) (v := ?v6) rfl rfl (by kernel_rfl) (by kernel_rfl) (by kernel_rfl) (fun _ _ _ h => h) (by rfl) ?h6 hS ?_
    case h6 => (intro w' hS'; (obtain ⟨c0, c1⟩ := HB.out _ hS'); go_simp; try with_reducible rfl)
    simp only [Act.put, List.setIfInBounds_toArray, List.set_cons_zero, List.set_cons_succ]
    refine rg_call 6 (some 28) rfl rfl (by kernel_rfl) rfl (by rfl) Try.call27 ((HG.out _ (h3.ext hx34).pool).mono ?_)
    rintro e w4 ⟨rfl, hu4, hp4⟩
    refine ⟨_, rfl, Upd.trans hS hu4, ?_⟩
    replace hS : Upd [fb] W3 w4 := Upd.trans hS hu4
    simp only [Act.put, List.setIfInBounds_toArray, List.set_cons_zero, List.set_cons_succ]
    refine rg_held 7 (some 4) (v := ?v7) rfl rfl (by kernel_rfl) (by kernel_rfl) (by kernel_rfl) (fun _ _ _ h => h) (by rfl) ?h7 hS ?_
    case h7 => (intro w' hS'; (skip); go_simp; try with_reducible rfl)
    simp only [Act.put, List.setIfInBounds_toArray, List.set_cons_zero, List.set_cons_succ]
    refine rg_done (by kernel_rfl) ?_
    go_wp2
    go_ret
    exact ⟨rfl, Upd.trans (hu.mono (by simp)) (Upd.trans (Upd.of_ext hx3) (hS.mono (by simp))), h3.set_fr hS hp4⟩
  · have hv : vunE T F many n = unmE T n := by rw [vunE, if_neg h0]
    rw [hv]
    have hr0 : (unmE T n != 0) = true := by simp [h0]
    simp only [h0, if_false] at hun ⊢
    obtain ⟨r, hr⟩ : ∃ r, r = unmE T n := ⟨_, rfl⟩
    rw [← hr] at hun hr0 ⊢
    clear hr hv h0
    unfold encE ent0 at hun
    go_enter Try.func10, Try.ntmps10
    go_wp2_with (first | (go_at_call 16; refine (vm_none h).mono ?_; rintro e w' ⟨rfl, rfl⟩) | (go_at_call 24; refine hun.mono ?_; rintro e w2 ⟨rfl, hu, ht⟩))
    go_ret
    have hE : Ext w2 (w2.alloc (.cells #[.int .i64 0, .int .i64 0, .int .i64 0] 55)) := ext_n _ (Ext.refl _)
    exact ⟨rfl, Upd.trans (hu.mono (by simp)) (Upd.of_ext hE), (h.set_tab hu ht).ext hE⟩
/-- Map: the first error, and what is told -/
def vmaE (T : List (Int × Ent)) (F : List (Int × Tak)) (R : List (Int × Int)) (n o p m : Int) : Int :=
  if (decide (0 ≤ p) && decide (p < 64)) = true then (if mapE T n ⟨o, m, 16384⟩ = 0 then takE F R p else mapE T n ⟨o, m, 16384⟩) else 2
def vmaR (T : List (Int × Ent)) (F : List (Int × Tak)) (R : List (Int × Int)) (many n o p m : Int) : Int :=
  if vmaE T F R n o p m = 0 then mapE T n ⟨o, m, takN F many⟩ else vmaE T F R n o p m
theorem vmaE_ok {n o p m : Int} (h : vmaE T F R n o p m = 0) : 0 ≤ p ∧ p < 64 ∧ mapE T n ⟨o, m, 16384⟩ = 0 ∧ takE F R p = 0 := by
  unfold vmaE at h
  split at h
  · rename_i h1
    simp at h1
    split at h
    · rename_i h2
      exact ⟨h1.1, h1.2, h2, h⟩
    · rename_i h2; exact absurd h h2
  · cases h
/-- what the questions leave -/
def MapZ (w : World) (mb tb eb pb fb rb : Nat) (many : Int) (T : List (Int × Ent)) (F F' : List (Int × Tak)) (R : List (Int × Int)) (xb : Nat) (o m z r0 : Int) (r : Int) (w2 : World) : Prop :=
  r = r0 ∧ Upd [eb, fb, xb] w w2 ∧ MemAt w2 mb tb eb pb fb rb many T (if r0 = 0 then F' else F) R ∧ (r0 = 0 → w2.heap[xb]? = some (.cells #[.int .i64 o, .int .i64 m, .int .i64 z] 55 (0, 0)))
end
end Go.Proofs.Ytlafdnbjkkbmfaa
