/- package vmem: a memory's blocks; its questions; the first error; no condition. -/
import Derived.Test.YtlafdnbjkkbmfaaTak2
import Derived.Test.YtlafdnbjkkbmfaaPu
namespace Go.Proofs.Ytlafdnbjkkbmfaa
open Go.RowKit
attribute [local go_sem] run_mf
/-- a memory: its block, its table, its pool -/
structure MemAt (w : World) (mb tb eb pb fb rb : Nat) (many : Int) (T : List (Int × Ent)) (F : List (Int × Tak)) (R : List (Int × Int)) : Prop where
  blk : w.heap[mb]? = some (.cells #[.pointer (some ⟨tb, 0, none⟩), .pointer (some ⟨pb, 0, none⟩)] 53 (0, 0))
  tab : TabAt w tb eb T
  pool : PoolAt w pb fb rb many F R
  ef : eb ≠ fb
  er : eb ≠ rb
section
variable {w w' : World} {mb tb eb pb fb rb : Nat} {many : Int} {T : List (Int × Ent)} {F : List (Int × Tak)} {R : List (Int × Int)}
theorem MemAt.ext (h : MemAt w mb tb eb pb fb rb many T F R) (hx : Ext w w') : MemAt w' mb tb eb pb fb rb many T F R :=
  ⟨(hx.block _ (lt_of_block h.blk)).trans h.blk, h.tab.ext hx, h.pool.ext hx, h.ef, h.er⟩
theorem TabAt.keep {S : List Nat} (h : TabAt w tb eb T) (hu : Upd S w w') (h1 : tb ∉ S) (h2 : eb ∉ S) : TabAt w' tb eb T :=
  ⟨(hu.block _ (lt_of_block h.blk) h1).trans h.blk, h.en.later (hu.block _ h.en.lt h2)⟩
theorem MemAt.c0 (h : MemAt w mb tb eb pb fb rb many T F R) : w.cell? ⟨mb, 0, none⟩ = some (.pointer (some ⟨tb, 0, none⟩)) := cell_at (i := 0) h.blk rfl
theorem MemAt.c1 (h : MemAt w mb tb eb pb fb rb many T F R) : w.cell? ⟨mb, 1, none⟩ = some (.pointer (some ⟨pb, 0, none⟩)) := cell_at (i := 1) h.blk rfl
/-- which blocks are no map -/
theorem MemAt.nm {c : Nat} {cs : Array Value} {t : TypeId} {fr : Nat × Nat} (h : MemAt w mb tb eb pb fb rb many T F R) (hc : w.heap[c]? = some (.cells cs t fr)) : c ≠ eb ∧ c ≠ fb ∧ c ≠ rb :=
  ⟨map_ne h.tab.en hc, map_ne h.pool.fr hc, map_ne h.pool.rs hc⟩
theorem MemAt.keep {S : List Nat} (h : MemAt w mb tb eb pb fb rb many T F R) (hu : Upd S w w') (hS : ∀ k ∈ [mb, tb, eb, pb, fb, rb], k ∉ S) : MemAt w' mb tb eb pb fb rb many T F R :=
  ⟨(hu.block _ (lt_of_block h.blk) (hS _ (by simp))).trans h.blk, h.tab.keep hu (hS _ (by simp)) (hS _ (by simp)), h.pool.keep hu (hS _ (by simp)) (hS _ (by simp)) (hS _ (by simp)), h.ef, h.er⟩
theorem MemAt.set_tab {T' : List (Int × Ent)} (h : MemAt w mb tb eb pb fb rb many T F R) (hu : Upd [eb] w w') (ht : TabAt w' tb eb T') : MemAt w' mb tb eb pb fb rb many T' F R :=
  ⟨(hu.block _ (lt_of_block h.blk) (by simp; exact (h.nm h.blk).1)).trans h.blk, ht, h.pool.keep hu (by simp; exact (h.nm h.pool.blk).1) (by simp; exact Ne.symm h.ef) (by simp; exact Ne.symm h.er), h.ef, h.er⟩
theorem MemAt.set_fr {F' : List (Int × Tak)} (h : MemAt w mb tb eb pb fb rb many T F R) (hu : Upd [fb] w w') (hp : PoolAt w' pb fb rb many F' R) : MemAt w' mb tb eb pb fb rb many T F' R :=
  ⟨(hu.block _ (lt_of_block h.blk) (by simp; exact (h.nm h.blk).2.1)).trans h.blk, h.tab.keep hu (by simp; exact (h.nm h.tab.blk).2.1) (by simp; exact h.ef), hp, h.ef, h.er⟩
theorem MemAt.set_rs {R' : List (Int × Int)} (h : MemAt w mb tb eb pb fb rb many T F R) (hu : Upd [rb] w w') (hp : PoolAt w' pb fb rb many F R') : MemAt w' mb tb eb pb fb rb many T F R' :=
  ⟨(hu.block _ (lt_of_block h.blk) (by simp; exact (h.nm h.blk).2.2)).trans h.blk, h.tab.keep hu (by simp; exact (h.nm h.tab.blk).2.2) (by simp; exact h.er), hp, h.ef, h.er⟩
set_option maxRecDepth 100000 in
set_option maxHeartbeats 1000000 in
theorem vm_none (h : MemAt w mb tb eb pb fb rb many T F R) : Calls Try.prog 16 #[.pointer (some ⟨mb, 0, none⟩)] w fun e w' => e = .returned (.bool false) ∧ w = w' := by
  have h1 := h.c1
  go_enter Try.func16, Try.ntmps16
  go_wp2
  go_ret
  exact ⟨rfl, rfl⟩
set_option maxRecDepth 100000 in
set_option maxHeartbeats 1000000 in
theorem vm_there1 {b : Nat} (h : MemAt w mb tb eb pb fb rb many T F R) (hb : w.cell? ⟨b, 0, none⟩ = some (.pointer (some ⟨mb, 0, none⟩))) : Calls Try.prog 39 #[.pointer (some ⟨b, 0, none⟩)] w fun e w' => e = .returned (.bool true) ∧ w = w' := by
  go_enter Try.func39, Try.ntmps39
  go_wp2_with (go_at_call 16; refine (vm_none h).mono ?_; rintro e w' ⟨rfl, rfl⟩)
  go_ret
  exact ⟨rfl, rfl⟩
set_option maxRecDepth 100000 in
set_option maxHeartbeats 1000000 in
theorem vm_is1 {b c : Nat} {v : Value} {n : Int} {x : Bool} (hb : w.cell? ⟨b, 0, none⟩ = some v) (hc : w.cell? ⟨c, 0, none⟩ = some (.int .i64 n)) (hq : Q Try.prog w v (.bool x)) :
    Calls Try.prog 40 #[.pointer (some ⟨b, 0, none⟩), .pointer (some ⟨c, 0, none⟩)] w fun e w' => e = .returned (.int .i64 (if x = true then 0 else n)) ∧ Ext w w' := by
  have hcl := World.block_lt_of_cell? _ _ hc
  obtain ⟨f, first, cap, rfl, hcf, hcall⟩ := hq
  go_enter Try.func40, Try.ntmps40
  go_wp2_with fail
  refine (hcall w (Ext.refl _)).mono ?_
  rintro e w2 ⟨rfl, hx⟩
  have hc2 := (hx.cell (p := ⟨c, 0, none⟩) hcl).trans hc
  cases x with
  | true =>
    go_wp2
    go_ret
    exact ⟨rfl, hx⟩
  | false =>
    go_wp2
    go_ret
    exact ⟨rfl, hx⟩
set_option maxRecDepth 100000 in
set_option maxHeartbeats 1000000 in
theorem vm_is {v : Value} {n : Int} {x : Bool} (hq : Q Try.prog w v (.bool x)) :
    Calls Try.prog 20 #[v, .int .i64 n] w fun e w' => ∃ q, e = .returned q ∧ Q Try.prog w' q (.int .i64 (if x = true then 0 else n)) ∧ Ext w w' := by
  have hq' := hq
  obtain ⟨y, hy⟩ : ∃ y, y = (if x = true then 0 else n) := ⟨_, rfl⟩
  rw [← hy]
  have hyH := Lib.hid hy
  clear hy
  obtain ⟨f, first, cap, rfl, hcf, hcall⟩ := hq
  clear hcf hcall
  go_enter Try.func20, Try.ntmps20
  go_wp2
  go_ret
  refine ⟨_, rfl, Q.mk Try.call40 (fun w' hx => ?_), ext_n _ (ext_n _ (Ext.refl _))⟩
  have hx0 : Ext w w' := ext_a (ext_a hx)
  have c1 := cell_new1 hx
  have c0 := cell_new1 (ext_a hx)
  rw [World.size_alloc] at c1
  rw [hyH.out]
  exact vm_is1 c0 c1 (hq'.later hx0)
set_option maxRecDepth 100000 in
set_option maxHeartbeats 1000000 in
theorem vm_there (h : MemAt w mb tb eb pb fb rb many T F R) : Calls Try.prog 19 #[.pointer (some ⟨mb, 0, none⟩)] w fun e w' => ∃ q, e = .returned q ∧ Q Try.prog w' q (.int .i64 0) ∧ Ext w w' := by
  have hx1 : Ext w (w.alloc (.cells #[.pointer (some ⟨mb, 0, none⟩)] 25)) := ext_n _ (Ext.refl _)
  have hq : Q Try.prog (w.alloc (.cells #[.pointer (some ⟨mb, 0, none⟩)] 25)) (.func (.func 39) #[] #[.pointer (some ⟨w.heap.size, 0, none⟩)]) (.bool true) :=
    Q.mk Try.call39 fun w' hx => (vm_there1 (h.ext (Ext.trans hx1 hx)) (cell_new1 hx)).mono fun e w2 he => ⟨he.1, he.2 ▸ Ext.refl _⟩
  have his := vm_is (n := 1) hq
  clear hq
  go_enter Try.func19, Try.ntmps19
  go_wp2_with fail
  refine his.mono ?_
  rintro e w2 ⟨q, rfl, hq, hx⟩
  go_wp2
  go_ret
  exact ⟨_, rfl, by simpa using hq, Ext.trans hx1 hx⟩
/-- questions that may turn the blocks S, one behind the other, till one tells an error -/
def FirstR (S : List Nat) : List Value → World → (Int → World → Prop) → Prop
  | [], w, Z => Z 0 w
  | v :: vs, w, Z => ∃ f first cap, v = .func (.func f) first cap ∧ (∀ a w, (callFunc f a).run Try.prog w = .ok (.enter f a) w) ∧
      Calls Try.prog f (first ++ #[] ++ cap) w fun e w2 => ∃ r, e = .returned (.int .i64 r) ∧ Upd S w w2 ∧ (r ≠ 0 → Z r w2) ∧ (r = 0 → FirstR S vs w2 Z)
theorem FirstR.pure {S : List Nat} {v : Value} {vs : List Value} {Z : Int → World → Prop} {r : Int} (hq : Q Try.prog w v (.int .i64 r)) (h1 : r ≠ 0 → ∀ w2, Ext w w2 → Z r w2) (h2 : r = 0 → ∀ w2, Ext w w2 → FirstR S vs w2 Z) : FirstR S (v :: vs) w Z := by
  obtain ⟨f, first, cap, rfl, hcf, hcall⟩ := hq
  refine ⟨f, first, cap, rfl, hcf, (hcall w (Ext.refl _)).mono ?_⟩
  rintro e w2 ⟨rfl, hx⟩
  exact ⟨r, rfl, Upd.of_ext hx, fun h => h1 h w2 hx, fun h => h2 h w2 hx⟩
set_option maxRecDepth 100000 in
set_option maxHeartbeats 1000000 in
theorem vm_first {S : List Nat} {Z : Int → World → Prop} (vs : List Value) (lb : Nat) (hlb : lb < w.heap.size) (hS : lb ∉ S) (hlen : vs.length < 1000) (hc : ∀ k (h : k < vs.length), w.cell? ⟨lb, k, none⟩ = some vs[k]) (hq : FirstR S vs w Z) :
    Calls Try.prog 18 #[.slice (some ⟨lb, 0, none⟩) vs.length vs.length] w fun e w' => ∃ r, e = .returned (.int .i64 r) ∧ Z r w' := by
  have HC := Lib.hid hc
  clear hc
  go_enter Try.func18, Try.ntmps18
  go_wp2
  refine wp_scope_jumps 0 (fun a' w' => ∃ r, Z r w' ∧ ∃ (u0 u1 u3 u4 u5 u6 u7 u8 u9 u10 u11 u12 u13 u14 u15 u16 : Value), a' = { tmps := #[u0, u1, .int .i64 r, u3, u4, u5, u6, u7, u8, u9, u10, u11, u12, u13, u14, u15, u16], defers := [] }) (fun _ _ => 0) rfl ?_ ?_
  · go_wp2
    go_loopw [7] (fun i wr => ∃ k : Nat, k ≤ vs.length ∧ i = .int .i64 k ∧ Upd S w wr ∧ FirstR S (vs.drop k) wr Z) (fun i _ => vs.length - (intOf i).toNat)
    case atStart => exact ⟨0, Nat.zero_le _, rfl, Upd.refl _ _, hq⟩
    case round =>
      obtain ⟨k, hk, rfl, hu, hr⟩ := hrel
      by_cases hlt : k < vs.length
      · rw [List.drop_eq_getElem_cons hlt] at hr
        obtain ⟨f, first, cap, hv, hcf, hcall⟩ := hr
        have h1 := (hu.cell (a := ⟨lb, k, none⟩) hlb hS).trans (HC.out k hlt)
        rw [hv] at h1
        clear hq hv
        go_wp2_with fail
        refine hcall.mono ?_
        rintro e w2 ⟨r, rfl, hu2, hz1, hz2⟩
        by_cases h0 : r = 0
        · subst h0
          replace hz2 := hz2 rfl
          clear hz1 hcall
          go_wp2
          exact ⟨⟨k + 1, by omega, by go_num, Upd.trans hu hu2, hz2⟩, by simp [intOf]; omega⟩
        · have hr0 : (r != 0) = true := by simp [h0]
          replace hz1 := hz1 h0
          clear hz2 hcall
          go_wp2
          go_step3
          refine ⟨rfl, r, hz1, ?_⟩
          exact ⟨_, _, _, _, _, _, _, _, _, _, _, _, _, _, _, _, rfl⟩
      · obtain rfl : k = vs.length := by omega
        rw [List.drop_length] at hr
        go_wp2
        rw [jump_ret]
        go_ret
        exact ⟨_, rfl, hr⟩
  · rintro a' w' ⟨r, hz, u0, u1, u3, u4, u5, u6, u7, u8, u9, u10, u11, u12, u13, u14, u15, u16, rfl⟩
    go_wp2
    rw [jump_ret]
    go_ret
    exact ⟨_, rfl, hz⟩
end
end Go.Proofs.Ytlafdnbjkkbmfaa
