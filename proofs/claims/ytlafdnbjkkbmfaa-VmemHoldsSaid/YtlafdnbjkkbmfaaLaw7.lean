/- the statement's calls: what each does to the law's state; no condition. -/
import Derived.Test.YtlafdnbjkkbmfaaLaw6
namespace Go.Proofs.Ytlafdnbjkkbmfaa
open Go.RowKit
attribute [local go_sem] run_mf
/-- the law's state -/
structure LS (w0 w : World) (mb tb eb pb fb rb nb wb : Nat) (T : List (Int × Ent)) (F : List (Int × Tak)) (R : List (Int × Int)) (whose : Nat → Int) (now : List UInt8) : Prop where
  x : Ext w0 w
  m : MemAt w mb tb eb pb fb rb 8 T F R
  inv : MemInv T F R 4 whose 20
  pg : PgI T F now
  nl : now.length = 5120
  nw : w.heap[nb]? = some (.cells (nowC now) 31 (0, 0))
  wh : w.heap[wb]? = some (.cells (whoC whose) 32 (0, 0))
  nwb : nb ≠ wb
  lo : w0.heap.size ≤ eb ∧ w0.heap.size ≤ fb ∧ w0.heap.size ≤ rb ∧ w0.heap.size ≤ nb ∧ w0.heap.size ≤ wb
theorem MemAt.nb {w : World} {mb tb eb pb fb rb : Nat} {many : Int} {T : List (Int × Ent)} {F : List (Int × Tak)} {R : List (Int × Int)} {c : Nat} {cs : Array Value} {t : TypeId} {fr : Nat × Nat} (h : MemAt w mb tb eb pb fb rb many T F R) (hc : w.heap[c]? = some (.cells cs t fr))
    (ht : t ≠ 53 ∧ t ≠ 75 ∧ t ≠ 71) : ∀ k ∈ [mb, tb, eb, pb, fb, rb], k ≠ c := by
  obtain ⟨n1, n2, n3⟩ := h.nm hc
  have key : ∀ (k : Nat) (cs' : Array Value) (t' : TypeId), w.heap[k]? = some (.cells cs' t' (0, 0)) → t ≠ t' → k ≠ c := fun k cs' t' hk hn e => by
    subst e
    rw [hc] at hk
    cases hk
    exact hn rfl
  intro k hk
  simp only [List.mem_cons, List.not_mem_nil, or_false] at hk
  rcases hk with rfl | rfl | rfl | rfl | rfl | rfl
  · exact key _ _ _ h.blk ht.1
  · exact key _ _ _ h.tab.blk ht.2.1
  · exact Ne.symm n1
  · exact key _ _ _ h.pool.blk ht.2.2
  · exact Ne.symm n2
  · exact Ne.symm n3
section
variable {w0 w : World} {mb tb eb pb fb rb nb wb : Nat} {T : List (Int × Ent)} {F : List (Int × Tak)} {R : List (Int × Int)} {whose : Nat → Int} {now : List UInt8}
theorem LS.ext {w' : World} (h : LS w0 w mb tb eb pb fb rb nb wb T F R whose now) (hx : Ext w w') : LS w0 w' mb tb eb pb fb rb nb wb T F R whose now :=
  ⟨Ext.trans h.x hx, h.m.ext hx, h.inv, h.pg, h.nl, (hx.block _ (lt_of_block h.nw)).trans h.nw, (hx.block _ (lt_of_block h.wh)).trans h.wh, h.nwb, h.lo⟩
/-- the law's state through a call of the memory's -/
theorem LS.call {w' : World} {T' : List (Int × Ent)} {F' : List (Int × Tak)} (h : LS w0 w mb tb eb pb fb rb nb wb T F R whose now) (hu : Upd [eb, fb] w w') (hm : MemAt w' mb tb eb pb fb rb 8 T' F' R) (hi : MemInv T' F' R 4 whose 20) (hp : PgI T' F' now) :
    LS w0 w' mb tb eb pb fb rb nb wb T' F' R whose now :=
  ⟨ext_upd h.x hu (by simp; exact ⟨h.lo.1, h.lo.2.1⟩), hm, hi, hp, h.nl, (hu.block _ (lt_of_block h.nw) (by simp; exact ⟨(h.m.nm h.nw).1, (h.m.nm h.nw).2.1⟩)).trans h.nw, (hu.block _ (lt_of_block h.wh) (by simp; exact ⟨(h.m.nm h.wh).1, (h.m.nm h.wh).2.1⟩)).trans h.wh, h.nwb, h.lo⟩
theorem whoC_set (whose : Nat → Int) {n : Nat} (h : n < 20) (p : Int) : (whoC whose).setIfInBounds n (.int .i64 p) = whoC (upW whose n p) := by
  apply Array.ext_getElem?
  intro j
  rw [Array.getElem?_setIfInBounds]
  by_cases hj : j < 20
  · rw [whoC_get _ hj, whoC_get _ hj]
    by_cases e : n = j
    · subst e
      simp [whoC, upW, h]
    · rw [if_neg e, upW, if_neg (by omega)]
  · have h1 : (whoC whose)[j]? = none := by simp [whoC]; omega
    have h2 : (whoC (upW whose n p))[j]? = none := by simp [whoC]; omega
    rw [if_neg (by omega), h1, h2]
theorem l9_map {p : Nat} {ow : Int} (h : LS w0 w mb tb eb pb fb rb nb wb T F R whose now) (hp : p < 20) (ho : ow = 1 ∨ ow = 2) :
    Calls Try.prog 9 #[.pointer (some ⟨mb, 0, none⟩), .int .i64 (p : Int), .int .i64 ow, .int .i64 ow, .int .i64 2] w fun e w' => ∃ r, e = .returned (.int .i64 r) ∧ Upd [eb, fb] w w' ∧
      (r ≠ 0 → LS w0 w' mb tb eb pb fb rb nb wb T F R whose now) ∧
      (r = 0 → ∃ T' F', MemAt w' mb tb eb pb fb rb 8 T' F' R ∧ MemInv T' F' R 4 (upW whose p ow) 20 ∧ PgI T' F' (splice now (256 * p) (List.replicate 256 0))) := by
  refine (vm_map (n := p) (o := ow) (p := ow) (m := 2) h.m h.inv.fok h.inv.rok).mono ?_
  rintro e w' ⟨rfl, hu, hm⟩
  refine ⟨_, rfl, hu, fun h0 => ?_, fun h0 => ?_⟩
  · have hv : ¬ vmaE T F R p ow ow 2 = 0 := fun hv => by
      obtain ⟨m1, _⟩ := map_law h.inv (by omega) hp ho hv
      apply h0
      rw [vmaR, if_pos hv]
      exact m1
    rw [if_neg h0, if_neg hv] at hm
    exact h.call hu hm h.inv h.pg
  · have hv : vmaE T F R p ow ow 2 = 0 := by
      rw [vmaR] at h0
      split at h0
      · assumption
      · exact h0
    rw [if_pos h0, if_pos hv] at hm
    obtain ⟨m1, m2, m3, m4⟩ := map_law h.inv (by omega) hp ho hv
    exact ⟨_, _, hm, m4, pgI_map h.pg (by have := h.nl; omega) m3 (fun g x hx => (h.inv.rng _ _ hx).2.2.2.2.2.2.2)⟩
theorem l9_unmap {p : Nat} (h : LS w0 w mb tb eb pb fb rb nb wb T F R whose now) (hp : p < 20) :
    Calls Try.prog 10 #[.pointer (some ⟨mb, 0, none⟩), .int .i64 (p : Int)] w fun e w' => ∃ r, e = .returned (.int .i64 r) ∧ Upd [eb, fb] w w' ∧
      (r ≠ 0 → LS w0 w' mb tb eb pb fb rb nb wb T F R whose now) ∧
      (r = 0 → ∃ T' F', MemAt w' mb tb eb pb fb rb 8 T' F' R ∧ MemInv T' F' R 4 (upW whose p 0) 20 ∧ PgI T' F' now) := by
  refine (vm_unmap (n := p) h.m h.inv.fok).mono ?_
  rintro e w' ⟨rfl, hu, hm⟩
  by_cases hun : unmE T p = 0
  · obtain ⟨x, u1, u2, u3, u4⟩ := unmap_law h.inv hp hun
    have hv : vunE T F 8 p = 0 := by rw [vunE, if_pos hun, u2]; exact u3
    rw [if_pos hun, if_pos hv, u2] at hm
    exact ⟨_, rfl, hu, fun h0 => absurd hv h0, fun _ => ⟨_, _, hm, u4, pgI_unmap h.pg h.inv.tnd h.inv.fnd u1 h.inv.inj⟩⟩
  · have hv : vunE T F 8 p = unmE T p := by rw [vunE, if_neg hun]
    rw [hv] at hm ⊢
    rw [if_neg hun] at hm
    rw [if_neg hun] at hm
    exact ⟨_, rfl, hu, fun _ => h.call hu hm h.inv h.pg, fun h0 => absurd h0 hun⟩
set_option maxRecDepth 100000 in
set_option maxHeartbeats 1000000 in
theorem vm_store0 {many : Int} {o : Int} {a : Nat} {va : Option Addr} {vc : Nat} (ha : a < 4294967296) (h : MemAt w mb tb eb pb fb rb many T F R) :
    Calls Try.prog 11 #[.pointer (some ⟨mb, 0, none⟩), .int .i64 o, .int .u32 a, .slice va 0 vc] w fun e w' => e = .returned (.int .i64 2) ∧ Ext w w' := by
  have hw : Calls Try.prog 28 #[.pointer (some ⟨mb, 0, none⟩), .int .i64 (max o (-1)), .int .u32 a, .slice va 0 vc] w fun e w' => e = .returned (.int .i64 2) ∧ Ext w w' := by
    obtain ⟨o', ho'⟩ : ∃ o', max o (-1) = o' := ⟨_, rfl⟩
    rw [ho']
    clear ho'
    obtain ⟨W, hW⟩ : ∃ W, w.alloc (.cells #[.pointer (some ⟨mb, 0, none⟩)] 25) = W := ⟨_, rfl⟩
    have hxW : Ext w W := hW ▸ ext_n _ (Ext.refl _)
    have hbW : W.heap[w.heap.size]? = some (.cells #[.pointer (some ⟨mb, 0, none⟩)] 25 (0, 0)) := hW ▸ World.alloc_heap_new _ _
    have c0 := cell_at (i := 0) hbW rfl
    have hask := vm_asked (o := o') (m := 2) (n := 0) ha (by omega) (h.ext hxW)
    rw [show askE T o' 2 a 0 = 2 from rfl] at hask
    have HWl := Lib.hid hW
    clear hW hbW
    go_enter Try.func28, Try.ntmps28
    go_wp2_with fail
    rw [HWl.out]
    refine hask.mono ?_
    rintro e w2 ⟨rfl, hx2⟩
    go_wp2
    go_ret
    exact ⟨rfl, Ext.trans hxW hx2⟩
  obtain ⟨o', ho'⟩ : ∃ o', max o (-1) = o' := ⟨_, rfl⟩
  rw [ho'] at hw
  have HO := Lib.hid ho'
  clear ho'
  go_enter Try.func11, Try.ntmps11
  go_wp2_with fail
  refine (vm_who o).mono ?_
  rintro e w2 ⟨rfl, rfl⟩
  rw [HO.out]
  go_wp2_with fail
  refine hw.mono ?_
  rintro e w2 ⟨rfl, hu⟩
  go_wp2
  go_ret
  exact ⟨rfl, hu⟩
theorem l9_store {a : Nat} {ow : Int} {v : Value} {bs : List UInt8} (h : LS w0 w mb tb eb pb fb rb nb wb T F R whose now) (ho : ow = 1 ∨ ow = 2) (hab : a + bs.length ≤ 5120) (hv : BytesIn w v bs) :
    Calls Try.prog 11 #[.pointer (some ⟨mb, 0, none⟩), .int .i64 ow, .int .u32 a, v] w fun e w' => ∃ r, e = .returned (.int .i64 r) ∧ Upd [eb, fb] w w' ∧ (r = 0 ↔ 0 < bs.length ∧ finB whose ow a bs.length = true) ∧
      (r ≠ 0 → LS w0 w' mb tb eb pb fb rb nb wb T F R whose now) ∧
      (r = 0 → ∃ F', MemAt w' mb tb eb pb fb rb 8 T F' R ∧ MemInv T F' R 4 whose 20 ∧ PgI T F' (splice now a bs)) := by
  have hmax : max ow (-1) = ow := by rcases ho with rfl | rfl <;> rfl
  by_cases h0 : 0 < bs.length
  · have hM : askE T (max ow (-1)) 2 a bs.length = 0 → ∀ p ∈ partsL a bs.length, thrE F 8 (frP T p) (p.2.1 : Int) (p.2.2 : Int) = 0 := fun he => parts_thr h.inv (askE_all he)
    refine (vm_store (o := ow) (by omega) (by omega) h.m h.inv.fok (hv.2 h0) hM).mono ?_
    rintro e w' ⟨rfl, hu, hm⟩
    rw [hmax] at hM hm ⊢
    have hiff := ask_law h.inv (by omega) ho (.inr rfl) (a := a) (n := bs.length) (m := 2) (by omega)
    have hu' : Upd [eb, fb] w w' := hu.mono (by simp)
    refine ⟨_, rfl, hu', by rw [hiff, finB_iff]; exact Iff.rfl, fun hr => ?_, fun hr => ?_⟩
    · rw [if_neg hr] at hm
      exact h.call hu' hm h.inv h.pg
    · rw [if_pos hr] at hm
      have hall := askE_all hr
      have hw := write_partsF h.inv.inj bs.length a (a + bs.length) F bs now (by omega) (by omega) (by have := h.nl; omega) (by rw [h.nl]) h.pg (fun p hp => by
        have h1 := List.all_eq_true.1 hall p hp
        unfold reachB at h1
        simp only [Bool.and_eq_true] at h1
        exact h1.1)
      rw [show a + bs.length - a = bs.length by omega, List.take_length] at hw
      exact ⟨_, hm, inv_wfold h.inv (hM hr) (by rw [parts_sum]; exact Nat.le_refl _) _ (List.prefix_refl _), hw⟩
  · obtain rfl : bs = [] := List.eq_nil_of_length_eq_zero (by omega)
    obtain ⟨⟨va, vc, rfl⟩, _⟩ := hv
    refine (vm_store0 (o := ow) (va := va) (vc := vc) (by simp at hab; omega) h.m).mono ?_
    rintro e w' ⟨rfl, hx⟩
    exact ⟨_, rfl, Upd.of_ext hx, by simp, fun _ => h.ext hx, fun h => by cases h⟩
theorem l9_load {a n : Nat} {ow : Int} (h : LS w0 w mb tb eb pb fb rb nb wb T F R whose now) (ho : ow = 1 ∨ ow = 2) (hab : a + n ≤ 5120) :
    Calls Try.prog 12 #[.pointer (some ⟨mb, 0, none⟩), .int .i64 ow, .int .u32 a, .int .i64 (n : Int)] w fun e w' => ∃ v r, e = .returned (.tuple #[v, .int .i64 r]) ∧ (r = 0 ↔ 0 < n ∧ finB whose ow a n = true) ∧ Upd [eb, fb] w w' ∧
      LS w0 w' mb tb eb pb fb rb nb wb T F R whose now ∧ BytesAt w' v (if r = 0 then (now.drop a).take n else []) := by
  have hmax : max ow (-1) = ow := by rcases ho with rfl | rfl <;> rfl
  have hM : askE T (max ow (-1)) 1 a n = 0 → ∀ p ∈ partsL a n, thrE F 8 (frP T p) (p.2.1 : Int) (p.2.2 : Int) = 0 := fun he => parts_thr h.inv (askE_all he)
  refine (vm_load (o := ow) (a := a) (n := n) (by omega) (by omega) h.m h.inv.fok hM).mono ?_
  rintro e w' ⟨v, rfl, hu, hm, hb⟩
  rw [hmax] at hM hb ⊢
  have hiff := ask_law h.inv (by omega) ho (.inl rfl) (a := a) (n := n) (m := 1) (by omega)
  refine ⟨v, _, rfl, by rw [hiff, finB_iff]; exact Iff.rfl, hu.mono (by simp), h.call (hu.mono (by simp)) hm h.inv h.pg, ?_⟩
  by_cases hr : askE T ow 1 a n = 0
  · rw [if_pos hr] at hb ⊢
    rw [rfold_parts (now := now)] at hb
    · exact hb
    · intro p hp
      have hall := askE_all hr
      have h1 := List.all_eq_true.1 hall p hp
      unfold reachB at h1
      simp only [Bool.and_eq_true] at h1
      obtain ⟨x, hx⟩ := Option.isSome_iff_exists.1 h1.1
      obtain ⟨k1, k2, k3, k4⟩ := partsF_ok n a (a + n) p hp
      have hf : frP T p = x.frame := by
        show ((getL T (p.1 : Int)).getD ent0).frame = x.frame
        rw [hx]; rfl
      rw [hf, rdB, h.pg _ _ hx]
      rw [List.drop_take, List.take_take, List.drop_drop, show min p.2.2 (256 - p.2.1) = p.2.2 by omega, show 256 * p.1 + p.2.1 = p.1 * 256 + p.2.1 by omega]
  · rw [if_neg hr] at hb ⊢
    exact hb
end
end Go.Proofs.Ytlafdnbjkkbmfaa
