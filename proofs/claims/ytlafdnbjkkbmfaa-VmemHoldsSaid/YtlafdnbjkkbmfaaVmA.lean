/- package vmem: read, write, Store, Load, Peek; no condition. -/
import Derived.Test.YtlafdnbjkkbmfaaVm9
namespace Go.Proofs.Ytlafdnbjkkbmfaa
open Go.RowKit
attribute [local go_sem] run_mf
attribute [local go_sem ↓] Go.wp_at_zero Go.wp_at_succ
abbrev Part := Nat × Nat × Nat
theorem partsF_sum : ∀ (k a u : Nat), u - a ≤ k → ((partsF k a u).map (·.2.2)).sum = u - a
  | 0, a, u, h => by simp [partsF]; omega
  | k + 1, a, u, h => by
    rw [partsF]
    by_cases hlt : a < u
    · have hm := Nat.mod_lt a (show 0 < 256 by omega)
      rw [if_pos hlt, List.map_cons, List.sum_cons, partsF_sum k _ u (by omega)]
      simp only
      omega
    · rw [if_neg hlt]; simp; omega
theorem parts_sum (a n : Nat) : ((partsL a n).map (·.2.2)).sum = n := by
  rw [partsL, partsF_sum n a (a + n) (by omega)]; omega
theorem partsF_ok : ∀ (k a u : Nat), ∀ p ∈ partsF k a u, p.2.1 + p.2.2 ≤ 256 ∧ 1 ≤ p.2.2 ∧ p.1 * 256 + p.2.1 + p.2.2 ≤ u ∧ a ≤ p.1 * 256 + p.2.1
  | 0, a, u, p, h => by simp [partsF] at h
  | k + 1, a, u, p, h => by
    rw [partsF] at h
    by_cases hlt : a < u
    · have hm := Nat.mod_lt a (show 0 < 256 by omega)
      have hd := Nat.div_add_mod a 256
      rw [if_pos hlt] at h
      rcases List.mem_cons.1 h with rfl | h
      · simp only
        omega
      · obtain ⟨h1, h2, h3, h4⟩ := partsF_ok k _ u p h
        omega
    · rw [if_neg hlt] at h; cases h
/-- the frame of a part's page -/
def frP (T : List (Int × Ent)) (x : Part) : Int := ((getL T (x.1 : Int)).getD ent0).frame
def wstep (T : List (Int × Ent)) (s : List (Int × Tak) × List UInt8) (x : Part) : List (Int × Tak) × List UInt8 :=
  (putL s.1 (frP T x) (wrt ((getL s.1 (frP T x)).getD tak0) x.2.1 (s.2.take x.2.2)), s.2.drop x.2.2)
def wfold (T : List (Int × Ent)) (F : List (Int × Tak)) (bs : List UInt8) (pre : List Part) : List (Int × Tak) × List UInt8 := pre.foldl (wstep T) (F, bs)
theorem rev_ind {α : Type} {P : List α → Prop} (h0 : P []) (h1 : ∀ l x, P l → P (l ++ [x])) (l : List α) : P l := by
  have key : ∀ m : List α, P m.reverse := by
    intro m
    induction m with
    | nil => simpa using h0
    | cons a m ih => rw [List.reverse_cons]; exact h1 _ _ ih
  simpa using key l.reverse
theorem wfold_snoc (T : List (Int × Ent)) (F : List (Int × Tak)) (bs : List UInt8) (pre : List Part) (x : Part) : wfold T F bs (pre ++ [x]) = wstep T (wfold T F bs pre) x := by simp [wfold]
theorem wfold_len (T : List (Int × Ent)) (F : List (Int × Tak)) (bs : List UInt8) (pre : List Part) : (wfold T F bs pre).2.length = bs.length - (pre.map (·.2.2)).sum := by
  induction pre using rev_ind with
  | h0 => simp [wfold]
  | h1 l x ih => rw [wfold_snoc]; simp [wstep, ih]; omega
theorem putL_len {α : Type} {l : List (Int × α)} {k : Int} {v : α} (h : (getL l k).isSome = true) : (putL l k v).length = l.length := by
  have := putL_keys l k v
  have hk : k ∈ l.map (·.1) := by
    apply Classical.byContradiction
    intro hn
    rw [(getL_none_iff l k).2 hn] at h
    cases h
  rw [if_pos hk] at this
  have := congrArg List.length this
  simpa using this
theorem putL_mem {α : Type} : ∀ {l : List (Int × α)} {k : Int} {v : α} {p : Int × α}, p ∈ putL l k v → p ∈ l ∨ p = (k, v) := by
  intro l
  induction l with
  | nil => intro k v p h; simp [putL] at h; exact .inr h
  | cons a l ih =>
    intro k v p h
    rw [putL] at h
    split at h
    · rcases List.mem_cons.1 h with h | h
      · exact .inr h
      · exact .inl (List.mem_cons_of_mem _ h)
    · rcases List.mem_cons.1 h with h | h
      · exact .inl (by rw [h]; exact List.mem_cons_self)
      · rcases ih h with h | h
        · exact .inl (List.mem_cons_of_mem _ h)
        · exact .inr h
theorem thr_put {F : List (Int × Tak)} {many n i k m : Int} {t : Tak} (h : (getL F m).isSome = true) : thrE (putL F m t) many n i k = thrE F many n i k := by
  unfold thrE
  rw [getL_putL]
  by_cases hm : m = n
  · subst hm
    rw [if_pos rfl]
    cases hg : getL F m <;> simp_all
  · rw [if_neg hm]
/-- frames stay as they must be through writing -/
theorem wfold_ok {T : List (Int × Ent)} {F : List (Int × Tak)} {bs : List UInt8} {many : Int} {L : List Part} (hF : FOk F) (hM : ∀ p ∈ L, thrE F many (frP T p) (p.2.1 : Int) (p.2.2 : Int) = 0) (hsum : (L.map (·.2.2)).sum ≤ bs.length) :
    ∀ pre, pre <+: L → FOk (wfold T F bs pre).1 ∧ ∀ n i k, thrE (wfold T F bs pre).1 many n i k = thrE F many n i k := by
  intro pre
  induction pre using rev_ind with
  | h0 => exact fun _ => ⟨hF, fun _ _ _ => rfl⟩
  | h1 l x ih =>
    intro hp
    obtain ⟨h1, h2⟩ := ih ((List.prefix_append l [x]).trans hp)
    have hx : x ∈ L := hp.subset (by simp)
    have hthr := hM x hx
    obtain ⟨p1, p2, p3, p4, p5, p6, p7⟩ := thr_ok hthr
    have hthr2 := hthr
    rw [← h2] at hthr2
    obtain ⟨q1, q2, q3, q4, q5, q6, q7⟩ := thr_ok hthr2
    have hs : ((l ++ [x]).map (·.2.2)).sum ≤ (L.map (·.2.2)).sum := by
      obtain ⟨t, rfl⟩ := hp
      simp only [List.map_append, List.sum_append]
      omega
    simp only [List.map_append, List.sum_append, List.map_cons, List.map_nil, List.sum_cons, List.sum_nil] at hs
    rw [wfold_snoc]
    refine ⟨⟨fun p hp' => ?_, ?_⟩, fun n i k => ?_⟩
    · rcases putL_mem hp' with h | rfl
      · exact h1.1 p h
      · refine wrt_size _ _ _ (tak_ok h1 _) ?_
        simp [wfold_len]
        omega
    · simp only [wstep]; rw [putL_len q7]; exact h1.2
    · simp only [wstep]; rw [thr_put q7, h2]
section
variable {w w' : World} {mb tb eb pb fb rb : Nat} {many : Int} {T : List (Int × Ent)} {F : List (Int × Tak)} {R : List (Int × Int)}
set_option maxRecDepth 100000 in
set_option maxHeartbeats 1000000 in
theorem vm_write {o : Int} {a : Nat} {v : Value} {bs : List UInt8} (ha : a < 4294967296) (hbs : bs.length ≤ 500000000) (h : MemAt w mb tb eb pb fb rb many T F R) (hF : FOk F) (hv : BytesAt w v bs)
    (hM : askE T o 2 a bs.length = 0 → ∀ p ∈ partsL a bs.length, thrE F many (frP T p) (p.2.1 : Int) (p.2.2 : Int) = 0) :
    Calls Try.prog 28 #[.pointer (some ⟨mb, 0, none⟩), .int .i64 o, .int .u32 a, v] w fun e w' => e = .returned (.int .i64 (askE T o 2 a bs.length)) ∧ Upd [fb] w w' ∧
      MemAt w' mb tb eb pb fb rb many T (if askE T o 2 a bs.length = 0 then (wfold T F bs (partsL a bs.length)).1 else F) R := by
  obtain ⟨W, hW⟩ : ∃ W, w.alloc (.cells #[.pointer (some ⟨mb, 0, none⟩)] 25) = W := ⟨_, rfl⟩
  have hxW : Ext w W := hW ▸ ext_n _ (Ext.refl _)
  have hbW : W.heap[w.heap.size]? = some (.cells #[.pointer (some ⟨mb, 0, none⟩)] 25 (0, 0)) := hW ▸ World.alloc_heap_new _ _
  have hP := h.ext hxW
  have c0 := cell_at (i := 0) hbW rfl
  have hask := vm_asked (o := o) (m := 2) ha (by omega : bs.length ≤ 1000000000) hP
  obtain ⟨n, hn⟩ : ∃ n, bs.length = n := ⟨_, rfl⟩
  obtain ⟨r, hr⟩ : ∃ r, askE T o 2 a n = r := ⟨_, rfl⟩
  rw [hn] at hask hM ⊢
  rw [hr] at hask hM ⊢
  have hrH := Lib.hid hr
  obtain ⟨va, vc, hvv⟩ := hv.form
  rw [hn] at hvv
  subst hvv
  have HV := Lib.hid (hv.ext hxW)
  have hnH := Lib.hid hn
  have HWl := Lib.hid hW
  have HBW := Lib.hid hbW
  have hMH := Lib.hid hM
  clear hr hn hW hbW hv hM hbs
  go_enter Try.func28, Try.ntmps28
  go_wp2_with fail
  rw [HWl.out]
  refine hask.mono ?_
  rintro e w2 ⟨rfl, hx2⟩
  have c2 := (hx2.cell (p := ⟨w.heap.size, 0, none⟩) (World.block_lt_of_cell? _ _ c0)).trans c0
  have hP2 := hP.ext hx2
  by_cases h0 : r = 0
  · subst h0
    have hn2 : n ≤ 16777216 := by
      have := hrH.out
      unfold askE at this
      split at this
      · rename_i h1; simp [ask1] at h1; omega
      · cases this
    have hv2 := HV.out.ext hx2
    have hMM := hMH.out rfl
    have hsum : ((partsL a n).map (·.2.2)).sum ≤ bs.length := by rw [parts_sum, hnH.out]; exact Nat.le_refl _
    have hbl := hnH.out
    have hea := vm_each (g := 56) (cb := w.heap.size) (R := R) Try.call56 hn2 ha (fun pre => (wfold T F bs pre).1) (fun pre => (wfold T F bs pre).2) hP2 hv2 c2 (fun pre x v W' hpx hc hm hb => by
      obtain ⟨k1, k2⟩ := wfold_ok hF hMM hsum pre ((List.prefix_append pre [x]).trans hpx)
      have hx : x ∈ partsL a n := hpx.subset (by simp)
      have hthr := hMM x hx
      obtain ⟨p1, p2, p3, p4, p5, p6, p7⟩ := thr_ok hthr
      have hs : ((pre ++ [x]).map (·.2.2)).sum ≤ ((partsL a n).map (·.2.2)).sum := by
        obtain ⟨t, ht⟩ := hpx
        rw [← ht]
        simp only [List.map_append, List.sum_append]
        omega
      simp only [List.map_append, List.sum_append, List.map_cons, List.map_nil, List.sum_cons, List.sum_nil] at hs
      have hwl : x.2.2 ≤ (wfold T F bs pre).2.length := by
        rw [wfold_len]
        show x.2.2 ≤ bs.length - (List.map (fun x : Nat × Nat × Nat => x.2.2) pre).sum
        omega
      refine (vm_write1 (fr := frP T x) hm k1 hc hb hwl (by omega)).mono ?_
      rintro e w' ⟨v', rfl, q1, q2, q3⟩
      rw [k2, hthr, if_pos rfl] at q2
      refine ⟨v', rfl, q1, ?_, ?_⟩
      · rw [wfold_snoc]; exact q2
      · rw [wfold_snoc]; exact q3)
    clear hMM hsum hbl hv2
    go_wp2_with fail
    refine hea.mono ?_
    rintro e w3 ⟨v', rfl, hu3, hm3, _⟩
    go_wp2
    go_ret
    exact ⟨rfl, Upd.trans (Upd.of_ext (Ext.trans hxW hx2)) hu3, hm3⟩
  · have hr0 : (r != 0) = true := by simp [h0]
    go_wp2
    go_ret
    exact ⟨rfl, Upd.of_ext (Ext.trans hxW hx2), by first | exact hP2 | (rw [if_neg h0]; exact hP2)⟩
/-- the bytes that a reach reads -/
def rfold (T : List (Int × Ent)) (F : List (Int × Tak)) (pre : List Part) : List UInt8 := (pre.map fun x => rdB F (frP T x) x).flatten
set_option maxRecDepth 100000 in
set_option maxHeartbeats 1000000 in
theorem vm_read {o : Int} {a n : Nat} (ha : a < 4294967296) (hn : n ≤ 1000000000) (h : MemAt w mb tb eb pb fb rb many T F R) (hF : FOk F)
    (hM : askE T o 1 a n = 0 → ∀ p ∈ partsL a n, thrE F many (frP T p) (p.2.1 : Int) (p.2.2 : Int) = 0) :
    Calls Try.prog 30 #[.pointer (some ⟨mb, 0, none⟩), .int .i64 o, .int .u32 a, .int .i64 (n : Int)] w fun e w' => ∃ v, e = .returned (.tuple #[v, .int .i64 (askE T o 1 a n)]) ∧ Upd [fb] w w' ∧ MemAt w' mb tb eb pb fb rb many T F R ∧
      BytesAt w' v (if askE T o 1 a n = 0 then rfold T F (partsL a n) else []) := by
  obtain ⟨W, hW⟩ : ∃ W, w.alloc (.cells #[.pointer (some ⟨mb, 0, none⟩)] 25) = W := ⟨_, rfl⟩
  have hxW : Ext w W := hW ▸ ext_n _ (Ext.refl _)
  have hbW : W.heap[w.heap.size]? = some (.cells #[.pointer (some ⟨mb, 0, none⟩)] 25 (0, 0)) := hW ▸ World.alloc_heap_new _ _
  have hP := h.ext hxW
  have c0 := cell_at (i := 0) hbW rfl
  have hask := vm_asked (o := o) (m := 1) ha hn hP
  obtain ⟨r, hr⟩ : ∃ r, askE T o 1 a n = r := ⟨_, rfl⟩
  rw [hr] at hask hM ⊢
  have hrH := Lib.hid hr
  have HWl := Lib.hid hW
  have HBW := Lib.hid hbW
  have hMH := Lib.hid hM
  clear hr hW hbW hM
  go_enter Try.func30, Try.ntmps30
  go_wp2_with fail
  rw [HWl.out]
  refine hask.mono ?_
  rintro e w2 ⟨rfl, hx2⟩
  have c2 := (hx2.cell (p := ⟨w.heap.size, 0, none⟩) (World.block_lt_of_cell? _ _ c0)).trans c0
  have hP2 := hP.ext hx2
  by_cases h0 : r = 0
  · subst h0
    have hn2 : n ≤ 16777216 := by
      have := hrH.out
      unfold askE at this
      split at this
      · rename_i h1; simp [ask1] at h1; omega
      · cases this
    have hMM := hMH.out rfl
    have hlen : ∀ pre, pre <+: partsL a n → (rfold T F pre).length ≤ n := fun pre hp => by
      have h1 : (rfold T F pre).length ≤ (pre.map (·.2.2)).sum := by
        clear hp
        induction pre with
        | nil => simp [rfold]
        | cons x l ih =>
          simp only [rfold, List.map_cons, List.flatten_cons, List.length_append, List.sum_cons] at ih ⊢
          have : (rdB F (frP T x) x).length ≤ x.2.2 := by simp [rdB]; omega
          omega
      have h2 := parts_sum a n
      obtain ⟨t, ht⟩ := hp
      rw [← ht] at h2
      simp only [List.map_append, List.sum_append] at h2
      omega
    have hea := vm_each (g := 58) (cb := w.heap.size) (R := R) (v0 := .slice none 0 0) Try.call58 hn2 ha (fun _ => F) (fun pre => rfold T F pre) hP2 (.inl ⟨rfl, rfl⟩) c2 (fun pre x v W' hpx hc hm hb => by
      have hx : x ∈ partsL a n := hpx.subset (by simp)
      have hl := hlen pre ((List.prefix_append pre [x]).trans hpx)
      refine (vm_read1 (fr := frP T x) hm hF hc hb (by omega) (hMM x hx)).mono ?_
      rintro e w' ⟨v', rfl, q1, q2⟩
      refine ⟨v', rfl, Upd.of_ext q1, hm.ext q1, ?_⟩
      simpa [rfold] using q2)
    clear hMM hlen
    go_wp2_with fail
    refine hea.mono ?_
    rintro e w3 ⟨v', rfl, hu3, hm3, hb3⟩
    have HB3 := Lib.hid hb3
    clear hb3
    go_wp2
    refine bodyPost_ret (v := .tuple #[v', .int .i64 0]) ?_ rfl ⟨v', rfl, Upd.trans (Upd.of_ext (Ext.trans hxW hx2)) hu3, hm3, ?_⟩
    · simp [results, Try.results30, go_sem]
    · simpa using HB3.out
  · have hr0 : (r != 0) = true := by simp [h0]
    go_wp2
    refine bodyPost_ret (v := .tuple #[.slice none 0 0, .int .i64 r]) ?_ rfl ⟨_, rfl, Upd.of_ext (Ext.trans hxW hx2), hP2, ?_⟩
    · simp [results, Try.results30, go_sem]
    · exact .inl ⟨rfl, by first | rfl | rw [if_neg h0]⟩
end
end Go.Proofs.Ytlafdnbjkkbmfaa
