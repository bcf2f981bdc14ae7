/- The memory's blocks: a pool of frames, a table of pages, and both together; no condition. -/
import Derived.Deep.MidRow
import Derived.Deep.LoopGhost
import Derived.Test.YtgkfgilhegjbhaaGreatRng
namespace Go.Proofs.YtgkfgilhegjbhaaGreat
open Go.RowKit
structure Ent where
  owner : Int
  may : Int
  frame : Int
structure Tak where
  owner : Int
  bytes : List UInt8
def encE (x : Ent) : Value := .agg #[.int .i64 x.owner, .int .i64 x.may, .int .i64 x.frame]
def u8s (l : List UInt8) : List Value := l.map fun b => .int .u8 (b.toNat : Int)
def takC (t : Tak) : Array Value := (Value.int .i64 t.owner :: u8s t.bytes).toArray
def encT (t : Tak) : Value := .agg (takC t)
def encI (n : Int) : Value := .int .i64 n
theorem takC_zero (t : Tak) : (takC t)[0]? = some (.int .i64 t.owner) := by simp [takC]
theorem takC_size (t : Tak) : (takC t).size = t.bytes.length + 1 := by simp [takC, u8s]
/-- a pool: its three cells, its two maps -/
structure PoolAt (w : World) (pb fb rb : Nat) (many : Int) (F : List (Int × Tak)) (R : List (Int × Int)) : Prop where
  blk : w.heap[pb]? = some (.cells #[.map (some fb), .map (some rb), .int .i64 many] 110 (0, 0))
  fr : MapI .i64 encT F w fb
  rs : MapI .i64 encI R w rb
  ne : fb ≠ rb
structure TabAt (w : World) (tb eb : Nat) (T : List (Int × Ent)) : Prop where
  blk : w.heap[tb]? = some (.cells #[.map (some eb)] 114 (0, 0))
  en : MapI .i64 encE T w eb
section
variable {w w' : World} {pb fb rb tb eb : Nat} {many : Int} {F : List (Int × Tak)} {R : List (Int × Int)} {T : List (Int × Ent)}
theorem lt_of_block {o : Obj} {b : Nat} (h : w.heap[b]? = some o) : b < w.heap.size := (Array.getElem?_eq_some_iff.1 h).1
theorem PoolAt.ext (h : PoolAt w pb fb rb many F R) (hx : Ext w w') : PoolAt w' pb fb rb many F R :=
  ⟨(hx.block _ (lt_of_block h.blk)).trans h.blk, h.fr.ext hx, h.rs.ext hx, h.ne⟩
theorem TabAt.ext (h : TabAt w tb eb T) (hx : Ext w w') : TabAt w' tb eb T := ⟨(hx.block _ (lt_of_block h.blk)).trans h.blk, h.en.ext hx⟩
theorem PoolAt.c0 (h : PoolAt w pb fb rb many F R) : w.cell? ⟨pb, 0, none⟩ = some (.map (some fb)) := by simp [World.cell?, h.blk]
theorem PoolAt.c1 (h : PoolAt w pb fb rb many F R) : w.cell? ⟨pb, 1, none⟩ = some (.map (some rb)) := by simp [World.cell?, h.blk]
theorem PoolAt.c2 (h : PoolAt w pb fb rb many F R) : w.cell? ⟨pb, 2, none⟩ = some (.int .i64 many) := by simp [World.cell?, h.blk]
theorem TabAt.c0 (h : TabAt w tb eb T) : w.cell? ⟨tb, 0, none⟩ = some (.map (some eb)) := by simp [World.cell?, h.blk]
theorem map_ne {α : Type} {q : IntKind} {enc : α → Value} {l : List (Int × α)} {b c : Nat} {cs : Array Value} {t : TypeId} {fr : Nat × Nat} (hm : MapI q enc l w b) (hc : w.heap[c]? = some (.cells cs t fr)) : c ≠ b := by
  rintro rfl
  obtain ⟨o, ho, es, k, rfl, _⟩ := hm
  rw [hc] at ho; cases ho
theorem PoolAt.pne (h : PoolAt w pb fb rb many F R) : pb ≠ fb ∧ pb ≠ rb := ⟨map_ne h.fr h.blk, map_ne h.rs h.blk⟩
theorem PoolAt.upd_rs {R' : List (Int × Int)} (h : PoolAt w pb fb rb many F R) (hu : Upd [rb] w w') (hm : MapI .i64 encI R' w' rb) : PoolAt w' pb fb rb many F R' :=
  ⟨(hu.block _ (lt_of_block h.blk) (by simp; exact h.pne.2)).trans h.blk, h.fr.later (hu.block _ h.fr.lt (by simp; exact h.ne)), hm, h.ne⟩
theorem PoolAt.upd_fr {F' : List (Int × Tak)} (h : PoolAt w pb fb rb many F R) (hu : Upd [fb] w w') (hm : MapI .i64 encT F' w' fb) : PoolAt w' pb fb rb many F' R :=
  ⟨(hu.block _ (lt_of_block h.blk) (by simp; exact h.pne.1)).trans h.blk, hm, h.rs.later (hu.block _ h.rs.lt (by simp; exact Ne.symm h.ne)), h.ne⟩
theorem TabAt.upd {T' : List (Int × Ent)} (h : TabAt w tb eb T) (hu : Upd [eb] w w') (hm : MapI .i64 encE T' w' eb) : TabAt w' tb eb T' :=
  ⟨(hu.block _ (lt_of_block h.blk) (by simp; exact map_ne h.en h.blk)).trans h.blk, hm⟩
end
/-- what a maker of questions answers -/
def AskR (P : Program) (w : World) (err : Int) (b : Bool) (e : Ending) (w' : World) : Prop :=
  ∃ v, e = .returned (.agg #[v, .int .i64 err]) ∧ Q P w' v (.bool b) ∧ Ext w w'
theorem Q.mk {P : Program} {w : World} {f : FuncId} {first cap : Array Value} {r : Value} (hc : ∀ a w, (callFunc f a).run P w = .ok (.enter f a) w)
    (h : ∀ w', Ext w w' → Calls P f (first ++ #[] ++ cap) w' fun e w'' => e = .returned r ∧ Ext w' w'') : Q P w (.func (.func f) first cap) r := ⟨f, first, cap, rfl, hc, h⟩
theorem ext_drew {w w' : World} (h : Ext w w') : Ext w w'.drew := Below.drew h
/-- one new block, and on -/
theorem ext_a {w w' : World} {o : Obj} (h : Ext (w.alloc o) w') : Ext w w' := Ext.trans ((Below.refl _ _).alloc (Nat.le_refl _) _) h
/-- .. and one new block -/
theorem ext_n {w w' : World} (o : Obj) (h : Ext w w') : Ext w (w'.alloc o) := Below.alloc h h.size o
/-- a block laid: its cell in every later world -/
theorem cell_new1 {w w' : World} {v : Value} {t : TypeId} (h : Ext (w.alloc (.cells #[v] t)) w') : w'.cell? ⟨w.heap.size, 0, none⟩ = some v := by
  rw [h.cell (p := ⟨w.heap.size, 0, none⟩) (by simp)]; simp
theorem ext_drewN {w w' : World} (n : Nat) (h : Ext w w') : Ext w (w'.drewN n) := h.trans (by
  induction n generalizing w' with
  | zero => exact Below.refl _ _
  | succ n ih => exact (ih (w' := w') h).drew)
theorem setCells_alloc (W : World) (T : TypeId) : ∀ (l : List Value) (o : Nat) (c : Array Value), o + l.length ≤ c.size →
    ∃ c' : Array Value, (W.alloc (.cells c T)).setCells W.heap.size o l = W.alloc (.cells c' T) ∧ c'.size = c.size ∧ ∀ i, c'[i]? = if o ≤ i ∧ i < o + l.length then l[i - o]? else c[i]?
  | [], o, c, _ => ⟨c, rfl, rfl, fun i => by rw [if_neg (by simp)]⟩
  | v :: l, o, c, h => by
    simp only [List.length_cons] at h
    have e1 : (W.alloc (.cells c T)).setCell ⟨W.heap.size, o, none⟩ v = W.alloc (.cells (c.setIfInBounds o v) T) := by
      rw [World.setCell_alloc_at _ _ _ _ _ rfl]
    obtain ⟨c', h1, h2, h3⟩ := setCells_alloc W T l (o + 1) (c.setIfInBounds o v) (by simp; omega)
    refine ⟨c', by rw [World.setCells, e1, h1], by simpa using h2, fun i => ?_⟩
    rw [h3]
    by_cases hi : i = o
    · subst hi
      rw [if_neg (by omega), if_pos (by simp)]
      have : i < c.size := by omega
      simp [this]
    · by_cases hj : o + 1 ≤ i ∧ i < o + 1 + l.length
      · rw [if_pos hj, if_pos (by simp; omega)]
        obtain ⟨d, rfl⟩ : ∃ d, i = o + 1 + d := ⟨i - (o + 1), by omega⟩
        rw [show o + 1 + d - (o + 1) = d by omega, show o + 1 + d - o = d + 1 by omega]
        simp
      · rw [if_neg hj, if_neg (by simp; omega)]
        rw [Array.getElem?_setIfInBounds_ne (by omega)]
/-- a whole value into a block that was just laid -/
theorem run_storeCells_new {P : Program} {T : TypeId} {cs zt : Array Value} {W : World} {b : Nat} (h1 : cs.all (·.oneCell') = true) (hz : zt.size = cs.size) (hb : b = W.heap.size) :
    (storeCells ⟨b, 0, none⟩ cs.toList).run P (W.alloc (.cells zt T)) = .ok () (W.alloc (.cells cs T)) := by
  subst hb
  have := run_storeCells_cells (P := P) W.heap.size 0 cs.toList 0 (W.alloc (.cells zt T)) (fun j hj => by
    have hj' : j < zt.size := by simp at hj; omega
    simp [hj']) (fun j hj => by simp) (fun v hv => (Array.all_eq_true_iff_forall_mem.1 h1) v (by simpa using hv))
  rw [Nat.add_zero] at this
  rw [this]
  congr 1
  obtain ⟨c', e1, e2, e3⟩ := setCells_alloc W T cs.toList 0 zt (by simp; omega)
  rw [e1]
  congr 2
  apply Array.ext_getElem?
  intro i
  rw [e3]
  by_cases h : i < cs.size
  · rw [if_pos (by simp; exact h)]; simp
  · rw [if_neg (by simp; omega), Array.getElem?_eq_none (by omega), Array.getElem?_eq_none (by omega)]
/-- the whole value of a block -/
theorem run_loadCells_blk {P : Program} {cs : Array Value} {W : World} {b n : Nat} {t : TypeId} {fr : Nat × Nat} (hn : cs.size = n) (hb : W.heap[b]? = some (.cells cs t fr)) :
    (loadCells ⟨b, 0, none⟩ n).run P W = .ok cs W := by
  have := run_loadCells_list (P := P) W ⟨b, 0, none⟩ cs.toList (fun j v hv => by
    rw [Addr.add_mid]
    simp only [World.cell?, hb]; simpa using hv)
  simpa [hn] using this
theorem frz {w : World} {b i : Nat} {c : Array Value} {t : TypeId} (h : w.heap[b]? = some (.cells c t (0, 0))) : w.frozen? ⟨b, i, none⟩ = false := by
  simp [World.frozen?, h]
theorem heap_setc {w : World} {b i : Nat} {c : Array Value} {t : TypeId} {fr : Nat × Nat} {u : Value} (h : w.heap[b]? = some (.cells c t fr)) : (w.setCell ⟨b, i, none⟩ u).heap[b]? = some (.cells (c.setIfInBounds i u) t fr) := by
  have hb : b < w.heap.size := lt_of_block h
  have hg : w.heap[b] = .cells c t fr := (Array.getElem?_eq_some_iff.1 h).2
  show (w.heap.modify b _)[b]? = _
  rw [Array.getElem?_eq_getElem (by simpa using hb), Array.getElem_modify_self, hg]
  rfl
/-- a function's boxed parameters -/
def boxes (w : World) : List (Value × TypeId) → World
  | [] => w
  | (v, t) :: l => boxes (w.alloc (.cells #[v] t)) l
theorem boxes_ext : ∀ (l : List (Value × TypeId)) (w : World), Ext w (boxes w l)
  | [], w => Ext.refl w
  | (_, _) :: l, w => Ext.trans (ext_n _ (Ext.refl w)) (boxes_ext l _)
theorem boxes_size : ∀ (l : List (Value × TypeId)) (w : World), (boxes w l).heap.size = w.heap.size + l.length
  | [], w => rfl
  | (_, _) :: l, w => by rw [boxes, boxes_size l]; simp; omega
theorem boxes_cell : ∀ (l : List (Value × TypeId)) (w : World) {w2 : World} (i : Nat) (h : i < l.length), Ext (boxes w l) w2 → w2.cell? ⟨w.heap.size + i, 0, none⟩ = some l[i].1
  | [], _, _, _, h, _ => by simp at h
  | (_, _) :: l, w, w2, 0, _, hx => by
    rw [boxes] at hx
    exact cell_new1 (Ext.trans (boxes_ext l _) hx)
  | (v, t) :: l, w, w2, i + 1, h, hx => by
    rw [boxes] at hx
    have := boxes_cell l (w.alloc (.cells #[v] t)) i (by simpa using h) hx
    rw [World.size_alloc] at this
    rw [show w.heap.size + (i + 1) = w.heap.size + 1 + i by omega]
    exact this
/-- blocks laid, one behind the other -/
def blocks (w : World) : List (Array Value × TypeId) → World
  | [] => w
  | (c, t) :: l => blocks (w.alloc (.cells c t)) l
theorem blocks_ext : ∀ (l : List (Array Value × TypeId)) (w : World), Ext w (blocks w l)
  | [], w => Ext.refl w
  | (_, _) :: l, w => Ext.trans (ext_n _ (Ext.refl w)) (blocks_ext l _)
theorem blocks_at : ∀ (l : List (Array Value × TypeId)) (w : World) {w2 : World} (i : Nat) (h : i < l.length), Ext (blocks w l) w2 → w2.heap[w.heap.size + i]? = some (.cells l[i].1 l[i].2 (0, 0))
  | [], _, _, _, h, _ => by simp at h
  | (c, t) :: l, w, w2, 0, _, hx => by
    rw [blocks] at hx
    have hx' := Ext.trans (blocks_ext l _) hx
    rw [Nat.add_zero, hx'.block w.heap.size (by simp)]
    exact World.alloc_heap_new _ _
  | (c, t) :: l, w, w2, i + 1, h, hx => by
    rw [blocks] at hx
    have := blocks_at l (w.alloc (.cells c t)) i (by simpa using h) hx
    rw [World.size_alloc] at this
    rw [show w.heap.size + (i + 1) = w.heap.size + 1 + i by omega]
    exact this
theorem cell_at {w : World} {b : Nat} {c : Array Value} {t : TypeId} {fr : Nat × Nat} {i : Nat} {v : Value} (h : w.heap[b]? = some (.cells c t fr)) (hv : c[i]? = some v) : w.cell? ⟨b, i, none⟩ = some v := by
  simp [World.cell?, h, hv]
theorem cell_putObj {w : World} {b : Nat} {o : Obj} {a : Addr} (h : ¬ a.block = b) : (w.putObj b o).cell? a = w.cell? a := World.cell?_of_block (w := w) (World.putObj_heap_other h)
theorem frozen_putObj {w : World} {b : Nat} {o : Obj} {a : Addr} (h : ¬ a.block = b) : (w.putObj b o).frozen? a = w.frozen? a := World.frozen?_of_block (w := w) (World.putObj_heap_other h)
theorem ext_set {w w' : World} {a : Addr} (v : Value) (h : Ext w w') (ha : w.heap.size ≤ a.block) : Ext w (w'.setCell a v) := Below.setCell h ha v
theorem upd_set {S : List Nat} {w w' : World} {a : Addr} (v : Value) (h : Upd S w w') (ha : w.heap.size ≤ a.block) : Upd S w (w'.setCell a v) :=
  ⟨h.os, h.tape, h.output, by simp [World.setCell]; exact h.size, fun k hk hs => (Below.heap_setCell _ _ _ _ (by omega)).trans (h.block k hk hs)⟩
theorem upd_n {S : List Nat} {w w' : World} (o : Obj) (h : Upd S w w') : Upd S w (w'.alloc o) :=
  ⟨h.os, h.tape, h.output, by simp; have := h.size; omega, fun k hk hs => (Below.heap_alloc _ _ _ (Nat.lt_of_lt_of_le hk h.size)).trans (h.block k hk hs)⟩
theorem upd_setc {S : List Nat} {w w' : World} {b i : Nat} (u : Value) (h : Upd S w w') (hb : b ∈ S) : Upd S w (w'.setCell ⟨b, i, none⟩ u) :=
  ⟨h.os, h.tape, h.output, by simp [World.setCell]; exact h.size, fun k hk hs => (Below.heap_setCell _ _ _ _ (by rintro rfl; exact hs hb)).trans (h.block k hk hs)⟩
end Go.Proofs.YtgkfgilhegjbhaaGreat
