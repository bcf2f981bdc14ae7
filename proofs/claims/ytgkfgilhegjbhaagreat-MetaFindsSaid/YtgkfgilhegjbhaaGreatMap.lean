/- Maps with integer keys, as lists of pairs: what look-up, store, delete, range and next do; no condition. -/
import Derived.RangeFuncRecord
import Derived.Test.YtgkfgilhegjbhaaGreatLib
namespace Go.Proofs.YtgkfgilhegjbhaaGreat
open Go.RowKit
section
variable {α : Type} {P : Program} {q : IntKind} {enc : α → Value} {l : List (Int × α)} {w : World} {b : Nat}
def getL (l : List (Int × α)) (k : Int) : Option α := (l.find? (fun p => p.1 == k)).map (·.2)
def delL : List (Int × α) → Int → List (Int × α)
  | [], _ => []
  | p :: r, k => if p.1 == k then r else p :: delL r k
def putL : List (Int × α) → Int → α → List (Int × α)
  | [], k, v => [(k, v)]
  | p :: r, k, v => if p.1 == k then (k, v) :: r else p :: putL r k v
/-- the entries of a map as a list of pairs -/
def MapE (q : IntKind) (enc : α → Value) (l : List (Int × α)) (es : List MapEntry) (clock : Nat) : Prop :=
  es.map (fun e => (e.key, e.val)) = l.map (fun p => (.int q p.1, enc p.2)) ∧ (es.map (·.born)).Nodup ∧ (∀ e ∈ es, e.born < clock) ∧ (l.map (·.1)).Nodup
def MapO (q : IntKind) (enc : α → Value) (l : List (Int × α)) (o : Obj) : Prop := ∃ es clock, o = .map es clock ∧ MapE q enc l es.toList clock
def MapI (q : IntKind) (enc : α → Value) (l : List (Int × α)) (w : World) (b : Nat) : Prop := ∃ o, w.heap[b]? = some o ∧ MapO q enc l o
theorem MapI.later {w' : World} (h : MapI q enc l w b) (hb : w'.heap[b]? = w.heap[b]?) : MapI q enc l w' b := let ⟨o, ho, h⟩ := h; ⟨o, hb.trans ho, h⟩
theorem MapI.lt (h : MapI q enc l w b) : b < w.heap.size := by
  obtain ⟨o, ho, _⟩ := h
  exact (Array.getElem?_eq_some_iff.1 ho).1
theorem MapI.ext {w' : World} (h : MapI q enc l w b) (hb : Ext w w') : MapI q enc l w' b := h.later (hb.block b h.lt)
theorem MapI.nodup (h : MapI q enc l w b) : (l.map (·.1)).Nodup := by
  obtain ⟨o, ho, es, c, rfl, h⟩ := h; exact h.2.2.2

theorem findNow_int (k : Int) : ∀ (es : List MapEntry) (l : List (Int × α)) (i : Nat), es.map (fun e => (e.key, e.val)) = l.map (fun p => (Value.int q p.1, enc p.2)) →
    Instr.findNow (.int q) (.int q k) es i = some ((l.findIdx? (fun p => p.1 == k)).bind fun j => (l[j]?).map fun p => (i + j, enc p.2)) := by
  intro es
  induction es with
  | nil => intro l i h; cases l with
    | nil => rfl
    | cons p l => simp at h
  | cons e es ih =>
    intro l i h
    cases l with
    | nil => simp at h
    | cons p l =>
      simp only [List.map_cons, List.cons.injEq, Prod.mk.injEq] at h
      obtain ⟨⟨hk, hv⟩, ht⟩ := h
      simp only [Instr.findNow, Instr.sameNow, hk, hv, if_true]
      by_cases hp : p.1 = k
      · simp [hp, List.findIdx?_cons]
      · have hp' : ¬ k = p.1 := fun e => hp e.symm
        have hf : (k == p.1) = false := by simp [hp']
        simp only [hf]
        rw [ih l (i + 1) ht]
        have hp'' : (p.1 == k) = false := by simp [hp]
        simp only [List.findIdx?_cons, hp'']
        cases hj : l.findIdx? (fun p => p.1 == k) with
        | none => simp
        | some j => simp; congr 1; funext x; simp; omega
theorem getL_findIdx (l : List (Int × α)) (k : Int) : getL l k = (l.findIdx? (fun p => p.1 == k)).bind fun j => (l[j]?).map (·.2) := by
  unfold getL
  induction l with
  | nil => rfl
  | cons p l ih =>
    simp only [List.find?_cons, List.findIdx?_cons]
    cases hp : p.1 == k with
    | true => simp
    | false =>
      simp only [ih]
      cases hj : l.findIdx? (fun p => p.1 == k) <;> simp
theorem getL_none_iff (l : List (Int × α)) (k : Int) : getL l k = none ↔ k ∉ l.map (·.1) := by
  unfold getL
  simp [List.find?_eq_none]
  constructor
  · intro h x hx; exact h k x hx rfl
  · intro h a b hab e; subst e; exact h b hab

theorem run_checkKey_int {t : TypeId} (ht : P.underlying t = some (.int q)) (e : Bool) (v : Value) (w : World) : (Instr.checkKey e 10000 t v).run P w = .ok () w := by
  have h : (Instr.checkKey e (9999 + 1) t v).run P w = .ok () w := by
    rw [Instr.checkKey]
    simp [Sem.run_bind, run_underlying ht, Result.andThen]
  exact h
theorem run_findKey_int {t : TypeId} (ht : P.underlying t = some (.int q)) (k : Int) (es : List MapEntry) (l : List (Int × α)) (w : World)
    (h : es.map (fun e => (e.key, e.val)) = l.map (fun p => (Value.int q p.1, enc p.2))) :
    (Instr.findKey t (.int q k) es).run P w = .ok ((l.findIdx? (fun p => p.1 == k)).bind fun j => (l[j]?).map fun p => (j, enc p.2)) w := by
  simp [Instr.findKey, run_underlying ht, findNow_int k es l 0 h]
/-- look-up -/
theorem MapI.look (h : MapI q enc l w b) {T kt et : TypeId} (hT : P.underlying T = some (.map kt et)) (hk : P.underlying kt = some (.int q)) {z : Value} (hz : ∀ w, (zeroValue et).run P w = .ok z w) (k : Int) (ok : Bool) :
    (Instr.lookup T (.map (some b)) (.int q k) ok).run P w =
      .ok (if ok then .tuple #[((getL l k).map enc).getD z, .bool (getL l k).isSome] else ((getL l k).map enc).getD z) w := by
  obtain ⟨o, ho, es, clock, rfl, hm, -, -, -⟩ := h
  have hg : (getObj b).run P w = .ok (.map es clock) w := by simp [getObj, Sem.run, ho]
  have hf := run_findKey_int (P := P) hk k es.toList l w hm
  simp only [Instr.lookup, Sem.run_bind, run_underlying hT, hg, Result.andThen, Sem.run_pure, run_checkKey_int hk, hf]
  rw [getL_findIdx]
  cases hj : l.findIdx? (fun p => p.1 == k) with
  | none => cases ok <;> simp [hz, Result.andThen]
  | some j =>
    have hjl : j < l.length := (List.findIdx?_eq_some_iff_getElem.1 hj).1
    cases ok <;> simp [List.getElem?_eq_getElem hjl]
theorem putL_keys (l : List (Int × α)) (k : Int) (v : α) : (putL l k v).map (·.1) = if k ∈ l.map (·.1) then l.map (·.1) else l.map (·.1) ++ [k] := by
  induction l with
  | nil => simp [putL]
  | cons p l ih =>
    simp only [putL]
    by_cases hp : p.1 = k
    · simp [hp]
    · have hp' : ¬ k = p.1 := fun e => hp e.symm
      simp only [beq_iff_eq, hp, if_false, List.map_cons, ih, List.mem_cons, hp', false_or]
      split <;> simp
theorem putL_nodup {l : List (Int × α)} (h : (l.map (·.1)).Nodup) (k : Int) (v : α) : ((putL l k v).map (·.1)).Nodup := by
  rw [putL_keys]
  split
  · exact h
  · rename_i hk
    rw [List.nodup_append]
    refine ⟨h, by simp, ?_⟩
    intro a ha b hb
    simp at hb; subst hb
    intro e; subst e; exact hk ha
theorem delL_sub (l : List (Int × α)) (k : Int) : (delL l k).Sublist l := by
  induction l with
  | nil => exact .slnil
  | cons p l ih =>
    simp only [delL]
    split
    · exact List.sublist_cons_self _ _
    · exact ih.cons_cons _
theorem delL_nodup {l : List (Int × α)} (h : (l.map (·.1)).Nodup) (k : Int) : ((delL l k).map (·.1)).Nodup :=
  h.sublist ((delL_sub l k).map _)
theorem getL_putL (l : List (Int × α)) (k j : Int) (v : α) : getL (putL l k v) j = if k = j then some v else getL l j := by
  unfold getL
  induction l with
  | nil =>
    by_cases h : k = j
    · simp [putL, h]
    · simp [putL, h]
  | cons p l ih =>
    simp only [putL]
    by_cases hp : p.1 = k
    · subst hp
      by_cases h : p.1 = j <;> simp [h]
    · simp only [beq_iff_eq, hp, if_false, List.find?_cons]
      by_cases h : p.1 = j
      · subst h
        have hp' : ¬ k = p.1 := fun e => hp e.symm
        simp [hp']
      · have h' : (p.1 == j) = false := by simp [h]
        simp only [h', ih]
theorem getL_delL {l : List (Int × α)} (hn : (l.map (·.1)).Nodup) (k j : Int) : getL (delL l k) j = if k = j then none else getL l j := by
  induction l with
  | nil => simp [delL, getL]
  | cons p l ih =>
    simp only [List.map_cons, List.nodup_cons] at hn
    simp only [delL]
    by_cases hp : p.1 = k
    · subst hp
      simp only [beq_self_eq_true, if_true]
      by_cases h : p.1 = j
      · subst h; simp only [if_true]; exact (getL_none_iff l p.1).2 hn.1
      · simp only [h, if_false, getL, List.find?_cons, (by simp [h] : (p.1 == j) = false)]
    · simp only [beq_iff_eq, hp, if_false]
      have ih' := ih hn.2
      by_cases h : p.1 = j
      · subst h
        have hp' : ¬ k = p.1 := fun e => hp e.symm
        simp [getL, hp']
      · have h' : (p.1 == j) = false := by simp [h]
        unfold getL at ih' ⊢
        simp only [List.find?_cons, h', ih']
theorem putL_new {l : List (Int × α)} {k : Int} (h : k ∉ l.map (·.1)) (v : α) : putL l k v = l ++ [(k, v)] := by
  induction l with
  | nil => rfl
  | cons p l ih =>
    simp only [List.map_cons, List.mem_cons, not_or] at h
    have hp : ¬ p.1 = k := fun e => h.1 e.symm
    simp only [putL, beq_iff_eq, hp, if_false, ih h.2, List.cons_append]
theorem delL_put {l : List (Int × α)} {k : Int} (h : k ∉ l.map (·.1)) (v : α) : delL (putL l k v) k = l := by
  rw [putL_new h]
  induction l with
  | nil => simp [delL]
  | cons p l ih =>
    simp only [List.map_cons, List.mem_cons, not_or] at h
    have hp : ¬ p.1 = k := fun e => h.1 e.symm
    simp only [List.cons_append, delL, beq_iff_eq, hp, if_false, ih h.2]

theorem entry_upd (k : Int) (v : α) : ∀ (es : List MapEntry) (l : List (Int × α)) (j : Nat), es.map (fun e => (e.key, e.val)) = l.map (fun p => (Value.int q p.1, enc p.2)) →
    l.findIdx? (fun p => p.1 == k) = some j → (es.modify j fun e => { e with key := .int q k, val := enc v }).map (fun e => (e.key, e.val)) = (putL l k v).map (fun p => (Value.int q p.1, enc p.2)) := by
  intro es
  induction es with
  | nil => intro l j h hj; cases l with
    | nil => simp at hj
    | cons p l => simp at h
  | cons e es ih =>
    intro l j h hj
    cases l with
    | nil => simp at h
    | cons p l =>
      simp only [List.map_cons, List.cons.injEq] at h
      rw [List.findIdx?_cons] at hj
      by_cases hp : p.1 = k
      · simp only [beq_iff_eq, hp, if_true, Option.some.injEq] at hj
        subst hj
        simp [putL, hp, h.2]
      · simp only [beq_iff_eq, hp, if_false, Option.map_eq_some_iff] at hj
        obtain ⟨j', hj', rfl⟩ := hj
        simp only [putL, beq_iff_eq, hp, if_false, List.modify_succ_cons, List.map_cons, ih l j' h.2 hj', h.1]
theorem entry_del (k : Int) : ∀ (es : List MapEntry) (l : List (Int × α)) (j : Nat), es.map (fun e => (e.key, e.val)) = l.map (fun p => (Value.int q p.1, enc p.2)) →
    l.findIdx? (fun p => p.1 == k) = some j → (es.eraseIdx j).map (fun e => (e.key, e.val)) = (delL l k).map (fun p => (Value.int q p.1, enc p.2)) := by
  intro es
  induction es with
  | nil => intro l j h hj; cases l with
    | nil => simp at hj
    | cons p l => simp at h
  | cons e es ih =>
    intro l j h hj
    cases l with
    | nil => simp at h
    | cons p l =>
      simp only [List.map_cons, List.cons.injEq] at h
      rw [List.findIdx?_cons] at hj
      by_cases hp : p.1 = k
      · simp only [beq_iff_eq, hp, if_true, Option.some.injEq] at hj
        subst hj
        simp [delL, hp, h.2]
      · simp only [beq_iff_eq, hp, if_false, Option.map_eq_some_iff] at hj
        obtain ⟨j', hj', rfl⟩ := hj
        simp only [delL, beq_iff_eq, hp, if_false, List.eraseIdx_cons_succ, List.map_cons, ih l j' h.2 hj', h.1]
theorem findIdx_none {l : List (Int × α)} {k : Int} (h : l.findIdx? (fun p => p.1 == k) = none) : k ∉ l.map (·.1) := by
  intro hk
  obtain ⟨p, hp, rfl⟩ := List.mem_map.1 hk
  simpa using List.findIdx?_eq_none_iff.1 h p hp
theorem delL_none {l : List (Int × α)} {k : Int} (h : k ∉ l.map (·.1)) : delL l k = l := by
  induction l with
  | nil => rfl
  | cons p l ih =>
    simp only [List.map_cons, List.mem_cons, not_or] at h
    have hp : ¬ p.1 = k := fun e => h.1 e.symm
    simp only [delL, beq_iff_eq, hp, if_false, ih h.2]
/-- store -/
theorem MapI.store (h : MapI q enc l w b) {T kt et : TypeId} (hT : P.underlying T = some (.map kt et)) (hk : P.underlying kt = some (.int q)) (k : Int) (v : α) :
    ∃ o, (Instr.mapUpdate T (.map (some b)) (.int q k) (enc v)).run P w = .ok () (w.putObj b o) ∧ MapO q enc (putL l k v) o := by
  obtain ⟨o, ho, es, clock, rfl, hm, hb, hc, hn⟩ := h
  have hg : (getObj b).run P w = .ok (.map es clock) w := by simp [getObj, Sem.run, ho]
  have hs : ∀ o, (setObj b o).run P w = .ok () (w.putObj b o) := fun o => by simp [setObj, Sem.run, ho, World.putObj]
  have hf := run_findKey_int (P := P) hk k es.toList l w hm
  have hlen : es.toList.length = l.length := by have := congrArg List.length hm; simpa using this
  cases hj : l.findIdx? (fun p => p.1 == k) with
  | none =>
    rw [hj] at hf
    refine ⟨.map (es.push { key := .int q k, val := enc v, born := clock }) (clock + 1), ?_, _, _, rfl, ?_, ?_, ?_, putL_nodup hn k v⟩
    · simp only [Instr.mapUpdate, Sem.run_bind, run_underlying hT, hg, Result.andThen, run_checkKey_int hk, hf, Option.bind_none, hs]
    · rw [putL_new (findIdx_none hj)]
      simp only [Array.toList_push, List.map_append, List.map_cons, List.map_nil, hm]
    · simp only [Array.toList_push, List.map_append, List.map_cons, List.map_nil, List.nodup_append]
      refine ⟨hb, by simp, ?_⟩
      intro a ha x hx
      obtain ⟨e, he, rfl⟩ := List.mem_map.1 ha
      simp at hx; subst hx
      have := hc e he
      omega
    · intro e he
      simp only [Array.toList_push, List.mem_append, List.mem_singleton] at he
      rcases he with he | rfl
      · have := hc e he; omega
      · simp
  | some j =>
    have hjl := (List.findIdx?_eq_some_iff_getElem.1 hj)
    obtain ⟨hjl, hjk, -⟩ := hjl
    simp only [beq_iff_eq] at hjk
    rw [hj] at hf
    have hje : j < es.size := by have : j < es.toList.length := by rw [hlen]; exact hjl
                                 simpa using this
    have hkey : ((es[j]?).map (·.key)).getD (.int q k) = .int q k := by
      have := congrArg (fun l => l[j]?) hm
      simp only [List.getElem?_map] at this
      rw [List.getElem?_eq_getElem (by simpa using hje), List.getElem?_eq_getElem hjl] at this
      simp only [Option.map_some, Option.some.injEq, Prod.mk.injEq] at this
      rw [Array.getElem?_eq_getElem hje]
      simp only [Option.map_some, Option.getD_some]
      rw [← Array.getElem_toList, this.1, hjk]
    refine ⟨.map (es.modify j fun e => { e with key := .int q k, val := enc v }) clock, ?_, _, _, rfl, ?_, ?_, ?_, putL_nodup hn k v⟩
    · have hsame : Instr.sameBits 10000 (.int q k) (.int q k) = true := by simp [Instr.sameBits]
      simp only [Instr.mapUpdate, Sem.run_bind, run_underlying hT, hg, Result.andThen, run_checkKey_int hk, hf, Option.bind_some, List.getElem?_eq_getElem hjl, Option.map_some, hkey, Instr.keyThatStays, hsame, if_true, Sem.run_pure, hs]
    · rw [Array.toList_modify]; exact entry_upd k v _ _ _ hm hj
    · rw [Array.toList_modify]
      have : (es.toList.modify j fun e => { e with key := .int q k, val := enc v }).map (·.born) = es.toList.map (·.born) := by
        apply List.ext_getElem?
        intro i
        simp only [List.getElem?_map, List.getElem?_modify]
        cases es.toList[i]? <;> simp
        split <;> simp_all
      rw [this]; exact hb
    · intro e he
      rw [Array.toList_modify] at he
      obtain ⟨i, hi, rfl⟩ := List.mem_iff_getElem.1 he
      have hi' : i < es.toList.length := by simpa using hi
      rw [List.getElem_modify]
      split
      · exact hc es.toList[i] (List.getElem_mem hi')
      · exact hc _ (List.getElem_mem hi')
/-- delete -/
theorem MapI.drop (h : MapI q enc l w b) {T kt et : TypeId} (hT : P.underlying T = some (.map kt et)) (hk : P.underlying kt = some (.int q)) (k : Int) (ts : Array TypeId) (t : TypeId) (hts : ts[0]? = some T) :
    ∃ o, (Builtin.delete_ ts t #[.map (some b), .int q k]).run P w = .ok (.tuple #[]) (w.putObj b o) ∧ MapO q enc (delL l k) o := by
  obtain ⟨o, ho, es, clock, rfl, hm, hb, hc, hn⟩ := h
  have hg : (getObj b).run P w = .ok (.map es clock) w := by simp [getObj, Sem.run, ho]
  have hs : ∀ o, (setObj b o).run P w = .ok () (w.putObj b o) := fun o => by simp [setObj, Sem.run, ho, World.putObj]
  have hf := run_findKey_int (P := P) hk k es.toList l w hm
  have hlen : es.toList.length = l.length := by have := congrArg List.length hm; simpa using this
  cases hj : l.findIdx? (fun p => p.1 == k) with
  | none =>
    rw [hj] at hf
    refine ⟨.map es clock, ?_, _, _, rfl, ?_, hb, hc, delL_nodup hn k⟩
    · simp [Builtin.delete_, hts, Sem.run_bind, run_underlying hT, hg, Result.andThen, run_checkKey_int hk, hf, hs]
    · rw [delL_none (findIdx_none hj)]; exact hm
  | some j =>
    have hjl := (List.findIdx?_eq_some_iff_getElem.1 hj).1
    rw [hj] at hf
    refine ⟨.map (es.eraseIdxIfInBounds j) clock, ?_, _, _, rfl, ?_, ?_, ?_, delL_nodup hn k⟩
    · simp [Builtin.delete_, hts, Sem.run_bind, run_underlying hT, hg, Result.andThen, run_checkKey_int hk, hf, List.getElem?_eq_getElem hjl, hs]
    · rw [Array.toList_eraseIdxIfInBounds]; exact entry_del k _ _ _ hm hj
    · rw [Array.toList_eraseIdxIfInBounds]
      exact hb.sublist ((List.eraseIdx_sublist _ _).map _)
    · intro e he
      rw [Array.toList_eraseIdxIfInBounds] at he
      exact hc e ((List.eraseIdx_sublist _ _).subset he)
theorem MapI.look0 (h : MapI q enc l w b) {T kt et : TypeId} (hT : P.underlying T = some (.map kt et)) (hk : P.underlying kt = some (.int q)) {z : Value} (hz : ∀ w, (zeroValue et).run P w = .ok z w) (k : Int) {v : Value} (hv : ((getL l k).map enc).getD z = v) :
    (Instr.lookup T (.map (some b)) (.int q k) false).run P w = .ok v w := by
  rw [h.look hT hk hz k false, ← hv]; rfl
theorem MapI.look1 (h : MapI q enc l w b) {T kt et : TypeId} (hT : P.underlying T = some (.map kt et)) (hk : P.underlying kt = some (.int q)) {z : Value} (hz : ∀ w, (zeroValue et).run P w = .ok z w) (k : Int) {v : Value} (hv : ((getL l k).map enc).getD z = v) {x : Bool} (hx : (getL l k).isSome = x) :
    (Instr.lookup T (.map (some b)) (.int q k) true).run P w = .ok (.tuple #[v, .bool x]) w := by
  rw [h.look hT hk hz k true, ← hv, ← hx]; rfl
theorem getL_mem {l : List (Int × α)} {k : Int} {v : α} (h : getL l k = some v) : (k, v) ∈ l := by
  unfold getL at h
  rw [Option.map_eq_some_iff] at h
  obtain ⟨⟨a, c⟩, h1, rfl⟩ := h
  have := List.find?_some h1
  simp at this; subst this
  exact List.mem_of_find?_eq_some h1
end
end Go.Proofs.YtgkfgilhegjbhaaGreat
