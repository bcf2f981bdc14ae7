/- Ranging over a map with integer keys: the entries come in some order, each once; no condition. And what a call may turn. -/
import Derived.Test.YtgkfgilhegjbhaaGreatMap
namespace Go.Proofs.YtgkfgilhegjbhaaGreat
open Go.RowKit
/-- nothing but blocks of S has turned -/
structure Upd (S : List Nat) (w w' : World) : Prop where
  os : w'.os = w.os
  tape : w'.tape = w.tape
  output : w'.output = w.output
  size : w.heap.size ≤ w'.heap.size
  block : ∀ k, k < w.heap.size → k ∉ S → w'.heap[k]? = w.heap[k]?
theorem Upd.refl (S : List Nat) (w : World) : Upd S w w := ⟨rfl, rfl, rfl, Nat.le_refl _, fun _ _ _ => rfl⟩
theorem Upd.trans {S : List Nat} {a b c : World} (h : Upd S a b) (k : Upd S b c) : Upd S a c :=
  ⟨k.os.trans h.os, k.tape.trans h.tape, k.output.trans h.output, Nat.le_trans h.size k.size, fun i hi hs => (k.block i (Nat.lt_of_lt_of_le hi h.size) hs).trans (h.block i hi hs)⟩
theorem Upd.of_ext {S : List Nat} {w w' : World} (h : Ext w w') : Upd S w w' := ⟨h.os, h.tape, h.output, h.size, fun k hk _ => h.block k hk⟩
theorem Upd.mono {S S' : List Nat} {w w' : World} (h : Upd S w w') (hs : ∀ k, k ∈ S → k ∈ S') : Upd S' w w' := ⟨h.os, h.tape, h.output, h.size, fun k hk hk' => h.block k hk (fun h => hk' (hs k h))⟩
theorem Upd.ext {w w' : World} (h : Upd [] w w') : Ext w w' := ⟨h.os, h.tape, h.output, h.size, fun k hk => h.block k hk (by simp)⟩
/-- blocks that are new do not count -/
theorem Upd.new {S : List Nat} {w w' : World} (h : Upd S w w') (hs : ∀ k, k ∈ S → w.heap.size ≤ k) : Ext w w' := ⟨h.os, h.tape, h.output, h.size, fun k hk => h.block k hk (fun h' => by have := hs k h'; omega)⟩
theorem Upd.putObj (w : World) (b : Nat) (o : Obj) : Upd [b] w (w.putObj b o) := ⟨rfl, rfl, rfl, by simp, fun k _ hs => World.putObj_heap_other (by simpa using hs)⟩
theorem Upd.cell {S : List Nat} {w w' : World} (h : Upd S w w') {a : Addr} (ha : a.block < w.heap.size) (hs : a.block ∉ S) : w'.cell? a = w.cell? a := World.cell?_of_block (w := w) (h.block _ ha hs)
theorem Upd.frozen {S : List Nat} {w w' : World} (h : Upd S w w') {a : Addr} (ha : a.block < w.heap.size) (hs : a.block ∉ S) : w'.frozen? a = w.frozen? a := World.frozen?_of_block (w := w) (h.block _ ha hs)
section
variable {α : Type} {P : Program} {q : IntKind} {enc : α → Value} {l rest : List (Int × α)} {w : World} {b r : Nat}
theorem MapI.put {o : Obj} (ho : MapO q enc l o) (hb : b < w.heap.size) : MapI q enc l (w.putObj b o) b := ⟨o, World.putObj_heap_same hb, ho⟩
/-- an iterator at block r over the map at block b; rest: what is still to come -/
def RngI (q : IntKind) (enc : α → Value) (w : World) (b r : Nat) (rest : List (Int × α)) : Prop :=
  ∃ es clock seen, w.heap[b]? = some (.map es clock) ∧ w.heap[r]? = some (.mapIter (some b) clock seen clock) ∧ (es.toList.map (·.born)).Nodup ∧ (∀ e ∈ es.toList, e.born < clock) ∧
    (es.toList.filter fun e => !seen.contains e.born).map (fun e => (e.key, e.val)) = rest.map (fun p => (Value.int q p.1, enc p.2))
theorem RngI.later {w' : World} (h : RngI q enc w b r rest) (hb : w'.heap[b]? = w.heap[b]?) (hr : w'.heap[r]? = w.heap[r]?) : RngI q enc w' b r rest := by
  obtain ⟨es, clock, seen, h1, h2, h3⟩ := h
  exact ⟨es, clock, seen, hb.trans h1, hr.trans h2, h3⟩
theorem RngI.lt (h : RngI q enc w b r rest) : b < w.heap.size ∧ r < w.heap.size := by
  obtain ⟨es, clock, seen, h1, h2, -⟩ := h
  exact ⟨(Array.getElem?_eq_some_iff.1 h1).1, (Array.getElem?_eq_some_iff.1 h2).1⟩
theorem RngI.ext {w' : World} (h : RngI q enc w b r rest) (hb : Ext w w') : RngI q enc w' b r rest := h.later (hb.block b h.lt.1) (hb.block r h.lt.2)
theorem MapI.range (h : MapI q enc l w b) {T kt et : TypeId} (hT : P.underlying T = some (.map kt et)) :
    ∃ o, (Instr.range T (.map (some b))).run P w = .ok (.pointer (some ⟨w.heap.size, 0, none⟩)) (w.alloc o) ∧ RngI q enc (w.alloc o) b w.heap.size l := by
  obtain ⟨o, ho, es, clock, rfl, hm, hb, hc, hn⟩ := h
  have hlt : b < w.heap.size := (Array.getElem?_eq_some_iff.1 ho).1
  have hg : (getObj b).run P w = .ok (.map es clock) w := by simp [getObj, Sem.run, ho]
  refine ⟨.mapIter (some b) clock #[] clock, ?_, es, clock, #[], (Below.heap_alloc _ _ _ hlt).trans ho, World.alloc_heap_new _ _, hb, hc, ?_⟩
  · simp [Instr.range, Sem.run_bind, run_underlying hT, hg, Result.andThen]
  · have : (es.toList.filter fun e => !(#[] : Array Nat).contains e.born) = es.toList := List.filter_eq_self.2 (fun e _ => by simp)
    rw [this]; exact hm
theorem eraseIdx_map' {β γ : Type} (f : β → γ) : ∀ (l : List β) (j : Nat), (l.eraseIdx j).map f = (l.map f).eraseIdx j
  | [], _ => rfl
  | _ :: _, 0 => rfl
  | a :: l, j + 1 => by simp [eraseIdx_map' f l j]
theorem filter_erase (es : List MapEntry) (seen : Array Nat) (hb : (es.map (·.born)).Nodup) (j : Nat) (hj : j < (es.filter fun e => !seen.contains e.born).length) :
    (es.filter fun e => !(seen.push (es.filter fun e => !seen.contains e.born)[j].born).contains e.born) = (es.filter fun e => !seen.contains e.born).eraseIdx j := by
  obtain ⟨L, hL⟩ : ∃ L, L = es.filter fun e => !seen.contains e.born := ⟨_, rfl⟩
  have hLn : (L.map (·.born)).Nodup := by rw [hL]; exact hb.sublist ((List.filter_sublist).map _)
  have h1 : (es.filter fun e => !(seen.push (es.filter fun e => !seen.contains e.born)[j].born).contains e.born) = L.filter fun e => !(e.born == (es.filter fun e => !seen.contains e.born)[j].born) := by
    rw [hL, List.filter_filter]
    apply List.filter_congr
    intro e _
    rw [Bool.eq_iff_iff]
    simp [and_comm]
  rw [h1]
  clear h1
  revert hj
  rw [← hL]
  intro hj'
  clear hL
  induction L generalizing j with
  | nil => simp at hj'
  | cons e L ih =>
    simp only [List.map_cons, List.nodup_cons] at hLn
    cases j with
    | zero =>
      simp only [List.getElem_cons_zero, List.eraseIdx_cons_zero, List.filter_cons, beq_self_eq_true, Bool.not_true, Bool.false_eq_true, if_false]
      rw [List.filter_eq_self]
      intro x hx
      have : x.born ≠ e.born := fun h => hLn.1 (h ▸ List.mem_map_of_mem hx)
      simp [this]
    | succ j =>
      have hj2 : j < L.length := by simpa using hj'
      have hne : e.born ≠ L[j].born := fun h => hLn.1 (h ▸ List.mem_map_of_mem (List.getElem_mem hj2))
      simp only [List.getElem_cons_succ, List.eraseIdx_cons_succ, List.filter_cons]
      rw [ih j hLn.2 hj2]
      simp [hne]
/-- the next entry: some one of those still to come; or none is left -/
theorem RngI.next (h : RngI q enc w b r rest) (T : TypeId) :
    (rest = [] ∧ (Instr.next (.pointer (some ⟨r, 0, none⟩)) false T).run P w = .ok (.tuple #[.bool false]) w) ∨
    ∃ j, ∃ hj : j < rest.length, ∃ w', (Instr.next (.pointer (some ⟨r, 0, none⟩)) false T).run P w = .ok (.tuple #[.bool true, .int q rest[j].1, enc rest[j].2]) w' ∧
      RngI q enc w' b r (rest.eraseIdx j) ∧ Upd [r] w w' ∧ w'.heap.size = w.heap.size ∧ (Instr.entry (.pointer (some ⟨r, 0, none⟩))).run P w' = .ok (.tuple #[.int q rest[j].1, enc rest[j].2]) w' := by
  obtain ⟨es, clock, seen, hb, hr, hbn, hbc, hm⟩ := h
  have hg : ∀ W : World, W.heap[r]? = w.heap[r]? → (getObj r).run P W = .ok (.mapIter (some b) clock seen clock) W := fun W e => by simp [getObj, Sem.run, e, hr]
  have hg2 : ∀ W : World, W.heap[b]? = w.heap[b]? → (getObj b).run P W = .ok (.map es clock) W := fun W e => by simp [getObj, Sem.run, e, hb]
  have hs : ∀ o (W : World), W.heap[r]? = w.heap[r]? → (setObj r o).run P W = .ok () (W.putObj r o) := fun o W e => by simp [setObj, Sem.run, e, hr, World.putObj]
  have hne : b ≠ r := fun e => by subst e; rw [hb] at hr; cases hr
  have hrlt : r < w.heap.size := (Array.getElem?_eq_some_iff.1 hr).1
  have hall : (!seen.isEmpty && !es.isEmpty && es.all (fun e => decide (e.born ≥ clock))) = false := by
    cases hes : es.toList with
    | nil => have : es = #[] := by simpa using hes
             subst this; simp
    | cons e t =>
      have h0 := hbc e (by rw [hes]; simp)
      have : es.all (fun e => decide (e.born ≥ clock)) = false := by
        rw [← Array.all_toList, hes]
        simp only [List.all_cons, Bool.and_eq_false_iff, decide_eq_false_iff_not]
        left; omega
      simp [this]
  obtain ⟨L, hL⟩ : ∃ L, L = es.toList.filter fun e => !seen.contains e.born := ⟨_, rfl⟩
  have hleft : (es.filter fun e => !seen.contains e.born).toList = L := by rw [Array.toList_filter, hL]
  have hold : ((es.filter fun e => !seen.contains e.born).filter (fun e => decide (e.born < clock))) = (es.filter fun e => !seen.contains e.born) := by
    apply Array.toList_inj.1
    rw [Array.toList_filter, hleft, List.filter_eq_self]
    intro e he
    have : e ∈ es.toList := by rw [hL] at he; exact (List.mem_filter.1 he).1
    simpa using hbc e this
  have hnew : ((es.filter fun e => !seen.contains e.born).filter (fun e => decide (e.born ≥ clock))) = #[] := by
    apply Array.toList_inj.1
    rw [Array.toList_filter, hleft, List.filter_eq_nil_iff.2]
    intro e he
    have : e ∈ es.toList := by rw [hL] at he; exact (List.mem_filter.1 he).1
    have := hbc e this
    simp; omega
  rw [← hL] at hm
  have hlen : L.length = rest.length := by have := congrArg List.length hm; simpa using this
  cases hrest : rest with
  | nil =>
    left
    refine ⟨rfl, ?_⟩
    have hL0 : L = [] := List.length_eq_zero_iff.1 (by rw [hlen, hrest]; rfl)
    have he : (es.filter fun e => !seen.contains e.born) = #[] := Array.toList_inj.1 (by rw [hleft, hL0])
    simp only [Instr.next, Sem.run_bind, hg w rfl, hg2 w rfl, Result.andThen, hall, Bool.false_eq_true, if_false]
    rw [hold, hnew, he]
    simp [choose, Sem.run, Question.forced]
  | cons x0 r0 =>
    right
    rw [← hrest]
    have hpos : 0 < rest.length := by rw [hrest]; simp
    have hsz : (es.filter fun e => !seen.contains e.born).size = rest.length := by rw [← Array.length_toList, hleft, hlen]
    have hnE : (es.filter fun e => !seen.contains e.born).isEmpty = false := by
      cases hh : (es.filter fun e => !seen.contains e.born).isEmpty with
      | false => rfl
      | true => rw [Array.isEmpty_iff_size_eq_zero] at hh; omega
    -- whichever is chosen
    have key : ∀ (j : Nat) (W : World), j < rest.length → W.heap = w.heap → W.os = w.os → W.tape = w.tape → W.output = w.output →
        (choose (.mapNext rest.length)).run P w = .ok j W → ∃ hj : j < rest.length, ∃ w', (Instr.next (.pointer (some ⟨r, 0, none⟩)) false T).run P w = .ok (.tuple #[.bool true, .int q rest[j].1, enc rest[j].2]) w' ∧
        RngI q enc w' b r (rest.eraseIdx j) ∧ Upd [r] w w' ∧ w'.heap.size = w.heap.size ∧ (Instr.entry (.pointer (some ⟨r, 0, none⟩))).run P w' = .ok (.tuple #[.int q rest[j].1, enc rest[j].2]) w' := by
      intro j W hj hh ho ht hou hch
      refine ⟨hj, ?_⟩
      have hjL : j < L.length := by rw [hlen]; exact hj
      have hej : (L[j].key, L[j].val) = (Value.int q rest[j].1, enc rest[j].2) := by
        have := congrArg (fun l => l[j]?) hm
        simpa [List.getElem?_eq_getElem hjL, List.getElem?_eq_getElem hj] using this
      simp only [Prod.mk.injEq] at hej
      have hcand : (es.filter fun e => !seen.contains e.born)[j]? = some L[j] := by
        rw [← Array.getElem?_toList, hleft, List.getElem?_eq_getElem hjL]
      have hmem : L[j] ∈ es.toList := by
        have h1 : ∀ x, x ∈ L → x ∈ es.toList := fun x hx => by rw [hL] at hx; exact (List.mem_filter.1 hx).1
        exact h1 _ (List.getElem_mem hjL)
      refine ⟨W.putObj r (.mapIter (some b) clock (seen.push L[j].born) clock), ?_, ?_, ?_, ?_, ?_⟩
      · simp only [Instr.next, Sem.run_bind, hg w rfl, hg2 w rfl, Result.andThen, hall, Bool.false_eq_true, if_false]
        rw [hold, hnew]
        simp only [ hnE, Bool.false_eq_true, if_false, Array.append_empty, Array.empty_append, Array.size_map, hsz, hch]
        simp only [Array.getElem?_map, hcand, Option.map_some, Sem.run_bind, hs _ W (by rw [hh]), Result.andThen, Sem.run_pure, hej]
      · refine ⟨es, clock, seen.push L[j].born, ?_, ?_, hbn, hbc, ?_⟩
        · rw [World.putObj_heap_other hne, hh]; exact hb
        · exact World.putObj_heap_same (by rw [hh]; exact hrlt)
        · have := filter_erase es.toList seen hbn j (by rw [← hL]; exact hjL)
          simp only [← hL] at this
          rw [this, eraseIdx_map', hm, eraseIdx_map']
      · exact ⟨ho, ht, hou, by simp [hh], fun k _ hk => (World.putObj_heap_other (by simpa using hk)).trans (by rw [hh])⟩
      · simp [hh]
      · have g1 : (getObj r).run P (W.putObj r (.mapIter (some b) clock (seen.push L[j].born) clock)) = .ok (.mapIter (some b) clock (seen.push L[j].born) clock) (W.putObj r (.mapIter (some b) clock (seen.push L[j].born) clock)) := by
          simp [getObj, Sem.run, World.putObj_heap_same (show r < W.heap.size by rw [hh]; exact hrlt)]
        have g2 : (getObj b).run P (W.putObj r (.mapIter (some b) clock (seen.push L[j].born) clock)) = .ok (.map es clock) (W.putObj r (.mapIter (some b) clock (seen.push L[j].born) clock)) := by
          simp [getObj, Sem.run, World.putObj_heap_other hne, hh, hb]
        have hfind : es.find? (fun e => e.born == L[j].born) = some L[j] := by
          rw [← Array.find?_toList]
          clear g1 g2 hcand hch hej
          revert hmem
          generalize L[j] = x
          intro hmem
          clear hm hL hleft hold hnew hlen hjL hall hb hbc
          generalize es.toList = E at hmem hbn
          induction E with
          | nil => simp at hmem
          | cons e E ih =>
            simp only [List.map_cons, List.nodup_cons] at hbn
            simp only [List.find?_cons]
            rcases List.mem_cons.1 hmem with rfl | hm'
            · simp
            · have : e.born ≠ x.born := fun h => hbn.1 (h ▸ List.mem_map_of_mem hm')
              simp only [beq_eq_false_iff_ne.2 this]
              exact ih hm' hbn.2
        simp [Instr.entry, Sem.run_bind, g1, g2, Result.andThen, hfind, hej]
    by_cases h1 : rest.length ≤ 1
    · obtain ⟨hj, w', hk⟩ := key 0 w hpos rfl rfl rfl rfl (by simp [choose, Sem.run, Question.forced, h1])
      exact ⟨0, hj, w', hk⟩
    · obtain ⟨hj, w', hk⟩ := key ((w.tape w.drawn (.mapNext rest.length)) % rest.length) w.drew (Nat.mod_lt _ hpos) rfl rfl rfl rfl (by simp [choose, Sem.run, Question.forced, h1, Question.cut])
      exact ⟨_, hj, w', hk⟩
end
end Go.Proofs.YtgkfgilhegjbhaaGreat
