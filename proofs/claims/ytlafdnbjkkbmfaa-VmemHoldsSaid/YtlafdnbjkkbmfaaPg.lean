/- package page: questions, some; no condition. -/
import Derived.Test.YtlafdnbjkkbmfaaMem
import Derived.Test.YtlafdnbjkkbmfaaAsk
import Derived.Test.YtlafdnbjkkbmfaaReg
namespace Go.Proofs.Ytlafdnbjkkbmfaa
open Go.RowKit
attribute [local go_sem] run_mf
section
variable {w : World} {tb eb : Nat} {T : List (Int × Ent)}
set_option maxRecDepth 100000 in
set_option maxHeartbeats 1000000 in
theorem page_none (h : TabAt w tb eb T) : Calls Try.prog 65 #[.pointer (some ⟨tb, 0, none⟩)] w fun e w' => e = .returned (.bool false) ∧ w = w' := by
  have h0 := h.c0
  have hm := run_eql_map_nil (P := Try.prog) w 73 _ _ (some eb) Try.underlying73
  go_enter Try.func65, Try.ntmps65
  go_wp2
  go_ret
  exact ⟨rfl, rfl⟩
set_option maxRecDepth 100000 in
set_option maxHeartbeats 1000000 in
theorem page_is (h : TabAt w tb eb T) : Calls Try.prog 42 #[.pointer (some ⟨tb, 0, none⟩)] w (AskR Try.prog w 1 false) := by
  go_enter Try.func42, Try.ntmps42
  go_wp2
  refine bodyPost_ret (v := .agg #[.func (.func 65) #[.pointer (some ⟨tb, 0, none⟩)] #[], .int .i64 1]) (by simp [results, Try.results42, go_sem]) rfl ⟨_, rfl, Q.mk Try.call65 (fun w' hx => ?_), ext_n _ (Ext.refl _)⟩
  refine (page_none (h.ext (ext_a hx))).mono ?_
  rintro e w2 ⟨rfl, rfl⟩
  exact ⟨rfl, Ext.refl _⟩
set_option maxRecDepth 100000 in
set_option maxHeartbeats 1000000 in
theorem page_may1 {b : Nat} {n : Int} (h : w.cell? ⟨b, 0, none⟩ = some (.int .i64 n)) :
    Calls Try.prog 66 #[.pointer (some ⟨b, 0, none⟩)] w fun e w' => e = .returned (.bool (decide (n < 0) || decide (2 < n))) ∧ w = w' := by
  go_enter Try.func66, Try.ntmps66
  go_wp2
  all_goals (go_ret; simp [*])
set_option maxRecDepth 100000 in
set_option maxHeartbeats 1000000 in
theorem page_may (n : Int) : Calls Try.prog 43 #[.int .i64 n] w (AskR Try.prog w 2 (decide (n < 0) || decide (2 < n))) := by
  go_enter Try.func43, Try.ntmps43
  go_wp2
  refine bodyPost_ret (v := .agg #[.func (.func 66) #[] #[.pointer (some ⟨w.heap.size, 0, none⟩)], .int .i64 2]) (by simp [results, Try.results43, go_sem]) rfl ⟨_, rfl, Q.mk Try.call66 (fun w' hx => ?_), ext_n _ (ext_n _ (Ext.refl _))⟩
  refine (page_may1 (cell_new1 (ext_a hx))).mono ?_
  rintro e w2 ⟨rfl, rfl⟩
  exact ⟨rfl, Ext.refl _⟩
set_option maxRecDepth 100000 in
set_option maxHeartbeats 1000000 in
theorem page_in1 {b : Nat} {n : Int} (h : w.cell? ⟨b, 0, none⟩ = some (.int .i64 n)) :
    Calls Try.prog 67 #[.pointer (some ⟨b, 0, none⟩)] w fun e w' => e = .returned (.bool (decide (n < 0) || decide (65536 ≤ n))) ∧ w = w' := by
  go_enter Try.func67, Try.ntmps67
  go_wp2
  all_goals (go_ret; simp [*])
set_option maxRecDepth 100000 in
set_option maxHeartbeats 1000000 in
theorem page_in (n : Int) : Calls Try.prog 45 #[.int .i64 n] w (AskR Try.prog w 4 (decide (n < 0) || decide (65536 ≤ n))) := by
  go_enter Try.func45, Try.ntmps45
  go_wp2
  refine bodyPost_ret (v := .agg #[.func (.func 67) #[] #[.pointer (some ⟨w.heap.size, 0, none⟩)], .int .i64 4]) (by simp [results, Try.results45, go_sem]) rfl ⟨_, rfl, Q.mk Try.call67 (fun w' hx => ?_), ext_n _ (ext_n _ (Ext.refl _))⟩
  refine (page_in1 (cell_new1 (ext_a hx))).mono ?_
  rintro e w2 ⟨rfl, rfl⟩
  exact ⟨rfl, Ext.refl _⟩
def ent0 : Ent := ⟨0, 0, 0⟩
theorem lookE1 (h : TabAt w tb eb T) (n : Int) : (Instr.lookup 73 (.map (some eb)) (.int .i64 n) true).run Try.prog w = .ok (.tuple #[encE ((getL T n).getD ent0), .bool (getL T n).isSome]) w :=
  h.en.look1 Try.underlying73 Try.underlying3 Try.zeroValue55 n (by cases getL T n <;> rfl) rfl
theorem lookE0 (h : TabAt w tb eb T) (n : Int) : (Instr.lookup 73 (.map (some eb)) (.int .i64 n) false).run Try.prog w = .ok (encE ((getL T n).getD ent0)) w :=
  h.en.look0 Try.underlying73 Try.underlying3 Try.zeroValue55 n (by cases getL T n <;> rfl)
set_option maxRecDepth 100000 in
set_option maxHeartbeats 1000000 in
theorem page_mapped (h : TabAt w tb eb T) (n : Int) : Calls Try.prog 47 #[.pointer (some ⟨tb, 0, none⟩), .int .i64 n] w fun e w' => e = .returned (.bool (getL T n).isSome) ∧ Ext w w' := by
  have h0 := h.c0
  have hl := lookE1 h n
  unfold encE at hl
  go_enter Try.func47, Try.ntmps47
  go_wp2
  go_ret
  exact ⟨rfl, ext_n _ (Ext.refl _)⟩
set_option maxRecDepth 100000 in
set_option maxHeartbeats 1000000 in
theorem page_there1 {b c : Nat} {n : Int} (h : TabAt w tb eb T) (h1 : w.cell? ⟨b, 0, none⟩ = some (.pointer (some ⟨tb, 0, none⟩))) (h2 : w.cell? ⟨c, 0, none⟩ = some (.int .i64 n)) :
    Calls Try.prog 70 #[.pointer (some ⟨b, 0, none⟩), .pointer (some ⟨c, 0, none⟩)] w fun e w' => e = .returned (.bool (getL T n).isNone) ∧ Ext w w' := by
  go_enter Try.func70, Try.ntmps70
  go_wp2_with (go_at_call 47; refine (page_mapped h n).mono ?_; rintro e w' ⟨rfl, hx⟩)
  go_ret
  exact ⟨rfl, hx⟩
set_option maxRecDepth 100000 in
set_option maxHeartbeats 1000000 in
theorem page_map2 {b c : Nat} {n : Int} (h : TabAt w tb eb T) (h1 : w.cell? ⟨b, 0, none⟩ = some (.pointer (some ⟨tb, 0, none⟩))) (h2 : w.cell? ⟨c, 0, none⟩ = some (.int .i64 n)) :
    Calls Try.prog 46 #[.pointer (some ⟨b, 0, none⟩), .pointer (some ⟨c, 0, none⟩)] w fun e w' => e = .returned (.bool (getL T n).isSome) ∧ Ext w w' := by
  go_enter Try.func46, Try.ntmps46
  go_wp2_with (go_at_call 47; refine (page_mapped h n).mono ?_; rintro e w' ⟨rfl, hx⟩)
  go_ret
  exact ⟨rfl, hx⟩
set_option maxRecDepth 100000 in
set_option maxHeartbeats 1000000 in
theorem page_there (h : TabAt w tb eb T) (n : Int) : Calls Try.prog 50 #[.pointer (some ⟨tb, 0, none⟩), .int .i64 n] w (AskR Try.prog w 5 (getL T n).isNone) := by
  go_enter Try.func50, Try.ntmps50
  go_wp2
  refine bodyPost_ret (v := .agg #[.func (.func 70) #[] #[.pointer (some ⟨w.heap.size, 0, none⟩), .pointer (some ⟨w.heap.size + 1, 0, none⟩)], .int .i64 5]) (by simp [results, Try.results50, go_sem]) rfl ⟨_, rfl, Q.mk Try.call70 (fun w' hx => ?_), ext_n _ (ext_n _ (ext_n _ (Ext.refl _)))⟩
  have hx2 := ext_a hx
  have c1 := cell_new1 hx2
  rw [World.size_alloc] at c1
  exact page_there1 (h.ext (ext_a (ext_a hx2))) (cell_new1 (ext_a hx2)) c1
set_option maxRecDepth 100000 in
set_option maxHeartbeats 1000000 in
theorem page_map1 {b : Nat} {x : Ent} {t : TypeId} (h : w.heap[b]? = some (.cells #[.int .i64 x.owner, .int .i64 x.may, .int .i64 x.frame] t (0, 0))) :
    Calls Try.prog 44 #[.pointer (some ⟨b, 0, none⟩)] w fun e w' => e = .returned (.bool (decide (x.owner < -1) || decide (64 ≤ x.owner) || decide (x.frame < 0))) ∧ w = w' := by
  have c0 := cell_at (i := 0) h rfl
  have c2 := cell_at (i := 2) h rfl
  go_enter Try.func44, Try.ntmps44
  go_wp2
  all_goals (go_ret; simp [*])
set_option maxRecDepth 100000 in
set_option maxHeartbeats 1000000 in
theorem page_frame1 {b : Nat} {n : Int} {x : Ent} (h : w.cell? ⟨b, 0, none⟩ = some (.int .i64 n)) :
    Calls Try.prog 69 #[encE x, .pointer (some ⟨b, 0, none⟩)] w fun e w' => e = .returned (.bool (x.frame == n)) ∧ Ext w w' := by
  have hlt : b < w.heap.size := World.block_lt_of_cell? w ⟨b, 0, none⟩ h
  have hne : ¬ b = w.heap.size := by omega
  unfold encE
  go_enter Try.func69, Try.ntmps69
  go_wp2
  go_ret
  exact ⟨rfl, ext_n _ (Ext.refl _)⟩
theorem any_erase {α : Type} {p : α → Bool} {l : List α} {j : Nat} (hj : j < l.length) : l.any p = (p l[j] || (l.eraseIdx j).any p) := by
  induction l generalizing j with
  | nil => simp at hj
  | cons a l ih =>
    cases j with
    | zero => simp
    | succ j =>
      have hj' : j < l.length := by simpa using hj
      simp only [List.any_cons, List.eraseIdx_cons_succ, List.getElem_cons_succ, ih hj']
      cases p a <;> cases p l[j] <;> simp
def Q1e (P : Program) (w : World) (v : Value) (g : Ent → Bool) : Prop :=
  ∃ f first cap, v = .func (.func f) first cap ∧ (∀ a w, (callFunc f a).run P w = .ok (.enter f a) w) ∧
    ∀ w' x, Ext w w' → Calls P f (first.push (encE x) ++ cap) w' fun e w'' => e = .returned (.bool (g x)) ∧ Ext w' w''
set_option maxRecDepth 100000 in
set_option maxHeartbeats 1000000 in
theorem page_some {v : Value} {g : Ent → Bool} (h : TabAt w tb eb T) (hq : Q1e Try.prog w v g) :
    Calls Try.prog 68 #[.map (some eb), v] w fun e w' => e = .returned (.bool (T.any fun p => g p.2)) ∧ Ext w w' := by
  obtain ⟨f, first, cap, rfl, hcf, hcall⟩ := hq
  obtain ⟨o, hrun, hr0⟩ := h.en.range (P := Try.prog) Try.underlying72
  go_enter Try.func68, Try.ntmps68
  go_wp2
  go_loopg [4] T.length (fun m n wr => ∃ (rest : List (Int × Ent)), m = rest.length ∧ (∃ bb, n = .bool bb) ∧ Hid (rest.any (fun p => g p.2) = T.any (fun p => g p.2)) ∧ RngI .i64 encE wr eb w.heap.size rest ∧ Ext w wr)
  case atStart => exact ⟨T, rfl, ⟨_, rfl⟩, by show _ = _; rfl, hr0, ext_n _ (Ext.refl _)⟩
  case round =>
    obtain ⟨rest, rfl, ⟨bb, rfl⟩, hk, hrg, hx⟩ := hrel
    rcases hrg.next (P := Try.prog) 0 with ⟨rfl, hnx⟩ | ⟨j, hj, w1, hnx, hrg1, hu, hsz, hen⟩
    · go_wp2
      go_ret
      refine ⟨?_, hx⟩
      have := hk.out
      rw [← this]; rfl
    · have hx1 : Ext w w1 := ⟨hu.os.trans hx.os, hu.tape.trans hx.tape, hu.output.trans hx.output, Nat.le_trans hx.size hu.size, fun k hk => (hu.block k (Nat.lt_of_lt_of_le hk hx.size) (by simp; omega)).trans (hx.block k hk)⟩
      have hae := Lib.hid (any_erase (p := fun p : Int × Ent => g p.2) hj)
      obtain ⟨x, hx0⟩ : ∃ x, x = rest[j].2 := ⟨_, rfl⟩
      obtain ⟨kk, hkk⟩ : ∃ kk, kk = rest[j].1 := ⟨_, rfl⟩
      rw [← hx0] at hnx hen
      rw [← hkk] at hnx hen
      have hc1 := hcall (w1.alloc (.cells #[.int .i64 x.owner, .int .i64 x.may, .int .i64 x.frame] 55)) x (ext_n _ hx1)
      have hx0H := Lib.hid hx0
      clear hkk hcall hrun hsz hx0
      unfold encE at hnx hen hc1
      go_wp2_with fail
      refine hc1.mono ?_
      rintro e w2 ⟨rfl, hx2⟩
      have hx3 : Ext w1 w2 := ext_a hx2
      go_wp2
      · have hg : g x = true := by assumption
        go_ret
        refine ⟨?_, Ext.trans hx1 hx3⟩
        rw [← hk.out, hae.out, ← hx0H.out, hg]; rfl
      · have hg : g x = false := by assumption
        go_roundg (rest.length - 1)
        case measure => omega
        case rel =>
          refine ⟨rest.eraseIdx j, by rw [List.length_eraseIdx_of_lt hj], ⟨_, rfl⟩, ?_, hrg1.ext hx3, Ext.trans hx1 hx3⟩
          have h1 := hk.out
          rw [hae.out, ← hx0H.out, hg] at h1
          show ((rest.eraseIdx j).any fun p => g p.2) = _
          simpa using h1
def usedF (T : List (Int × Ent)) (f : Int) : Bool := T.any fun p => p.2.frame == f
set_option maxRecDepth 100000 in
set_option maxHeartbeats 1000000 in
theorem page_frame (h : TabAt w tb eb T) (n : Int) : Calls Try.prog 49 #[.map (some eb), .int .i64 n] w fun e w' => e = .returned (.bool (usedF T n)) ∧ Ext w w' := by
  go_enter Try.func49, Try.ntmps49
  go_wp2_with (go_at_call 68; refine (page_some (g := fun x => x.frame == n) (h.ext (ext_n (.cells #[.int .i64 n] 3) (Ext.refl w))) ⟨69, #[], #[.pointer (some ⟨w.heap.size, 0, none⟩)], rfl, Try.call69, fun w' x hx => page_frame1 (cell_new1 hx)⟩).mono ?_; rintro e w2 ⟨rfl, hx2⟩)
  go_ret
  exact ⟨rfl, ext_a hx2⟩
set_option maxRecDepth 100000 in
set_option maxHeartbeats 1000000 in
theorem page_map3 {b c : Nat} {x : Ent} {t : TypeId} (h : TabAt w tb eb T) (h1 : w.cell? ⟨b, 0, none⟩ = some (.pointer (some ⟨tb, 0, none⟩))) (h2 : w.heap[c]? = some (.cells #[.int .i64 x.owner, .int .i64 x.may, .int .i64 x.frame] t (0, 0))) :
    Calls Try.prog 48 #[.pointer (some ⟨b, 0, none⟩), .pointer (some ⟨c, 0, none⟩)] w fun e w' => e = .returned (.bool (usedF T x.frame)) ∧ Ext w w' := by
  have hB : ∀ w2, Ext w w2 → w2.cell? ⟨b, 0, none⟩ = some (.pointer (some ⟨tb, 0, none⟩)) ∧ w2.cell? ⟨c, 2, none⟩ = some (.int .i64 x.frame) ∧ w2.cell? ⟨tb, 0, none⟩ = some (.map (some eb)) := fun w2 hx =>
    ⟨(hx.cell (World.block_lt_of_cell? _ _ h1)).trans h1, cell_at (i := 2) ((hx.block _ (lt_of_block h2)).trans h2) rfl, (h.ext hx).c0⟩
  have HB := Lib.hid hB
  clear hB
  go_enter Try.func48, Try.ntmps48
  go_wp2_with fail
  refine rg_begin ((fun w' => Ext w w')) (by kernel_rfl) ?_
  have hS : Ext w w.drew := ext_drew (Ext.refl _)
  refine rg_held 0 (some 3) (v := ?v1) rfl rfl (by kernel_rfl) (by kernel_rfl) (by kernel_rfl) (fun _ _ _ h => h) (by rfl) ?h1 hS ?_
  case h1 => (intro w' hS'; (obtain ⟨c0, c1, c2⟩ := HB.out _ hS'); go_simp; try with_reducible rfl)
  simp only [Act.put, List.setIfInBounds_toArray, List.set_cons_zero, List.set_cons_succ]
  refine rg_held 1 (some 4) (v := ?v2) rfl rfl (by kernel_rfl) (by kernel_rfl) (by kernel_rfl) (fun _ _ _ h => h) (by rfl) ?h2 hS ?_
  case h2 => (intro w' hS'; (skip); go_simp; try with_reducible rfl)
  simp only [Act.put, List.setIfInBounds_toArray, List.set_cons_zero, List.set_cons_succ]
  refine rg_held 2 (some 5) (v := ?v3) rfl rfl (by kernel_rfl) (by kernel_rfl) (by kernel_rfl) (fun _ _ _ h => h) (by rfl) ?h3 hS ?_
  case h3 => (intro w' hS'; (skip); go_simp; try with_reducible rfl)
  simp only [Act.put, List.setIfInBounds_toArray, List.set_cons_zero, List.set_cons_succ]
  refine rg_held 3 (some 6) (v := ?v4) rfl rfl (by kernel_rfl) (by kernel_rfl) (by kernel_rfl) (fun _ _ _ h => h) (by rfl) ?h4 hS ?_
  case h4 => (intro w' hS'; (obtain ⟨c0, c1, c2⟩ := HB.out _ hS'); go_simp; try with_reducible rfl)
  simp only [Act.put, List.setIfInBounds_toArray, List.set_cons_zero, List.set_cons_succ]
  refine rg_held 4 (some 7) (v := ?v5) rfl rfl (by kernel_rfl) (by kernel_rfl) (by kernel_rfl) (fun _ _ _ h => h) (by rfl) ?h5 hS ?_
  case h5 => (intro w' hS'; (skip); go_simp; try with_reducible rfl)
  simp only [Act.put, List.setIfInBounds_toArray, List.set_cons_zero, List.set_cons_succ]
  refine rg_held 5 (some 8) (v := ?v6) rfl rfl (by kernel_rfl) (by kernel_rfl) (by kernel_rfl) (fun _ _ _ h => h) (by rfl) ?h6 hS ?_
  case h6 => (intro w' hS'; (obtain ⟨c0, c1, c2⟩ := HB.out _ hS'); go_simp; try with_reducible rfl)
  simp only [Act.put, List.setIfInBounds_toArray, List.set_cons_zero, List.set_cons_succ]
  refine rg_call 6 (some 9) rfl rfl (by kernel_rfl) rfl (by rfl) Try.call49 ((page_frame (h.ext hS) x.frame).mono ?_)
  rintro e w2 ⟨rfl, hx2⟩
  refine ⟨_, rfl, Ext.trans hS hx2, ?_⟩
  replace hS : Ext w w2 := Ext.trans hS hx2
  simp only [Act.put, List.setIfInBounds_toArray, List.set_cons_zero, List.set_cons_succ]
  refine rg_held 7 (some 2) (v := ?v7) rfl rfl (by kernel_rfl) (by kernel_rfl) (by kernel_rfl) (fun _ _ _ h => h) (by rfl) ?h7 hS ?_
  case h7 => (intro w' hS'; (skip); go_simp; try with_reducible rfl)
  simp only [Act.put, List.setIfInBounds_toArray, List.set_cons_zero, List.set_cons_succ]
  refine rg_done (by kernel_rfl) ?_
  go_wp2
  go_ret
  exact ⟨rfl, hS⟩
/-- Map's questions -/
def mapQ (T : List (Int × Ent)) (n : Int) (x : Ent) (B : Nat) (v1 v2 v4 : Value) : List (Value × Int × Bool) :=
  [(v1, 1, false), (v2, 2, decide (x.may < 0) || decide (2 < x.may)), (.func (.func 44) #[] #[.pointer (some ⟨B + 2, 0, none⟩)], 2, decide (x.owner < -1) || decide (64 ≤ x.owner) || decide (x.frame < 0)),
   (v4, 4, decide (n < 0) || decide (65536 ≤ n)), (.func (.func 46) #[] #[.pointer (some ⟨B, 0, none⟩), .pointer (some ⟨B + 1, 0, none⟩)], 180, (getL T n).isSome),
   (.func (.func 48) #[] #[.pointer (some ⟨B, 0, none⟩), .pointer (some ⟨B + 2, 0, none⟩)], 181, usedF T x.frame)]
/-- what Map answers -/
def mapE (T : List (Int × Ent)) (n : Int) (x : Ent) : Int :=
  if (decide (x.may < 0) || decide (2 < x.may)) = true then 2 else if (decide (x.owner < -1) || decide (64 ≤ x.owner) || decide (x.frame < 0)) = true then 2
  else if (decide (n < 0) || decide (65536 ≤ n)) = true then 4 else if (getL T n).isSome = true then 180 else if usedF T x.frame = true then 181 else 0
theorem mapQ_E (n : Int) (x : Ent) (B : Nat) (v1 v2 v4 : Value) : firstE (mapQ T n x B v1 v2 v4) = mapE T n x := by
  simp [mapQ, firstE, mapE]
set_option maxRecDepth 100000 in
set_option maxHeartbeats 1000000 in
theorem page_map {n : Int} {x : Ent} (h : TabAt w tb eb T) :
    Calls Try.prog 23 #[.pointer (some ⟨tb, 0, none⟩), .int .i64 n, encE x] w fun e w' => e = .returned (.int .i64 (mapE T n x)) ∧ Upd [eb] w w' ∧
      TabAt w' tb eb (if mapE T n x = 0 then putL T n x else T) := by
  obtain ⟨L, hL⟩ : ∃ L, L = [(#[Value.pointer (some ⟨tb, 0, none⟩)], 48), (#[Value.int .i64 n], 3), (#[.int .i64 x.owner, .int .i64 x.may, .int .i64 x.frame], 55)] := ⟨_, rfl⟩
  obtain ⟨W, hW⟩ : ∃ W, blocks w L = W := ⟨_, rfl⟩
  have hxW : Ext w W := hW ▸ blocks_ext L w
  have hb : ∀ (w2 : World), Ext W w2 →
      w2.cell? ⟨w.heap.size, 0, none⟩ = some (.pointer (some ⟨tb, 0, none⟩)) ∧ w2.cell? ⟨w.heap.size + 1, 0, none⟩ = some (.int .i64 n) ∧ w2.heap[w.heap.size + 2]? = some (.cells #[.int .i64 x.owner, .int .i64 x.may, .int .i64 x.frame] 55 (0, 0)) := fun w2 hx => by
    subst hW; subst hL
    exact ⟨cell_at (i := 0) (blocks_at _ w 0 (by simp) hx) rfl, cell_at (i := 0) (blocks_at _ w 1 (by simp) hx) rfl, blocks_at _ w 2 (by simp) hx⟩
  have hP := h.ext hxW
  have hWl : ((w.alloc (.cells #[.pointer (some ⟨tb, 0, none⟩)] 48)).alloc (.cells #[.int .i64 n] 3)).alloc (.cells #[.int .i64 x.owner, .int .i64 x.may, .int .i64 x.frame] 55) = W := by rw [← hW, hL]; rfl
  have hWlH := Lib.hid hWl
  clear hW hL hWl
  obtain ⟨r, hr⟩ : ∃ r, mapE T n x = r := ⟨_, rfl⟩
  have hask : ∀ (w2 w3 w4 : World) (v1 v2 v4 : Value), Ext W w2 → Ext w2 w3 → Ext w3 w4 → Q Try.prog w2 v1 (.bool false) → Q Try.prog w3 v2 (.bool (decide (x.may < 0) || decide (2 < x.may))) → Q Try.prog w4 v4 (.bool (decide (n < 0) || decide (65536 ≤ n))) →
      Calls Try.prog 41 #[.slice (some ⟨w4.heap.size, 0, none⟩) 6 6] (w4.alloc (.cells (askC (mapQ T n x w.heap.size v1 v2 v4)) 85)) fun e w' => e = .returned (.int .i64 r) ∧ Ext w4 w' := fun w2 w3 w4 v1 v2 v4 hx hx' hx'' q1 q2 q4 => by
    rw [← hr, ← mapQ_E (T := T) n x w.heap.size v1 v2 v4]
    have hn : Ext w4 (w4.alloc (.cells (askC (mapQ T n x w.heap.size v1 v2 v4)) 85)) := ext_n _ (Ext.refl _)
    have hx4 : Ext W w4 := Ext.trans hx (Ext.trans hx' hx'')
    refine page_asks' _ rfl rfl rfl (by decide) ⟨q1.later (Ext.trans hx' (Ext.trans hx'' hn)), fun _ => ⟨q2.later (Ext.trans hx'' hn), fun _ => ⟨Q.mk Try.call44 fun w' hy => ?_, fun _ => ⟨q4.later hn, fun _ => ⟨Q.mk Try.call46 fun w' hy => ?_, fun _ => ⟨Q.mk Try.call48 fun w' hy => ?_, fun _ => trivial⟩⟩⟩⟩⟩⟩
    · obtain ⟨a0, a1, a2⟩ := hb _ (Ext.trans hx4 (Ext.trans hn hy))
      exact (page_map1 a2).mono fun e w2 h => ⟨h.1, h.2 ▸ Ext.refl _⟩
    · obtain ⟨a0, a1, a2⟩ := hb _ (Ext.trans hx4 (Ext.trans hn hy))
      exact page_map2 (hP.ext (Ext.trans hx4 (Ext.trans hn hy))) a0 a1
    · obtain ⟨a0, a1, a2⟩ := hb _ (Ext.trans hx4 (Ext.trans hn hy))
      exact page_map3 (hP.ext (Ext.trans hx4 (Ext.trans hn hy))) a0 a2
  rw [hr]
  have hB : ∀ w2, Upd [eb] W w2 → w2.cell? ⟨w.heap.size, 0, none⟩ = some (.pointer (some ⟨tb, 0, none⟩)) ∧ w2.cell? ⟨w.heap.size + 1, 0, none⟩ = some (.int .i64 n) ∧ w2.cell? ⟨w.heap.size + 2, 0, none⟩ = some (.int .i64 x.owner) ∧ w2.cell? ⟨w.heap.size + 2, 1, none⟩ = some (.int .i64 x.may) ∧ w2.cell? ⟨w.heap.size + 2, 2, none⟩ = some (.int .i64 x.frame) ∧ w2.cell? ⟨tb, 0, none⟩ = some (.map (some eb)) := fun w2 hu => by
    obtain ⟨a0, a1, a2⟩ := hb _ (Ext.refl _)
    have e0 := World.block_lt_of_cell? _ _ a0
    have e1 := World.block_lt_of_cell? _ _ a1
    have e2 := lt_of_block a2
    have heb := h.en.lt
    have hb2 := (hu.block _ e2 (by simp; omega)).trans a2
    exact ⟨(hu.cell e0 (by simp; omega)).trans a0, (hu.cell e1 (by simp; omega)).trans a1, cell_at hb2 rfl, cell_at hb2 rfl, cell_at hb2 rfl, (hu.cell (lt_of_block hP.blk) (by simp; exact map_ne h.en h.blk)).trans hP.c0⟩
  have HB := Lib.hid hB
  have HASK := Lib.hid hask
  clear hb hask hB hr
  unfold encE
  go_enter Try.func23, Try.ntmps23
  go_wp2_with fail
  rw [hWlH.out]
  go_cut [7] (fun s7 wx => s7 = .int .i64 r ∧ Ext W wx)
  case first =>
    refine rg_begin ((fun w' => Ext W w')) (by kernel_rfl) ?_
    have hS : Ext W W.drew := ext_drew (Ext.refl _)
    refine rg_held 0 (some 8) (v := ?v8) rfl rfl (by kernel_rfl) (by kernel_rfl) (by kernel_rfl) (fun _ _ _ h => h) (by rfl) ?h8 hS ?_
    case h8 => (intro w' hS'; (obtain ⟨c0, c1, c2, c3, c4, c5⟩ := HB.out _ (Upd.of_ext hS')); go_simp; try with_reducible rfl)
    simp only [Act.put, List.setIfInBounds_toArray, List.set_cons_zero, List.set_cons_succ]
    refine rg_held 2 (some 10) (v := ?v9) rfl rfl (by kernel_rfl) (by kernel_rfl) (by kernel_rfl) (fun _ _ _ h => h) (by rfl) ?h9 hS ?_
    case h9 => (intro w' hS'; (skip); go_simp; try with_reducible rfl)
    simp only [Act.put, List.setIfInBounds_toArray, List.set_cons_zero, List.set_cons_succ]
    refine rg_held 3 (some 11) (v := ?v10) rfl rfl (by kernel_rfl) (by kernel_rfl) (by kernel_rfl) (fun _ _ _ h => h) (by rfl) ?h10 hS ?_
    case h10 => (intro w' hS'; (obtain ⟨c0, c1, c2, c3, c4, c5⟩ := HB.out _ (Upd.of_ext hS')); go_simp; try with_reducible rfl)
    simp only [Act.put, List.setIfInBounds_toArray, List.set_cons_zero, List.set_cons_succ]
    refine rg_held 5 (some 13) (v := ?v11) rfl rfl (by kernel_rfl) (by kernel_rfl) (by kernel_rfl) (fun _ _ _ h => h) (by rfl) ?h11 hS ?_
    case h11 => (intro w' hS'; (skip); go_simp; try with_reducible rfl)
    simp only [Act.put, List.setIfInBounds_toArray, List.set_cons_zero, List.set_cons_succ]
    refine rg_held 6 (some 14) (v := ?v12) rfl rfl (by kernel_rfl) (by kernel_rfl) (by kernel_rfl) (fun _ _ _ h => h) (by rfl) ?h12 hS ?_
    case h12 => (intro w' hS'; (skip); go_simp; try with_reducible rfl)
    simp only [Act.put, List.setIfInBounds_toArray, List.set_cons_zero, List.set_cons_succ]
    refine rg_held 7 (some 15) (v := ?v13) rfl rfl (by kernel_rfl) (by kernel_rfl) (by kernel_rfl) (fun _ _ _ h => h) (by rfl) ?h13 hS ?_
    case h13 => (intro w' hS'; (obtain ⟨c0, c1, c2, c3, c4, c5⟩ := HB.out _ (Upd.of_ext hS')); go_simp; try with_reducible rfl)
    simp only [Act.put, List.setIfInBounds_toArray, List.set_cons_zero, List.set_cons_succ]
    refine rg_held 9 (some 17) (v := ?v14) rfl rfl (by kernel_rfl) (by kernel_rfl) (by kernel_rfl) (fun _ _ _ h => h) (by rfl) ?h14 hS ?_
    case h14 => (intro w' hS'; (skip); go_simp; try with_reducible rfl)
    simp only [Act.put, List.setIfInBounds_toArray, List.set_cons_zero, List.set_cons_succ]
    refine rg_held 10 (some 18) (v := ?v15) rfl rfl (by kernel_rfl) (by kernel_rfl) (by kernel_rfl) (fun _ _ _ h => h) (by rfl) ?h15 hS ?_
    case h15 => (intro w' hS'; (skip); go_simp; try with_reducible rfl)
    simp only [Act.put, List.setIfInBounds_toArray, List.set_cons_zero, List.set_cons_succ]
    refine rg_held 11 (some 19) (v := ?v16) rfl rfl (by kernel_rfl) (by kernel_rfl) (by kernel_rfl) (fun _ _ _ h => h) (by rfl) ?h16 hS ?_
    case h16 => (intro w' hS'; (skip); go_simp; try with_reducible rfl)
    simp only [Act.put, List.setIfInBounds_toArray, List.set_cons_zero, List.set_cons_succ]
    refine rg_held 12 (some 20) (v := ?v17) rfl rfl (by kernel_rfl) (by kernel_rfl) (by kernel_rfl) (fun _ _ _ h => h) (by rfl) ?h17 hS ?_
    case h17 => (intro w' hS'; (skip); go_simp; try with_reducible rfl)
    simp only [Act.put, List.setIfInBounds_toArray, List.set_cons_zero, List.set_cons_succ]
    refine rg_call 1 (some 9) rfl rfl (by kernel_rfl) rfl (by rfl) Try.call42 ((page_is (hP.ext hS)).mono ?_)
    rintro e w2 ⟨v1, rfl, hq1, hx1⟩
    refine ⟨_, rfl, Ext.trans hS hx1, ?_⟩
    replace hS : Ext W w2 := Ext.trans hS hx1
    simp only [Act.put, List.setIfInBounds_toArray, List.set_cons_zero, List.set_cons_succ]
    refine rg_call 4 (some 12) rfl rfl (by kernel_rfl) rfl (by rfl) Try.call43 ((page_may x.may).mono ?_)
    rintro e w3 ⟨v2, rfl, hq2, hx2⟩
    refine ⟨_, rfl, Ext.trans hS hx2, ?_⟩
    replace hS : Ext W w3 := Ext.trans hS hx2
    simp only [Act.put, List.setIfInBounds_toArray, List.set_cons_zero, List.set_cons_succ]
    refine rg_call 8 (some 16) rfl rfl (by kernel_rfl) rfl (by rfl) Try.call45 ((page_in n).mono ?_)
    rintro e w4 ⟨v4, rfl, hq4, hx4⟩
    refine ⟨_, rfl, Ext.trans hS hx4, ?_⟩
    replace hS : Ext W w4 := Ext.trans hS hx4
    simp only [Act.put, List.setIfInBounds_toArray, List.set_cons_zero, List.set_cons_succ]
    refine rg_value 13 (some 21) (v := ?v25) (w' := ?w25) rfl rfl (by kernel_rfl) (by rfl) ?h25 ?s25 ?_
    case h25 => ((skip); go_simp; try (first | with_reducible rfl | (refine ⟨?_, ?_⟩ <;> with_reducible rfl)))
    case s25 => exact ext_n _ hS
    simp only [Act.put, List.setIfInBounds_toArray, List.set_cons_zero, List.set_cons_succ]
    refine rg_call 14 (some 22) rfl rfl (by kernel_rfl) rfl (by rfl) Try.call41 ((HASK.out _ _ _ v1 v2 v4 (Ext.trans (ext_drew (Ext.refl _)) hx1) hx2 hx4 hq1 hq2 hq4).mono ?_)
    rintro e w5 ⟨rfl, hx5⟩
    refine ⟨_, rfl, Ext.trans hS hx5, ?_⟩
    replace hS : Ext W w5 := Ext.trans hS hx5
    refine rg_held 15 (some 7) (v := ?v18) rfl rfl (by kernel_rfl) (by kernel_rfl) (by kernel_rfl) (fun _ _ _ h => h) (by rfl) ?h18 hS ?_
    case h18 => (intro w' hS'; (skip); go_simp; try with_reducible rfl)
    simp only [Act.put, List.setIfInBounds_toArray, List.set_cons_zero, List.set_cons_succ]
    refine rg_done (by kernel_rfl) ?_
    go_wp2_with fail
    go_meet
    exact ⟨rfl, hS⟩
  case rest =>
    obtain ⟨rfl, hx⟩ := hcut
    have hP' := hP.ext hx
    have hxw : Ext w wc := Ext.trans hxW hx
    clear HASK
    by_cases h0 : r = 0
    · subst h0
      obtain ⟨o, hrun, ho⟩ := (hP'.ext (ext_drew (Ext.refl _))).en.store (P := Try.prog) Try.underlying73 Try.underlying3 n x
      unfold encE at hrun
      go_wp2_with fail
      refine rg_begin ((fun w' => Upd [eb] wc w')) (by kernel_rfl) ?_
      have hS : Upd [eb] wc wc.drew := Upd.of_ext (ext_drew (Ext.refl _))
      refine rg_held 0 (some 25) (v := ?v19) rfl rfl (by kernel_rfl) (by kernel_rfl) (by kernel_rfl) (fun _ _ _ h => h) (by rfl) ?h19 hS ?_
      case h19 => (intro w' hS'; (obtain ⟨c0, c1, c2, c3, c4, c5⟩ := HB.out _ (Upd.trans (Upd.of_ext hx) hS')); go_simp; try with_reducible rfl)
      simp only [Act.put, List.setIfInBounds_toArray, List.set_cons_zero, List.set_cons_succ]
      refine rg_held 1 (some 26) (v := ?v20) rfl rfl (by kernel_rfl) (by kernel_rfl) (by kernel_rfl) (fun _ _ _ h => h) (by rfl) ?h20 hS ?_
      case h20 => (intro w' hS'; (skip); go_simp; try with_reducible rfl)
      simp only [Act.put, List.setIfInBounds_toArray, List.set_cons_zero, List.set_cons_succ]
      refine rg_held 2 (some 27) (v := ?v21) rfl rfl (by kernel_rfl) (by kernel_rfl) (by kernel_rfl) (fun _ _ _ h => h) (by rfl) ?h21 hS ?_
      case h21 => (intro w' hS'; (skip); go_simp; try with_reducible rfl)
      simp only [Act.put, List.setIfInBounds_toArray, List.set_cons_zero, List.set_cons_succ]
      refine rg_held 3 (some 28) (v := ?v22) rfl rfl (by kernel_rfl) (by kernel_rfl) (by kernel_rfl) (fun _ _ _ h => h) (by rfl) ?h22 hS ?_
      case h22 => (intro w' hS'; (obtain ⟨c0, c1, c2, c3, c4, c5⟩ := HB.out _ (Upd.trans (Upd.of_ext hx) hS')); go_simp; try with_reducible rfl)
      simp only [Act.put, List.setIfInBounds_toArray, List.set_cons_zero, List.set_cons_succ]
      refine rg_held 4 (some 29) (v := ?v23) rfl rfl (by kernel_rfl) (by kernel_rfl) (by kernel_rfl) (fun _ _ _ h => h) (by rfl) ?h23 hS ?_
      case h23 => (intro w' hS'; (obtain ⟨c0, c1, c2, c3, c4, c5⟩ := HB.out _ (Upd.trans (Upd.of_ext hx) hS')); go_simp; try with_reducible rfl)
      simp only [Act.put, List.setIfInBounds_toArray, List.set_cons_zero, List.set_cons_succ]
      refine rg_held 5 (some 30) (v := ?v24) rfl rfl (by kernel_rfl) (by kernel_rfl) (by kernel_rfl) (fun _ _ _ h => h) (by rfl) ?h24 hS ?_
      case h24 => (intro w' hS'; (obtain ⟨c0, c1, c2, c3, c4, c5⟩ := HB.out _ (Upd.trans (Upd.of_ext hx) hS')); go_simp; try with_reducible rfl)
      simp only [Act.put, List.setIfInBounds_toArray, List.set_cons_zero, List.set_cons_succ]
      refine rg_unit 6 none (w' := ?w26) rfl rfl (by kernel_rfl) (by rfl) ?h26 ?s26 ?_
      case h26 => ((skip); go_simp; try with_reducible rfl)
      case s26 => exact Upd.trans hS (Upd.putObj _ _ _)
      simp only [Act.put]
      refine rg_done (by kernel_rfl) ?_
      go_wp2
      go_ret
      exact ⟨rfl, Upd.trans (Upd.of_ext hxw) (Upd.trans hS (Upd.putObj _ _ _)), hP'.upd (Upd.trans hS (Upd.putObj _ _ _)) (MapI.put ho (by have := hP'.en.lt; simpa using this))⟩
    · have hr0 : (r == 0) = false := by simp [h0]
      go_wp2
      go_ret
      exact ⟨rfl, Upd.of_ext hxw, hP'⟩
end
end Go.Proofs.Ytlafdnbjkkbmfaa
