/- package frame: counting the frames that somebody has; no condition. -/
import Derived.Test.YtlafdnbjkkbmfaaFrm
namespace Go.Proofs.Ytlafdnbjkkbmfaa
open Go.RowKit
attribute [local go_sem] run_mf
theorem infoT : (Try.prog.info? 96).map (·.size) = some 257 := by kernel_rfl
theorem zeroT_size : Try.zeroCells96.size = 257 := by kernel_rfl
theorem takC_one (t : Tak) : (takC t).all (·.oneCell') = true := by
  rw [Array.all_eq_true_iff_forall_mem]
  intro v hv
  simp [takC, u8s] at hv
  rcases hv with rfl | ⟨a, _, rfl⟩ <;> rfl
theorem st_tak {t : Tak} {W : World} {b : Nat} (ht : (takC t).size = 257) (hb : b = W.heap.size) :
    (storeCells ⟨b, 0, none⟩ (takC t).toList).run Try.prog (W.alloc (.cells Try.zeroCells96 96)) = .ok () (W.alloc (.cells (takC t) 96)) :=
  run_storeCells_new (takC_one t) (by rw [zeroT_size, ht]) hb
theorem ld_tak {t : Tak} {W : World} {b : Nat} (ht : (takC t).size = 257) (hb : b = W.heap.size) :
    (loadCellsFrom ⟨b, 0, none⟩ 0 257 #[]).run Try.prog (W.alloc (.cells (takC t) 96)) = .ok (takC t) (W.alloc (.cells (takC t) 96)) :=
  run_loadCells_blk ht (by rw [hb]; exact World.alloc_heap_new _ _)
theorem wp_load_tak {dst : Option Tmp} {ty : TypeId} {pos : String} {after : Array Edge} {gd : Option (Nat × Bool)} {x : Operand} {a : Act} {W : World} {K : Act → World → Prop} {R : Exit → Act → World → Prop} {t : Tak}
    (ha : a.eval x = .pointer (some ⟨W.heap.size, 0, none⟩)) (ht : (takC t).size = 257) :
    Oper.wp Try.prog { dst := dst, op := .load 96 x, type := ty, pos := pos, after := after, guard := gd } a (W.alloc (.cells (takC t) 96)) K R = K (a.put dst (.agg (takC t))) (W.alloc (.cells (takC t) 96)) := by
  have h : (loadVar 96 ⟨W.heap.size, 0, none⟩).run Try.prog (W.alloc (.cells (takC t) 96)) = .ok (.agg (takC t)) (W.alloc (.cells (takC t) 96)) := by
    simp only [loadVar, Sem.run_bind, Try.isAgg96, Result.andThen, if_true, Try.sizeOf96, loadCells, ld_tak ht rfl, Sem.run_pure]
  unfold Oper.wp execOp
  simp only [ha, Instr.loadAt, Instr.sureAddr, Sem.run_bind, Sem.run_pure, Result.andThen_ok, h, Oper.upon]
attribute [local go_sem ↓] st_tak wp_load_tak
attribute [local go_sem] takC_zero
/-- a test of frames that answers g in every later world -/
def Q1 (P : Program) (w : World) (v : Value) (L : List (Int × Tak)) (g : Tak → Bool) : Prop :=
  ∃ f first cap, v = .func (.func f) first cap ∧ (∀ a w, (callFunc f a).run P w = .ok (.enter f a) w) ∧
    ∀ w' t, Ext w w' → t ∈ L.map (·.2) → Calls P f (first.push (.agg (takC t)) ++ cap) w' fun e w'' => e = .returned (.bool (g t)) ∧ Ext w' w''
theorem countP_erase {p : Int × Tak → Bool} {l : List (Int × Tak)} {j : Nat} (hj : j < l.length) : l.countP p = (l.eraseIdx j).countP p + if p l[j] = true then 1 else 0 := by
  induction l generalizing j with
  | nil => simp at hj
  | cons a l ih =>
    cases j with
    | zero => simp [List.countP_cons]
    | succ j => simp only [List.eraseIdx_cons_succ, List.countP_cons, List.getElem_cons_succ, ih (by simpa using hj : j < l.length)]; omega
set_option maxRecDepth 100000 in
set_option maxHeartbeats 1000000 in
theorem frame_has1 {w : World} {t : Tak} {o : Int} {b : Nat} (h : w.cell? ⟨b, 0, none⟩ = some (.int .i64 o)) :
    Calls Try.prog 64 #[.agg (takC t), .pointer (some ⟨b, 0, none⟩)] w fun e w' => e = .returned (.bool (t.owner == o)) ∧ Ext w w' := by
  have hlt : b < w.heap.size := World.block_lt_of_cell? w ⟨b, 0, none⟩ h
  have hne : ¬ b = w.heap.size := by omega
  go_enter Try.func64, Try.ntmps64
  go_wp2
  go_ret
  exact ⟨rfl, ext_n _ (Ext.refl _)⟩
set_option maxRecDepth 100000 in
set_option maxHeartbeats 1000000 in
theorem frame_counted {w : World} {fb : Nat} {F : List (Int × Tak)} {v : Value} {g : Tak → Bool} (hm : MapI .i64 encT F w fb) (hF : ∀ p ∈ F, (takC p.2).size = 257) (hlen : F.length < 100000) (hq : Q1 Try.prog w v F g) :
    Calls Try.prog 63 #[.map (some fb), v] w fun e w' => e = .returned (.int .i64 (F.countP fun p => g p.2)) ∧ Ext w w' := by
  obtain ⟨f, first, cap, rfl, hcf, hcall⟩ := hq
  obtain ⟨o, hrun, hr0⟩ := hm.range (P := Try.prog) Try.underlying66
  go_enter Try.func63, Try.ntmps63
  go_wp2
  go_loopg [4] F.length (fun m n wr => ∃ (rest : List (Int × Tak)) (k : Nat), m = rest.length ∧ n = .int .i64 k ∧ Hid (k + rest.countP (fun p => g p.2) = F.countP (fun p => g p.2)) ∧ RngI .i64 encT wr fb w.heap.size rest ∧ Ext w wr ∧ (∀ p ∈ rest, p ∈ F) ∧ k ≤ F.length)
  case atStart => exact ⟨F, 0, rfl, rfl, by show _ = _; simp, hr0, ext_n _ (Ext.refl _), fun p hp => hp, Nat.zero_le _⟩
  case round =>
    obtain ⟨rest, k, rfl, rfl, hk, hrg, hx, hsub, hkl⟩ := hrel
    rcases hrg.next (P := Try.prog) 0 with ⟨rfl, hnx⟩ | ⟨j, hj, w1, hnx, hrg1, hu, hsz, hen⟩
    · go_wp2
      go_ret
      refine ⟨?_, hx⟩
      have := hk.out
      simp at this
      rw [← this]; rfl
    · have hmem : rest[j] ∈ F := hsub _ (List.getElem_mem hj)
      have ht := hF _ hmem
      have hx1 : Ext w w1 := ⟨hu.os.trans hx.os, hu.tape.trans hx.tape, hu.output.trans hx.output, Nat.le_trans hx.size hu.size, fun k hk => (hu.block k (Nat.lt_of_lt_of_le hk hx.size) (by simp; omega)).trans (hx.block k hk)⟩
      have hc1 := hcall (w1.alloc (.cells (takC rest[j].2) 96)) rest[j].2 (ext_n _ hx1) (List.mem_map_of_mem hmem)
      obtain ⟨t, ht0⟩ : ∃ t, t = rest[j].2 := ⟨_, rfl⟩
      obtain ⟨kk, hkk⟩ : ∃ kk, kk = rest[j].1 := ⟨_, rfl⟩
      rw [← ht0] at hnx hen ht hc1
      rw [← hkk] at hnx hen
      have ht0 := Lib.hid ht0
      rename_i ht00; clear ht00
      clear hkk
      have hencT : encT t = .agg (takC t) := rfl
      rw [hencT] at hnx hen
      clear hencT hcall hrun
      have hszH := Lib.hid hsz
      clear hsz
      go_wp2_with fail
      refine hc1.mono ?_
      rintro e w2 ⟨rfl, hx2⟩
      have hx3 : Ext w1 w2 := ext_a hx2
      go_wp2
      · have hg : g t = true := by assumption
        go_roundg (rest.length - 1)
        case measure => omega
        case rel =>
          have hce := countP_erase (p := fun p => g p.2) hj
          simp only [← ht0.out, hg, if_true] at hce
          refine ⟨rest.eraseIdx j, k + 1, by rw [List.length_eraseIdx_of_lt hj], by go_num, ?_, hrg1.ext hx3, Ext.trans hx1 hx3, fun p hp => hsub p (List.mem_of_mem_eraseIdx hp), ?_⟩
          · have := hk.out
            show _ = _
            omega
          · have := hk.out
            have := List.countP_le_length (p := fun p : Int × Tak => g p.2) (l := F)
            omega
      · have hg : g t = false := by assumption
        go_roundg (rest.length - 1)
        case measure => omega
        case rel =>
          have hce := countP_erase (p := fun p => g p.2) hj
          simp only [← ht0.out, hg, Bool.false_eq_true, if_false] at hce
          refine ⟨rest.eraseIdx j, k, by rw [List.length_eraseIdx_of_lt hj], rfl, ?_, hrg1.ext hx3, Ext.trans hx1 hx3, fun p hp => hsub p (List.mem_of_mem_eraseIdx hp), hkl⟩
          have := hk.out
          show _ = _
          omega
/-- frames as they must be: 256 bytes each -/
def FOk (F : List (Int × Tak)) : Prop := (∀ p ∈ F, (takC p.2).size = 257) ∧ F.length < 100000
def hasN (F : List (Int × Tak)) (o : Int) : Nat := F.countP fun p => p.2.owner == o
set_option maxRecDepth 100000 in
set_option maxHeartbeats 1000000 in
theorem frame_has {w : World} {pb fb rb : Nat} {many : Int} {F : List (Int × Tak)} {R : List (Int × Int)} (h : PoolAt w pb fb rb many F R) (hF : FOk F) (o : Int) :
    Calls Try.prog 36 #[.pointer (some ⟨pb, 0, none⟩), .int .i64 o] w fun e w' => e = .returned (.int .i64 (hasN F o)) ∧ Ext w w' := by
  have h0 := h.c0
  have hlt := lt_of_block h.blk
  have hne : ¬ pb = w.heap.size := by omega
  go_enter Try.func36, Try.ntmps36
  go_wp2_with (go_at_call 63; refine (frame_counted (g := fun t => t.owner == o) (h.ext (ext_n (.cells #[.int .i64 o] 3) (Ext.refl w))).fr hF.1 hF.2 ⟨64, #[], #[.pointer (some ⟨w.heap.size, 0, none⟩)], rfl, Try.call64, fun w' t hx _ => (frame_has1 (cell_new1 hx)).mono fun e w2 he => he⟩).mono ?_; rintro e w2 ⟨rfl, hx2⟩)
  go_ret
  exact ⟨rfl, ext_a hx2⟩
end Go.Proofs.Ytlafdnbjkkbmfaa
