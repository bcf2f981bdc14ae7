/- asked: the first error of questions, of the package meta; no condition. -/
import Derived.ScopeJumps
import Derived.WalkMore
import Derived.Test.YtgkfgilhegjbhaaGreatAskG
namespace Go.Proofs.YtgkfgilhegjbhaaGreat
open Go.RowKit
attribute [local go_sem] run_mf
set_option maxRecDepth 100000 in
set_option maxHeartbeats 400000 in
theorem meta_asked (qs : List (Value × Int × Bool)) (lb : Nat) (w : World) (hlb : lb < w.heap.size) (hlen : qs.length < 1000) {n : Nat}
    (hc : ∀ k (h : k < qs.length), w.cell? ⟨lb, k * 2, none⟩ = some qs[k].1 ∧ w.cell? ⟨lb, k * 2 + 1, none⟩ = some (.int .i64 qs[k].2.1)) (hq : QL Tryz.prog w qs) :
    Calls Tryz.prog 11 #[.slice (some ⟨lb, 0, none⟩) qs.length n] w fun e w' => e = .returned (.int .i64 (firstE qs)) ∧ Ext w w' := by
  go_enter Tryz.func11, Tryz.ntmps11
  go_wp2
  refine wp_scope_jumps 0 (fun a' w' => Ext w w' ∧ ∃ (u0 u1 u3 u4 u5 u6 u7 u8 u9 u10 u11 u12 u13 u14 u15 u16 u17 : Value), a' = { tmps := #[u0, u1, .int .i64 (firstE qs), u3, u4, u5, u6, u7, u8, u9, u10, u11, u12, u13, u14, u15, u16, u17], defers := [] }) (fun _ _ => 0) rfl ?_ ?_
  · go_wp2
    go_loopw [2, 7] (fun e i wr => ∃ k : Nat, k ≤ qs.length ∧ i = .int .i64 k ∧ (∃ x, e = .int .i64 x) ∧ Ext w wr ∧ QL Tryz.prog wr (qs.drop k) ∧ Hid (firstE (qs.drop k) = firstE qs)) (fun _ i _ => qs.length - (intOf i).toNat)
    case atStart => exact ⟨0, Nat.zero_le _, rfl, ⟨_, rfl⟩, Ext.refl _, hq, rfl⟩
    case round =>
      obtain ⟨k, hk, rfl, ⟨x, rfl⟩, hx, hql, hf⟩ := hrel
      by_cases hlt : k < qs.length
      · obtain ⟨⟨f, first, cap, hv, hcf, hcall⟩, hnext⟩ := QL_drop hlt hql
        have h1 := (hx.cell (p := ⟨lb, k * 2, none⟩) hlb).trans (hc k hlt).1
        have h2 := (hx.cell (p := ⟨lb, k * 2 + 1, none⟩) hlb).trans (hc k hlt).2
        rw [hv] at h1
        clear hc hq
        have hfd := Lib.hid (firstE_drop hlt)
        have hlb' : lb < wr.heap.size := Nat.lt_of_lt_of_le hlb hx.size
        go_wp2_with fail
        refine (hcall _ ((Ext.refl _).trans (((Below.refl _ _).alloc (Nat.le_refl _) _)))).mono ?_
        rintro e w2 ⟨rfl, hb2⟩
        have hx2 : Ext wr w2 := Ext.trans ((Below.refl _ _).alloc (Nat.le_refl _) _) hb2
        go_wp2
        · go_step3
          refine And.intro rfl (And.intro (hx.trans hx2) ?_)
          have hb : qs[k].2.2 = true := by assumption
          have := hfd.out
          rw [if_pos hb] at this
          rw [← hf.out, this]
          exact ⟨_, _, _, _, _, _, _, _, _, _, _, _, _, _, _, _, _, rfl⟩
        · have hb : qs[k].2.2 = false := by assumption
          have hfd' := hfd.out
          rw [hb, if_neg (by simp)] at hfd'
          exact ⟨⟨k + 1, by omega, by go_num, ⟨_, rfl⟩, hx.trans hx2, (hnext hb).later hx2, by rw [← hfd']; exact hf⟩, by simp [intOf]; omega⟩
      · obtain rfl : k = qs.length := by omega
        go_wp2
        rw [jump_ret]
        go_ret
        refine ⟨?_, hx⟩
        rw [← hf.out]; simp [firstE]
  · rintro a' w' ⟨hx, u0, u1, u3, u4, u5, u6, u7, u8, u9, u10, u11, u12, u13, u14, u15, u16, u17, rfl⟩
    go_wp2
    rw [jump_ret]
    go_ret
    exact ⟨rfl, hx⟩

theorem meta_asks (qs : List (Value × Int × Bool)) (w : World) (hlen : qs.length < 1000) (hq : QL Tryz.prog (w.alloc (.cells (askC qs) 39)) qs) :
    Calls Tryz.prog 11 #[.slice (some ⟨w.heap.size, 0, none⟩) qs.length qs.length] (w.alloc (.cells (askC qs) 39)) fun e w' => e = .returned (.int .i64 (firstE qs)) ∧ Ext w w' :=
  (meta_asked qs w.heap.size _ (by simp) hlen (fun k h => by rw [World.cell?_alloc_new, World.cell?_alloc_new]; exact askC_cell qs k h) hq).mono fun e w' h => ⟨h.1, Ext.trans ((Below.refl _ _).alloc (Nat.le_refl _) _) h.2⟩
theorem meta_asks' (qs : List (Value × Int × Bool)) {w : World} {b n : Nat} {arr : Array Value} (hb : b = w.heap.size) (hn : qs.length = n) (ha : askC qs = arr) (hlen : n < 1000) (hq : QL Tryz.prog (w.alloc (.cells arr 39)) qs) :
    Calls Tryz.prog 11 #[.slice (some ⟨b, 0, none⟩) n n] (w.alloc (.cells arr 39)) fun e w' => e = .returned (.int .i64 (firstE qs)) ∧ Ext w w' := by
  subst hb hn ha
  exact meta_asks qs w hlen hq
end Go.Proofs.YtgkfgilhegjbhaaGreat
