/- package frame: questions; no condition. -/
import Derived.Test.YtlafdnbjkkbmfaaMem
namespace Go.Proofs.Ytlafdnbjkkbmfaa
open Go.RowKit
attribute [local go_sem] run_mf
section
variable {w : World} {pb fb rb : Nat} {many : Int} {F : List (Int × Tak)} {R : List (Int × Int)}
set_option maxRecDepth 100000 in
set_option maxHeartbeats 1000000 in
theorem frame_none (h : PoolAt w pb fb rb many F R) : Calls Try.prog 61 #[.pointer (some ⟨pb, 0, none⟩)] w fun e w' => e = .returned (.bool false) ∧ w = w' := by
  have h0 := h.c0
  have hm := run_eql_map_nil (P := Try.prog) w 66 _ _ (some fb) Try.underlying66
  go_enter Try.func61, Try.ntmps61
  go_wp2
  go_ret
  exact ⟨rfl, rfl⟩
set_option maxRecDepth 100000 in
set_option maxHeartbeats 1000000 in
theorem frame_is (h : PoolAt w pb fb rb many F R) : Calls Try.prog 32 #[.pointer (some ⟨pb, 0, none⟩)] w (AskR Try.prog w 1 false) := by
  go_enter Try.func32, Try.ntmps32
  go_wp2
  refine bodyPost_ret (v := .agg #[.func (.func 61) #[.pointer (some ⟨pb, 0, none⟩)] #[], .int .i64 1]) (by simp [results, Try.results32, go_sem]) rfl ⟨_, rfl, Q.mk Try.call61 (fun w' hx => ?_), ext_n _ (Ext.refl _)⟩
  refine (frame_none (h.ext (ext_a hx))).mono ?_
  rintro e w2 ⟨rfl, rfl⟩
  exact ⟨rfl, Ext.refl _⟩
set_option maxRecDepth 100000 in
set_option maxHeartbeats 1000000 in
theorem frame_owner1 {b : Nat} {n : Int} (h : w.cell? ⟨b, 0, none⟩ = some (.int .i64 n)) :
    Calls Try.prog 62 #[.pointer (some ⟨b, 0, none⟩)] w fun e w' => e = .returned (.bool (decide (n < 0) || decide (64 ≤ n))) ∧ w = w' := by
  go_enter Try.func62, Try.ntmps62
  go_wp2
  all_goals (go_ret; simp [*])
set_option maxRecDepth 100000 in
set_option maxHeartbeats 1000000 in
theorem frame_owner (n : Int) : Calls Try.prog 33 #[.int .i64 n] w (AskR Try.prog w 2 (decide (n < 0) || decide (64 ≤ n))) := by
  go_enter Try.func33, Try.ntmps33
  go_wp2
  refine bodyPost_ret (v := .agg #[.func (.func 62) #[] #[.pointer (some ⟨w.heap.size, 0, none⟩)], .int .i64 2]) (by simp [results, Try.results33, go_sem]) rfl ⟨_, rfl, Q.mk Try.call62 (fun w' hx => ?_), ext_n _ (ext_n _ (Ext.refl _))⟩
  refine (frame_owner1 (cell_new1 (ext_a hx))).mono ?_
  rintro e w2 ⟨rfl, rfl⟩
  exact ⟨rfl, Ext.refl _⟩
set_option maxRecDepth 100000 in
set_option maxHeartbeats 1000000 in
theorem frame_res1 {b : Nat} {n : Int} (h : w.cell? ⟨b, 0, none⟩ = some (.int .i64 n)) :
    Calls Try.prog 34 #[.pointer (some ⟨b, 0, none⟩)] w fun e w' => e = .returned (.bool (decide (n < 0))) ∧ w = w' := by
  go_enter Try.func34, Try.ntmps34
  go_wp2
  all_goals (go_ret; simp [*])
set_option maxRecDepth 100000 in
set_option maxHeartbeats 1000000 in
theorem frame_there1 {b c : Nat} {n : Int} (h : PoolAt w pb fb rb many F R) (h1 : w.cell? ⟨b, 0, none⟩ = some (.int .i64 n)) (h2 : w.cell? ⟨c, 0, none⟩ = some (.pointer (some ⟨pb, 0, none⟩))) :
    Calls Try.prog 72 #[.pointer (some ⟨b, 0, none⟩), .pointer (some ⟨c, 0, none⟩)] w fun e w' => e = .returned (.bool (decide (n < 0) || decide (many ≤ n))) ∧ Ext w w' := by
  have h0 := h.c2
  by_cases hn : n < 0
  · have hd : decide (n < 0) = true := by simpa using hn
    go_enter Try.func72, Try.ntmps72
    go_wp2
    go_quiet (fail)
    go_wp2
    go_ret
    exact ⟨by simp [*], ext_drewN _ (Ext.refl _)⟩
  · have hd : decide (n < 0) = false := by simpa using hn
    go_enter Try.func72, Try.ntmps72
    go_wp2
    go_quiet (fail)
    go_wp2
    go_ret
    exact ⟨by simp [*], ext_drewN _ (Ext.refl _)⟩
set_option maxRecDepth 100000 in
set_option maxHeartbeats 1000000 in
theorem frame_there2 {b c : Nat} {n m : Int} (h1 : w.cell? ⟨b, 0, none⟩ = some (.int .i64 n)) (h2 : w.cell? ⟨c, 0, none⟩ = some (.int .i64 m)) :
    Calls Try.prog 73 #[.pointer (some ⟨b, 0, none⟩), .pointer (some ⟨c, 0, none⟩)] w fun e w' => e = .returned (.bool (decide (n < 0) || decide (256 < n) || decide (m < 0) || decide (256 - n < m))) ∧ w = w' := by
  go_enter Try.func73, Try.ntmps73
  go_wp2
  all_goals (go_ret; simp [*])
end
end Go.Proofs.Ytlafdnbjkkbmfaa
