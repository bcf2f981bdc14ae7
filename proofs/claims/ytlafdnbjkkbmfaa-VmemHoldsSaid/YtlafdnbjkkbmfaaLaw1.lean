/- the statement's own functions: num; no condition. -/
import Derived.Test.YtlafdnbjkkbmfaaVmB
namespace Go.Proofs.Ytlafdnbjkkbmfaa
open Go.RowKit
attribute [local go_sem] run_mf
set_option maxRecDepth 100000 in
set_option maxHeartbeats 1000000 in
theorem l9_num {w : World} (n : Int) : Calls Try.prog 7 #[.int .i64 n] w fun e w' => e = .returned (.int .i64 n) ∧ w = w' := by
  go_enter Try.func7, Try.ntmps7
  go_wp2
  go_ret
  exact ⟨rfl, rfl⟩
theorem l9_numq {w : World} (n : Int) : Calls Try.prog 7 #[.int .i64 n] w fun e w' => e = .returned (.int .i64 n) ∧ w' = w := (l9_num n).mono fun _ _ h => ⟨h.1, h.2.symm⟩
end Go.Proofs.Ytlafdnbjkkbmfaa
