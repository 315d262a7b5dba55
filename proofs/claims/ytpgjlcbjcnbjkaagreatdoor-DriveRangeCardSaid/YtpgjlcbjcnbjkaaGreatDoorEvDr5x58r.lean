/- DriveRange: the run, 58 words. -/
import Derived.Test.YtpgjlcbjcnbjkaaGreatDoorEvDr5x58
namespace Go.Ev
open Go.Proofs
theorem dr58_run : (fun (x : Int) (k : Nat) => runDr (qSDr nP58 nS58) 58 x k) = fun x _ => (some (.int .i64 x), true) := by kernel_rfl
theorem dr58 : DrOK 58 := ⟨nP58, nS58, nP58_ok, nS58_ok, fun x k => congrFun (congrFun dr58_run x) k⟩
end Go.Ev
