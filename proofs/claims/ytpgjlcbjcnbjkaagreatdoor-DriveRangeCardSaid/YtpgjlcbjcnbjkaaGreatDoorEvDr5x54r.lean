/- DriveRange: the run, 54 words. -/
import Derived.Test.YtpgjlcbjcnbjkaaGreatDoorEvDr5x54
namespace Go.Ev
open Go.Proofs
theorem dr54_run : (fun (x : Int) (k : Nat) => runDr (qSDr nP54 nS54) 54 x k) = fun x _ => (some (.int .i64 x), true) := by kernel_rfl
theorem dr54 : DrOK 54 := ⟨nP54, nS54, nP54_ok, nS54_ok, fun x k => congrFun (congrFun dr54_run x) k⟩
end Go.Ev
