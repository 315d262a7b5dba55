/- WorldSend: runs of what is left, 3 servers. -/
import Derived.Test.YtmedlbbifcfomaaGreatDoorEvLa
namespace Go.Ev
open Go.Proofs
theorem send3_true_true : okMid 6 (midRun Tryz.prog (addB [22] q8Z) 78 rest6 (frame6 (.ofNat 3) true true)) = true := by kernel_rfl
theorem send3_true_false : okMid 6 (midRun Tryz.prog (addB [22] q8Z) 78 rest6 (frame6 (.ofNat 3) true false)) = true := by kernel_rfl
theorem send3_false_true : okMid 6 (midRun Tryz.prog (addB [22] q8Z) 78 rest6 (frame6 (.ofNat 3) false true)) = true := by kernel_rfl
theorem send3_false_false : okMid 6 (midRun Tryz.prog (addB [22] q8Z) 78 rest6 (frame6 (.ofNat 3) false false)) = true := by kernel_rfl
end Go.Ev
