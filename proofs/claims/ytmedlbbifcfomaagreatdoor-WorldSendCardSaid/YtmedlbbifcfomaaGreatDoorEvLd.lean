/- WorldSend: runs of what is left, 5 servers. -/
import Derived.Test.YtmedlbbifcfomaaGreatDoorEvLa
namespace Go.Ev
open Go.Proofs
theorem send5_true_true : okMid 6 (midRun Tryz.prog (addB [22] q8Z) 78 rest6 (frame6 (.ofNat 5) true true)) = true := by kernel_rfl
theorem send5_true_false : okMid 6 (midRun Tryz.prog (addB [22] q8Z) 78 rest6 (frame6 (.ofNat 5) true false)) = true := by kernel_rfl
theorem send5_false_true : okMid 6 (midRun Tryz.prog (addB [22] q8Z) 78 rest6 (frame6 (.ofNat 5) false true)) = true := by kernel_rfl
theorem send5_false_false : okMid 6 (midRun Tryz.prog (addB [22] q8Z) 78 rest6 (frame6 (.ofNat 5) false false)) = true := by kernel_rfl
end Go.Ev
