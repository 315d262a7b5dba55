/- WorldSend: runs of what is left, 7 servers. -/
import Derived.Test.YtmedlbbifcfomaaGreatDoorEvLa
namespace Go.Ev
open Go.Proofs
theorem send7_true_true : okMid 6 (midRun Tryz.prog (addB [22] q8Z) 78 rest6 (frame6 (.ofNat 7) true true)) = true := by kernel_rfl
theorem send7_true_false : okMid 6 (midRun Tryz.prog (addB [22] q8Z) 78 rest6 (frame6 (.ofNat 7) true false)) = true := by kernel_rfl
theorem send7_false_true : okMid 6 (midRun Tryz.prog (addB [22] q8Z) 78 rest6 (frame6 (.ofNat 7) false true)) = true := by kernel_rfl
theorem send7_false_false : okMid 6 (midRun Tryz.prog (addB [22] q8Z) 78 rest6 (frame6 (.ofNat 7) false false)) = true := by kernel_rfl
end Go.Ev
