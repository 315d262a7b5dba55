/- WorldSend: what is left behind the number of servers. WorldSend: runs of what is left, 2 servers. -/
import Derived.Test.YtmedlbbifcfomaaGreatDoorEvHi
import Derived.Test.YtmedlbbifcfomaaGreatDoorEvGc
section
namespace Go.Ev
open Go.Proofs
noncomputable def rest6 : Code := tail4 (Tryz.f6.body.getD .skip)
abbrev frame6 (v : Int) (s d : Bool) : List AV := [.int .i64 v, .bool s, .bool d, .any, .any, .any, .any, .any, .any, .any, .any, .any, .any, .any, .any, .any, .any, .any, .any, .any, .any, .any, .any, .any, .any, .any, .any, .any, .any, .any, .any, .any, .any, .any, .any, .any, .any, .any, .any, .any, .any, .any, .any, .any, .any, .any, .any, .any, .any, .any, .any, .any, .any, .any, .any, .any, .any, .any, .any, .any, .any, .any, .any, .any, .any, .any, .any, .any, .any, .any, .any, .any, .any, .any, .any, .any, .any, .any]
end Go.Ev
end
section
namespace Go.Ev
open Go.Proofs
theorem send2_true_true : okMid 6 (midRun Tryz.prog (addB [22] q8Z) 78 rest6 (frame6 (.ofNat 2) true true)) = true := by kernel_rfl
theorem send2_true_false : okMid 6 (midRun Tryz.prog (addB [22] q8Z) 78 rest6 (frame6 (.ofNat 2) true false)) = true := by kernel_rfl
theorem send2_false_true : okMid 6 (midRun Tryz.prog (addB [22] q8Z) 78 rest6 (frame6 (.ofNat 2) false true)) = true := by kernel_rfl
theorem send2_false_false : okMid 6 (midRun Tryz.prog (addB [22] q8Z) 78 rest6 (frame6 (.ofNat 2) false false)) = true := by kernel_rfl
end Go.Ev
end
