/- NodePack: what is left behind the number of commands. NodePack: the run of what is left, 1 commands. NodePack: the run of what is left, 2 commands. -/
import Derived.Test.YtmedlbbifcfomaaGreatDoorEvIn
import Derived.Test.YtmedlbbifcfomaaGreatDoorEvGc
section
namespace Go.Ev
open Go.Proofs
noncomputable def restNpk : Code := tail4 (Tryz.f3.body.getD .skip)
abbrev frameNpk (k : Int) : List AV := [.int .i64 k, .any, .any, .any, .any, .any, .any, .any, .any, .any, .any, .any, .any, .any, .any, .any, .any, .any, .any, .any, .any, .any, .any, .any, .any, .any, .any, .any, .any, .any, .any, .any, .any, .any, .any, .any, .any, .any, .any, .any, .any, .any, .any, .any, .any, .any, .any, .any, .any, .any, .any, .any, .any, .any, .any, .any, .any, .any, .any, .any, .any, .any, .any, .any, .any, .any, .any, .any, .any, .any, .any, .any, .any, .any, .any, .any, .any, .any, .any, .any, .any, .any, .any, .any, .any, .any, .any, .any, .any, .any, .any, .any, .any, .any, .any, .any, .any, .any, .any, .any, .any, .any, .any, .any, .any, .any, .any, .any, .any, .any, .any, .any, .any, .any, .any, .any, .any, .any, .any, .any, .any, .any, .any, .any, .any, .any, .any, .any, .any, .any]
end Go.Ev
end
section
namespace Go.Ev
open Go.Proofs
theorem npk1 : okMid 4 (midRun Tryz.prog (addB [8] q8W) 130 restNpk (frameNpk (.ofNat 1))) = true := by kernel_rfl
end Go.Ev
end
section
namespace Go.Ev
open Go.Proofs
theorem npk2 : okMid 4 (midRun Tryz.prog (addB [8] q8W) 130 restNpk (frameNpk (.ofNat 2))) = true := by kernel_rfl
end Go.Ev
end
