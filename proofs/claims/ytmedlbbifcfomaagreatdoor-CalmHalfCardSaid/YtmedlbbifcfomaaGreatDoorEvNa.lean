/- CalmHalf: what is left behind the numbers of servers and of those that are down. CalmHalf: the run of what is left, 2 servers, 0 down. CalmHalf: the run of what is left, 2 servers, 1 down. -/
import Derived.Test.YtmedlbbifcfomaaGreatDoorEvIn
import Derived.Test.YtmedlbbifcfomaaGreatDoorEvGc
section
namespace Go.Ev
open Go.Proofs
noncomputable def restHlf : Code := tail5 (Tryz.f7.body.getD .skip)
abbrev frameHlf (n d : Int) : List AV := [.int .i64 n, .int .i64 d, .any, .any, .any, .any, .any, .any, .any, .any, .any, .any, .any, .any, .any, .any, .any, .any, .any, .any, .any, .any, .any, .any, .any, .any, .any, .any, .any, .any, .any, .any, .any, .any, .any, .any, .any, .any, .any, .any, .any, .any, .any, .any, .any, .any, .any, .any, .any, .any, .any, .any, .any, .any, .any, .any, .any, .any, .any, .any, .any, .any, .any, .any]
end Go.Ev
end
section
namespace Go.Ev
open Go.Proofs
theorem hlf2_0 : okMid 4 (midRun Tryz.prog (addB [37] q8W) 64 restHlf (frameHlf (.ofNat 2) (.ofNat 0))) = true := by kernel_rfl
end Go.Ev
end
section
namespace Go.Ev
open Go.Proofs
theorem hlf2_1 : okMid 4 (midRun Tryz.prog (addB [37] q8W) 64 restHlf (frameHlf (.ofNat 2) (.ofNat 1))) = true := by kernel_rfl
end Go.Ev
end
