/- CalmHalf: the run of what is left, 4 servers, 2 down. -/
import Derived.Test.YtmedlbbifcfomaaGreatDoorEvNa
import Derived.Test.YtmedlbbifcfomaaGreatDoorEvOd
namespace Go.Ev
open Go.Proofs
theorem hlf4_2 : okMid 4 (midRun Tryz.prog (addB [37] q8J) 64 restHlf (frameHlf (.ofNat 4) (.ofNat 2))) = true := by kernel_rfl
end Go.Ev
