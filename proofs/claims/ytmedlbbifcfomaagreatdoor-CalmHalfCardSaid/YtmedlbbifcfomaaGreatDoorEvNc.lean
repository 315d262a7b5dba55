/- CalmHalf: the run of what is left, 3 servers, 1 down. -/
import Derived.Test.YtmedlbbifcfomaaGreatDoorEvNa
namespace Go.Ev
open Go.Proofs
theorem hlf3_1 : okMid 4 (midRun Tryz.prog (addB [37] q8W) 64 restHlf (frameHlf (.ofNat 3) (.ofNat 1))) = true := by kernel_rfl
end Go.Ev
