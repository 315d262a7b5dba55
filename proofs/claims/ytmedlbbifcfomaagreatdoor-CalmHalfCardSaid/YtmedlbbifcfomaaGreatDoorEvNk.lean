/- CalmHalf: the run of what is left, 5 servers, 2 down. -/
import Derived.Test.YtmedlbbifcfomaaGreatDoorEvNa
namespace Go.Ev
open Go.Proofs
theorem hlf5_2 : okMid 4 (midRun Tryz.prog (addB [37] q8W) 64 restHlf (frameHlf (.ofNat 5) (.ofNat 2))) = true := by kernel_rfl
end Go.Ev
