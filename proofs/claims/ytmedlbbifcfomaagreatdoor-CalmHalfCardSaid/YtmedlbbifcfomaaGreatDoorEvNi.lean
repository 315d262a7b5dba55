/- CalmHalf: the run of what is left, 5 servers, 0 down. -/
import Derived.Test.YtmedlbbifcfomaaGreatDoorEvNa
namespace Go.Ev
open Go.Proofs
theorem hlf5_0 : okMid 4 (midRun Tryz.prog (addB [37] q8W) 64 restHlf (frameHlf (.ofNat 5) (.ofNat 0))) = true := by kernel_rfl
end Go.Ev
