/- CalmHalf: the run of what is left, 4 servers, 0 down. -/
import Derived.Test.YtmedlbbifcfomaaGreatDoorEvNa
namespace Go.Ev
open Go.Proofs
theorem hlf4_0 : okMid 4 (midRun Tryz.prog (addB [37] q8W) 64 restHlf (frameHlf (.ofNat 4) (.ofNat 0))) = true := by kernel_rfl
end Go.Ev
