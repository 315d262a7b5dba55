/- CalmHalf: the run of what is left, 5 servers, 3 down. -/
import Derived.Test.YtmedlbbifcfomaaGreatDoorEvNa
import Derived.Test.YtmedlbbifcfomaaGreatDoorEvOd
namespace Go.Ev
open Go.Proofs
theorem hlf5_3 : okMid 4 (midRun Tryz.prog (addB [37] q8V) 64 restHlf (frameHlf (.ofNat 5) (.ofNat 3))) = true := by kernel_rfl
end Go.Ev
