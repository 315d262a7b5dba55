/- NodePack: the run of what is left, 5 commands. -/
import Derived.Test.YtmedlbbifcfomaaGreatDoorEvMa
namespace Go.Ev
open Go.Proofs
theorem npk5 : okMid 4 (midRun Tryz.prog (addB [8] q8W) 130 restNpk (frameNpk (.ofNat 5))) = true := by kernel_rfl
end Go.Ev
