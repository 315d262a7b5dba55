/- NodePack: the run of what is left, 4 commands. -/
import Derived.Test.YtmedlbbifcfomaaGreatDoorEvMa
namespace Go.Ev
open Go.Proofs
theorem npk4 : okMid 4 (midRun Tryz.prog (addB [8] q8W) 130 restNpk (frameNpk (.ofNat 4))) = true := by kernel_rfl
end Go.Ev
