/- NodePack: the run of what is left, 8 commands. -/
import Derived.Test.YtmedlbbifcfomaaGreatDoorEvMa
namespace Go.Ev
open Go.Proofs
theorem npk8 : okMid 4 (midRun Tryz.prog (addB [8] q8W) 130 restNpk (frameNpk (.ofNat 8))) = true := by kernel_rfl
end Go.Ev
