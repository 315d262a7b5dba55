/- The run of the function 37, which answers true. -/
import Derived.Test.YtmedlbbifcfomaaGreatDoorEvHi
namespace Go.Ev
open Go.Proofs
theorem run37 : okTrue (call Tryz.prog (addB [79] q8Z) 100000 37 [] ⟨0, .leaf⟩) = true := by kernel_rfl
end Go.Ev
