/- The run of the function 29, which answers true. -/
import Derived.Test.YtoiehldmodgfkaaGreatDoorEvHf
namespace Go.Ev
open Go.Proofs
theorem run29 : okTrue (call Tryz.prog (addB [67] q6Z) 100000 29 [] ⟨0, .leaf⟩) = true := by kernel_rfl
end Go.Ev
