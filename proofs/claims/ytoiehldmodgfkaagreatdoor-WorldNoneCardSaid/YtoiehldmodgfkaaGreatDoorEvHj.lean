/- The run of the function 8, which answers true. -/
import Derived.Test.YtoiehldmodgfkaaGreatDoorEvHf
namespace Go.Ev
open Go.Proofs
theorem run8 : okTrue (call Tryz.prog (addB [50, 51] q6Z) 100000 8 [] ⟨0, .leaf⟩) = true := by kernel_rfl
end Go.Ev
