/- The run of the function 524, which answers true. The run of the function 476, which answers true. The run of the function 408, which answers true. The run of the function 409, which answers true. -/
import Derived.Test.YtoiehldmodgfkaaGreatDoorEvHf
section
namespace Go.Ev
open Go.Proofs
theorem run524 : okTrue (call Tryz.prog (addB [535] q6Z) 100000 524 [] ⟨0, .leaf⟩) = true := by kernel_rfl
end Go.Ev
end
section
namespace Go.Ev
open Go.Proofs
theorem run476 : okTrue (call Tryz.prog (addB [524] q6Z) 100000 476 [] ⟨0, .leaf⟩) = true := by kernel_rfl
end Go.Ev
end
section
namespace Go.Ev
open Go.Proofs
theorem run408 : okTrue (call Tryz.prog (addB [476] q6Z) 100000 408 [] ⟨0, .leaf⟩) = true := by kernel_rfl
end Go.Ev
end
section
namespace Go.Ev
open Go.Proofs
theorem run409 : okTrue (call Tryz.prog (addB [408] q6Z) 100000 409 [] ⟨0, .leaf⟩) = true := by kernel_rfl
end Go.Ev
end
