/- The run of the function 68, which answers true. The run of the function 22, which answers true. The run of the function 79, which answers true. -/
import Derived.Test.YtmedlbbifcfomaaGreatDoorEvHi
section
namespace Go.Ev
open Go.Proofs
theorem run68 : okTrue (call Tryz.prog (addB [8] q8Z) 100000 68 [] ⟨0, .leaf⟩) = true := by kernel_rfl
end Go.Ev
end
section
namespace Go.Ev
open Go.Proofs
theorem run22 : okTrue (call Tryz.prog (addB [68] q8Z) 100000 22 [] ⟨0, .leaf⟩) = true := by kernel_rfl
end Go.Ev
end
section
namespace Go.Ev
open Go.Proofs
theorem run79 : okTrue (call Tryz.prog (addB [22] q8Z) 100000 79 [] ⟨0, .leaf⟩) = true := by kernel_rfl
end Go.Ev
end
