/- The run of the function 255, which answers true. The run of the function 146, which answers true. The run of the function 41, which answers true. The run of the function 40, which answers true. The run of the function 8, which answers true. -/
import Derived.Test.YtmedlbbifcfomaaGreatDoorEvHi
section
namespace Go.Ev
open Go.Proofs
theorem run255 : okTrue (call Tryz.prog (addB [396, 395, 477] q8Z) 100000 255 [] ⟨0, .leaf⟩) = true := by kernel_rfl
end Go.Ev
end
section
namespace Go.Ev
open Go.Proofs
theorem run146 : okTrue (call Tryz.prog (addB [255] q8Z) 100000 146 [] ⟨0, .leaf⟩) = true := by kernel_rfl
end Go.Ev
end
section
namespace Go.Ev
open Go.Proofs
theorem run41 : okTrue (call Tryz.prog (addB [146] q8Z) 100000 41 [] ⟨0, .leaf⟩) = true := by kernel_rfl
end Go.Ev
end
section
namespace Go.Ev
open Go.Proofs
theorem run40 : okTrue (call Tryz.prog (addB [] q8Z) 100000 40 [] ⟨0, .leaf⟩) = true := by kernel_rfl
end Go.Ev
end
section
namespace Go.Ev
open Go.Proofs
theorem run8 : okTrue (call Tryz.prog (addB [40, 41] q8Z) 100000 8 [] ⟨0, .leaf⟩) = true := by kernel_rfl
end Go.Ev
end
