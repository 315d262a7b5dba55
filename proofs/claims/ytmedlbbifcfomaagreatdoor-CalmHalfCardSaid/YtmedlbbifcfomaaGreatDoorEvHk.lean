/- The run of the function 526, which answers true. The run of the function 477, which answers true. The run of the function 395, which answers true. The run of the function 396, which answers true. -/
import Derived.Test.YtmedlbbifcfomaaGreatDoorEvHi
section
namespace Go.Ev
open Go.Proofs
theorem run526 : okTrue (call Tryz.prog (addB [537] q8Z) 100000 526 [] ⟨0, .leaf⟩) = true := by kernel_rfl
end Go.Ev
end
section
namespace Go.Ev
open Go.Proofs
theorem run477 : okTrue (call Tryz.prog (addB [526] q8Z) 100000 477 [] ⟨0, .leaf⟩) = true := by kernel_rfl
end Go.Ev
end
section
namespace Go.Ev
open Go.Proofs
theorem run395 : okTrue (call Tryz.prog (addB [477] q8Z) 100000 395 [] ⟨0, .leaf⟩) = true := by kernel_rfl
end Go.Ev
end
section
namespace Go.Ev
open Go.Proofs
theorem run396 : okTrue (call Tryz.prog (addB [395] q8Z) 100000 396 [] ⟨0, .leaf⟩) = true := by kernel_rfl
end Go.Ev
end
