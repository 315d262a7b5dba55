/- The run of the function 280, which answers true. The run of the function 167, which answers true. The run of the function 51, which answers true. The run of the function 50, which answers true. The run of the function 64, which answers true. The run of the function 3, which answers true. -/
import Derived.Test.YtoiehldmodgfkaaGreatDoorEvHf
section
namespace Go.Ev
open Go.Proofs
theorem run280 : okTrue (call Tryz.prog (addB [409, 408, 476] q6Z) 100000 280 [] ⟨0, .leaf⟩) = true := by kernel_rfl
end Go.Ev
end
section
namespace Go.Ev
open Go.Proofs
theorem run167 : okTrue (call Tryz.prog (addB [280] q6Z) 100000 167 [] ⟨0, .leaf⟩) = true := by kernel_rfl
end Go.Ev
end
section
namespace Go.Ev
open Go.Proofs
theorem run51 : okTrue (call Tryz.prog (addB [167] q6Z) 100000 51 [] ⟨0, .leaf⟩) = true := by kernel_rfl
end Go.Ev
end
section
namespace Go.Ev
open Go.Proofs
theorem run50 : okTrue (call Tryz.prog (addB [] q6Z) 100000 50 [] ⟨0, .leaf⟩) = true := by kernel_rfl
end Go.Ev
end
section
namespace Go.Ev
open Go.Proofs
theorem run64 : okTrue (call Tryz.prog (addB [8] q6Z) 100000 64 [] ⟨0, .leaf⟩) = true := by kernel_rfl
end Go.Ev
end
section
namespace Go.Ev
open Go.Proofs
theorem run3 : okTrue (call Tryz.prog (addB [8] q6Z) 100000 3 [] ⟨0, .leaf⟩) = true := by kernel_rfl
end Go.Ev
end
