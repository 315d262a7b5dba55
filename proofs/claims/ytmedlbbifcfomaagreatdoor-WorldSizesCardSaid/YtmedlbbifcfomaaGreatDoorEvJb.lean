/- A run that answers true. A run that answers true. A run that answers true. -/
import Derived.Test.YtmedlbbifcfomaaGreatDoorEvHi
section
namespace Go.Ev
open Go.Proofs
theorem size4 : okTrue (call Tryz.prog (addB [22] q8Z) 100000 4 [.int .i64 (.ofNat 4)] ⟨0, .leaf⟩) = true := by kernel_rfl
end Go.Ev
end
section
namespace Go.Ev
open Go.Proofs
theorem size5 : okTrue (call Tryz.prog (addB [22] q8Z) 100000 4 [.int .i64 (.ofNat 5)] ⟨0, .leaf⟩) = true := by kernel_rfl
end Go.Ev
end
section
namespace Go.Ev
open Go.Proofs
theorem size6 : okTrue (call Tryz.prog (addB [22] q8Z) 100000 4 [.int .i64 (.ofNat 6)] ⟨0, .leaf⟩) = true := by kernel_rfl
end Go.Ev
end
