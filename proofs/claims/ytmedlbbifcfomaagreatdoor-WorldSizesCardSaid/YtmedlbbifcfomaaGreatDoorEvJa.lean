/- A run that answers true. A run that answers true. A run that answers true. A run that answers true. A run that answers true. -/
import Derived.Test.YtmedlbbifcfomaaGreatDoorEvHi
section
namespace Go.Ev
open Go.Proofs
theorem size0 : okTrue (call Tryz.prog (addB [22] q8Z) 100000 4 [.int .i64 (.ofNat 0)] ⟨0, .leaf⟩) = true := by kernel_rfl
end Go.Ev
end
section
namespace Go.Ev
open Go.Proofs
theorem size1 : okTrue (call Tryz.prog (addB [22] q8Z) 100000 4 [.int .i64 (.ofNat 1)] ⟨0, .leaf⟩) = true := by kernel_rfl
end Go.Ev
end
section
namespace Go.Ev
open Go.Proofs
theorem size2 : okTrue (call Tryz.prog (addB [22] q8Z) 100000 4 [.int .i64 (.ofNat 2)] ⟨0, .leaf⟩) = true := by kernel_rfl
end Go.Ev
end
section
namespace Go.Ev
open Go.Proofs
theorem size3 : okTrue (call Tryz.prog (addB [22] q8Z) 100000 4 [.int .i64 (.ofNat 3)] ⟨0, .leaf⟩) = true := by kernel_rfl
end Go.Ev
end
section
namespace Go.Ev
open Go.Proofs
theorem sizeNeg : (fun k : Nat => okTrue (call Tryz.prog (addB [22] q8Z) 100000 4 [.int .i64 (.negSucc k)] ⟨0, .leaf⟩)) = fun _ => true := by kernel_rfl
end Go.Ev
end
