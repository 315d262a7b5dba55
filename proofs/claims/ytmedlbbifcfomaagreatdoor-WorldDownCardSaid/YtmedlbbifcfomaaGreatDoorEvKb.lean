/- A run that answers true. A run that answers true. A run that answers true. -/
import Derived.Test.YtmedlbbifcfomaaGreatDoorEvHi
section
namespace Go.Ev
open Go.Proofs
theorem down2n : (fun k : Nat => okTrue (call Tryz.prog (addB [22] q8Z) 100000 5 [.int .i64 (.ofNat 2), .int .i64 (.negSucc k)] ⟨0, .leaf⟩)) = fun _ => true := by kernel_rfl
end Go.Ev
end
section
namespace Go.Ev
open Go.Proofs
theorem down3p : (fun k : Nat => okTrue (call Tryz.prog (addB [22] q8Z) 100000 5 [.int .i64 (.ofNat 3), .int .i64 (.ofNat k)] ⟨0, .leaf⟩)) = fun _ => true := by kernel_rfl
end Go.Ev
end
section
namespace Go.Ev
open Go.Proofs
theorem down3n : (fun k : Nat => okTrue (call Tryz.prog (addB [22] q8Z) 100000 5 [.int .i64 (.ofNat 3), .int .i64 (.negSucc k)] ⟨0, .leaf⟩)) = fun _ => true := by kernel_rfl
end Go.Ev
end
