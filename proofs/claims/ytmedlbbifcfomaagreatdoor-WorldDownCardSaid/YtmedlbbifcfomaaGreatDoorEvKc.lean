/- A run that answers true. A run that answers true. A run that answers true. A run that answers true. A run that answers true. A run that answers true. A run that answers true. -/
import Derived.Test.YtmedlbbifcfomaaGreatDoorEvHi
section
namespace Go.Ev
open Go.Proofs
theorem down0 : (fun n : Int => okTrue (call Tryz.prog (addB [22] q8Z) 100000 5 [.int .i64 (.ofNat 0), .int .i64 n] ⟨0, .leaf⟩)) = fun _ => true := by kernel_rfl
end Go.Ev
end
section
namespace Go.Ev
open Go.Proofs
theorem down4 : (fun n : Int => okTrue (call Tryz.prog (addB [22] q8Z) 100000 5 [.int .i64 (.ofNat 4), .int .i64 n] ⟨0, .leaf⟩)) = fun _ => true := by kernel_rfl
end Go.Ev
end
section
namespace Go.Ev
open Go.Proofs
theorem down5 : (fun n : Int => okTrue (call Tryz.prog (addB [22] q8Z) 100000 5 [.int .i64 (.ofNat 5), .int .i64 n] ⟨0, .leaf⟩)) = fun _ => true := by kernel_rfl
end Go.Ev
end
section
namespace Go.Ev
open Go.Proofs
theorem down6 : (fun n : Int => okTrue (call Tryz.prog (addB [22] q8Z) 100000 5 [.int .i64 (.ofNat 6), .int .i64 n] ⟨0, .leaf⟩)) = fun _ => true := by kernel_rfl
end Go.Ev
end
section
namespace Go.Ev
open Go.Proofs
theorem down7 : (fun n : Int => okTrue (call Tryz.prog (addB [22] q8Z) 100000 5 [.int .i64 (.ofNat 7), .int .i64 n] ⟨0, .leaf⟩)) = fun _ => true := by kernel_rfl
end Go.Ev
end
section
namespace Go.Ev
open Go.Proofs
theorem downHi : (fun (k : Nat) (n : Int) => okTrue (call Tryz.prog (addB [22] q8Z) 100000 5 [.int .i64 (.ofNat (k + 8)), .int .i64 n] ⟨0, .leaf⟩)) = fun _ _ => true := by kernel_rfl
end Go.Ev
end
section
namespace Go.Ev
open Go.Proofs
theorem downNeg : (fun (k : Nat) (n : Int) => okTrue (call Tryz.prog (addB [22] q8Z) 100000 5 [.int .i64 (.negSucc k), .int .i64 n] ⟨0, .leaf⟩)) = fun _ _ => true := by kernel_rfl
end Go.Ev
end
