/- A run that answers true. A run that answers true. -/
import Derived.Test.YtmedlbbifcfomaaGreatDoorEvHi
section
namespace Go.Ev
open Go.Proofs
theorem size7 : okTrue (call Tryz.prog (addB [22] q8Z) 100000 4 [.int .i64 (.ofNat 7)] ⟨0, .leaf⟩) = true := by kernel_rfl
end Go.Ev
end
section
namespace Go.Ev
open Go.Proofs
theorem sizeHi : (fun k : Nat => okTrue (call Tryz.prog (addB [22] q8Z) 100000 4 [.int .i64 (.ofNat (k + 8))] ⟨0, .leaf⟩)) = fun _ => true := by kernel_rfl
end Go.Ev
end
