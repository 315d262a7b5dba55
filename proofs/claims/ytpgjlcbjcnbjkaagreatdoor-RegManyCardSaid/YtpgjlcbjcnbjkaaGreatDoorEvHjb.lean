/- The run of RegMany at 28. The run of RegMany at 29. The run of RegMany at 30. -/
import Derived.Test.YtpgjlcbjcnbjkaaGreatDoorEvGm5
section
namespace Go.Ev
open Go.Proofs
theorem many28 : okTrue (call Tryz.prog (addB [22] q5Y) 100000 6 [.int .i64 (.ofNat 28)] ⟨0, .leaf⟩) = true := by kernel_rfl
end Go.Ev
end
section
namespace Go.Ev
open Go.Proofs
theorem many29 : okTrue (call Tryz.prog (addB [22] q5Y) 100000 6 [.int .i64 (.ofNat 29)] ⟨0, .leaf⟩) = true := by kernel_rfl
end Go.Ev
end
section
namespace Go.Ev
open Go.Proofs
theorem many30 : okTrue (call Tryz.prog (addB [22] q5Y) 100000 6 [.int .i64 (.ofNat 30)] ⟨0, .leaf⟩) = true := by kernel_rfl
end Go.Ev
end
