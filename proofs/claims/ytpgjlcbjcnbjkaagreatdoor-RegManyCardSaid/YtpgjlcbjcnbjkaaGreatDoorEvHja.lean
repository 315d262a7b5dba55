/- The run of RegMany at 25. The run of RegMany at 26. The run of RegMany at 27. -/
import Derived.Test.YtpgjlcbjcnbjkaaGreatDoorEvGm5
section
namespace Go.Ev
open Go.Proofs
theorem many25 : okTrue (call Tryz.prog (addB [22] q5Y) 100000 6 [.int .i64 (.ofNat 25)] ⟨0, .leaf⟩) = true := by kernel_rfl
end Go.Ev
end
section
namespace Go.Ev
open Go.Proofs
theorem many26 : okTrue (call Tryz.prog (addB [22] q5Y) 100000 6 [.int .i64 (.ofNat 26)] ⟨0, .leaf⟩) = true := by kernel_rfl
end Go.Ev
end
section
namespace Go.Ev
open Go.Proofs
theorem many27 : okTrue (call Tryz.prog (addB [22] q5Y) 100000 6 [.int .i64 (.ofNat 27)] ⟨0, .leaf⟩) = true := by kernel_rfl
end Go.Ev
end
