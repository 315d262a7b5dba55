/- The run of RegMany at 31. The run of RegMany at 32. The run of RegMany at 33. -/
import Derived.Test.YtpgjlcbjcnbjkaaGreatDoorEvGm5
section
namespace Go.Ev
open Go.Proofs
theorem many31 : okTrue (call Tryz.prog (addB [22] q5Y) 100000 6 [.int .i64 (.ofNat 31)] ⟨0, .leaf⟩) = true := by kernel_rfl
end Go.Ev
end
section
namespace Go.Ev
open Go.Proofs
theorem many32 : okTrue (call Tryz.prog (addB [22] q5Y) 100000 6 [.int .i64 (.ofNat 32)] ⟨0, .leaf⟩) = true := by kernel_rfl
end Go.Ev
end
section
namespace Go.Ev
open Go.Proofs
theorem many33 : okTrue (call Tryz.prog (addB [22] q5Y) 100000 6 [.int .i64 (.ofNat 33)] ⟨0, .leaf⟩) = true := by kernel_rfl
end Go.Ev
end
