/- The walk of begun8: the evaluator's run by the kernel, and its soundness. -/
import Derived.Test.YtehbmncbojngnaaGreatDoorEvFin7
namespace Go.Ev
open Go.Proofs
theorem run19 : okTrue (call Tryz.prog (sumsB [154, 119, 84, 50]) 100000 19 [] ⟨0, .leaf⟩) = true := by kernel_rfl
theorem begun19 : SumOK Tryz.prog 19 begunSum := begun_of (l := [154, 119, 84, 50]) (fun f hf => by
  simp at hf
  rcases hf with rfl | rfl | rfl | rfl
  · exact begun154
  · exact begun119
  · exact begun84
  · exact begun50) (by kernel_rfl) run19
end Go.Ev
