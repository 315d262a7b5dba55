/- The walk of begun7: the evaluator's run by the kernel, and its soundness. -/
import Derived.Test.YtehbmncbojngnaaGreatDoorEvFin6
namespace Go.Ev
open Go.Proofs
theorem run50 : okTrue (call Tryz.prog (sumsB [154, 119, 84]) 100000 50 [] ⟨0, .leaf⟩) = true := by kernel_rfl
theorem begun50 : SumOK Tryz.prog 50 begunSum := begun_of (l := [154, 119, 84]) (fun f hf => by
  simp at hf
  rcases hf with rfl | rfl | rfl
  · exact begun154
  · exact begun119
  · exact begun84) (by kernel_rfl) run50
end Go.Ev
