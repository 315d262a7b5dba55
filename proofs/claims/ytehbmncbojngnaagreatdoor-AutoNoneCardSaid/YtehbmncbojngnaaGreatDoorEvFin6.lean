/- The walk of begun6: the evaluator's run by the kernel, and its soundness. -/
import Derived.Test.YtehbmncbojngnaaGreatDoorEvFin4
namespace Go.Ev
open Go.Proofs
theorem run84 : okTrue (call Tryz.prog (sumsB [154, 119]) 100000 84 [] ⟨0, .leaf⟩) = true := by kernel_rfl
theorem begun84 : SumOK Tryz.prog 84 begunSum := begun_of (l := [154, 119]) (fun f hf => by
  simp at hf
  rcases hf with rfl | rfl
  · exact begun154
  · exact begun119) (by kernel_rfl) run84
end Go.Ev
