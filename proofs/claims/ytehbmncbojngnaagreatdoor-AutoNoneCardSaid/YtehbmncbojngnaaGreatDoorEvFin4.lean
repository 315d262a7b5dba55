/- The walk of begun4 and begun5: the evaluator's run by the kernel, and its soundness. -/
import Derived.Test.YtehbmncbojngnaaGreatDoorEvFin0
namespace Go.Ev
open Go.Proofs
theorem run154 : okTrue (call Tryz.prog (sumsB []) 100000 154 [] ⟨0, .leaf⟩) = true := by kernel_rfl
theorem begun154 : SumOK Tryz.prog 154 begunSum := begun_of (fun f hf => by cases hf) (by kernel_rfl) run154
theorem run119 : okTrue (call Tryz.prog (sumsB [154]) 100000 119 [] ⟨0, .leaf⟩) = true := by kernel_rfl
theorem begun119 : SumOK Tryz.prog 119 begunSum := begun_of (l := [154]) (fun f hf => by simp at hf; subst hf; exact begun154) (by kernel_rfl) run119
end Go.Ev
