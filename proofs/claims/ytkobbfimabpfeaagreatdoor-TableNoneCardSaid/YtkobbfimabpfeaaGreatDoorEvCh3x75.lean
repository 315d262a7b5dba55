/- The walk of the function 75, which answers true: the evaluator's run by the kernel, and its soundness. -/
import Derived.Test.YtkobbfimabpfeaaGreatDoorEvCh3x99
namespace Go.Ev
open Go.Proofs
theorem run75 : okTrue (call Tryz.prog (sumsB [172, 138, 110, 99]) 100000 75 [] ⟨0, .leaf⟩) = true := by kernel_rfl
theorem all75 : ∀ f, f ∈ ([172, 138, 110, 99] : List Nat) → SumOK Tryz.prog f begunSum := fun f hf => by
  simp only [List.mem_cons, List.not_mem_nil, or_false] at hf
  rcases hf with rfl | rfl | rfl | rfl
  · exact begun172
  · exact begun138
  · exact begun110
  · exact begun99
theorem begun75 : SumOK Tryz.prog 75 begunSum := begun_of (l := [172, 138, 110, 99]) all75 (by kernel_rfl) run75
end Go.Ev
