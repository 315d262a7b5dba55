/- The walk of the function 20, which answers true: the evaluator's run by the kernel, and its soundness. -/
import Derived.Test.YtkobbfimabpfeaaGreatDoorEvCh3x75
namespace Go.Ev
open Go.Proofs
theorem run20 : okTrue (call Tryz.prog (sumsB [172, 138, 110, 99, 75]) 100000 20 [] ⟨0, .leaf⟩) = true := by kernel_rfl
theorem all20 : ∀ f, f ∈ ([172, 138, 110, 99, 75] : List Nat) → SumOK Tryz.prog f begunSum := fun f hf => by
  simp only [List.mem_cons, List.not_mem_nil, or_false] at hf
  rcases hf with rfl | rfl | rfl | rfl | rfl
  · exact begun172
  · exact begun138
  · exact begun110
  · exact begun99
  · exact begun75
theorem begun20 : SumOK Tryz.prog 20 begunSum := begun_of (l := [172, 138, 110, 99, 75]) all20 (by kernel_rfl) run20
end Go.Ev
