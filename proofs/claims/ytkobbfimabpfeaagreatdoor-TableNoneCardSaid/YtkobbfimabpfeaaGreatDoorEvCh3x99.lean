/- The walk of the function 99, which answers true: the evaluator's run by the kernel, and its soundness. -/
import Derived.Test.YtkobbfimabpfeaaGreatDoorEvCh3x110
namespace Go.Ev
open Go.Proofs
theorem run99 : okTrue (call Tryz.prog (sumsB [172, 138, 110]) 100000 99 [] ⟨0, .leaf⟩) = true := by kernel_rfl
theorem all99 : ∀ f, f ∈ ([172, 138, 110] : List Nat) → SumOK Tryz.prog f begunSum := fun f hf => by
  simp only [List.mem_cons, List.not_mem_nil, or_false] at hf
  rcases hf with rfl | rfl | rfl
  · exact begun172
  · exact begun138
  · exact begun110
theorem begun99 : SumOK Tryz.prog 99 begunSum := begun_of (l := [172, 138, 110]) all99 (by kernel_rfl) run99
end Go.Ev
