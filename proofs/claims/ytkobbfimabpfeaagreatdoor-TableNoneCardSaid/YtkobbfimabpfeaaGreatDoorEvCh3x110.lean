/- The walk of the function 110, which answers true: the evaluator's run by the kernel, and its soundness. -/
import Derived.Test.YtkobbfimabpfeaaGreatDoorEvCh3x138
namespace Go.Ev
open Go.Proofs
theorem run110 : okTrue (call Tryz.prog (sumsB [172, 138]) 100000 110 [] ⟨0, .leaf⟩) = true := by kernel_rfl
theorem all110 : ∀ f, f ∈ ([172, 138] : List Nat) → SumOK Tryz.prog f begunSum := fun f hf => by
  simp only [List.mem_cons, List.not_mem_nil, or_false] at hf
  rcases hf with rfl | rfl
  · exact begun172
  · exact begun138
theorem begun110 : SumOK Tryz.prog 110 begunSum := begun_of (l := [172, 138]) all110 (by kernel_rfl) run110
end Go.Ev
