/- The walk of the function 138, which answers true: the evaluator's run by the kernel, and its soundness. -/
import Derived.Test.YtkobbfimabpfeaaGreatDoorEvCh3x172
namespace Go.Ev
open Go.Proofs
theorem run138 : okTrue (call Tryz.prog (sumsB [172]) 100000 138 [] ⟨0, .leaf⟩) = true := by kernel_rfl
theorem all138 : ∀ f, f ∈ ([172] : List Nat) → SumOK Tryz.prog f begunSum := fun f hf => by
  simp only [List.mem_cons, List.not_mem_nil, or_false] at hf
  subst hf; exact begun172
theorem begun138 : SumOK Tryz.prog 138 begunSum := begun_of (l := [172]) all138 (by kernel_rfl) run138
end Go.Ev
