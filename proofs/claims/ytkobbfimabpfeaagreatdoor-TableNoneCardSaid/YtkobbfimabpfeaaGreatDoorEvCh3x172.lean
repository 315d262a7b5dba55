/- The walk of the function 172, which answers true: the evaluator's run by the kernel, and its soundness. -/
import Derived.Test.YtkobbfimabpfeaaGreatDoorEvFin03
namespace Go.Ev
open Go.Proofs
theorem run172 : okTrue (call Tryz.prog (sumsB []) 100000 172 [] ⟨0, .leaf⟩) = true := by kernel_rfl
theorem all172 : ∀ f, f ∈ ([] : List Nat) → SumOK Tryz.prog f begunSum := fun f hf => by cases hf
theorem begun172 : SumOK Tryz.prog 172 begunSum := begun_of (l := []) all172 (by kernel_rfl) run172
end Go.Ev
