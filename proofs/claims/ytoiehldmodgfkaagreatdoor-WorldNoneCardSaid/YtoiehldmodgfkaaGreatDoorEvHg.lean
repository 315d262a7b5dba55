/- The walk of the function 542, which answers true: the evaluator's run by the kernel, and its soundness. The walk of the function 536, which answers true: the evaluator's run by the kernel, and its soundness. The walk of the function 527, which answers true: the evaluator's run by the kernel, and its soundness. The walk of the function 479, which answers true: the evaluator's run by the kernel, and its soundness. The walk of the function 539, which answers true: the evaluator's run by the kernel, and its soundness. The walk of the function 535, which answers true: the evaluator's run by the kernel, and its soundness. -/
import Derived.Test.YtoiehldmodgfkaaGreatDoorEvHa
section
namespace Go.Ev
open Go.Proofs
theorem run542 : okTrue (call Tryz.prog (sumsB []) 100000 542 [] ⟨0, .leaf⟩) = true := by kernel_rfl
theorem all542 : ∀ f, f ∈ ([] : List Nat) → SumOK Tryz.prog f begunSum := fun f hf => by cases hf
theorem begun542 : SumOK Tryz.prog 542 begunSum := begun_of (l := []) all542 (by kernel_rfl) run542
end Go.Ev
end
section
namespace Go.Ev
open Go.Proofs
theorem run536 : okTrue (call Tryz.prog (sumsB [542]) 100000 536 [] ⟨0, .leaf⟩) = true := by kernel_rfl
theorem all536 : ∀ f, f ∈ ([542] : List Nat) → SumOK Tryz.prog f begunSum := fun f hf => by
  simp only [List.mem_cons, List.not_mem_nil, or_false] at hf
  subst hf; exact begun542
theorem begun536 : SumOK Tryz.prog 536 begunSum := begun_of (l := [542]) all536 (by kernel_rfl) run536
end Go.Ev
end
section
namespace Go.Ev
open Go.Proofs
theorem run527 : okTrue (call Tryz.prog (sumsB [542, 536]) 100000 527 [] ⟨0, .leaf⟩) = true := by kernel_rfl
theorem all527 : ∀ f, f ∈ ([542, 536] : List Nat) → SumOK Tryz.prog f begunSum := fun f hf => by
  simp only [List.mem_cons, List.not_mem_nil, or_false] at hf
  rcases hf with rfl | rfl
  · exact begun542
  · exact begun536
theorem begun527 : SumOK Tryz.prog 527 begunSum := begun_of (l := [542, 536]) all527 (by kernel_rfl) run527
end Go.Ev
end
section
namespace Go.Ev
open Go.Proofs
theorem run479 : okTrue (call Tryz.prog (sumsB [542, 536, 527]) 100000 479 [] ⟨0, .leaf⟩) = true := by kernel_rfl
theorem all479 : ∀ f, f ∈ ([542, 536, 527] : List Nat) → SumOK Tryz.prog f begunSum := fun f hf => by
  simp only [List.mem_cons, List.not_mem_nil, or_false] at hf
  rcases hf with rfl | rfl | rfl
  · exact begun542
  · exact begun536
  · exact begun527
theorem begun479 : SumOK Tryz.prog 479 begunSum := begun_of (l := [542, 536, 527]) all479 (by kernel_rfl) run479
end Go.Ev
end
section
namespace Go.Ev
open Go.Proofs
theorem run539 : okTrue (call Tryz.prog (sumsB [542, 536, 527, 479]) 100000 539 [] ⟨0, .leaf⟩) = true := by kernel_rfl
theorem all539 : ∀ f, f ∈ ([542, 536, 527, 479] : List Nat) → SumOK Tryz.prog f begunSum := fun f hf => by
  simp only [List.mem_cons, List.not_mem_nil, or_false] at hf
  rcases hf with rfl | rfl | rfl | rfl
  · exact begun542
  · exact begun536
  · exact begun527
  · exact begun479
theorem begun539 : SumOK Tryz.prog 539 begunSum := begun_of (l := [542, 536, 527, 479]) all539 (by kernel_rfl) run539
end Go.Ev
end
section
namespace Go.Ev
open Go.Proofs
theorem run535 : okTrue (call Tryz.prog (sumsB [542, 536, 527, 479, 539]) 100000 535 [] ⟨0, .leaf⟩) = true := by kernel_rfl
theorem all535 : ∀ f, f ∈ ([542, 536, 527, 479, 539] : List Nat) → SumOK Tryz.prog f begunSum := fun f hf => by
  simp only [List.mem_cons, List.not_mem_nil, or_false] at hf
  rcases hf with rfl | rfl | rfl | rfl | rfl
  · exact begun542
  · exact begun536
  · exact begun527
  · exact begun479
  · exact begun539
theorem begun535 : SumOK Tryz.prog 535 begunSum := begun_of (l := [542, 536, 527, 479, 539]) all535 (by kernel_rfl) run535
end Go.Ev
end
