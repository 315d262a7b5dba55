/- The walk of the function 544, which answers true: the evaluator's run by the kernel, and its soundness. The walk of the function 538, which answers true: the evaluator's run by the kernel, and its soundness. The walk of the function 529, which answers true: the evaluator's run by the kernel, and its soundness. The walk of the function 480, which answers true: the evaluator's run by the kernel, and its soundness. The walk of the function 541, which answers true: the evaluator's run by the kernel, and its soundness. The walk of the function 537, which answers true: the evaluator's run by the kernel, and its soundness. -/
import Derived.Test.YtmedlbbifcfomaaGreatDoorEvHa
section
namespace Go.Ev
open Go.Proofs
theorem run544 : okTrue (call Tryz.prog (sumsB []) 100000 544 [] ⟨0, .leaf⟩) = true := by kernel_rfl
theorem all544 : ∀ f, f ∈ ([] : List Nat) → SumOK Tryz.prog f begunSum := fun f hf => by cases hf
theorem begun544 : SumOK Tryz.prog 544 begunSum := begun_of (l := []) all544 (by kernel_rfl) run544
end Go.Ev
end
section
namespace Go.Ev
open Go.Proofs
theorem run538 : okTrue (call Tryz.prog (sumsB [544]) 100000 538 [] ⟨0, .leaf⟩) = true := by kernel_rfl
theorem all538 : ∀ f, f ∈ ([544] : List Nat) → SumOK Tryz.prog f begunSum := fun f hf => by
  simp only [List.mem_cons, List.not_mem_nil, or_false] at hf
  subst hf; exact begun544
theorem begun538 : SumOK Tryz.prog 538 begunSum := begun_of (l := [544]) all538 (by kernel_rfl) run538
end Go.Ev
end
section
namespace Go.Ev
open Go.Proofs
theorem run529 : okTrue (call Tryz.prog (sumsB [544, 538]) 100000 529 [] ⟨0, .leaf⟩) = true := by kernel_rfl
theorem all529 : ∀ f, f ∈ ([544, 538] : List Nat) → SumOK Tryz.prog f begunSum := fun f hf => by
  simp only [List.mem_cons, List.not_mem_nil, or_false] at hf
  rcases hf with rfl | rfl
  · exact begun544
  · exact begun538
theorem begun529 : SumOK Tryz.prog 529 begunSum := begun_of (l := [544, 538]) all529 (by kernel_rfl) run529
end Go.Ev
end
section
namespace Go.Ev
open Go.Proofs
theorem run480 : okTrue (call Tryz.prog (sumsB [544, 538, 529]) 100000 480 [] ⟨0, .leaf⟩) = true := by kernel_rfl
theorem all480 : ∀ f, f ∈ ([544, 538, 529] : List Nat) → SumOK Tryz.prog f begunSum := fun f hf => by
  simp only [List.mem_cons, List.not_mem_nil, or_false] at hf
  rcases hf with rfl | rfl | rfl
  · exact begun544
  · exact begun538
  · exact begun529
theorem begun480 : SumOK Tryz.prog 480 begunSum := begun_of (l := [544, 538, 529]) all480 (by kernel_rfl) run480
end Go.Ev
end
section
namespace Go.Ev
open Go.Proofs
theorem run541 : okTrue (call Tryz.prog (sumsB [544, 538, 529, 480]) 100000 541 [] ⟨0, .leaf⟩) = true := by kernel_rfl
theorem all541 : ∀ f, f ∈ ([544, 538, 529, 480] : List Nat) → SumOK Tryz.prog f begunSum := fun f hf => by
  simp only [List.mem_cons, List.not_mem_nil, or_false] at hf
  rcases hf with rfl | rfl | rfl | rfl
  · exact begun544
  · exact begun538
  · exact begun529
  · exact begun480
theorem begun541 : SumOK Tryz.prog 541 begunSum := begun_of (l := [544, 538, 529, 480]) all541 (by kernel_rfl) run541
end Go.Ev
end
section
namespace Go.Ev
open Go.Proofs
theorem run537 : okTrue (call Tryz.prog (sumsB [544, 538, 529, 480, 541]) 100000 537 [] ⟨0, .leaf⟩) = true := by kernel_rfl
theorem all537 : ∀ f, f ∈ ([544, 538, 529, 480, 541] : List Nat) → SumOK Tryz.prog f begunSum := fun f hf => by
  simp only [List.mem_cons, List.not_mem_nil, or_false] at hf
  rcases hf with rfl | rfl | rfl | rfl | rfl
  · exact begun544
  · exact begun538
  · exact begun529
  · exact begun480
  · exact begun541
theorem begun537 : SumOK Tryz.prog 537 begunSum := begun_of (l := [544, 538, 529, 480, 541]) all537 (by kernel_rfl) run537
end Go.Ev
end
