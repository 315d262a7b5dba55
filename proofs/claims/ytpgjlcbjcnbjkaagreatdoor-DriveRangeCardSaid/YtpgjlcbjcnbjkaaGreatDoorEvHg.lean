/- The walk of the function 344, which answers true: the evaluator's run by the kernel, and its soundness. The walk of the function 312, which answers true: the evaluator's run by the kernel, and its soundness. The walk of the function 243, which answers true: the evaluator's run by the kernel, and its soundness. The walk of the function 163, which answers true: the evaluator's run by the kernel, and its soundness. The walk of the function 309, which answers true: the evaluator's run by the kernel, and its soundness. The walk of the function 242, which answers true: the evaluator's run by the kernel, and its soundness. -/
import Derived.Test.YtpgjlcbjcnbjkaaGreatDoorEvHa
section
namespace Go.Ev
open Go.Proofs
theorem run344 : okTrue (call Tryz.prog (sumsB []) 100000 344 [] ⟨0, .leaf⟩) = true := by kernel_rfl
theorem all344 : ∀ f, f ∈ ([] : List Nat) → SumOK Tryz.prog f begunSum := fun f hf => by cases hf
theorem begun344 : SumOK Tryz.prog 344 begunSum := begun_of (l := []) all344 (by kernel_rfl) run344
end Go.Ev
end
section
namespace Go.Ev
open Go.Proofs
theorem run312 : okTrue (call Tryz.prog (sumsB [344]) 100000 312 [] ⟨0, .leaf⟩) = true := by kernel_rfl
theorem all312 : ∀ f, f ∈ ([344] : List Nat) → SumOK Tryz.prog f begunSum := fun f hf => by
  simp only [List.mem_cons, List.not_mem_nil, or_false] at hf
  subst hf; exact begun344
theorem begun312 : SumOK Tryz.prog 312 begunSum := begun_of (l := [344]) all312 (by kernel_rfl) run312
end Go.Ev
end
section
namespace Go.Ev
open Go.Proofs
theorem run243 : okTrue (call Tryz.prog (sumsB [344, 312]) 100000 243 [] ⟨0, .leaf⟩) = true := by kernel_rfl
theorem all243 : ∀ f, f ∈ ([344, 312] : List Nat) → SumOK Tryz.prog f begunSum := fun f hf => by
  simp only [List.mem_cons, List.not_mem_nil, or_false] at hf
  rcases hf with rfl | rfl
  · exact begun344
  · exact begun312
theorem begun243 : SumOK Tryz.prog 243 begunSum := begun_of (l := [344, 312]) all243 (by kernel_rfl) run243
end Go.Ev
end
section
namespace Go.Ev
open Go.Proofs
theorem run163 : okTrue (call Tryz.prog (sumsB [344, 312, 243]) 100000 163 [] ⟨0, .leaf⟩) = true := by kernel_rfl
theorem all163 : ∀ f, f ∈ ([344, 312, 243] : List Nat) → SumOK Tryz.prog f begunSum := fun f hf => by
  simp only [List.mem_cons, List.not_mem_nil, or_false] at hf
  rcases hf with rfl | rfl | rfl
  · exact begun344
  · exact begun312
  · exact begun243
theorem begun163 : SumOK Tryz.prog 163 begunSum := begun_of (l := [344, 312, 243]) all163 (by kernel_rfl) run163
end Go.Ev
end
section
namespace Go.Ev
open Go.Proofs
theorem run309 : okTrue (call Tryz.prog (sumsB [344, 312, 243, 163]) 100000 309 [] ⟨0, .leaf⟩) = true := by kernel_rfl
theorem all309 : ∀ f, f ∈ ([344, 312, 243, 163] : List Nat) → SumOK Tryz.prog f begunSum := fun f hf => by
  simp only [List.mem_cons, List.not_mem_nil, or_false] at hf
  rcases hf with rfl | rfl | rfl | rfl
  · exact begun344
  · exact begun312
  · exact begun243
  · exact begun163
theorem begun309 : SumOK Tryz.prog 309 begunSum := begun_of (l := [344, 312, 243, 163]) all309 (by kernel_rfl) run309
end Go.Ev
end
section
namespace Go.Ev
open Go.Proofs
theorem run242 : okTrue (call Tryz.prog (sumsB [344, 312, 243, 163, 309]) 100000 242 [] ⟨0, .leaf⟩) = true := by kernel_rfl
theorem all242 : ∀ f, f ∈ ([344, 312, 243, 163, 309] : List Nat) → SumOK Tryz.prog f begunSum := fun f hf => by
  simp only [List.mem_cons, List.not_mem_nil, or_false] at hf
  rcases hf with rfl | rfl | rfl | rfl | rfl
  · exact begun344
  · exact begun312
  · exact begun243
  · exact begun163
  · exact begun309
theorem begun242 : SumOK Tryz.prog 242 begunSum := begun_of (l := [344, 312, 243, 163, 309]) all242 (by kernel_rfl) run242
end Go.Ev
end
