/- The run of the function 21, which answers true. The run of the function 67, which answers true. The run of the function 4, which answers true. Those functions that answer true, one out of the other. The walk of WorldNone: the evaluator's run by the kernel, and its soundness. -/
import Derived.Test.YtoiehldmodgfkaaGreatDoorEvHf
import Derived.Test.YtoiehldmodgfkaaGreatDoorEvHk
import Derived.Below
section
namespace Go.Ev
open Go.Proofs
theorem run21 : okTrue (call Tryz.prog (addB [64] q6Z) 100000 21 [] ⟨0, .leaf⟩) = true := by kernel_rfl
end Go.Ev
end
section
namespace Go.Ev
open Go.Proofs
theorem run67 : okTrue (call Tryz.prog (addB [21] q6Z) 100000 67 [] ⟨0, .leaf⟩) = true := by kernel_rfl
end Go.Ev
end
section
namespace Go.Ev
open Go.Proofs
theorem run4 : okTrue (call Tryz.prog (addB [21] q6Z) 100000 4 [] ⟨0, .leaf⟩) = true := by kernel_rfl
end Go.Ev
end
section
namespace Go.Ev
open Go.Proofs
theorem all21 : ∀ f, f ∈ ([64] : List Nat) → SumOK Tryz.prog f begunSum := fun f hf => by
  simp only [List.mem_cons, List.not_mem_nil, or_false] at hf
  subst hf; exact begun64
theorem begun21 : SumOK Tryz.prog 21 begunSum := by
  obtain ⟨m1, e⟩ := okTrue_inv run21
  exact begunSum_ok mixed (addB_ok all21 q6Z_ok) (by kernel_rfl) e
theorem all67 : ∀ f, f ∈ ([21] : List Nat) → SumOK Tryz.prog f begunSum := fun f hf => by
  simp only [List.mem_cons, List.not_mem_nil, or_false] at hf
  subst hf; exact begun21
theorem begun67 : SumOK Tryz.prog 67 begunSum := by
  obtain ⟨m1, e⟩ := okTrue_inv run67
  exact begunSum_ok mixed (addB_ok all67 q6Z_ok) (by kernel_rfl) e
theorem all4 : ∀ f, f ∈ ([21] : List Nat) → SumOK Tryz.prog f begunSum := fun f hf => by
  simp only [List.mem_cons, List.not_mem_nil, or_false] at hf
  subst hf; exact begun21
theorem begun4 : SumOK Tryz.prog 4 begunSum := by
  obtain ⟨m1, e⟩ := okTrue_inv run4
  exact begunSum_ok mixed (addB_ok all4 q6Z_ok) (by kernel_rfl) e
end Go.Ev
end
section
namespace Go.Ev
open Go.Proofs
theorem none4 (w : World) : Calls Tryz.prog 4 #[] w fun e w' => e = .returned (.bool true) ∧ RowKit.Below w.heap.size w w' := by
  obtain ⟨m1, e⟩ := okTrue_inv run4
  refine (run_closed mixed (addB_ok all4 q6Z_ok) (by kernel_rfl) e w).mono fun e w' ⟨he, ρ, s⟩ => ⟨he, s.os, s.tape, s.output, s.size, fun k hk => s.keeps k hk fun b x L h => by cases h⟩
end Go.Ev
end
