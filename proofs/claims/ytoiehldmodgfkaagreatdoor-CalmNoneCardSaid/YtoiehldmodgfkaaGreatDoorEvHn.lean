/- The run of the function 5, which answers true. Those functions that answer true, one out of the other. The walk of CalmNone: the evaluator's run by the kernel, and its soundness. -/
import Derived.Test.YtoiehldmodgfkaaGreatDoorEvHf
import Derived.Test.YtoiehldmodgfkaaGreatDoorEvHm
import Derived.Test.YtoiehldmodgfkaaGreatDoorEvHl
import Derived.Below
section
namespace Go.Ev
open Go.Proofs
theorem run5 : okTrue (call Tryz.prog (addB [29] q6Z) 100000 5 [] ⟨0, .leaf⟩) = true := by kernel_rfl
end Go.Ev
end
section
namespace Go.Ev
open Go.Proofs
theorem all29 : ∀ f, f ∈ ([67] : List Nat) → SumOK Tryz.prog f begunSum := fun f hf => by
  simp only [List.mem_cons, List.not_mem_nil, or_false] at hf
  subst hf; exact begun67
theorem begun29 : SumOK Tryz.prog 29 begunSum := by
  obtain ⟨m1, e⟩ := okTrue_inv run29
  exact begunSum_ok mixed (addB_ok all29 q6Z_ok) (by kernel_rfl) e
theorem all5 : ∀ f, f ∈ ([29] : List Nat) → SumOK Tryz.prog f begunSum := fun f hf => by
  simp only [List.mem_cons, List.not_mem_nil, or_false] at hf
  subst hf; exact begun29
theorem begun5 : SumOK Tryz.prog 5 begunSum := by
  obtain ⟨m1, e⟩ := okTrue_inv run5
  exact begunSum_ok mixed (addB_ok all5 q6Z_ok) (by kernel_rfl) e
end Go.Ev
end
section
namespace Go.Ev
open Go.Proofs
theorem none5 (w : World) : Calls Tryz.prog 5 #[] w fun e w' => e = .returned (.bool true) ∧ RowKit.Below w.heap.size w w' := by
  obtain ⟨m1, e⟩ := okTrue_inv run5
  refine (run_closed mixed (addB_ok all5 q6Z_ok) (by kernel_rfl) e w).mono fun e w' ⟨he, ρ, s⟩ => ⟨he, s.os, s.tape, s.output, s.size, fun k hk => s.keeps k hk fun b x L h => by cases h⟩
end Go.Ev
end
