/- The walk of RegNone: the evaluator's run by the kernel, and its soundness. -/
import Derived.Test.YtpgjlcbjcnbjkaaGreatDoorEvHh
namespace Go.Ev
open Go.Proofs
theorem run7 : okTrue (call Tryz.prog (addB [22] q5Z) 100000 7 [] ⟨0, .leaf⟩) = true := by kernel_rfl
theorem allRegNone : ∀ f, f ∈ ([22] : List Nat) → SumOK Tryz.prog f begunSum := fun f hf => by
  simp only [List.mem_cons, List.not_mem_nil, or_false] at hf
  subst hf; exact begun22
theorem none7 (w : World) : Calls Tryz.prog 7 #[] w fun e w' => e = .returned (.bool true) ∧ RowKit.Below w.heap.size w w' := by
  obtain ⟨m1, e⟩ := okTrue_inv run7
  refine (run_closed mixed (addB_ok allRegNone q5Z_ok) (by kernel_rfl) e w).mono fun e w' ⟨he, ρ, s⟩ => ⟨he, s.os, s.tape, s.output, s.size, fun k hk => s.keeps k hk fun b x L h => by cases h⟩
end Go.Ev
