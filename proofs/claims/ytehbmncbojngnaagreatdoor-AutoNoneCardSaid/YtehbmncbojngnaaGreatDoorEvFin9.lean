/- The walk of begun9 and AutoNone: the evaluator's run by the kernel, and its soundness. -/
import Derived.Test.YtehbmncbojngnaaGreatDoorEvFin8
namespace Go.Ev
open Go.Proofs
theorem run5 : okTrue (call Tryz.prog (sumsB [154, 119, 84, 50, 19]) 100000 5 [] ⟨0, .leaf⟩) = true := by kernel_rfl

/-- What is left of a world, all that was there before: nothing of it has turned. -/
theorem none5 (w : World) : Calls Tryz.prog 5 #[] w fun e w' => e = .returned (.bool true) ∧ RowKit.Below w.heap.size w w' := by
  obtain ⟨m1, e⟩ := okTrue_inv run5
  refine (run_closed mixed (sumsB_ok (l := [154, 119, 84, 50, 19]) fun f hf => by
    simp at hf
    rcases hf with rfl | rfl | rfl | rfl | rfl
    · exact begun154
    · exact begun119
    · exact begun84
    · exact begun50
    · exact begun19) (by kernel_rfl) e w).mono fun e w' ⟨he, ρ, s⟩ => ⟨he, s.os, s.tape, s.output, s.size, fun k hk => s.keeps k hk fun b x L h => by cases h⟩
end Go.Ev
