/- The walk of TableNone: the evaluator's run by the kernel, and its soundness. -/
import Derived.Test.YtkobbfimabpfeaaGreatDoorEvLook3
namespace Go.Ev
open Go.Proofs
theorem run43 : okTrue (call Tryz.prog (sumsB [6]) 100000 43 [] ⟨0, .leaf⟩) = true := by kernel_rfl
theorem begun43 : SumOK Tryz.prog 43 begunSum := begun_of (l := [6]) (fun f hf => by simp only [List.mem_cons, List.not_mem_nil, or_false] at hf; subst hf; exact begun6) (by kernel_rfl) run43
theorem run13 : okTrue (call Tryz.prog (sums3L [43]) 100000 13 [] ⟨0, .leaf⟩) = true := by kernel_rfl
theorem begun13 : SumOK Tryz.prog 13 begunSum := by
  obtain ⟨m1, e⟩ := okTrue_inv run13
  exact begunSum_ok mixed (sums3L_ok fun f hf => by simp only [List.mem_cons, List.not_mem_nil, or_false] at hf; subst hf; exact begun43) (by kernel_rfl) e
theorem run5 : okTrue (call Tryz.prog (sumsB [13]) 100000 5 [] ⟨0, .leaf⟩) = true := by kernel_rfl
theorem none5 (w : World) : Calls Tryz.prog 5 #[] w fun e w' => e = .returned (.bool true) ∧ RowKit.Below w.heap.size w w' := by
  obtain ⟨m1, e⟩ := okTrue_inv run5
  refine (run_closed mixed (sumsB_ok (l := [13]) fun f hf => by
    simp only [List.mem_cons, List.not_mem_nil, or_false] at hf; subst hf; exact begun13) (by kernel_rfl) e w).mono fun e w' ⟨he, ρ, s⟩ => ⟨he, s.os, s.tape, s.output, s.size, fun k hk => s.keeps k hk fun b x L h => by cases h⟩
end Go.Ev
