/- What JudgeAlike begins with, as a contract; its walk. -/
import Derived.Test.YtpgjlcbjcnbjkaaGreatDoorEvHh
import Derived.Test.YtpgjlcbjcnbjkaaGreatDoorEvHk
namespace Go.Ev
open Go.Proofs
theorem allJudge : ∀ f, f ∈ ([77] : List Nat) → SumOK Tryz.prog f begunSum := fun f hf => by
  simp only [List.mem_cons, List.not_mem_nil, or_false] at hf
  subst hf; exact begun77
theorem begun38_calls (w : World) : Calls Tryz.prog 38 #[] w fun e w' => e = .returned (.bool true) ∧ RowKit.Below w.heap.size w w' := by
  obtain ⟨m1, e⟩ := okTrue_inv run38
  refine (run_closed mixed (addB_ok allJudge q5Z_ok) (by kernel_rfl) e w).mono fun e w' ⟨he, ρ, s⟩ => ⟨he, s.os, s.tape, s.output, s.size, fun k hk => s.keeps k hk fun b x L h => by cases h⟩
end Go.Ev
