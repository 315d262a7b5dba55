/- The walk of LookNone: the evaluator's run by the kernel, and its soundness. -/
import Derived.Test.YtkobbfimabpfeaaGreatDoorEvMemNew3
import Derived.Test.YtkobbfimabpfeaaGreatDoorEvCh3x20
namespace Go.Ev
open Go.Proofs
noncomputable def new10S : List AV → AMem → OR := fun args m => memoTry new10 args m (.fail 3301)
theorem new10S_ok : SumOK Tryz.prog 10 new10S := memoSum_ok new10_ok (fun _ _ _ _ h => by cases h)
noncomputable def sums3L (l : List Nat) : Sums := fun f => bif2 (Nat.beq f 10) (some new10S) (sumsB l f)
theorem sums3L_ok {l : List Nat} (h : ∀ f, f ∈ l → SumOK Tryz.prog f begunSum) : SumsOK Tryz.prog (sums3L l) := by
  intro f s hs
  unfold sums3L at hs
  rw [bif2_eq] at hs
  split at hs
  · rename_i e
    have e := Nat.eq_of_beq_eq_true e
    subst e; cases hs; exact new10S_ok
  · exact sumsB_ok h f s hs
theorem run6 : okTrue (call Tryz.prog (sums3L [20]) 100000 6 [] ⟨0, .leaf⟩) = true := by kernel_rfl
theorem begun6 : SumOK Tryz.prog 6 begunSum := by
  obtain ⟨m1, e⟩ := okTrue_inv run6
  exact begunSum_ok mixed (sums3L_ok fun f hf => by simp only [List.mem_cons, List.not_mem_nil, or_false] at hf; subst hf; exact begun20) (by kernel_rfl) e
theorem run3 : okTrue (call Tryz.prog (sumsB [6]) 100000 3 [] ⟨0, .leaf⟩) = true := by kernel_rfl
theorem none3 (w : World) : Calls Tryz.prog 3 #[] w fun e w' => e = .returned (.bool true) ∧ RowKit.Below w.heap.size w w' := by
  obtain ⟨m1, e⟩ := okTrue_inv run3
  refine (run_closed mixed (sumsB_ok (l := [6]) fun f hf => by
    simp only [List.mem_cons, List.not_mem_nil, or_false] at hf; subst hf; exact begun6) (by kernel_rfl) e w).mono fun e w' ⟨he, ρ, s⟩ => ⟨he, s.os, s.tape, s.output, s.size, fun k hk => s.keeps k hk fun b x L h => by cases h⟩
end Go.Ev
