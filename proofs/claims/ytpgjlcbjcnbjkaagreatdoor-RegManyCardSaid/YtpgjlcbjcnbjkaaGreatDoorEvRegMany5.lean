/- The walk of RegMany: the evaluator's runs by the kernel, and their soundness. -/
import Derived.Test.YtpgjlcbjcnbjkaaGreatDoorEvHh
import Derived.Test.YtpgjlcbjcnbjkaaGreatDoorEvArg
import Derived.Test.YtpgjlcbjcnbjkaaGreatDoorEvHja
import Derived.Test.YtpgjlcbjcnbjkaaGreatDoorEvHjb
import Derived.Test.YtpgjlcbjcnbjkaaGreatDoorEvHjc
namespace Go.Ev
open Go.Proofs
theorem manyLow : okTrue (call Tryz.prog (addB [22] q5Y) 100000 6 [.int .i64 (.ofNat 0)] ⟨0, .leaf⟩) = true ∧ okTrue (call Tryz.prog (addB [22] q5Y) 100000 6 [.int .i64 (.ofNat 1)] ⟨0, .leaf⟩) = true ∧ okTrue (call Tryz.prog (addB [22] q5Y) 100000 6 [.int .i64 (.ofNat 2)] ⟨0, .leaf⟩) = true ∧ okTrue (call Tryz.prog (addB [22] q5Y) 100000 6 [.int .i64 (.ofNat 3)] ⟨0, .leaf⟩) = true ∧ okTrue (call Tryz.prog (addB [22] q5Y) 100000 6 [.int .i64 (.ofNat 4)] ⟨0, .leaf⟩) = true ∧ okTrue (call Tryz.prog (addB [22] q5Y) 100000 6 [.int .i64 (.ofNat 5)] ⟨0, .leaf⟩) = true ∧ okTrue (call Tryz.prog (addB [22] q5Y) 100000 6 [.int .i64 (.ofNat 6)] ⟨0, .leaf⟩) = true ∧ okTrue (call Tryz.prog (addB [22] q5Y) 100000 6 [.int .i64 (.ofNat 7)] ⟨0, .leaf⟩) = true ∧ okTrue (call Tryz.prog (addB [22] q5Y) 100000 6 [.int .i64 (.ofNat 8)] ⟨0, .leaf⟩) = true ∧ okTrue (call Tryz.prog (addB [22] q5Y) 100000 6 [.int .i64 (.ofNat 9)] ⟨0, .leaf⟩) = true ∧ okTrue (call Tryz.prog (addB [22] q5Y) 100000 6 [.int .i64 (.ofNat 10)] ⟨0, .leaf⟩) = true ∧ okTrue (call Tryz.prog (addB [22] q5Y) 100000 6 [.int .i64 (.ofNat 11)] ⟨0, .leaf⟩) = true ∧ okTrue (call Tryz.prog (addB [22] q5Y) 100000 6 [.int .i64 (.ofNat 12)] ⟨0, .leaf⟩) = true ∧ okTrue (call Tryz.prog (addB [22] q5Y) 100000 6 [.int .i64 (.ofNat 13)] ⟨0, .leaf⟩) = true ∧ okTrue (call Tryz.prog (addB [22] q5Y) 100000 6 [.int .i64 (.ofNat 14)] ⟨0, .leaf⟩) = true ∧ okTrue (call Tryz.prog (addB [22] q5Y) 100000 6 [.int .i64 (.ofNat 15)] ⟨0, .leaf⟩) = true ∧ okTrue (call Tryz.prog (addB [22] q5Y) 100000 6 [.int .i64 (.ofNat 16)] ⟨0, .leaf⟩) = true ∧ okTrue (call Tryz.prog (addB [22] q5Y) 100000 6 [.int .i64 (.ofNat 17)] ⟨0, .leaf⟩) = true ∧ okTrue (call Tryz.prog (addB [22] q5Y) 100000 6 [.int .i64 (.ofNat 18)] ⟨0, .leaf⟩) = true ∧ okTrue (call Tryz.prog (addB [22] q5Y) 100000 6 [.int .i64 (.ofNat 19)] ⟨0, .leaf⟩) = true ∧ okTrue (call Tryz.prog (addB [22] q5Y) 100000 6 [.int .i64 (.ofNat 20)] ⟨0, .leaf⟩) = true ∧ okTrue (call Tryz.prog (addB [22] q5Y) 100000 6 [.int .i64 (.ofNat 21)] ⟨0, .leaf⟩) = true ∧ okTrue (call Tryz.prog (addB [22] q5Y) 100000 6 [.int .i64 (.ofNat 22)] ⟨0, .leaf⟩) = true ∧ okTrue (call Tryz.prog (addB [22] q5Y) 100000 6 [.int .i64 (.ofNat 23)] ⟨0, .leaf⟩) = true ∧ okTrue (call Tryz.prog (addB [22] q5Y) 100000 6 [.int .i64 (.ofNat 24)] ⟨0, .leaf⟩) = true := ⟨by as_aux_lemma => kernel_rfl, by as_aux_lemma => kernel_rfl, by as_aux_lemma => kernel_rfl, by as_aux_lemma => kernel_rfl, by as_aux_lemma => kernel_rfl, by as_aux_lemma => kernel_rfl, by as_aux_lemma => kernel_rfl, by as_aux_lemma => kernel_rfl, by as_aux_lemma => kernel_rfl, by as_aux_lemma => kernel_rfl, by as_aux_lemma => kernel_rfl, by as_aux_lemma => kernel_rfl, by as_aux_lemma => kernel_rfl, by as_aux_lemma => kernel_rfl, by as_aux_lemma => kernel_rfl, by as_aux_lemma => kernel_rfl, by as_aux_lemma => kernel_rfl, by as_aux_lemma => kernel_rfl, by as_aux_lemma => kernel_rfl, by as_aux_lemma => kernel_rfl, by as_aux_lemma => kernel_rfl, by as_aux_lemma => kernel_rfl, by as_aux_lemma => kernel_rfl, by as_aux_lemma => kernel_rfl, by as_aux_lemma => kernel_rfl⟩
theorem manyNeg : (fun k : Nat => okTrue (call Tryz.prog (addB [22] q5Y) 100000 6 [.int .i64 (.negSucc k)] ⟨0, .leaf⟩)) = fun _ => true := by kernel_rfl
theorem manyHigh : (fun k : Nat => okTrue (call Tryz.prog (addB [22] q5Y) 100000 6 [.int .i64 (.ofNat (k + 34))] ⟨0, .leaf⟩)) = fun _ => true := by kernel_rfl
theorem manyAll (n : Int) : okTrue (call Tryz.prog (addB [22] q5Y) 100000 6 [.int .i64 (n)] ⟨0, .leaf⟩) = true := by
  match n with
  | .negSucc k => exact congrFun manyNeg k
  | .ofNat 0 => exact manyLow.1
  | .ofNat 1 => exact manyLow.2.1
  | .ofNat 2 => exact manyLow.2.2.1
  | .ofNat 3 => exact manyLow.2.2.2.1
  | .ofNat 4 => exact manyLow.2.2.2.2.1
  | .ofNat 5 => exact manyLow.2.2.2.2.2.1
  | .ofNat 6 => exact manyLow.2.2.2.2.2.2.1
  | .ofNat 7 => exact manyLow.2.2.2.2.2.2.2.1
  | .ofNat 8 => exact manyLow.2.2.2.2.2.2.2.2.1
  | .ofNat 9 => exact manyLow.2.2.2.2.2.2.2.2.2.1
  | .ofNat 10 => exact manyLow.2.2.2.2.2.2.2.2.2.2.1
  | .ofNat 11 => exact manyLow.2.2.2.2.2.2.2.2.2.2.2.1
  | .ofNat 12 => exact manyLow.2.2.2.2.2.2.2.2.2.2.2.2.1
  | .ofNat 13 => exact manyLow.2.2.2.2.2.2.2.2.2.2.2.2.2.1
  | .ofNat 14 => exact manyLow.2.2.2.2.2.2.2.2.2.2.2.2.2.2.1
  | .ofNat 15 => exact manyLow.2.2.2.2.2.2.2.2.2.2.2.2.2.2.2.1
  | .ofNat 16 => exact manyLow.2.2.2.2.2.2.2.2.2.2.2.2.2.2.2.2.1
  | .ofNat 17 => exact manyLow.2.2.2.2.2.2.2.2.2.2.2.2.2.2.2.2.2.1
  | .ofNat 18 => exact manyLow.2.2.2.2.2.2.2.2.2.2.2.2.2.2.2.2.2.2.1
  | .ofNat 19 => exact manyLow.2.2.2.2.2.2.2.2.2.2.2.2.2.2.2.2.2.2.2.1
  | .ofNat 20 => exact manyLow.2.2.2.2.2.2.2.2.2.2.2.2.2.2.2.2.2.2.2.2.1
  | .ofNat 21 => exact manyLow.2.2.2.2.2.2.2.2.2.2.2.2.2.2.2.2.2.2.2.2.2.1
  | .ofNat 22 => exact manyLow.2.2.2.2.2.2.2.2.2.2.2.2.2.2.2.2.2.2.2.2.2.2.1
  | .ofNat 23 => exact manyLow.2.2.2.2.2.2.2.2.2.2.2.2.2.2.2.2.2.2.2.2.2.2.2.1
  | .ofNat 24 => exact manyLow.2.2.2.2.2.2.2.2.2.2.2.2.2.2.2.2.2.2.2.2.2.2.2.2
  | .ofNat 25 => exact many25
  | .ofNat 26 => exact many26
  | .ofNat 27 => exact many27
  | .ofNat 28 => exact many28
  | .ofNat 29 => exact many29
  | .ofNat 30 => exact many30
  | .ofNat 31 => exact many31
  | .ofNat 32 => exact many32
  | .ofNat 33 => exact many33
  | .ofNat (k + 34) => exact congrFun manyHigh k
theorem allRegMany : ∀ f, f ∈ ([22] : List Nat) → SumOK Tryz.prog f begunSum := fun f hf => by
  simp only [List.mem_cons, List.not_mem_nil, or_false] at hf
  subst hf; exact begun22
theorem many6 (n : Int) (w : World) : Calls Tryz.prog 6 #[.int .i64 n] w fun e w' => e = .returned (.bool true) ∧ RowKit.Below w.heap.size w w' := by
  obtain ⟨m1, e⟩ := okTrue_inv (manyAll n)
  refine (run_args mixed (addB_ok allRegMany q5Y_ok) (by kernel_rfl) e w #[.int .i64 n] (.cons _ _ _ _ (.int _ _) .nil)).mono fun e w' ⟨he, ρ, s⟩ => ⟨he, s.os, s.tape, s.output, s.size, fun k hk => s.keeps k hk fun b x L h => by cases h⟩
end Go.Ev
