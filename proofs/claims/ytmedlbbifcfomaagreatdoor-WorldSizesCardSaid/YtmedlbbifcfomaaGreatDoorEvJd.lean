/- The walk of WorldSizes: the evaluator's runs by the kernel, and their soundness. -/
import Derived.Test.YtmedlbbifcfomaaGreatDoorEvHo
import Derived.Test.YtmedlbbifcfomaaGreatDoorEvGc
import Derived.Below
import Derived.Test.YtmedlbbifcfomaaGreatDoorEvJa
import Derived.Test.YtmedlbbifcfomaaGreatDoorEvJb
import Derived.Test.YtmedlbbifcfomaaGreatDoorEvJc
namespace Go.Ev
open Go.Proofs
theorem sizeAll (n : Int) : okTrue (call Tryz.prog (addB [22] q8Z) 100000 4 [.int .i64 n] ⟨0, .leaf⟩) = true := by
  match n with
  | .negSucc k => exact congrFun sizeNeg k
  | .ofNat 0 => exact size0
  | .ofNat 1 => exact size1
  | .ofNat 2 => exact size2
  | .ofNat 3 => exact size3
  | .ofNat 4 => exact size4
  | .ofNat 5 => exact size5
  | .ofNat 6 => exact size6
  | .ofNat 7 => exact size7
  | .ofNat (k + 8) => exact congrFun sizeHi k
theorem allOneS : ∀ f, f ∈ ([22] : List Nat) → SumOK Tryz.prog f begunSum := fun f hf => by
  simp only [List.mem_cons, List.not_mem_nil, or_false] at hf
  subst hf; exact begun22
theorem sizes4 (n : Int) (w : World) : Calls Tryz.prog 4 #[.int .i64 n] w fun e w' => e = .returned (.bool true) ∧ RowKit.Below w.heap.size w w' := by
  obtain ⟨m1, e⟩ := okTrue_inv (sizeAll n)
  refine (run_args mixed (addB_ok allOneS q8Z_ok) (by kernel_rfl) e w #[.int .i64 n] (.cons _ _ _ _ (.int _ _) .nil)).mono fun e w' ⟨he, ρ, s⟩ => ⟨he, s.os, s.tape, s.output, s.size, fun k hk => s.keeps k hk fun b x L h => by cases h⟩
end Go.Ev
