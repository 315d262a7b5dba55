/- The walk of WorldDown: the evaluator's runs by the kernel, and their soundness. -/
import Derived.Test.YtmedlbbifcfomaaGreatDoorEvHo
import Derived.Test.YtmedlbbifcfomaaGreatDoorEvGc
import Derived.Below
import Derived.Test.YtmedlbbifcfomaaGreatDoorEvKa
import Derived.Test.YtmedlbbifcfomaaGreatDoorEvKb
import Derived.Test.YtmedlbbifcfomaaGreatDoorEvKc
namespace Go.Ev
open Go.Proofs
theorem downAll (i n : Int) : okTrue (call Tryz.prog (addB [22] q8Z) 100000 5 [.int .i64 i, .int .i64 n] ⟨0, .leaf⟩) = true := by
  match i with
  | .negSucc k => exact congrFun (congrFun downNeg k) n
  | .ofNat 0 => exact congrFun down0 n
  | .ofNat 1 => match n with
    | .negSucc k => exact congrFun down1n k
    | .ofNat k => exact congrFun down1p k
  | .ofNat 2 => match n with
    | .negSucc k => exact congrFun down2n k
    | .ofNat k => exact congrFun down2p k
  | .ofNat 3 => match n with
    | .negSucc k => exact congrFun down3n k
    | .ofNat k => exact congrFun down3p k
  | .ofNat 4 => exact congrFun down4 n
  | .ofNat 5 => exact congrFun down5 n
  | .ofNat 6 => exact congrFun down6 n
  | .ofNat 7 => exact congrFun down7 n
  | .ofNat (k + 8) => exact congrFun (congrFun downHi k) n
theorem allOneD : ∀ f, f ∈ ([22] : List Nat) → SumOK Tryz.prog f begunSum := fun f hf => by
  simp only [List.mem_cons, List.not_mem_nil, or_false] at hf
  subst hf; exact begun22
theorem down5w (i n : Int) (w : World) : Calls Tryz.prog 5 #[.int .i64 i, .int .i64 n] w fun e w' => e = .returned (.bool true) ∧ RowKit.Below w.heap.size w w' := by
  obtain ⟨m1, e⟩ := okTrue_inv (downAll i n)
  refine (run_args mixed (addB_ok allOneD q8Z_ok) (by kernel_rfl) e w #[.int .i64 i, .int .i64 n] (.cons _ _ _ _ (.int _ _) (.cons _ _ _ _ (.int _ _) .nil))).mono fun e w' ⟨he, ρ, s⟩ => ⟨he, s.os, s.tape, s.output, s.size, fun k hk => s.keeps k hk fun b x L h => by cases h⟩
end Go.Ev
