/- Those functions that answer true, one out of the other. The walk of NodeNone: the evaluator's run by the kernel, and its soundness. -/
import Derived.Test.YtoiehldmodgfkaaGreatDoorEvHg
import Derived.Test.YtoiehldmodgfkaaGreatDoorEvHh
import Derived.Test.YtoiehldmodgfkaaGreatDoorEvHi
import Derived.Test.YtoiehldmodgfkaaGreatDoorEvHj
import Derived.Below
section
namespace Go.Ev
open Go.Proofs
theorem all524 : ∀ f, f ∈ ([535] : List Nat) → SumOK Tryz.prog f begunSum := fun f hf => by
  simp only [List.mem_cons, List.not_mem_nil, or_false] at hf
  subst hf; exact begun535
theorem begun524 : SumOK Tryz.prog 524 begunSum := by
  obtain ⟨m1, e⟩ := okTrue_inv run524
  exact begunSum_ok mixed (addB_ok all524 q6Z_ok) (by kernel_rfl) e
theorem all476 : ∀ f, f ∈ ([524] : List Nat) → SumOK Tryz.prog f begunSum := fun f hf => by
  simp only [List.mem_cons, List.not_mem_nil, or_false] at hf
  subst hf; exact begun524
theorem begun476 : SumOK Tryz.prog 476 begunSum := by
  obtain ⟨m1, e⟩ := okTrue_inv run476
  exact begunSum_ok mixed (addB_ok all476 q6Z_ok) (by kernel_rfl) e
theorem all408 : ∀ f, f ∈ ([476] : List Nat) → SumOK Tryz.prog f begunSum := fun f hf => by
  simp only [List.mem_cons, List.not_mem_nil, or_false] at hf
  subst hf; exact begun476
theorem begun408 : SumOK Tryz.prog 408 begunSum := by
  obtain ⟨m1, e⟩ := okTrue_inv run408
  exact begunSum_ok mixed (addB_ok all408 q6Z_ok) (by kernel_rfl) e
theorem all409 : ∀ f, f ∈ ([408] : List Nat) → SumOK Tryz.prog f begunSum := fun f hf => by
  simp only [List.mem_cons, List.not_mem_nil, or_false] at hf
  subst hf; exact begun408
theorem begun409 : SumOK Tryz.prog 409 begunSum := by
  obtain ⟨m1, e⟩ := okTrue_inv run409
  exact begunSum_ok mixed (addB_ok all409 q6Z_ok) (by kernel_rfl) e
theorem all280 : ∀ f, f ∈ ([409, 408, 476] : List Nat) → SumOK Tryz.prog f begunSum := fun f hf => by
  simp only [List.mem_cons, List.not_mem_nil, or_false] at hf
  rcases hf with rfl | rfl | rfl
  · exact begun409
  · exact begun408
  · exact begun476
theorem begun280 : SumOK Tryz.prog 280 begunSum := by
  obtain ⟨m1, e⟩ := okTrue_inv run280
  exact begunSum_ok mixed (addB_ok all280 q6Z_ok) (by kernel_rfl) e
theorem all167 : ∀ f, f ∈ ([280] : List Nat) → SumOK Tryz.prog f begunSum := fun f hf => by
  simp only [List.mem_cons, List.not_mem_nil, or_false] at hf
  subst hf; exact begun280
theorem begun167 : SumOK Tryz.prog 167 begunSum := by
  obtain ⟨m1, e⟩ := okTrue_inv run167
  exact begunSum_ok mixed (addB_ok all167 q6Z_ok) (by kernel_rfl) e
theorem all51 : ∀ f, f ∈ ([167] : List Nat) → SumOK Tryz.prog f begunSum := fun f hf => by
  simp only [List.mem_cons, List.not_mem_nil, or_false] at hf
  subst hf; exact begun167
theorem begun51 : SumOK Tryz.prog 51 begunSum := by
  obtain ⟨m1, e⟩ := okTrue_inv run51
  exact begunSum_ok mixed (addB_ok all51 q6Z_ok) (by kernel_rfl) e
theorem all50 : ∀ f, f ∈ ([] : List Nat) → SumOK Tryz.prog f begunSum := fun f hf => by cases hf
theorem begun50 : SumOK Tryz.prog 50 begunSum := by
  obtain ⟨m1, e⟩ := okTrue_inv run50
  exact begunSum_ok mixed (addB_ok all50 q6Z_ok) (by kernel_rfl) e
theorem all8 : ∀ f, f ∈ ([50, 51] : List Nat) → SumOK Tryz.prog f begunSum := fun f hf => by
  simp only [List.mem_cons, List.not_mem_nil, or_false] at hf
  rcases hf with rfl | rfl
  · exact begun50
  · exact begun51
theorem begun8 : SumOK Tryz.prog 8 begunSum := by
  obtain ⟨m1, e⟩ := okTrue_inv run8
  exact begunSum_ok mixed (addB_ok all8 q6Z_ok) (by kernel_rfl) e
theorem all64 : ∀ f, f ∈ ([8] : List Nat) → SumOK Tryz.prog f begunSum := fun f hf => by
  simp only [List.mem_cons, List.not_mem_nil, or_false] at hf
  subst hf; exact begun8
theorem begun64 : SumOK Tryz.prog 64 begunSum := by
  obtain ⟨m1, e⟩ := okTrue_inv run64
  exact begunSum_ok mixed (addB_ok all64 q6Z_ok) (by kernel_rfl) e
theorem all3 : ∀ f, f ∈ ([8] : List Nat) → SumOK Tryz.prog f begunSum := fun f hf => by
  simp only [List.mem_cons, List.not_mem_nil, or_false] at hf
  subst hf; exact begun8
theorem begun3 : SumOK Tryz.prog 3 begunSum := by
  obtain ⟨m1, e⟩ := okTrue_inv run3
  exact begunSum_ok mixed (addB_ok all3 q6Z_ok) (by kernel_rfl) e
end Go.Ev
end
section
namespace Go.Ev
open Go.Proofs
theorem none3 (w : World) : Calls Tryz.prog 3 #[] w fun e w' => e = .returned (.bool true) ∧ RowKit.Below w.heap.size w w' := by
  obtain ⟨m1, e⟩ := okTrue_inv run3
  refine (run_closed mixed (addB_ok all3 q6Z_ok) (by kernel_rfl) e w).mono fun e w' ⟨he, ρ, s⟩ => ⟨he, s.os, s.tape, s.output, s.size, fun k hk => s.keeps k hk fun b x L h => by cases h⟩
end Go.Ev
end
