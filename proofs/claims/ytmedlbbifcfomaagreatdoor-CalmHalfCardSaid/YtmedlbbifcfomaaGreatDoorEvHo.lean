/- Those functions that answer true, one out of the other. -/
import Derived.Test.YtmedlbbifcfomaaGreatDoorEvHj
import Derived.Test.YtmedlbbifcfomaaGreatDoorEvHk
import Derived.Test.YtmedlbbifcfomaaGreatDoorEvHl
import Derived.Test.YtmedlbbifcfomaaGreatDoorEvHm
import Derived.Test.YtmedlbbifcfomaaGreatDoorEvHn
namespace Go.Ev
open Go.Proofs
theorem all526 : ∀ f, f ∈ ([537] : List Nat) → SumOK Tryz.prog f begunSum := fun f hf => by
  simp only [List.mem_cons, List.not_mem_nil, or_false] at hf
  subst hf; exact begun537
theorem begun526 : SumOK Tryz.prog 526 begunSum := by
  obtain ⟨m1, e⟩ := okTrue_inv run526
  exact begunSum_ok mixed (addB_ok all526 q8Z_ok) (by kernel_rfl) e
theorem all477 : ∀ f, f ∈ ([526] : List Nat) → SumOK Tryz.prog f begunSum := fun f hf => by
  simp only [List.mem_cons, List.not_mem_nil, or_false] at hf
  subst hf; exact begun526
theorem begun477 : SumOK Tryz.prog 477 begunSum := by
  obtain ⟨m1, e⟩ := okTrue_inv run477
  exact begunSum_ok mixed (addB_ok all477 q8Z_ok) (by kernel_rfl) e
theorem all395 : ∀ f, f ∈ ([477] : List Nat) → SumOK Tryz.prog f begunSum := fun f hf => by
  simp only [List.mem_cons, List.not_mem_nil, or_false] at hf
  subst hf; exact begun477
theorem begun395 : SumOK Tryz.prog 395 begunSum := by
  obtain ⟨m1, e⟩ := okTrue_inv run395
  exact begunSum_ok mixed (addB_ok all395 q8Z_ok) (by kernel_rfl) e
theorem all396 : ∀ f, f ∈ ([395] : List Nat) → SumOK Tryz.prog f begunSum := fun f hf => by
  simp only [List.mem_cons, List.not_mem_nil, or_false] at hf
  subst hf; exact begun395
theorem begun396 : SumOK Tryz.prog 396 begunSum := by
  obtain ⟨m1, e⟩ := okTrue_inv run396
  exact begunSum_ok mixed (addB_ok all396 q8Z_ok) (by kernel_rfl) e
theorem all255 : ∀ f, f ∈ ([396, 395, 477] : List Nat) → SumOK Tryz.prog f begunSum := fun f hf => by
  simp only [List.mem_cons, List.not_mem_nil, or_false] at hf
  rcases hf with rfl | rfl | rfl
  · exact begun396
  · exact begun395
  · exact begun477
theorem begun255 : SumOK Tryz.prog 255 begunSum := by
  obtain ⟨m1, e⟩ := okTrue_inv run255
  exact begunSum_ok mixed (addB_ok all255 q8Z_ok) (by kernel_rfl) e
theorem all146 : ∀ f, f ∈ ([255] : List Nat) → SumOK Tryz.prog f begunSum := fun f hf => by
  simp only [List.mem_cons, List.not_mem_nil, or_false] at hf
  subst hf; exact begun255
theorem begun146 : SumOK Tryz.prog 146 begunSum := by
  obtain ⟨m1, e⟩ := okTrue_inv run146
  exact begunSum_ok mixed (addB_ok all146 q8Z_ok) (by kernel_rfl) e
theorem all41 : ∀ f, f ∈ ([146] : List Nat) → SumOK Tryz.prog f begunSum := fun f hf => by
  simp only [List.mem_cons, List.not_mem_nil, or_false] at hf
  subst hf; exact begun146
theorem begun41 : SumOK Tryz.prog 41 begunSum := by
  obtain ⟨m1, e⟩ := okTrue_inv run41
  exact begunSum_ok mixed (addB_ok all41 q8Z_ok) (by kernel_rfl) e
theorem all40 : ∀ f, f ∈ ([] : List Nat) → SumOK Tryz.prog f begunSum := fun f hf => by cases hf
theorem begun40 : SumOK Tryz.prog 40 begunSum := by
  obtain ⟨m1, e⟩ := okTrue_inv run40
  exact begunSum_ok mixed (addB_ok all40 q8Z_ok) (by kernel_rfl) e
theorem all8 : ∀ f, f ∈ ([40, 41] : List Nat) → SumOK Tryz.prog f begunSum := fun f hf => by
  simp only [List.mem_cons, List.not_mem_nil, or_false] at hf
  rcases hf with rfl | rfl
  · exact begun40
  · exact begun41
theorem begun8 : SumOK Tryz.prog 8 begunSum := by
  obtain ⟨m1, e⟩ := okTrue_inv run8
  exact begunSum_ok mixed (addB_ok all8 q8Z_ok) (by kernel_rfl) e
theorem all68 : ∀ f, f ∈ ([8] : List Nat) → SumOK Tryz.prog f begunSum := fun f hf => by
  simp only [List.mem_cons, List.not_mem_nil, or_false] at hf
  subst hf; exact begun8
theorem begun68 : SumOK Tryz.prog 68 begunSum := by
  obtain ⟨m1, e⟩ := okTrue_inv run68
  exact begunSum_ok mixed (addB_ok all68 q8Z_ok) (by kernel_rfl) e
theorem all22 : ∀ f, f ∈ ([68] : List Nat) → SumOK Tryz.prog f begunSum := fun f hf => by
  simp only [List.mem_cons, List.not_mem_nil, or_false] at hf
  subst hf; exact begun68
theorem begun22 : SumOK Tryz.prog 22 begunSum := by
  obtain ⟨m1, e⟩ := okTrue_inv run22
  exact begunSum_ok mixed (addB_ok all22 q8Z_ok) (by kernel_rfl) e
theorem all79 : ∀ f, f ∈ ([22] : List Nat) → SumOK Tryz.prog f begunSum := fun f hf => by
  simp only [List.mem_cons, List.not_mem_nil, or_false] at hf
  subst hf; exact begun22
theorem begun79 : SumOK Tryz.prog 79 begunSum := by
  obtain ⟨m1, e⟩ := okTrue_inv run79
  exact begunSum_ok mixed (addB_ok all79 q8Z_ok) (by kernel_rfl) e
theorem all37 : ∀ f, f ∈ ([79] : List Nat) → SumOK Tryz.prog f begunSum := fun f hf => by
  simp only [List.mem_cons, List.not_mem_nil, or_false] at hf
  subst hf; exact begun79
theorem begun37 : SumOK Tryz.prog 37 begunSum := by
  obtain ⟨m1, e⟩ := okTrue_inv run37
  exact begunSum_ok mixed (addB_ok all37 q8Z_ok) (by kernel_rfl) e
end Go.Ev
