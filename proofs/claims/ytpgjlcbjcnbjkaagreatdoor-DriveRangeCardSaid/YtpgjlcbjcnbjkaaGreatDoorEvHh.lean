/- The run of the function 157, which answers true. The run of the function 46, which answers true. The run of the function 57, which answers true. The run of the function 10, which answers true. The run of the function 58, which answers true. The run of the function 16, which answers true. The run of the function 182, which answers true. The run of the function 70, which answers true. The run of the function 22, which answers true. The run of the function 77, which answers true. The run of the function 38, which answers true. Those functions that answer true, one out of the other. -/
import Derived.Test.YtpgjlcbjcnbjkaaGreatDoorEvHf
import Derived.Test.YtpgjlcbjcnbjkaaGreatDoorEvHg
section
namespace Go.Ev
open Go.Proofs
theorem run157 : okTrue (call Tryz.prog (addB [242] q5Z) 100000 157 [] ⟨0, .leaf⟩) = true := by kernel_rfl
end Go.Ev
end
section
namespace Go.Ev
open Go.Proofs
theorem run46 : okTrue (call Tryz.prog (addB [157] q5Z) 100000 46 [] ⟨0, .leaf⟩) = true := by kernel_rfl
end Go.Ev
end
section
namespace Go.Ev
open Go.Proofs
theorem run57 : okTrue (call Tryz.prog (addB [46] q5Z) 100000 57 [] ⟨0, .leaf⟩) = true := by kernel_rfl
end Go.Ev
end
section
namespace Go.Ev
open Go.Proofs
theorem run10 : okTrue (call Tryz.prog (addB [46] q5Z) 100000 10 [] ⟨0, .leaf⟩) = true := by kernel_rfl
end Go.Ev
end
section
namespace Go.Ev
open Go.Proofs
theorem run58 : okTrue (call Tryz.prog (addB [163] q5Z) 100000 58 [] ⟨0, .leaf⟩) = true := by kernel_rfl
end Go.Ev
end
section
namespace Go.Ev
open Go.Proofs
theorem run16 : okTrue (call Tryz.prog (addB [57, 58] q5Z) 100000 16 [] ⟨0, .leaf⟩) = true := by kernel_rfl
end Go.Ev
end
section
namespace Go.Ev
open Go.Proofs
theorem run182 : okTrue (call Tryz.prog (addB [57, 58] q5Z) 100000 182 [] ⟨0, .leaf⟩) = true := by kernel_rfl
end Go.Ev
end
section
namespace Go.Ev
open Go.Proofs
theorem run70 : okTrue (call Tryz.prog (addB [182] q5Z) 100000 70 [] ⟨0, .leaf⟩) = true := by kernel_rfl
end Go.Ev
end
section
namespace Go.Ev
open Go.Proofs
theorem run22 : okTrue (call Tryz.prog (addB [70] q5Z) 100000 22 [] ⟨0, .leaf⟩) = true := by kernel_rfl
end Go.Ev
end
section
namespace Go.Ev
open Go.Proofs
theorem run77 : okTrue (call Tryz.prog (addB [70] q5Z) 100000 77 [] ⟨0, .leaf⟩) = true := by kernel_rfl
end Go.Ev
end
section
namespace Go.Ev
open Go.Proofs
theorem run38 : okTrue (call Tryz.prog (addB [77] q5Z) 100000 38 [] ⟨0, .leaf⟩) = true := by kernel_rfl
end Go.Ev
end
section
namespace Go.Ev
open Go.Proofs
theorem all157 : ∀ f, f ∈ ([242] : List Nat) → SumOK Tryz.prog f begunSum := fun f hf => by
  simp only [List.mem_cons, List.not_mem_nil, or_false] at hf
  subst hf; exact begun242
theorem begun157 : SumOK Tryz.prog 157 begunSum := by
  obtain ⟨m1, e⟩ := okTrue_inv run157
  exact begunSum_ok mixed (addB_ok all157 q5Z_ok) (by kernel_rfl) e
theorem all46 : ∀ f, f ∈ ([157] : List Nat) → SumOK Tryz.prog f begunSum := fun f hf => by
  simp only [List.mem_cons, List.not_mem_nil, or_false] at hf
  subst hf; exact begun157
theorem begun46 : SumOK Tryz.prog 46 begunSum := by
  obtain ⟨m1, e⟩ := okTrue_inv run46
  exact begunSum_ok mixed (addB_ok all46 q5Z_ok) (by kernel_rfl) e
theorem all57 : ∀ f, f ∈ ([46] : List Nat) → SumOK Tryz.prog f begunSum := fun f hf => by
  simp only [List.mem_cons, List.not_mem_nil, or_false] at hf
  subst hf; exact begun46
theorem begun57 : SumOK Tryz.prog 57 begunSum := by
  obtain ⟨m1, e⟩ := okTrue_inv run57
  exact begunSum_ok mixed (addB_ok all57 q5Z_ok) (by kernel_rfl) e
theorem all10 : ∀ f, f ∈ ([46] : List Nat) → SumOK Tryz.prog f begunSum := fun f hf => by
  simp only [List.mem_cons, List.not_mem_nil, or_false] at hf
  subst hf; exact begun46
theorem begun10 : SumOK Tryz.prog 10 begunSum := by
  obtain ⟨m1, e⟩ := okTrue_inv run10
  exact begunSum_ok mixed (addB_ok all10 q5Z_ok) (by kernel_rfl) e
theorem all58 : ∀ f, f ∈ ([163] : List Nat) → SumOK Tryz.prog f begunSum := fun f hf => by
  simp only [List.mem_cons, List.not_mem_nil, or_false] at hf
  subst hf; exact begun163
theorem begun58 : SumOK Tryz.prog 58 begunSum := by
  obtain ⟨m1, e⟩ := okTrue_inv run58
  exact begunSum_ok mixed (addB_ok all58 q5Z_ok) (by kernel_rfl) e
theorem all16 : ∀ f, f ∈ ([57, 58] : List Nat) → SumOK Tryz.prog f begunSum := fun f hf => by
  simp only [List.mem_cons, List.not_mem_nil, or_false] at hf
  rcases hf with rfl | rfl
  · exact begun57
  · exact begun58
theorem begun16 : SumOK Tryz.prog 16 begunSum := by
  obtain ⟨m1, e⟩ := okTrue_inv run16
  exact begunSum_ok mixed (addB_ok all16 q5Z_ok) (by kernel_rfl) e
theorem all182 : ∀ f, f ∈ ([57, 58] : List Nat) → SumOK Tryz.prog f begunSum := fun f hf => by
  simp only [List.mem_cons, List.not_mem_nil, or_false] at hf
  rcases hf with rfl | rfl
  · exact begun57
  · exact begun58
theorem begun182 : SumOK Tryz.prog 182 begunSum := by
  obtain ⟨m1, e⟩ := okTrue_inv run182
  exact begunSum_ok mixed (addB_ok all182 q5Z_ok) (by kernel_rfl) e
theorem all70 : ∀ f, f ∈ ([182] : List Nat) → SumOK Tryz.prog f begunSum := fun f hf => by
  simp only [List.mem_cons, List.not_mem_nil, or_false] at hf
  subst hf; exact begun182
theorem begun70 : SumOK Tryz.prog 70 begunSum := by
  obtain ⟨m1, e⟩ := okTrue_inv run70
  exact begunSum_ok mixed (addB_ok all70 q5Z_ok) (by kernel_rfl) e
theorem all22 : ∀ f, f ∈ ([70] : List Nat) → SumOK Tryz.prog f begunSum := fun f hf => by
  simp only [List.mem_cons, List.not_mem_nil, or_false] at hf
  subst hf; exact begun70
theorem begun22 : SumOK Tryz.prog 22 begunSum := by
  obtain ⟨m1, e⟩ := okTrue_inv run22
  exact begunSum_ok mixed (addB_ok all22 q5Z_ok) (by kernel_rfl) e
theorem all77 : ∀ f, f ∈ ([70] : List Nat) → SumOK Tryz.prog f begunSum := fun f hf => by
  simp only [List.mem_cons, List.not_mem_nil, or_false] at hf
  subst hf; exact begun70
theorem begun77 : SumOK Tryz.prog 77 begunSum := by
  obtain ⟨m1, e⟩ := okTrue_inv run77
  exact begunSum_ok mixed (addB_ok all77 q5Z_ok) (by kernel_rfl) e
theorem all38 : ∀ f, f ∈ ([77] : List Nat) → SumOK Tryz.prog f begunSum := fun f hf => by
  simp only [List.mem_cons, List.not_mem_nil, or_false] at hf
  subst hf; exact begun77
theorem begun38 : SumOK Tryz.prog 38 begunSum := by
  obtain ⟨m1, e⟩ := okTrue_inv run38
  exact begunSum_ok mixed (addB_ok all38 q5Z_ok) (by kernel_rfl) e
end Go.Ev
end
