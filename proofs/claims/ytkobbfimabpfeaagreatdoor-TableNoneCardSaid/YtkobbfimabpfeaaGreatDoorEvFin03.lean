/- All summaries of this program; the chain of what each layer begins with. -/
import Derived.Test.YtkobbfimabpfeaaGreatDoorEvJoinP3
namespace Go.Ev
open Go.Proofs

/-- The summaries of this program. -/
noncomputable def sums3 (P : Program) : Sums := fun f => match f with
  | 84 => some (insertSum P (sumsI 94) 60 84 2)
  | 87 => some (insertSum P (sumsI 97) 60 87 1)
  | 193 => some joinSum
  | 195 => some indexByteSum
  | _ => none

theorem sums3_ok : SumsOK Tryz.prog (sums3 Tryz.prog) := by
  intro f s hs
  unfold sums3 at hs
  split at hs
  · cases hs; exact sum64
  · cases hs; exact sum80
  · cases hs; exact join175
  · cases hs; exact idx177
  · cases hs

/-- The summaries, and those functions that answer true. -/
noncomputable def sumsB (l : List Nat) : Sums := fun f => bif2 (l.any (Nat.beq f)) (some begunSum) (sums3 Tryz.prog f)

theorem sumsB_ok {l : List Nat} (h : ∀ f, f ∈ l → SumOK Tryz.prog f begunSum) : SumsOK Tryz.prog (sumsB l) := by
  intro f s hs
  unfold sumsB at hs
  rw [bif2_eq] at hs
  split at hs
  · rename_i hf
    cases hs
    obtain ⟨g, hg, e⟩ := List.any_eq_true.1 hf
    have e : f = g := Nat.eq_of_beq_eq_true e
    subst e
    exact h f hg
  · exact sums3_ok f s hs

noncomputable def okTrue : OR → Bool
  | .mk (.bool true) _ => true
  | _ => false
theorem okTrue_inv {r : OR} (h : okTrue r = true) : ∃ m, r = .mk (.bool true) m := by
  unfold okTrue at h
  split at h
  · exact ⟨_, rfl⟩
  · cases h

theorem begun_of {l : List Nat} (h : ∀ f, f ∈ l → SumOK Tryz.prog f begunSum) {f : Nat} (hf : sumsB l f = none) (hr : okTrue (call Tryz.prog (sumsB l) 100000 f [] ⟨0, .leaf⟩) = true) : SumOK Tryz.prog f begunSum := by
  obtain ⟨m1, e⟩ := okTrue_inv hr
  exact begunSum_ok mixed (sumsB_ok h) hf e
end Go.Ev
