/- What is proved: no function of this program starts a goroutine, so no call does. Nothing is assumed. -/
import Derived.Test.YtmedlbbifcfomaaGreatDoorRows
import GoSem.ClaimGoes
namespace Go.Proofs.YtmedlbbifcfomaaGreatDoor
open Go
theorem goes_none {P : Program} (h : P.funcs.any Func.goes = false) (f : FuncId) : P.goes f = false := by
  have hg : ∀ g : FuncId, (P.funcs[g]?).any Func.goes = false := by
    intro g
    cases hf : P.funcs[g]? with
    | none => rfl
    | some fn =>
      obtain ⟨hlt, he⟩ := Array.getElem?_eq_some_iff.1 hf
      have := Array.any_eq_false.1 h g hlt
      simp only [Option.any_some]
      rw [he] at this
      simpa using this
  unfold Program.goes
  rw [h, Bool.and_false, Bool.or_false, List.any_eq_false]
  intro g _
  rw [hg]
  simp
theorem goesBy_none {P : Program} (h : P.funcs.any Func.goes = false) {c : OpenClaim} (hc : c.start = .entering) : false = c.goesBy P := by
  unfold OpenClaim.goesBy Program.goesAt Program.goesFrom
  rw [hc]
  cases P.funcNamed c.func with
  | none => rfl
  | some f => simp [goes_none h f]
theorem noGo : Tryz.prog.funcs.any Func.goes = false := by kernel_rfl
end Go.Proofs.YtmedlbbifcfomaaGreatDoor
