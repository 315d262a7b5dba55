/- A run with arguments, said of any world. -/
import Derived.Test.YtpgjlcbjcnbjkaaGreatDoorEvGc
namespace Go.Ev
/-- A run with arguments from no memory, said of any world. -/
theorem run_args {P : Program} {S : Sums} (hm : P.follows .mixedOrders = true) (hS : SumsOK P S) {f : FuncId} (hs : S f = none) {n : Nat} {args : List AV} {b : Bool} {m1 : AMem} (h : call P S n f args ⟨0, .leaf⟩ = .mk (.bool b) m1) (w : World)
    (cs : Array Value) (hv : VRs (fun _ => none) args cs.toList) :
    Calls P f cs w fun e w' => e = .returned (.bool b) ∧ ∃ ρ, GStep (fun _ => none) (T.leaf : T Blk).get 0 w ρ m1.t.get m1.next w' := by
  rcases call_sound hm hS n f args ⟨0, .leaf⟩ _ _ h (fun _ => none) w cs (View.leaf _ _ _) hv (fun _ _ _ => rfl) with ⟨_, hc⟩ | ⟨ρ', w', vc, hr, _, _⟩
  · refine hc.mono fun e w' ⟨vc, ρ', he, hs, hv⟩ => ?_
    cases hv
    exact ⟨he, ρ', hs⟩
  · exfalso
    unfold call callF at h
    rw [hs] at h
    cases hc : codeOf P f with
    | none => simp only [hc] at h; cases h
    | some fc =>
      rw [codeOf_enter (by rw [hc]; rfl)] at hr
      cases hr
end Go.Ev
