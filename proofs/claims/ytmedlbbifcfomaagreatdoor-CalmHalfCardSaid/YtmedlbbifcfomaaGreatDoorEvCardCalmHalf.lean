/- What is proved: the given card of CalmHalf. Run on no arguments, in a world as the harness makes it, the statement's function returns true; nothing is assumed beyond what the given constant itself says. -/
import Derived.Test.YtmedlbbifcfomaaGreatDoorEvRowCalmHalf
import Derived.Test.YtmedlbbifcfomaaGreatDoorEvOwnTie8
import Derived.Test.YtmedlbbifcfomaaGreatDoorEvNoGo8
import Derived.Test.YtmedlbbifcfomaaGreatDoorCards
import Derived.SevenTiedAt
namespace Go.Proofs.YtmedlbbifcfomaaGreatDoor.calmHalf
open Go
set_option maxHeartbeats 8000000 in
theorem card_proved : Rows.CalmHalfCardSaid :=
  Claim7.holds_tied_plain_at .later [] [.sentinel, .sentinel, .data, .data, .data] true Rows.calmHalfCard.stood.harness true
    proved (fun _ h => by cases h) (by as_aux_lemma => kernel_rfl) (fun _ h => by cases h) calmHalf_own_tie rfl ⟨rfl, rfl⟩ (by as_aux_lemma => kernel_rfl) rfl
    (fun f fn hf hfn => by
      obtain rfl : f = 7 := Option.some.inj ((show Tryz.prog.funcNamed "donatus/donatuslaw31.CalmHalf" = some 7 by as_aux_lemma => kernel_rfl).symm.trans hf) |>.symm
      obtain rfl : fn = Tryz.f7 := (Option.some.inj (Tryz.func7.symm.trans hfn)).symm
      exact ⟨by as_aux_lemma => kernel_rfl, fun j t ht => by
        rw [Tryz.params7] at ht
        rcases j with _ | _ | j <;> simp at ht
        all_goals (subst ht; kernel_rfl)⟩)
    (goesBy_none noGo rfl)
#print axioms card_proved
end Go.Proofs.YtmedlbbifcfomaaGreatDoor.calmHalf
