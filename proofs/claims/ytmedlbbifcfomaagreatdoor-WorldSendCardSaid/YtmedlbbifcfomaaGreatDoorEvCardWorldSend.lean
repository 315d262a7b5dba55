/- What is proved: the given card of WorldSend. Run on no arguments, in a world as the harness makes it, the statement's function returns true; nothing is assumed beyond what the given constant itself says. -/
import Derived.Test.YtmedlbbifcfomaaGreatDoorEvRowWorldSend
import Derived.Test.YtmedlbbifcfomaaGreatDoorEvOwnTie8
import Derived.Test.YtmedlbbifcfomaaGreatDoorEvNoGo8
import Derived.Test.YtmedlbbifcfomaaGreatDoorCards
import Derived.SevenTiedAt
namespace Go.Proofs.YtmedlbbifcfomaaGreatDoor.worldSend
open Go
set_option maxHeartbeats 8000000 in
theorem card_proved : Rows.WorldSendCardSaid :=
  Claim7.holds_tied_plain_at .later [] [.sentinel, .sentinel, .data, .data, .data] true Rows.worldSendCard.stood.harness true
    proved (fun _ h => by cases h) (by as_aux_lemma => kernel_rfl) (fun _ h => by cases h) worldSend_own_tie rfl ⟨rfl, rfl⟩ (by as_aux_lemma => kernel_rfl) rfl
    (fun f fn hf hfn => by
      obtain rfl : f = 6 := Option.some.inj ((show Tryz.prog.funcNamed "donatus/donatuslaw30.WorldSend" = some 6 by as_aux_lemma => kernel_rfl).symm.trans hf) |>.symm
      obtain rfl : fn = Tryz.f6 := (Option.some.inj (Tryz.func6.symm.trans hfn)).symm
      exact ⟨by as_aux_lemma => kernel_rfl, fun j t ht => by
        rw [Tryz.params6] at ht
        rcases j with _ | _ | _ | j <;> simp at ht
        all_goals (subst ht; kernel_rfl)⟩)
    (goesBy_none noGo rfl)
#print axioms card_proved
end Go.Proofs.YtmedlbbifcfomaaGreatDoor.worldSend
