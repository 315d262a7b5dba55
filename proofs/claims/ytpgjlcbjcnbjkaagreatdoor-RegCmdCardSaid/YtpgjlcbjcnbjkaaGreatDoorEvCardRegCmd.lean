/- What is proved: the given card of RegCmd. Run on no arguments, in a world as the harness makes it, the statement's function returns true; nothing is assumed beyond what the given constant itself says. -/
import Derived.Test.YtpgjlcbjcnbjkaaGreatDoorEvRowRegCmd
import Derived.Test.YtpgjlcbjcnbjkaaGreatDoorTie
import Derived.Test.YtpgjlcbjcnbjkaaGreatDoorCards
import Derived.SevenTiedAt
namespace Go.Proofs.YtpgjlcbjcnbjkaaGreatDoor.regCmd
open Go
set_option maxHeartbeats 8000000 in
theorem card_proved : Rows.RegCmdCardSaid :=
  Claim7.holds_tied_plain_at .later [] [.data, .data, .data, .sentinel, .sentinel] true Rows.regCmdCard.stood.harness true
    proved (fun _ h => by cases h) (by as_aux_lemma => kernel_rfl) (fun _ h => by cases h) regCmd_row_tie rfl ⟨rfl, rfl⟩ (by as_aux_lemma => kernel_rfl) rfl
    (fun f fn hf hfn => by
      obtain rfl : f = 5 := Option.some.inj ((show Tryz.prog.funcNamed "donatus/donatuslaw27.RegCmd" = some 5 by kernel_rfl).symm.trans hf) |>.symm
      obtain rfl : fn = Tryz.f5 := (Option.some.inj (Tryz.func5.symm.trans hfn)).symm
      exact ⟨by as_aux_lemma => kernel_rfl, fun j t ht => by
        rw [Tryz.params5] at ht
        rcases j with _ | _ | _ | j <;> simp at ht
        all_goals (subst ht; kernel_rfl)⟩)
    (by as_aux_lemma => kernel_rfl)
#print axioms card_proved
end Go.Proofs.YtpgjlcbjcnbjkaaGreatDoor.regCmd
