/- What is proved: the given card of RegNone. Run on no arguments, in a world as the harness makes it, the statement's function returns true; nothing is assumed beyond what the given constant itself says. -/
import Derived.Test.YtpgjlcbjcnbjkaaGreatDoorEvRowRegNone
import Derived.Test.YtpgjlcbjcnbjkaaGreatDoorTie
import Derived.Test.YtpgjlcbjcnbjkaaGreatDoorCards
import Derived.SevenTiedAt
namespace Go.Proofs.YtpgjlcbjcnbjkaaGreatDoor.regNone
open Go
set_option maxHeartbeats 8000000 in
theorem card_proved : Rows.RegNoneCardSaid :=
  Claim7.holds_tied_plain_at .later [] [.data, .data, .data, .sentinel, .sentinel] true Rows.regNoneCard.stood.harness true
    proved (fun _ h => by cases h) (by as_aux_lemma => kernel_rfl) (fun _ h => by cases h) regNone_row_tie rfl ⟨rfl, rfl⟩ (by as_aux_lemma => kernel_rfl) rfl
    (fun f fn hf hfn => by
      obtain rfl : f = 7 := Option.some.inj ((show Tryz.prog.funcNamed "donatus/donatuslaw27.RegNone" = some 7 by kernel_rfl).symm.trans hf) |>.symm
      obtain rfl : fn = Tryz.f7 := (Option.some.inj (Tryz.func7.symm.trans hfn)).symm
      exact ⟨by as_aux_lemma => kernel_rfl, fun j t ht => by
        rw [Tryz.params7] at ht
        simp at ht⟩)
    (by as_aux_lemma => kernel_rfl)
#print axioms card_proved
end Go.Proofs.YtpgjlcbjcnbjkaaGreatDoor.regNone
