/- What is proved: the given card of AutoUnlike. Run on a grammar, whichever it is, in a world as the harness makes it, the statement's function returns true, and the grammar reads as it did; nothing is assumed beyond what the given constant itself says. -/
import Derived.Test.YtehbmncbojngnaaGreatDoorEvRowAutoUnlike
import Derived.Test.YtehbmncbojngnaaGreatDoorTie
import Derived.Test.YtehbmncbojngnaaGreatDoorCards
import Derived.SevenTiedAt
namespace Go.Proofs.YtehbmncbojngnaaGreatDoor.autoUnlike
open Go
set_option maxHeartbeats 8000000 in
theorem card_proved : Rows.AutoUnlikeCardSaid :=
  Claim7.holds_tied_plain_at .later [] [.data, .data, .data, .sentinel, .sentinel] true Rows.autoUnlikeCard.stood.harness true
    proved (fun _ h => by cases h) (by as_aux_lemma => kernel_rfl) (fun _ h => by cases h) autoUnlike_row_tie rfl ⟨rfl, rfl⟩ (by as_aux_lemma => kernel_rfl) rfl
    (fun f fn hf hfn => by
      obtain rfl : f = 6 := Option.some.inj ((show Tryz.prog.funcNamed "donatus/donatuslaw9.AutoUnlike" = some 6 by kernel_rfl).symm.trans hf) |>.symm
      obtain rfl : fn = Tryz.f6 := (Option.some.inj (Tryz.func6.symm.trans hfn)).symm
      exact ⟨by as_aux_lemma => kernel_rfl, fun j t ht => by
        rw [Tryz.params6] at ht
        rcases j with _ | j <;> simp at ht
        all_goals (subst ht; kernel_rfl)⟩)
    (by as_aux_lemma => kernel_rfl)
#print axioms card_proved
end Go.Proofs.YtehbmncbojngnaaGreatDoor.autoUnlike
