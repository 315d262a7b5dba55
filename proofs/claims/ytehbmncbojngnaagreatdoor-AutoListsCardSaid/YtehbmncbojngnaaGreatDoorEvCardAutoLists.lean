/- What is proved: the given card of AutoLists. Run on two numbers, whichever they are, in a world as the harness makes it, the statement's function returns true; nothing is assumed beyond what the given constant itself says. -/
import Derived.Test.YtehbmncbojngnaaGreatDoorEvRowAutoLists
import Derived.Test.YtehbmncbojngnaaGreatDoorTie
import Derived.Test.YtehbmncbojngnaaGreatDoorCards
import Derived.SevenTiedAt
namespace Go.Proofs.YtehbmncbojngnaaGreatDoor.autoLists
open Go
set_option maxHeartbeats 8000000 in
theorem card_proved : Rows.AutoListsCardSaid :=
  Claim7.holds_tied_plain_at .later [] [.data, .data, .data, .sentinel, .sentinel] true Rows.autoListsCard.stood.harness true
    proved (fun _ h => by cases h) (by as_aux_lemma => kernel_rfl) (fun _ h => by cases h) autoLists_row_tie rfl ⟨rfl, rfl⟩ (by as_aux_lemma => kernel_rfl) rfl
    (fun f fn hf hfn => by
      obtain rfl : f = 4 := Option.some.inj ((show Tryz.prog.funcNamed "donatus/donatuslaw9.AutoLists" = some 4 by kernel_rfl).symm.trans hf) |>.symm
      obtain rfl : fn = Tryz.f4 := (Option.some.inj (Tryz.func4.symm.trans hfn)).symm
      exact ⟨by as_aux_lemma => kernel_rfl, fun j t ht => by
        rw [Tryz.params4] at ht
        rcases j with _ | _ | j <;> simp at ht
        all_goals (subst ht; kernel_rfl)⟩)
    (by as_aux_lemma => kernel_rfl)
#print axioms card_proved
end Go.Proofs.YtehbmncbojngnaaGreatDoor.autoLists
