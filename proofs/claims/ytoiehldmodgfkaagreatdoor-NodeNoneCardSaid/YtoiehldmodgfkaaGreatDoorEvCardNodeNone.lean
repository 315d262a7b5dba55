/- What is proved: the given card of NodeNone. Run on no arguments, in a world as the harness makes it, the statement's function returns true; nothing is assumed beyond what the given constant itself says. -/
import Derived.Test.YtoiehldmodgfkaaGreatDoorEvRowNodeNone
import Derived.Test.YtoiehldmodgfkaaGreatDoorEvOwnTie6
import Derived.Test.YtoiehldmodgfkaaGreatDoorEvNoGo6
import Derived.Test.YtoiehldmodgfkaaGreatDoorCards
import Derived.SevenTiedAt
namespace Go.Proofs.YtoiehldmodgfkaaGreatDoor.nodeNone
open Go
set_option maxHeartbeats 8000000 in
theorem card_proved : Rows.NodeNoneCardSaid :=
  Claim7.holds_tied_plain_at .later [] [.sentinel, .sentinel, .data, .data, .data] true Rows.nodeNoneCard.stood.harness true
    proved (fun _ h => by cases h) (by as_aux_lemma => kernel_rfl) (fun _ h => by cases h) nodeNone_own_tie rfl ⟨rfl, rfl⟩ (by as_aux_lemma => kernel_rfl) rfl
    (fun f fn hf hfn => by
      obtain rfl : f = 3 := Option.some.inj ((show Tryz.prog.funcNamed "donatus/donatuslaw29.NodeNone" = some 3 by as_aux_lemma => kernel_rfl).symm.trans hf) |>.symm
      obtain rfl : fn = Tryz.f3 := (Option.some.inj (Tryz.func3.symm.trans hfn)).symm
      exact ⟨by as_aux_lemma => kernel_rfl, fun j t ht => by
        rw [Tryz.params3] at ht
        simp at ht⟩)
    (goesBy_none noGo rfl)
#print axioms card_proved
end Go.Proofs.YtoiehldmodgfkaaGreatDoor.nodeNone
