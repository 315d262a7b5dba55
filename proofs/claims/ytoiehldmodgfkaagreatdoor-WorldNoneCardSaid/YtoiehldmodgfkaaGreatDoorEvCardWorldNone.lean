/- What is proved: the given card of WorldNone. Run on no arguments, in a world as the harness makes it, the statement's function returns true; nothing is assumed beyond what the given constant itself says. -/
import Derived.Test.YtoiehldmodgfkaaGreatDoorEvRowWorldNone
import Derived.Test.YtoiehldmodgfkaaGreatDoorEvOwnTie6
import Derived.Test.YtoiehldmodgfkaaGreatDoorEvNoGo6
import Derived.Test.YtoiehldmodgfkaaGreatDoorCards
import Derived.SevenTiedAt
namespace Go.Proofs.YtoiehldmodgfkaaGreatDoor.worldNone
open Go
set_option maxHeartbeats 8000000 in
theorem card_proved : Rows.WorldNoneCardSaid :=
  Claim7.holds_tied_plain_at .later [] [.sentinel, .sentinel, .data, .data, .data] true Rows.worldNoneCard.stood.harness true
    proved (fun _ h => by cases h) (by as_aux_lemma => kernel_rfl) (fun _ h => by cases h) worldNone_own_tie rfl ⟨rfl, rfl⟩ (by as_aux_lemma => kernel_rfl) rfl
    (fun f fn hf hfn => by
      obtain rfl : f = 4 := Option.some.inj ((show Tryz.prog.funcNamed "donatus/donatuslaw30.WorldNone" = some 4 by as_aux_lemma => kernel_rfl).symm.trans hf) |>.symm
      obtain rfl : fn = Tryz.f4 := (Option.some.inj (Tryz.func4.symm.trans hfn)).symm
      exact ⟨by as_aux_lemma => kernel_rfl, fun j t ht => by
        rw [Tryz.params4] at ht
        simp at ht⟩)
    (goesBy_none noGo rfl)
#print axioms card_proved
end Go.Proofs.YtoiehldmodgfkaaGreatDoor.worldNone
