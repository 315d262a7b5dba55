/- What is proved: the given card of TableNone. Run on no arguments, in a world as the harness makes it, the statement's function returns true; nothing is assumed beyond what the given constant itself says. -/
import Derived.Test.YtkobbfimabpfeaaGreatDoorEvRowTableNone
import Derived.Test.YtkobbfimabpfeaaGreatDoorTie
import Derived.Test.YtkobbfimabpfeaaGreatDoorCards
import Derived.SevenTiedAt
namespace Go.Proofs.YtkobbfimabpfeaaGreatDoor.tableNone
open Go
theorem card_proved : Rows.TableNoneCardSaid :=
  Claim7.holds_tied_plain_at .later [] [.data, .data, .data, .sentinel, .sentinel] true Rows.tableNoneCard.stood.harness true
    proved (fun _ h => by cases h) (by kernel_rfl) (fun _ h => by cases h) tableNone_row_tie rfl ⟨rfl, rfl⟩ (by kernel_rfl) rfl
    (fun f fn hf hfn => by
      obtain rfl : f = 5 := Option.some.inj ((show Tryz.prog.funcNamed "donatus/donatuslaw11.TableNone" = some 5 by kernel_rfl).symm.trans hf) |>.symm
      obtain rfl : fn = Tryz.f5 := (Option.some.inj (Tryz.func5.symm.trans hfn)).symm
      exact ⟨by kernel_rfl, fun j t ht => by
        rw [Tryz.params5] at ht
        simp at ht⟩)
    (by kernel_rfl)
#print axioms card_proved
end Go.Proofs.YtkobbfimabpfeaaGreatDoor.tableNone
