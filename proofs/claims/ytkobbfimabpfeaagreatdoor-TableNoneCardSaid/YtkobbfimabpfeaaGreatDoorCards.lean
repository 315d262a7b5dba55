/-
  DERIVED. GIVEN WITH THE SEED: THE CARDS: each row of YtkobbfimabpfeaaGreatDoorRows.lean that lists a variable, with what it lists TIED to the program's text (the seventh form; the later family's looks); each row that meets fmt, with fmt's text TOLD by the authors' own Lean function (tested against real Go, not proved from fmt's source: count such statements apart). THE CARD IS WHAT COUNTS. Prove the row's statement (the work); the ties are given (YtkobbfimabpfeaaGreatDoorTie.lean); close each card by the builder's one call (the guide's Derived/Test/ToyasCard.lean, 'card_holds'). Laid BY PROGRAM, IN A SANDBOX (cutbox-door.mjs). By AI agents, Wed Nov 11 2026. No macro, syntax, notation, axiom, sorry.
-/
import Derived.Test.YtkobbfimabpfeaaGreatDoorRows
import GoSem.ClaimSeven
namespace Go.Proofs.YtkobbfimabpfeaaGreatDoor
namespace Rows

/-- THE TIED CARD OF 'donatuslaw10.LookNone'. -/
def lookNoneCard : Claim7 := { stood := { row := lookNoneRow, standIns := [], harness := (true, "eb4156bbc85d9dcd7fabdc753ff9403f66e9a6c12f4f683f0631cddf55dfe1b0"), looks := true }, kinds := [], alts := [], laidByText := true, laidKinds := [.data, .data, .data, .sentinel, .sentinel], laidTests := true, laidLooks := .later }
def LookNoneCardSaid : Prop := Claim7.holds Tryz.pinned (.plain (OpenSpec.ofChange lookNoneSpec)) lookNoneCard

/-- THE TIED CARD OF 'donatuslaw10.LookEnds'. -/
def lookEndsCard : Claim7 := { stood := { row := lookEndsRow, standIns := [], harness := (true, "eb4156bbc85d9dcd7fabdc753ff9403f66e9a6c12f4f683f0631cddf55dfe1b0"), looks := true }, kinds := [], alts := [], laidByText := true, laidKinds := [.data, .data, .data, .sentinel, .sentinel], laidTests := true, laidLooks := .later }
def LookEndsCardSaid : Prop := Claim7.holds Tryz.pinned (.plain (OpenSpec.ofChange lookEndsSpec)) lookEndsCard

/-- THE TIED CARD OF 'donatuslaw11.TableNone'. -/
def tableNoneCard : Claim7 := { stood := { row := tableNoneRow, standIns := [], harness := (true, "eb4156bbc85d9dcd7fabdc753ff9403f66e9a6c12f4f683f0631cddf55dfe1b0"), looks := true }, kinds := [], alts := [], laidByText := true, laidKinds := [.data, .data, .data, .sentinel, .sentinel], laidTests := true, laidLooks := .later }
def TableNoneCardSaid : Prop := Claim7.holds Tryz.pinned (.plain (OpenSpec.ofChange tableNoneSpec)) tableNoneCard

/-- THE SECOND FORM's CARD OF 'donatuslaw10.LookNone'. -/
def lookNoneUptoCard : Claim7 := { stood := { row := lookNoneUptoRow, standIns := [], harness := (true, "eb4156bbc85d9dcd7fabdc753ff9403f66e9a6c12f4f683f0631cddf55dfe1b0"), looks := true }, kinds := [], alts := [], laidByText := true, laidKinds := [.data, .data, .data, .sentinel, .sentinel], laidTests := true, laidLooks := .later }
def LookNoneUptoCardSaid : Prop := Claim7.holds Tryz.pinned (.plain (OpenSpec.upto lookNoneSpec)) lookNoneUptoCard

/-- THE SECOND FORM's CARD OF 'donatuslaw10.LookEnds'. -/
def lookEndsUptoCard : Claim7 := { stood := { row := lookEndsUptoRow, standIns := [], harness := (true, "eb4156bbc85d9dcd7fabdc753ff9403f66e9a6c12f4f683f0631cddf55dfe1b0"), looks := true }, kinds := [], alts := [], laidByText := true, laidKinds := [.data, .data, .data, .sentinel, .sentinel], laidTests := true, laidLooks := .later }
def LookEndsUptoCardSaid : Prop := Claim7.holds Tryz.pinned (.plain (OpenSpec.upto lookEndsSpec)) lookEndsUptoCard

/-- THE SECOND FORM's CARD OF 'donatuslaw11.TableNone'. -/
def tableNoneUptoCard : Claim7 := { stood := { row := tableNoneUptoRow, standIns := [], harness := (true, "eb4156bbc85d9dcd7fabdc753ff9403f66e9a6c12f4f683f0631cddf55dfe1b0"), looks := true }, kinds := [], alts := [], laidByText := true, laidKinds := [.data, .data, .data, .sentinel, .sentinel], laidTests := true, laidLooks := .later }
def TableNoneUptoCardSaid : Prop := Claim7.holds Tryz.pinned (.plain (OpenSpec.upto tableNoneSpec)) tableNoneUptoCard
end Rows
end Go.Proofs.YtkobbfimabpfeaaGreatDoor
