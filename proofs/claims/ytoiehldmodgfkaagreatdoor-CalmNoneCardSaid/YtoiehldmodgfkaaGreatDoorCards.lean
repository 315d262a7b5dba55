/-
  DERIVED. GIVEN WITH THE SEED: THE CARDS: each row of YtoiehldmodgfkaaGreatDoorRows.lean that lists a variable, with what it lists TIED to the program's text (the seventh form; the later family's looks); each row that meets fmt, with fmt's text TOLD by the authors' own Lean function (tested against real Go, not proved from fmt's source: count such statements apart). THE CARD IS WHAT COUNTS. Prove the row's statement (the work); the ties are given (YtoiehldmodgfkaaGreatDoorTie.lean); close each card by the builder's one call (the guide's Derived/Test/ToyasCard.lean, 'card_holds'). Laid BY PROGRAM, IN A SANDBOX (cutbox-door.mjs). By AI agents, Wed Nov 11 2026. No macro, syntax, notation, axiom, sorry.
-/
import Derived.Test.YtoiehldmodgfkaaGreatDoorRows
import GoSem.ClaimSeven
namespace Go.Proofs.YtoiehldmodgfkaaGreatDoor
namespace Rows

/-- THE TIED CARD OF 'donatuslaw29.NodeNone'. -/
def nodeNoneCard : Claim7 := { stood := { row := nodeNoneRow, standIns := [], harness := (true, "9c85ba67795430c865b929f4161e7b16af4acd072a54f24404974c22f2b69806"), looks := true }, kinds := [], alts := [], laidByText := true, laidKinds := [.sentinel, .sentinel, .data, .data, .data], laidTests := true, laidLooks := .later }
def NodeNoneCardSaid : Prop := Claim7.holds Tryz.pinned (.plain (OpenSpec.ofChange nodeNoneSpec)) nodeNoneCard

/-- THE TIED CARD OF 'donatuslaw30.WorldNone'. -/
def worldNoneCard : Claim7 := { stood := { row := worldNoneRow, standIns := [], harness := (true, "9c85ba67795430c865b929f4161e7b16af4acd072a54f24404974c22f2b69806"), looks := true }, kinds := [], alts := [], laidByText := true, laidKinds := [.sentinel, .sentinel, .data, .data, .data], laidTests := true, laidLooks := .later }
def WorldNoneCardSaid : Prop := Claim7.holds Tryz.pinned (.plain (OpenSpec.ofChange worldNoneSpec)) worldNoneCard

/-- THE TIED CARD OF 'donatuslaw31.CalmNone'. -/
def calmNoneCard : Claim7 := { stood := { row := calmNoneRow, standIns := [], harness := (true, "9c85ba67795430c865b929f4161e7b16af4acd072a54f24404974c22f2b69806"), looks := true }, kinds := [], alts := [], laidByText := true, laidKinds := [.sentinel, .sentinel, .data, .data, .data], laidTests := true, laidLooks := .later }
def CalmNoneCardSaid : Prop := Claim7.holds Tryz.pinned (.plain (OpenSpec.ofChange calmNoneSpec)) calmNoneCard

/-- THE SECOND FORM's CARD OF 'donatuslaw29.NodeNone'. -/
def nodeNoneUptoCard : Claim7 := { stood := { row := nodeNoneUptoRow, standIns := [], harness := (true, "9c85ba67795430c865b929f4161e7b16af4acd072a54f24404974c22f2b69806"), looks := true }, kinds := [], alts := [], laidByText := true, laidKinds := [.sentinel, .sentinel, .data, .data, .data], laidTests := true, laidLooks := .later }
def NodeNoneUptoCardSaid : Prop := Claim7.holds Tryz.pinned (.plain (OpenSpec.upto nodeNoneSpec)) nodeNoneUptoCard

/-- THE SECOND FORM's CARD OF 'donatuslaw30.WorldNone'. -/
def worldNoneUptoCard : Claim7 := { stood := { row := worldNoneUptoRow, standIns := [], harness := (true, "9c85ba67795430c865b929f4161e7b16af4acd072a54f24404974c22f2b69806"), looks := true }, kinds := [], alts := [], laidByText := true, laidKinds := [.sentinel, .sentinel, .data, .data, .data], laidTests := true, laidLooks := .later }
def WorldNoneUptoCardSaid : Prop := Claim7.holds Tryz.pinned (.plain (OpenSpec.upto worldNoneSpec)) worldNoneUptoCard

/-- THE SECOND FORM's CARD OF 'donatuslaw31.CalmNone'. -/
def calmNoneUptoCard : Claim7 := { stood := { row := calmNoneUptoRow, standIns := [], harness := (true, "9c85ba67795430c865b929f4161e7b16af4acd072a54f24404974c22f2b69806"), looks := true }, kinds := [], alts := [], laidByText := true, laidKinds := [.sentinel, .sentinel, .data, .data, .data], laidTests := true, laidLooks := .later }
def CalmNoneUptoCardSaid : Prop := Claim7.holds Tryz.pinned (.plain (OpenSpec.upto calmNoneSpec)) calmNoneUptoCard
end Rows
end Go.Proofs.YtoiehldmodgfkaaGreatDoor
