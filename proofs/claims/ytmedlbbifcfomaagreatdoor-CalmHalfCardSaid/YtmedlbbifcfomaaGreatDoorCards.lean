/-
  DERIVED. GIVEN WITH THE SEED: THE CARDS: each row of YtmedlbbifcfomaaGreatDoorRows.lean that lists a variable, with what it lists TIED to the program's text (the seventh form; the later family's looks); each row that meets fmt, with fmt's text TOLD by the authors' own Lean function (tested against real Go, not proved from fmt's source: count such statements apart). THE CARD IS WHAT COUNTS. Prove the row's statement (the work); the ties are given (YtmedlbbifcfomaaGreatDoorTie.lean); close each card by the builder's one call (the guide's Derived/Test/ToyasCard.lean, 'card_holds'). Laid BY PROGRAM, IN A SANDBOX (cutbox-door.mjs). By AI agents, Wed Nov 11 2026. No macro, syntax, notation, axiom, sorry.
-/
import Derived.Test.YtmedlbbifcfomaaGreatDoorRows
import GoSem.ClaimSeven
namespace Go.Proofs.YtmedlbbifcfomaaGreatDoor
namespace Rows

/-- THE TIED CARD OF 'donatuslaw29.NodePack'. -/
def nodePackCard : Claim7 := { stood := { row := nodePackRow, standIns := [], harness := (true, "911b196f1d25fd75dbcf6ae9058bf3a52812e2dbb6d286e6fc54bced984afc84"), looks := true }, kinds := [], alts := [], laidByText := true, laidKinds := [.sentinel, .sentinel, .data, .data, .data], laidTests := true, laidLooks := .later }
def NodePackCardSaid : Prop := Claim7.holds Tryz.pinned (.plain (OpenSpec.ofChange nodePackSpec)) nodePackCard

/-- THE TIED CARD OF 'donatuslaw30.WorldSizes'. -/
def worldSizesCard : Claim7 := { stood := { row := worldSizesRow, standIns := [], harness := (true, "911b196f1d25fd75dbcf6ae9058bf3a52812e2dbb6d286e6fc54bced984afc84"), looks := true }, kinds := [], alts := [], laidByText := true, laidKinds := [.sentinel, .sentinel, .data, .data, .data], laidTests := true, laidLooks := .later }
def WorldSizesCardSaid : Prop := Claim7.holds Tryz.pinned (.plain (OpenSpec.ofChange worldSizesSpec)) worldSizesCard

/-- THE TIED CARD OF 'donatuslaw30.WorldDown'. -/
def worldDownCard : Claim7 := { stood := { row := worldDownRow, standIns := [], harness := (true, "911b196f1d25fd75dbcf6ae9058bf3a52812e2dbb6d286e6fc54bced984afc84"), looks := true }, kinds := [], alts := [], laidByText := true, laidKinds := [.sentinel, .sentinel, .data, .data, .data], laidTests := true, laidLooks := .later }
def WorldDownCardSaid : Prop := Claim7.holds Tryz.pinned (.plain (OpenSpec.ofChange worldDownSpec)) worldDownCard

/-- THE TIED CARD OF 'donatuslaw30.WorldSend'. -/
def worldSendCard : Claim7 := { stood := { row := worldSendRow, standIns := [], harness := (true, "911b196f1d25fd75dbcf6ae9058bf3a52812e2dbb6d286e6fc54bced984afc84"), looks := true }, kinds := [], alts := [], laidByText := true, laidKinds := [.sentinel, .sentinel, .data, .data, .data], laidTests := true, laidLooks := .later }
def WorldSendCardSaid : Prop := Claim7.holds Tryz.pinned (.plain (OpenSpec.ofChange worldSendSpec)) worldSendCard

/-- THE TIED CARD OF 'donatuslaw31.CalmHalf'. -/
def calmHalfCard : Claim7 := { stood := { row := calmHalfRow, standIns := [], harness := (true, "911b196f1d25fd75dbcf6ae9058bf3a52812e2dbb6d286e6fc54bced984afc84"), looks := true }, kinds := [], alts := [], laidByText := true, laidKinds := [.sentinel, .sentinel, .data, .data, .data], laidTests := true, laidLooks := .later }
def CalmHalfCardSaid : Prop := Claim7.holds Tryz.pinned (.plain (OpenSpec.ofChange calmHalfSpec)) calmHalfCard

/-- THE SECOND FORM's CARD OF 'donatuslaw29.NodePack'. -/
def nodePackUptoCard : Claim7 := { stood := { row := nodePackUptoRow, standIns := [], harness := (true, "911b196f1d25fd75dbcf6ae9058bf3a52812e2dbb6d286e6fc54bced984afc84"), looks := true }, kinds := [], alts := [], laidByText := true, laidKinds := [.sentinel, .sentinel, .data, .data, .data], laidTests := true, laidLooks := .later }
def NodePackUptoCardSaid : Prop := Claim7.holds Tryz.pinned (.plain (OpenSpec.upto nodePackSpec)) nodePackUptoCard

/-- THE SECOND FORM's CARD OF 'donatuslaw30.WorldSizes'. -/
def worldSizesUptoCard : Claim7 := { stood := { row := worldSizesUptoRow, standIns := [], harness := (true, "911b196f1d25fd75dbcf6ae9058bf3a52812e2dbb6d286e6fc54bced984afc84"), looks := true }, kinds := [], alts := [], laidByText := true, laidKinds := [.sentinel, .sentinel, .data, .data, .data], laidTests := true, laidLooks := .later }
def WorldSizesUptoCardSaid : Prop := Claim7.holds Tryz.pinned (.plain (OpenSpec.upto worldSizesSpec)) worldSizesUptoCard

/-- THE SECOND FORM's CARD OF 'donatuslaw30.WorldDown'. -/
def worldDownUptoCard : Claim7 := { stood := { row := worldDownUptoRow, standIns := [], harness := (true, "911b196f1d25fd75dbcf6ae9058bf3a52812e2dbb6d286e6fc54bced984afc84"), looks := true }, kinds := [], alts := [], laidByText := true, laidKinds := [.sentinel, .sentinel, .data, .data, .data], laidTests := true, laidLooks := .later }
def WorldDownUptoCardSaid : Prop := Claim7.holds Tryz.pinned (.plain (OpenSpec.upto worldDownSpec)) worldDownUptoCard

/-- THE SECOND FORM's CARD OF 'donatuslaw30.WorldSend'. -/
def worldSendUptoCard : Claim7 := { stood := { row := worldSendUptoRow, standIns := [], harness := (true, "911b196f1d25fd75dbcf6ae9058bf3a52812e2dbb6d286e6fc54bced984afc84"), looks := true }, kinds := [], alts := [], laidByText := true, laidKinds := [.sentinel, .sentinel, .data, .data, .data], laidTests := true, laidLooks := .later }
def WorldSendUptoCardSaid : Prop := Claim7.holds Tryz.pinned (.plain (OpenSpec.upto worldSendSpec)) worldSendUptoCard

/-- THE SECOND FORM's CARD OF 'donatuslaw31.CalmHalf'. -/
def calmHalfUptoCard : Claim7 := { stood := { row := calmHalfUptoRow, standIns := [], harness := (true, "911b196f1d25fd75dbcf6ae9058bf3a52812e2dbb6d286e6fc54bced984afc84"), looks := true }, kinds := [], alts := [], laidByText := true, laidKinds := [.sentinel, .sentinel, .data, .data, .data], laidTests := true, laidLooks := .later }
def CalmHalfUptoCardSaid : Prop := Claim7.holds Tryz.pinned (.plain (OpenSpec.upto calmHalfSpec)) calmHalfUptoCard
end Rows
end Go.Proofs.YtmedlbbifcfomaaGreatDoor
