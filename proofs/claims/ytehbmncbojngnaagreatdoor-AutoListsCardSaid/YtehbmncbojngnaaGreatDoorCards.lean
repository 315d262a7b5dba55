/-
  DERIVED. GIVEN WITH THE SEED: THE CARDS: each row of YtehbmncbojngnaaGreatDoorRows.lean that lists a variable, with what it lists TIED to the program's text (the seventh form; the later family's looks); each row that meets fmt, with fmt's text TOLD by the authors' own Lean function (tested against real Go, not proved from fmt's source: count such statements apart). THE CARD IS WHAT COUNTS. Prove the row's statement (the work); the ties are given (YtehbmncbojngnaaGreatDoorTie.lean); close each card by the builder's one call (the guide's Derived/Test/ToyasCard.lean, 'card_holds'). Laid BY PROGRAM, IN A SANDBOX (cutbox-door.mjs). By AI agents, Wed Nov 11 2026. No macro, syntax, notation, axiom, sorry.
-/
import Derived.Test.YtehbmncbojngnaaGreatDoorRows
import GoSem.ClaimSeven
namespace Go.Proofs.YtehbmncbojngnaaGreatDoor
namespace Rows

/-- THE TIED CARD OF 'donatuslaw9.AutoAll'. -/
def autoAllCard : Claim7 := { stood := { row := autoAllRow, standIns := [], harness := (true, "a27ab39b3c8f99ea519f981189f302ed256bb7d79b1c747cbd43c342c5b3eb20"), looks := true }, kinds := [], alts := [], laidByText := true, laidKinds := [.data, .data, .data, .sentinel, .sentinel], laidTests := true, laidLooks := .later }
def AutoAllCardSaid : Prop := Claim7.holds Tryz.pinned (.plain (OpenSpec.ofChange autoAllSpec)) autoAllCard

/-- THE TIED CARD OF 'donatuslaw9.AutoLists'. -/
def autoListsCard : Claim7 := { stood := { row := autoListsRow, standIns := [], harness := (true, "a27ab39b3c8f99ea519f981189f302ed256bb7d79b1c747cbd43c342c5b3eb20"), looks := true }, kinds := [], alts := [], laidByText := true, laidKinds := [.data, .data, .data, .sentinel, .sentinel], laidTests := true, laidLooks := .later }
def AutoListsCardSaid : Prop := Claim7.holds Tryz.pinned (.plain (OpenSpec.ofChange autoListsSpec)) autoListsCard

/-- THE TIED CARD OF 'donatuslaw9.AutoNone'. -/
def autoNoneCard : Claim7 := { stood := { row := autoNoneRow, standIns := [], harness := (true, "a27ab39b3c8f99ea519f981189f302ed256bb7d79b1c747cbd43c342c5b3eb20"), looks := true }, kinds := [], alts := [], laidByText := true, laidKinds := [.data, .data, .data, .sentinel, .sentinel], laidTests := true, laidLooks := .later }
def AutoNoneCardSaid : Prop := Claim7.holds Tryz.pinned (.plain (OpenSpec.ofChange autoNoneSpec)) autoNoneCard

/-- THE TIED CARD OF 'donatuslaw9.AutoUnlike'. -/
def autoUnlikeCard : Claim7 := { stood := { row := autoUnlikeRow, standIns := [], harness := (true, "a27ab39b3c8f99ea519f981189f302ed256bb7d79b1c747cbd43c342c5b3eb20"), looks := true }, kinds := [], alts := [], laidByText := true, laidKinds := [.data, .data, .data, .sentinel, .sentinel], laidTests := true, laidLooks := .later }
def AutoUnlikeCardSaid : Prop := Claim7.holds Tryz.pinned (.plain (OpenSpec.ofChange autoUnlikeSpec)) autoUnlikeCard

/-- THE TIED CARD OF 'donatuslaw9.AutoOrder'. -/
def autoOrderCard : Claim7 := { stood := { row := autoOrderRow, standIns := [], harness := (true, "a27ab39b3c8f99ea519f981189f302ed256bb7d79b1c747cbd43c342c5b3eb20"), looks := true }, kinds := [], alts := [], laidByText := true, laidKinds := [.data, .data, .data, .sentinel, .sentinel], laidTests := true, laidLooks := .later }
def AutoOrderCardSaid : Prop := Claim7.holds Tryz.pinned (.plain (OpenSpec.ofChange autoOrderSpec)) autoOrderCard

/-- THE SECOND FORM's CARD OF 'donatuslaw9.AutoAll'. -/
def autoAllUptoCard : Claim7 := { stood := { row := autoAllUptoRow, standIns := [], harness := (true, "a27ab39b3c8f99ea519f981189f302ed256bb7d79b1c747cbd43c342c5b3eb20"), looks := true }, kinds := [], alts := [], laidByText := true, laidKinds := [.data, .data, .data, .sentinel, .sentinel], laidTests := true, laidLooks := .later }
def AutoAllUptoCardSaid : Prop := Claim7.holds Tryz.pinned (.plain (OpenSpec.upto autoAllSpec)) autoAllUptoCard

/-- THE SECOND FORM's CARD OF 'donatuslaw9.AutoLists'. -/
def autoListsUptoCard : Claim7 := { stood := { row := autoListsUptoRow, standIns := [], harness := (true, "a27ab39b3c8f99ea519f981189f302ed256bb7d79b1c747cbd43c342c5b3eb20"), looks := true }, kinds := [], alts := [], laidByText := true, laidKinds := [.data, .data, .data, .sentinel, .sentinel], laidTests := true, laidLooks := .later }
def AutoListsUptoCardSaid : Prop := Claim7.holds Tryz.pinned (.plain (OpenSpec.upto autoListsSpec)) autoListsUptoCard

/-- THE SECOND FORM's CARD OF 'donatuslaw9.AutoNone'. -/
def autoNoneUptoCard : Claim7 := { stood := { row := autoNoneUptoRow, standIns := [], harness := (true, "a27ab39b3c8f99ea519f981189f302ed256bb7d79b1c747cbd43c342c5b3eb20"), looks := true }, kinds := [], alts := [], laidByText := true, laidKinds := [.data, .data, .data, .sentinel, .sentinel], laidTests := true, laidLooks := .later }
def AutoNoneUptoCardSaid : Prop := Claim7.holds Tryz.pinned (.plain (OpenSpec.upto autoNoneSpec)) autoNoneUptoCard

/-- THE SECOND FORM's CARD OF 'donatuslaw9.AutoUnlike'. -/
def autoUnlikeUptoCard : Claim7 := { stood := { row := autoUnlikeUptoRow, standIns := [], harness := (true, "a27ab39b3c8f99ea519f981189f302ed256bb7d79b1c747cbd43c342c5b3eb20"), looks := true }, kinds := [], alts := [], laidByText := true, laidKinds := [.data, .data, .data, .sentinel, .sentinel], laidTests := true, laidLooks := .later }
def AutoUnlikeUptoCardSaid : Prop := Claim7.holds Tryz.pinned (.plain (OpenSpec.upto autoUnlikeSpec)) autoUnlikeUptoCard

/-- THE SECOND FORM's CARD OF 'donatuslaw9.AutoOrder'. -/
def autoOrderUptoCard : Claim7 := { stood := { row := autoOrderUptoRow, standIns := [], harness := (true, "a27ab39b3c8f99ea519f981189f302ed256bb7d79b1c747cbd43c342c5b3eb20"), looks := true }, kinds := [], alts := [], laidByText := true, laidKinds := [.data, .data, .data, .sentinel, .sentinel], laidTests := true, laidLooks := .later }
def AutoOrderUptoCardSaid : Prop := Claim7.holds Tryz.pinned (.plain (OpenSpec.upto autoOrderSpec)) autoOrderUptoCard
end Rows
end Go.Proofs.YtehbmncbojngnaaGreatDoor
