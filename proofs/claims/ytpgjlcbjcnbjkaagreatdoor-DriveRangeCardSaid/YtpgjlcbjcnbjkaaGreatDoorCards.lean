/-
  DERIVED. GIVEN WITH THE SEED: THE CARDS: each row of YtpgjlcbjcnbjkaaGreatDoorRows.lean that lists a variable, with what it lists TIED to the program's text (the seventh form; the later family's looks); each row that meets fmt, with fmt's text TOLD by the authors' own Lean function (tested against real Go, not proved from fmt's source: count such statements apart). THE CARD IS WHAT COUNTS. Prove the row's statement (the work); the ties are given (YtpgjlcbjcnbjkaaGreatDoorTie.lean); close each card by the builder's one call (the guide's Derived/Test/ToyasCard.lean, 'card_holds'). Laid BY PROGRAM, IN A SANDBOX (cutbox-door.mjs). By AI agents, Wed Nov 11 2026. No macro, syntax, notation, axiom, sorry.
-/
import Derived.Test.YtpgjlcbjcnbjkaaGreatDoorRows
import GoSem.ClaimSeven
namespace Go.Proofs.YtpgjlcbjcnbjkaaGreatDoor
namespace Rows

/-- THE TIED CARD OF 'donatuslaw12.PackAny'. -/
def packAnyCard : Claim7 := { stood := { row := packAnyRow, standIns := [], harness := (true, "197629d3281d176967a4abd5d5537267163b86885c5702b0287756c6031696fc"), looks := true }, kinds := [], alts := [], laidByText := true, laidKinds := [.data, .data, .data, .sentinel, .sentinel], laidTests := true, laidLooks := .later }
def PackAnyCardSaid : Prop := Claim7.holds Tryz.pinned (.plain (OpenSpec.ofChange packAnySpec)) packAnyCard

/-- THE TIED CARD OF 'donatuslaw14.DriveRange'. -/
def driveRangeCard : Claim7 := { stood := { row := driveRangeRow, standIns := [], harness := (true, "197629d3281d176967a4abd5d5537267163b86885c5702b0287756c6031696fc"), looks := true }, kinds := [], alts := [], laidByText := true, laidKinds := [.data, .data, .data, .sentinel, .sentinel], laidTests := true, laidLooks := .later }
def DriveRangeCardSaid : Prop := Claim7.holds Tryz.pinned (.plain (OpenSpec.ofChange driveRangeSpec)) driveRangeCard

/-- THE TIED CARD OF 'donatuslaw27.RegCmd'. -/
def regCmdCard : Claim7 := { stood := { row := regCmdRow, standIns := [], harness := (true, "197629d3281d176967a4abd5d5537267163b86885c5702b0287756c6031696fc"), looks := true }, kinds := [], alts := [], laidByText := true, laidKinds := [.data, .data, .data, .sentinel, .sentinel], laidTests := true, laidLooks := .later }
def RegCmdCardSaid : Prop := Claim7.holds Tryz.pinned (.plain (OpenSpec.ofChange regCmdSpec)) regCmdCard

/-- THE TIED CARD OF 'donatuslaw27.RegMany'. -/
def regManyCard : Claim7 := { stood := { row := regManyRow, standIns := [], harness := (true, "197629d3281d176967a4abd5d5537267163b86885c5702b0287756c6031696fc"), looks := true }, kinds := [], alts := [], laidByText := true, laidKinds := [.data, .data, .data, .sentinel, .sentinel], laidTests := true, laidLooks := .later }
def RegManyCardSaid : Prop := Claim7.holds Tryz.pinned (.plain (OpenSpec.ofChange regManySpec)) regManyCard

/-- THE TIED CARD OF 'donatuslaw27.RegNone'. -/
def regNoneCard : Claim7 := { stood := { row := regNoneRow, standIns := [], harness := (true, "197629d3281d176967a4abd5d5537267163b86885c5702b0287756c6031696fc"), looks := true }, kinds := [], alts := [], laidByText := true, laidKinds := [.data, .data, .data, .sentinel, .sentinel], laidTests := true, laidLooks := .later }
def RegNoneCardSaid : Prop := Claim7.holds Tryz.pinned (.plain (OpenSpec.ofChange regNoneSpec)) regNoneCard

/-- THE TIED CARD OF 'donatuslaw27.RegSeqs'. -/
def regSeqsCard : Claim7 := { stood := { row := regSeqsRow, standIns := [], harness := (true, "197629d3281d176967a4abd5d5537267163b86885c5702b0287756c6031696fc"), looks := true }, kinds := [], alts := [], laidByText := true, laidKinds := [.data, .data, .data, .sentinel, .sentinel], laidTests := true, laidLooks := .later }
def RegSeqsCardSaid : Prop := Claim7.holds Tryz.pinned (.plain (OpenSpec.ofChange regSeqsSpec)) regSeqsCard

/-- THE TIED CARD OF 'donatuslaw33.JudgeAlike'. -/
def judgeAlikeCard : Claim7 := { stood := { row := judgeAlikeRow, standIns := [], harness := (true, "197629d3281d176967a4abd5d5537267163b86885c5702b0287756c6031696fc"), looks := true }, kinds := [], alts := [], laidByText := true, laidKinds := [.data, .data, .data, .sentinel, .sentinel], laidTests := true, laidLooks := .later }
def JudgeAlikeCardSaid : Prop := Claim7.holds Tryz.pinned (.plain (OpenSpec.ofChange judgeAlikeSpec)) judgeAlikeCard

/-- THE SECOND FORM's CARD OF 'donatuslaw12.PackAny'. -/
def packAnyUptoCard : Claim7 := { stood := { row := packAnyUptoRow, standIns := [], harness := (true, "197629d3281d176967a4abd5d5537267163b86885c5702b0287756c6031696fc"), looks := true }, kinds := [], alts := [], laidByText := true, laidKinds := [.data, .data, .data, .sentinel, .sentinel], laidTests := true, laidLooks := .later }
def PackAnyUptoCardSaid : Prop := Claim7.holds Tryz.pinned (.plain (OpenSpec.upto packAnySpec)) packAnyUptoCard

/-- THE SECOND FORM's CARD OF 'donatuslaw14.DriveRange'. -/
def driveRangeUptoCard : Claim7 := { stood := { row := driveRangeUptoRow, standIns := [], harness := (true, "197629d3281d176967a4abd5d5537267163b86885c5702b0287756c6031696fc"), looks := true }, kinds := [], alts := [], laidByText := true, laidKinds := [.data, .data, .data, .sentinel, .sentinel], laidTests := true, laidLooks := .later }
def DriveRangeUptoCardSaid : Prop := Claim7.holds Tryz.pinned (.plain (OpenSpec.upto driveRangeSpec)) driveRangeUptoCard

/-- THE SECOND FORM's CARD OF 'donatuslaw27.RegCmd'. -/
def regCmdUptoCard : Claim7 := { stood := { row := regCmdUptoRow, standIns := [], harness := (true, "197629d3281d176967a4abd5d5537267163b86885c5702b0287756c6031696fc"), looks := true }, kinds := [], alts := [], laidByText := true, laidKinds := [.data, .data, .data, .sentinel, .sentinel], laidTests := true, laidLooks := .later }
def RegCmdUptoCardSaid : Prop := Claim7.holds Tryz.pinned (.plain (OpenSpec.upto regCmdSpec)) regCmdUptoCard

/-- THE SECOND FORM's CARD OF 'donatuslaw27.RegMany'. -/
def regManyUptoCard : Claim7 := { stood := { row := regManyUptoRow, standIns := [], harness := (true, "197629d3281d176967a4abd5d5537267163b86885c5702b0287756c6031696fc"), looks := true }, kinds := [], alts := [], laidByText := true, laidKinds := [.data, .data, .data, .sentinel, .sentinel], laidTests := true, laidLooks := .later }
def RegManyUptoCardSaid : Prop := Claim7.holds Tryz.pinned (.plain (OpenSpec.upto regManySpec)) regManyUptoCard

/-- THE SECOND FORM's CARD OF 'donatuslaw27.RegNone'. -/
def regNoneUptoCard : Claim7 := { stood := { row := regNoneUptoRow, standIns := [], harness := (true, "197629d3281d176967a4abd5d5537267163b86885c5702b0287756c6031696fc"), looks := true }, kinds := [], alts := [], laidByText := true, laidKinds := [.data, .data, .data, .sentinel, .sentinel], laidTests := true, laidLooks := .later }
def RegNoneUptoCardSaid : Prop := Claim7.holds Tryz.pinned (.plain (OpenSpec.upto regNoneSpec)) regNoneUptoCard

/-- THE SECOND FORM's CARD OF 'donatuslaw27.RegSeqs'. -/
def regSeqsUptoCard : Claim7 := { stood := { row := regSeqsUptoRow, standIns := [], harness := (true, "197629d3281d176967a4abd5d5537267163b86885c5702b0287756c6031696fc"), looks := true }, kinds := [], alts := [], laidByText := true, laidKinds := [.data, .data, .data, .sentinel, .sentinel], laidTests := true, laidLooks := .later }
def RegSeqsUptoCardSaid : Prop := Claim7.holds Tryz.pinned (.plain (OpenSpec.upto regSeqsSpec)) regSeqsUptoCard

/-- THE SECOND FORM's CARD OF 'donatuslaw33.JudgeAlike'. -/
def judgeAlikeUptoCard : Claim7 := { stood := { row := judgeAlikeUptoRow, standIns := [], harness := (true, "197629d3281d176967a4abd5d5537267163b86885c5702b0287756c6031696fc"), looks := true }, kinds := [], alts := [], laidByText := true, laidKinds := [.data, .data, .data, .sentinel, .sentinel], laidTests := true, laidLooks := .later }
def JudgeAlikeUptoCardSaid : Prop := Claim7.holds Tryz.pinned (.plain (OpenSpec.upto judgeAlikeSpec)) judgeAlikeUptoCard
end Rows
end Go.Proofs.YtpgjlcbjcnbjkaaGreatDoor
