/- DriveRange: notes and runs, 54 words. -/
import Derived.Test.YtpgjlcbjcnbjkaaGreatDoorEvHs
namespace Go.Ev
open Go.Proofs
noncomputable def nP54 : Memo := { n0 := 26, args := argP 54, pat := patP 54, n1 := 27, res := .tup [.nilp, .int .i64 (.ofNat 54), .slice 26 0 1 none, .int .i64 (.ofNat 1)], out := [(26, .cells false true 1 [.int .i64 (.ofNat 0)])] }
theorem nP54_ok : MemoOK Tryz.prog 19 nP54 := memoRun_ok mixed q5Z_ok (S := q5Z) (by kernel_rfl) (n := 100000) (by kernel_rfl)
noncomputable def nS54 : Memo := { n0 := 50, args := argS 54, pat := patS 54, n1 := 50, res := .bool true, out := [] }
theorem nS54_ok : MemoOK Tryz.prog 21 nS54 := memoRun_ok mixed (qPDr_ok nP54_ok) (S := qPDr nP54) (by kernel_rfl) (n := 100000) (by kernel_rfl)
end Go.Ev
