/- DriveRange: notes and runs, 58 words. -/
import Derived.Test.YtpgjlcbjcnbjkaaGreatDoorEvHs
namespace Go.Ev
open Go.Proofs
noncomputable def nP58 : Memo := { n0 := 26, args := argP 58, pat := patP 58, n1 := 27, res := .tup [.nilp, .int .i64 (.ofNat 58), .slice 26 0 1 none, .int .i64 (.ofNat 1)], out := [(26, .cells false true 1 [.int .i64 (.ofNat 0)])] }
theorem nP58_ok : MemoOK Tryz.prog 19 nP58 := memoRun_ok mixed q5Z_ok (S := q5Z) (by kernel_rfl) (n := 100000) (by kernel_rfl)
noncomputable def nS58 : Memo := { n0 := 50, args := argS 58, pat := patS 58, n1 := 50, res := .bool true, out := [] }
theorem nS58_ok : MemoOK Tryz.prog 21 nS58 := memoRun_ok mixed (qPDr_ok nP58_ok) (S := qPDr nP58) (by kernel_rfl) (n := 100000) (by kernel_rfl)
end Go.Ev
