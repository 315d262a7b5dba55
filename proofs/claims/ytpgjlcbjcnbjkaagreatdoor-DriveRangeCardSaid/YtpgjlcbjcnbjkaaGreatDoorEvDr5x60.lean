/- DriveRange: notes and runs, 60 words. -/
import Derived.Test.YtpgjlcbjcnbjkaaGreatDoorEvHs
namespace Go.Ev
open Go.Proofs
noncomputable def nP60 : Memo := { n0 := 26, args := argP 60, pat := patP 60, n1 := 27, res := .tup [.nilp, .int .i64 (.ofNat 60), .slice 26 0 1 none, .int .i64 (.ofNat 1)], out := [(26, .cells false true 1 [.int .i64 (.ofNat 0)])] }
theorem nP60_ok : MemoOK Tryz.prog 19 nP60 := memoRun_ok mixed q5Z_ok (S := q5Z) (by kernel_rfl) (n := 100000) (by kernel_rfl)
noncomputable def nS60 : Memo := { n0 := 50, args := argS 60, pat := patS 60, n1 := 50, res := .bool true, out := [] }
theorem nS60_ok : MemoOK Tryz.prog 21 nS60 := memoRun_ok mixed (qPDr_ok nP60_ok) (S := qPDr nP60) (by kernel_rfl) (n := 100000) (by kernel_rfl)
theorem dr60_run : (fun (x : Int) (k : Nat) => runDr (qSDr nP60 nS60) 60 x k) = fun x _ => (some (.int .i64 x), true) := by kernel_rfl
theorem dr60 : DrOK 60 := ⟨nP60, nS60, nP60_ok, nS60_ok, fun x k => congrFun (congrFun dr60_run x) k⟩
end Go.Ev
