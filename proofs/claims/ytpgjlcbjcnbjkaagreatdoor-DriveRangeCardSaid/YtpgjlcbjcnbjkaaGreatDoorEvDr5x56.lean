/- DriveRange: notes and runs, 56 words. -/
import Derived.Test.YtpgjlcbjcnbjkaaGreatDoorEvHs
namespace Go.Ev
open Go.Proofs
noncomputable def nP56 : Memo := { n0 := 26, args := argP 56, pat := patP 56, n1 := 27, res := .tup [.nilp, .int .i64 (.ofNat 56), .slice 26 0 1 none, .int .i64 (.ofNat 1)], out := [(26, .cells false true 1 [.int .i64 (.ofNat 0)])] }
theorem nP56_ok : MemoOK Tryz.prog 19 nP56 := memoRun_ok mixed q5Z_ok (S := q5Z) (by kernel_rfl) (n := 100000) (by kernel_rfl)
noncomputable def nS56 : Memo := { n0 := 50, args := argS 56, pat := patS 56, n1 := 50, res := .bool true, out := [] }
theorem nS56_ok : MemoOK Tryz.prog 21 nS56 := memoRun_ok mixed (qPDr_ok nP56_ok) (S := qPDr nP56) (by kernel_rfl) (n := 100000) (by kernel_rfl)
theorem dr56_run : (fun (x : Int) (k : Nat) => runDr (qSDr nP56 nS56) 56 x k) = fun x _ => (some (.int .i64 x), true) := by kernel_rfl
theorem dr56 : DrOK 56 := ⟨nP56, nS56, nP56_ok, nS56_ok, fun x k => congrFun (congrFun dr56_run x) k⟩
end Go.Ev
