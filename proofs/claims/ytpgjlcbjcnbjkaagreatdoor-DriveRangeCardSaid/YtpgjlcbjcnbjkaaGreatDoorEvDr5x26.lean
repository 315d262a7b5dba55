/- DriveRange: notes and runs, 26, 14 words. -/
import Derived.Test.YtpgjlcbjcnbjkaaGreatDoorEvHs
namespace Go.Ev
open Go.Proofs
noncomputable def nP26 : Memo := { n0 := 26, args := argP 26, pat := patP 26, n1 := 27, res := .tup [.nilp, .int .i64 (.ofNat 26), .slice 26 0 1 none, .int .i64 (.ofNat 1)], out := [(26, .cells false true 1 [.int .i64 (.ofNat 0)])] }
theorem nP26_ok : MemoOK Tryz.prog 19 nP26 := memoRun_ok mixed q5Z_ok (S := q5Z) (by kernel_rfl) (n := 100000) (by kernel_rfl)
noncomputable def nS26 : Memo := { n0 := 50, args := argS 26, pat := patS 26, n1 := 50, res := .bool true, out := [] }
theorem nS26_ok : MemoOK Tryz.prog 21 nS26 := memoRun_ok mixed (qPDr_ok nP26_ok) (S := qPDr nP26) (by kernel_rfl) (n := 100000) (by kernel_rfl)
theorem dr26_run : (fun (x : Int) (k : Nat) => runDr (qSDr nP26 nS26) 26 x k) = fun x _ => (some (.int .i64 x), true) := by kernel_rfl
theorem dr26 : DrOK 26 := ⟨nP26, nS26, nP26_ok, nS26_ok, fun x k => congrFun (congrFun dr26_run x) k⟩
noncomputable def nP14 : Memo := { n0 := 26, args := argP 14, pat := patP 14, n1 := 27, res := .tup [.nilp, .int .i64 (.ofNat 14), .slice 26 0 1 none, .int .i64 (.ofNat 1)], out := [(26, .cells false true 1 [.int .i64 (.ofNat 0)])] }
theorem nP14_ok : MemoOK Tryz.prog 19 nP14 := memoRun_ok mixed q5Z_ok (S := q5Z) (by kernel_rfl) (n := 100000) (by kernel_rfl)
noncomputable def nS14 : Memo := { n0 := 50, args := argS 14, pat := patS 14, n1 := 50, res := .bool true, out := [] }
theorem nS14_ok : MemoOK Tryz.prog 21 nS14 := memoRun_ok mixed (qPDr_ok nP14_ok) (S := qPDr nP14) (by kernel_rfl) (n := 100000) (by kernel_rfl)
theorem dr14_run : (fun (x : Int) (k : Nat) => runDr (qSDr nP14 nS14) 14 x k) = fun x _ => (some (.int .i64 x), true) := by kernel_rfl
theorem dr14 : DrOK 14 := ⟨nP14, nS14, nP14_ok, nS14_ok, fun x k => congrFun (congrFun dr14_run x) k⟩
end Go.Ev
