/- DriveRange: notes and runs, 38, 2 words. -/
import Derived.Test.YtpgjlcbjcnbjkaaGreatDoorEvHs
namespace Go.Ev
open Go.Proofs
noncomputable def nP38 : Memo := { n0 := 26, args := argP 38, pat := patP 38, n1 := 27, res := .tup [.nilp, .int .i64 (.ofNat 38), .slice 26 0 1 none, .int .i64 (.ofNat 1)], out := [(26, .cells false true 1 [.int .i64 (.ofNat 0)])] }
theorem nP38_ok : MemoOK Tryz.prog 19 nP38 := memoRun_ok mixed q5Z_ok (S := q5Z) (by kernel_rfl) (n := 100000) (by kernel_rfl)
noncomputable def nS38 : Memo := { n0 := 50, args := argS 38, pat := patS 38, n1 := 50, res := .bool true, out := [] }
theorem nS38_ok : MemoOK Tryz.prog 21 nS38 := memoRun_ok mixed (qPDr_ok nP38_ok) (S := qPDr nP38) (by kernel_rfl) (n := 100000) (by kernel_rfl)
theorem dr38_run : (fun (x : Int) (k : Nat) => runDr (qSDr nP38 nS38) 38 x k) = fun x _ => (some (.int .i64 x), true) := by kernel_rfl
theorem dr38 : DrOK 38 := ⟨nP38, nS38, nP38_ok, nS38_ok, fun x k => congrFun (congrFun dr38_run x) k⟩
noncomputable def nP2 : Memo := { n0 := 26, args := argP 2, pat := patP 2, n1 := 27, res := .tup [.nilp, .int .i64 (.ofNat 2), .slice 26 0 1 none, .int .i64 (.ofNat 1)], out := [(26, .cells false true 1 [.int .i64 (.ofNat 0)])] }
theorem nP2_ok : MemoOK Tryz.prog 19 nP2 := memoRun_ok mixed q5Z_ok (S := q5Z) (by kernel_rfl) (n := 100000) (by kernel_rfl)
noncomputable def nS2 : Memo := { n0 := 50, args := argS 2, pat := patS 2, n1 := 50, res := .bool true, out := [] }
theorem nS2_ok : MemoOK Tryz.prog 21 nS2 := memoRun_ok mixed (qPDr_ok nP2_ok) (S := qPDr nP2) (by kernel_rfl) (n := 100000) (by kernel_rfl)
theorem dr2_run : (fun (x : Int) (k : Nat) => runDr (qSDr nP2 nS2) 2 x k) = fun x _ => (some (.int .i64 x), true) := by kernel_rfl
theorem dr2 : DrOK 2 := ⟨nP2, nS2, nP2_ok, nS2_ok, fun x k => congrFun (congrFun dr2_run x) k⟩
end Go.Ev
