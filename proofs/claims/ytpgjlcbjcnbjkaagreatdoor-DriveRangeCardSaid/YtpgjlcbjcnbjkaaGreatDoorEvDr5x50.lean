/- DriveRange: notes and runs, 50 words. -/
import Derived.Test.YtpgjlcbjcnbjkaaGreatDoorEvHs
namespace Go.Ev
open Go.Proofs
noncomputable def nP50 : Memo := { n0 := 26, args := argP 50, pat := patP 50, n1 := 27, res := .tup [.nilp, .int .i64 (.ofNat 50), .slice 26 0 1 none, .int .i64 (.ofNat 1)], out := [(26, .cells false true 1 [.int .i64 (.ofNat 0)])] }
theorem nP50_ok : MemoOK Tryz.prog 19 nP50 := memoRun_ok mixed q5Z_ok (S := q5Z) (by kernel_rfl) (n := 100000) (by kernel_rfl)
noncomputable def nS50 : Memo := { n0 := 50, args := argS 50, pat := patS 50, n1 := 50, res := .bool true, out := [] }
theorem nS50_ok : MemoOK Tryz.prog 21 nS50 := memoRun_ok mixed (qPDr_ok nP50_ok) (S := qPDr nP50) (by kernel_rfl) (n := 100000) (by kernel_rfl)
theorem dr50_run : (fun (x : Int) (k : Nat) => runDr (qSDr nP50 nS50) 50 x k) = fun x _ => (some (.int .i64 x), true) := by kernel_rfl
theorem dr50 : DrOK 50 := ⟨nP50, nS50, nP50_ok, nS50_ok, fun x k => congrFun (congrFun dr50_run x) k⟩
end Go.Ev
