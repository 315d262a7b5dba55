/- DriveRange: notes and runs, 46 words. -/
import Derived.Test.YtpgjlcbjcnbjkaaGreatDoorEvHs
namespace Go.Ev
open Go.Proofs
noncomputable def nP46 : Memo := { n0 := 26, args := argP 46, pat := patP 46, n1 := 27, res := .tup [.nilp, .int .i64 (.ofNat 46), .slice 26 0 1 none, .int .i64 (.ofNat 1)], out := [(26, .cells false true 1 [.int .i64 (.ofNat 0)])] }
theorem nP46_ok : MemoOK Tryz.prog 19 nP46 := memoRun_ok mixed q5Z_ok (S := q5Z) (by kernel_rfl) (n := 100000) (by kernel_rfl)
noncomputable def nS46 : Memo := { n0 := 50, args := argS 46, pat := patS 46, n1 := 50, res := .bool true, out := [] }
theorem nS46_ok : MemoOK Tryz.prog 21 nS46 := memoRun_ok mixed (qPDr_ok nP46_ok) (S := qPDr nP46) (by kernel_rfl) (n := 100000) (by kernel_rfl)
theorem dr46_run : (fun (x : Int) (k : Nat) => runDr (qSDr nP46 nS46) 46 x k) = fun x _ => (some (.int .i64 x), true) := by kernel_rfl
theorem dr46 : DrOK 46 := ⟨nP46, nS46, nP46_ok, nS46_ok, fun x k => congrFun (congrFun dr46_run x) k⟩
end Go.Ev
