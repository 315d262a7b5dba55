/- DriveRange: notes and runs, 42 words. -/
import Derived.Test.YtpgjlcbjcnbjkaaGreatDoorEvHs
namespace Go.Ev
open Go.Proofs
noncomputable def nP42 : Memo := { n0 := 26, args := argP 42, pat := patP 42, n1 := 27, res := .tup [.nilp, .int .i64 (.ofNat 42), .slice 26 0 1 none, .int .i64 (.ofNat 1)], out := [(26, .cells false true 1 [.int .i64 (.ofNat 0)])] }
theorem nP42_ok : MemoOK Tryz.prog 19 nP42 := memoRun_ok mixed q5Z_ok (S := q5Z) (by kernel_rfl) (n := 100000) (by kernel_rfl)
noncomputable def nS42 : Memo := { n0 := 50, args := argS 42, pat := patS 42, n1 := 50, res := .bool true, out := [] }
theorem nS42_ok : MemoOK Tryz.prog 21 nS42 := memoRun_ok mixed (qPDr_ok nP42_ok) (S := qPDr nP42) (by kernel_rfl) (n := 100000) (by kernel_rfl)
theorem dr42_run : (fun (x : Int) (k : Nat) => runDr (qSDr nP42 nS42) 42 x k) = fun x _ => (some (.int .i64 x), true) := by kernel_rfl
theorem dr42 : DrOK 42 := ⟨nP42, nS42, nP42_ok, nS42_ok, fun x k => congrFun (congrFun dr42_run x) k⟩
end Go.Ev
