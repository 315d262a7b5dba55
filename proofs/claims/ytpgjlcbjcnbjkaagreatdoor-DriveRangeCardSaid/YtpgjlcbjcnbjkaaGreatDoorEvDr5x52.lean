/- DriveRange: notes and runs, 52, 3 words. -/
import Derived.Test.YtpgjlcbjcnbjkaaGreatDoorEvHs
namespace Go.Ev
open Go.Proofs
noncomputable def nP52 : Memo := { n0 := 26, args := argP 52, pat := patP 52, n1 := 27, res := .tup [.nilp, .int .i64 (.ofNat 52), .slice 26 0 1 none, .int .i64 (.ofNat 1)], out := [(26, .cells false true 1 [.int .i64 (.ofNat 0)])] }
theorem nP52_ok : MemoOK Tryz.prog 19 nP52 := memoRun_ok mixed q5Z_ok (S := q5Z) (by kernel_rfl) (n := 100000) (by kernel_rfl)
noncomputable def nS52 : Memo := { n0 := 50, args := argS 52, pat := patS 52, n1 := 50, res := .bool true, out := [] }
theorem nS52_ok : MemoOK Tryz.prog 21 nS52 := memoRun_ok mixed (qPDr_ok nP52_ok) (S := qPDr nP52) (by kernel_rfl) (n := 100000) (by kernel_rfl)
theorem dr52_run : (fun (x : Int) (k : Nat) => runDr (qSDr nP52 nS52) 52 x k) = fun x _ => (some (.int .i64 x), true) := by kernel_rfl
theorem dr52 : DrOK 52 := ⟨nP52, nS52, nP52_ok, nS52_ok, fun x k => congrFun (congrFun dr52_run x) k⟩
noncomputable def nP3 : Memo := { n0 := 26, args := argP 3, pat := patP 3, n1 := 35, res := .tup [.ptr 26 0, .int .i64 (.ofNat 3), .nils, .int .i64 (.ofNat 0)], out := [(26, .cells false false 1 [.int .i64 (.ofNat 1), .int .i64 (.ofNat 0), .slice 27 0 3 none]),
  (27, .cells false true 1 [.ptr 28 0, .ptr 29 0, .ptr 30 0]),
  (28, .cells false false 1 [.int .i64 (.ofNat 3), .int .i64 (.ofNat 0), .slice 31 0 1 none]),
  (29, .cells false false 1 [.int .i64 (.negSucc 0), .int .i64 (.ofNat 1), .nils]),
  (30, .cells false false 1 [.int .i64 (.ofNat 3), .int .i64 (.ofNat 0), .slice 32 0 1 none]),
  (31, .cells false true 1 [.ptr 33 0]),
  (32, .cells false true 1 [.ptr 34 0]),
  (33, .cells false false 1 [.int .i64 (.negSucc 0), .int .i64 (.ofNat 0), .nils]),
  (34, .cells false false 1 [.int .i64 (.negSucc 0), .int .i64 (.ofNat 0), .nils])] }
theorem nP3_ok : MemoOK Tryz.prog 19 nP3 := memoRun_ok mixed q5Z_ok (S := q5Z) (by kernel_rfl) (n := 100000) (by kernel_rfl)
noncomputable def nS3 : Memo := { n0 := 50, args := argS 3, pat := patS 3, n1 := 50, res := .bool true, out := [] }
theorem nS3_ok : MemoOK Tryz.prog 21 nS3 := memoRun_ok mixed (qPDr_ok nP3_ok) (S := qPDr nP3) (by kernel_rfl) (n := 100000) (by kernel_rfl)
theorem dr3_run : (fun (x : Int) (k : Nat) => runDr (qSDr nP3 nS3) 3 x k) = fun x _ => (some (.int .i64 x), true) := by kernel_rfl
theorem dr3 : DrOK 3 := ⟨nP3, nS3, nP3_ok, nS3_ok, fun x k => congrFun (congrFun dr3_run x) k⟩
end Go.Ev
