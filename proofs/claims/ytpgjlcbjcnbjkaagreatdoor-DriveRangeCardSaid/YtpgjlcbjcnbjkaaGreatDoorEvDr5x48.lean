/- DriveRange: notes and runs, 48, 7 words. -/
import Derived.Test.YtpgjlcbjcnbjkaaGreatDoorEvHs
namespace Go.Ev
open Go.Proofs
noncomputable def nP48 : Memo := { n0 := 26, args := argP 48, pat := patP 48, n1 := 27, res := .tup [.nilp, .int .i64 (.ofNat 48), .slice 26 0 1 none, .int .i64 (.ofNat 1)], out := [(26, .cells false true 1 [.int .i64 (.ofNat 0)])] }
theorem nP48_ok : MemoOK Tryz.prog 19 nP48 := memoRun_ok mixed q5Z_ok (S := q5Z) (by kernel_rfl) (n := 100000) (by kernel_rfl)
noncomputable def nS48 : Memo := { n0 := 50, args := argS 48, pat := patS 48, n1 := 50, res := .bool true, out := [] }
theorem nS48_ok : MemoOK Tryz.prog 21 nS48 := memoRun_ok mixed (qPDr_ok nP48_ok) (S := qPDr nP48) (by kernel_rfl) (n := 100000) (by kernel_rfl)
theorem dr48_run : (fun (x : Int) (k : Nat) => runDr (qSDr nP48 nS48) 48 x k) = fun x _ => (some (.int .i64 x), true) := by kernel_rfl
theorem dr48 : DrOK 48 := ⟨nP48, nS48, nP48_ok, nS48_ok, fun x k => congrFun (congrFun dr48_run x) k⟩
noncomputable def nP7 : Memo := { n0 := 26, args := argP 7, pat := patP 7, n1 := 47, res := .tup [.ptr 26 0, .int .i64 (.ofNat 7), .nils, .int .i64 (.ofNat 0)], out := [(26, .cells false false 1 [.int .i64 (.ofNat 1), .int .i64 (.ofNat 0), .slice 27 0 3 none]),
  (27, .cells false true 1 [.ptr 28 0, .ptr 29 0, .ptr 30 0]),
  (28, .cells false false 1 [.int .i64 (.ofNat 1), .int .i64 (.ofNat 0), .slice 31 0 3 none]),
  (29, .cells false false 1 [.int .i64 (.negSucc 0), .int .i64 (.ofNat 1), .nils]),
  (30, .cells false false 1 [.int .i64 (.ofNat 3), .int .i64 (.ofNat 0), .slice 32 0 1 none]),
  (31, .cells false true 1 [.ptr 33 0, .ptr 34 0, .ptr 35 0]),
  (32, .cells false true 1 [.ptr 36 0]),
  (33, .cells false false 1 [.int .i64 (.ofNat 1), .int .i64 (.ofNat 0), .slice 37 0 3 none]),
  (34, .cells false false 1 [.int .i64 (.negSucc 0), .int .i64 (.ofNat 1), .nils]),
  (35, .cells false false 1 [.int .i64 (.ofNat 3), .int .i64 (.ofNat 0), .slice 38 0 1 none]),
  (36, .cells false false 1 [.int .i64 (.negSucc 0), .int .i64 (.ofNat 0), .nils]),
  (37, .cells false true 1 [.ptr 39 0, .ptr 40 0, .ptr 41 0]),
  (38, .cells false true 1 [.ptr 42 0]),
  (39, .cells false false 1 [.int .i64 (.ofNat 3), .int .i64 (.ofNat 0), .slice 43 0 1 none]),
  (40, .cells false false 1 [.int .i64 (.negSucc 0), .int .i64 (.ofNat 1), .nils]),
  (41, .cells false false 1 [.int .i64 (.ofNat 3), .int .i64 (.ofNat 0), .slice 44 0 1 none]),
  (42, .cells false false 1 [.int .i64 (.negSucc 0), .int .i64 (.ofNat 0), .nils]),
  (43, .cells false true 1 [.ptr 45 0]),
  (44, .cells false true 1 [.ptr 46 0]),
  (45, .cells false false 1 [.int .i64 (.negSucc 0), .int .i64 (.ofNat 0), .nils]),
  (46, .cells false false 1 [.int .i64 (.negSucc 0), .int .i64 (.ofNat 0), .nils])] }
theorem nP7_ok : MemoOK Tryz.prog 19 nP7 := memoRun_ok mixed q5Z_ok (S := q5Z) (by kernel_rfl) (n := 100000) (by kernel_rfl)
noncomputable def nS7 : Memo := { n0 := 50, args := argS 7, pat := patS 7, n1 := 50, res := .bool true, out := [] }
theorem nS7_ok : MemoOK Tryz.prog 21 nS7 := memoRun_ok mixed (qPDr_ok nP7_ok) (S := qPDr nP7) (by kernel_rfl) (n := 100000) (by kernel_rfl)
theorem dr7_run : (fun (x : Int) (k : Nat) => runDr (qSDr nP7 nS7) 7 x k) = fun x _ => (some (.int .i64 x), true) := by kernel_rfl
theorem dr7 : DrOK 7 := ⟨nP7, nS7, nP7_ok, nS7_ok, fun x k => congrFun (congrFun dr7_run x) k⟩
end Go.Ev
