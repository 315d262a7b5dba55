/- DriveRange: notes and runs, 44, 11 words. -/
import Derived.Test.YtpgjlcbjcnbjkaaGreatDoorEvHs
namespace Go.Ev
open Go.Proofs
noncomputable def nP44 : Memo := { n0 := 26, args := argP 44, pat := patP 44, n1 := 27, res := .tup [.nilp, .int .i64 (.ofNat 44), .slice 26 0 1 none, .int .i64 (.ofNat 1)], out := [(26, .cells false true 1 [.int .i64 (.ofNat 0)])] }
theorem nP44_ok : MemoOK Tryz.prog 19 nP44 := memoRun_ok mixed q5Z_ok (S := q5Z) (by kernel_rfl) (n := 100000) (by kernel_rfl)
noncomputable def nS44 : Memo := { n0 := 50, args := argS 44, pat := patS 44, n1 := 50, res := .bool true, out := [] }
theorem nS44_ok : MemoOK Tryz.prog 21 nS44 := memoRun_ok mixed (qPDr_ok nP44_ok) (S := qPDr nP44) (by kernel_rfl) (n := 100000) (by kernel_rfl)
theorem dr44_run : (fun (x : Int) (k : Nat) => runDr (qSDr nP44 nS44) 44 x k) = fun x _ => (some (.int .i64 x), true) := by kernel_rfl
theorem dr44 : DrOK 44 := ⟨nP44, nS44, nP44_ok, nS44_ok, fun x k => congrFun (congrFun dr44_run x) k⟩
noncomputable def nP11 : Memo := { n0 := 26, args := argP 11, pat := patP 11, n1 := 59, res := .tup [.ptr 26 0, .int .i64 (.ofNat 11), .nils, .int .i64 (.ofNat 0)], out := [(26, .cells false false 1 [.int .i64 (.ofNat 1), .int .i64 (.ofNat 0), .slice 27 0 3 none]),
  (27, .cells false true 1 [.ptr 28 0, .ptr 29 0, .ptr 30 0]),
  (28, .cells false false 1 [.int .i64 (.ofNat 1), .int .i64 (.ofNat 0), .slice 31 0 3 none]),
  (29, .cells false false 1 [.int .i64 (.negSucc 0), .int .i64 (.ofNat 1), .nils]),
  (30, .cells false false 1 [.int .i64 (.ofNat 3), .int .i64 (.ofNat 0), .slice 32 0 1 none]),
  (31, .cells false true 1 [.ptr 33 0, .ptr 34 0, .ptr 35 0]),
  (32, .cells false true 1 [.ptr 36 0]),
  (33, .cells false false 1 [.int .i64 (.ofNat 1), .int .i64 (.ofNat 0), .slice 37 0 3 none]),
  (34, .cells false false 1 [.int .i64 (.negSucc 0), .int .i64 (.ofNat 1), .nils]),
  (35, .cells false false 1 [.int .i64 (.ofNat 3), .int .i64 (.ofNat 0), .slice 38 0 1 none]),
  (36, .cells false false 1 [.int .i64 (.negSucc 0), .int .i64 (.ofNat 0), .nils]),
  (37, .cells false true 1 [.ptr 39 0, .ptr 40 0, .ptr 41 0]),
  (38, .cells false true 1 [.ptr 42 0]),
  (39, .cells false false 1 [.int .i64 (.ofNat 1), .int .i64 (.ofNat 0), .slice 43 0 3 none]),
  (40, .cells false false 1 [.int .i64 (.negSucc 0), .int .i64 (.ofNat 1), .nils]),
  (41, .cells false false 1 [.int .i64 (.ofNat 3), .int .i64 (.ofNat 0), .slice 44 0 1 none]),
  (42, .cells false false 1 [.int .i64 (.negSucc 0), .int .i64 (.ofNat 0), .nils]),
  (43, .cells false true 1 [.ptr 45 0, .ptr 46 0, .ptr 47 0]),
  (44, .cells false true 1 [.ptr 48 0]),
  (45, .cells false false 1 [.int .i64 (.ofNat 1), .int .i64 (.ofNat 0), .slice 49 0 3 none]),
  (46, .cells false false 1 [.int .i64 (.negSucc 0), .int .i64 (.ofNat 1), .nils]),
  (47, .cells false false 1 [.int .i64 (.ofNat 3), .int .i64 (.ofNat 0), .slice 50 0 1 none]),
  (48, .cells false false 1 [.int .i64 (.negSucc 0), .int .i64 (.ofNat 0), .nils]),
  (49, .cells false true 1 [.ptr 51 0, .ptr 52 0, .ptr 53 0]),
  (50, .cells false true 1 [.ptr 54 0]),
  (51, .cells false false 1 [.int .i64 (.ofNat 3), .int .i64 (.ofNat 0), .slice 55 0 1 none]),
  (52, .cells false false 1 [.int .i64 (.negSucc 0), .int .i64 (.ofNat 1), .nils]),
  (53, .cells false false 1 [.int .i64 (.ofNat 3), .int .i64 (.ofNat 0), .slice 56 0 1 none]),
  (54, .cells false false 1 [.int .i64 (.negSucc 0), .int .i64 (.ofNat 0), .nils]),
  (55, .cells false true 1 [.ptr 57 0]),
  (56, .cells false true 1 [.ptr 58 0]),
  (57, .cells false false 1 [.int .i64 (.negSucc 0), .int .i64 (.ofNat 0), .nils]),
  (58, .cells false false 1 [.int .i64 (.negSucc 0), .int .i64 (.ofNat 0), .nils])] }
theorem nP11_ok : MemoOK Tryz.prog 19 nP11 := memoRun_ok mixed q5Z_ok (S := q5Z) (by kernel_rfl) (n := 100000) (by kernel_rfl)
noncomputable def nS11 : Memo := { n0 := 50, args := argS 11, pat := patS 11, n1 := 50, res := .bool true, out := [] }
theorem nS11_ok : MemoOK Tryz.prog 21 nS11 := memoRun_ok mixed (qPDr_ok nP11_ok) (S := qPDr nP11) (by kernel_rfl) (n := 100000) (by kernel_rfl)
theorem dr11_run : (fun (x : Int) (k : Nat) => runDr (qSDr nP11 nS11) 11 x k) = fun x _ => (some (.int .i64 x), true) := by kernel_rfl
theorem dr11 : DrOK 11 := ⟨nP11, nS11, nP11_ok, nS11_ok, fun x k => congrFun (congrFun dr11_run x) k⟩
end Go.Ev
