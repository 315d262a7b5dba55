/- DriveRange: notes and runs, 40, 13 words. -/
import Derived.Test.YtpgjlcbjcnbjkaaGreatDoorEvHs
namespace Go.Ev
open Go.Proofs
noncomputable def nP40 : Memo := { n0 := 26, args := argP 40, pat := patP 40, n1 := 27, res := .tup [.nilp, .int .i64 (.ofNat 40), .slice 26 0 1 none, .int .i64 (.ofNat 1)], out := [(26, .cells false true 1 [.int .i64 (.ofNat 0)])] }
theorem nP40_ok : MemoOK Tryz.prog 19 nP40 := memoRun_ok mixed q5Z_ok (S := q5Z) (by kernel_rfl) (n := 100000) (by kernel_rfl)
noncomputable def nS40 : Memo := { n0 := 50, args := argS 40, pat := patS 40, n1 := 50, res := .bool true, out := [] }
theorem nS40_ok : MemoOK Tryz.prog 21 nS40 := memoRun_ok mixed (qPDr_ok nP40_ok) (S := qPDr nP40) (by kernel_rfl) (n := 100000) (by kernel_rfl)
theorem dr40_run : (fun (x : Int) (k : Nat) => runDr (qSDr nP40 nS40) 40 x k) = fun x _ => (some (.int .i64 x), true) := by kernel_rfl
theorem dr40 : DrOK 40 := ⟨nP40, nS40, nP40_ok, nS40_ok, fun x k => congrFun (congrFun dr40_run x) k⟩
noncomputable def nP13 : Memo := { n0 := 26, args := argP 13, pat := patP 13, n1 := 65, res := .tup [.ptr 26 0, .int .i64 (.ofNat 13), .nils, .int .i64 (.ofNat 0)], out := [(26, .cells false false 1 [.int .i64 (.ofNat 1), .int .i64 (.ofNat 0), .slice 27 0 3 none]),
  (27, .cells false true 1 [.ptr 28 0, .ptr 29 0, .ptr 30 0]),
  (28, .cells false false 1 [.int .i64 (.ofNat 1), .int .i64 (.ofNat 0), .slice 31 0 3 none]),
  (29, .cells false false 1 [.int .i64 (.negSucc 0), .int .i64 (.ofNat 1), .nils]),
  (30, .cells false false 1 [.int .i64 (.ofNat 3), .int .i64 (.ofNat 0), .slice 32 0 1 none]),
  (31, .cells false true 1 [.ptr 33 0, .ptr 34 0, .ptr 35 0]),
  (32, .cells false true 1 [.ptr 36 0]),
  (33, .cells false false 1 [.int .i64 (.ofNat 1), .int .i64 (.ofNat 0), .slice 37 0 3 none]),
  (34, .cells false false 1 [.int .i64 (.negSucc 0), .int .i64 (.ofNat 1), .nils]),
  (35, .cells false false 1 [.int .i64 (.ofNat 3), .int .i64 (.ofNat 0), .slice 38 0 1 none]),
  (36, .cells false false 1 [.int .i64 (.negSucc 0), .int .i64 (.ofNat 0), .nils]),
  (37, .cells false true 1 [.ptr 39 0, .ptr 40 0, .ptr 41 0]),
  (38, .cells false true 1 [.ptr 42 0]),
  (39, .cells false false 1 [.int .i64 (.ofNat 1), .int .i64 (.ofNat 0), .slice 43 0 3 none]),
  (40, .cells false false 1 [.int .i64 (.negSucc 0), .int .i64 (.ofNat 1), .nils]),
  (41, .cells false false 1 [.int .i64 (.ofNat 3), .int .i64 (.ofNat 0), .slice 44 0 1 none]),
  (42, .cells false false 1 [.int .i64 (.negSucc 0), .int .i64 (.ofNat 0), .nils]),
  (43, .cells false true 1 [.ptr 45 0, .ptr 46 0, .ptr 47 0]),
  (44, .cells false true 1 [.ptr 48 0]),
  (45, .cells false false 1 [.int .i64 (.ofNat 1), .int .i64 (.ofNat 0), .slice 49 0 3 none]),
  (46, .cells false false 1 [.int .i64 (.negSucc 0), .int .i64 (.ofNat 1), .nils]),
  (47, .cells false false 1 [.int .i64 (.ofNat 3), .int .i64 (.ofNat 0), .slice 50 0 1 none]),
  (48, .cells false false 1 [.int .i64 (.negSucc 0), .int .i64 (.ofNat 0), .nils]),
  (49, .cells false true 1 [.ptr 51 0, .ptr 52 0, .ptr 53 0]),
  (50, .cells false true 1 [.ptr 54 0]),
  (51, .cells false false 1 [.int .i64 (.ofNat 1), .int .i64 (.ofNat 0), .slice 55 0 3 none]),
  (52, .cells false false 1 [.int .i64 (.negSucc 0), .int .i64 (.ofNat 1), .nils]),
  (53, .cells false false 1 [.int .i64 (.ofNat 3), .int .i64 (.ofNat 0), .slice 56 0 1 none]),
  (54, .cells false false 1 [.int .i64 (.negSucc 0), .int .i64 (.ofNat 0), .nils]),
  (55, .cells false true 1 [.ptr 57 0, .ptr 58 0, .ptr 59 0]),
  (56, .cells false true 1 [.ptr 60 0]),
  (57, .cells false false 1 [.int .i64 (.ofNat 3), .int .i64 (.ofNat 0), .slice 61 0 1 none]),
  (58, .cells false false 1 [.int .i64 (.negSucc 0), .int .i64 (.ofNat 1), .nils]),
  (59, .cells false false 1 [.int .i64 (.ofNat 3), .int .i64 (.ofNat 0), .slice 62 0 1 none]),
  (60, .cells false false 1 [.int .i64 (.negSucc 0), .int .i64 (.ofNat 0), .nils]),
  (61, .cells false true 1 [.ptr 63 0]),
  (62, .cells false true 1 [.ptr 64 0]),
  (63, .cells false false 1 [.int .i64 (.negSucc 0), .int .i64 (.ofNat 0), .nils]),
  (64, .cells false false 1 [.int .i64 (.negSucc 0), .int .i64 (.ofNat 0), .nils])] }
theorem nP13_ok : MemoOK Tryz.prog 19 nP13 := memoRun_ok mixed q5Z_ok (S := q5Z) (by kernel_rfl) (n := 100000) (by kernel_rfl)
noncomputable def nS13 : Memo := { n0 := 50, args := argS 13, pat := patS 13, n1 := 50, res := .bool true, out := [] }
theorem nS13_ok : MemoOK Tryz.prog 21 nS13 := memoRun_ok mixed (qPDr_ok nP13_ok) (S := qPDr nP13) (by kernel_rfl) (n := 100000) (by kernel_rfl)
theorem dr13_run : (fun (x : Int) (k : Nat) => runDr (qSDr nP13 nS13) 13 x k) = fun x _ => (some (.int .i64 x), true) := by kernel_rfl
theorem dr13 : DrOK 13 := ⟨nP13, nS13, nP13_ok, nS13_ok, fun x k => congrFun (congrFun dr13_run x) k⟩
end Go.Ev
