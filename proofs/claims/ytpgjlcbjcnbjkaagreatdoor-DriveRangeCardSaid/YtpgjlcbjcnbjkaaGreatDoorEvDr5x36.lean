/- DriveRange: notes and runs, 36, 19 words. -/
import Derived.Test.YtpgjlcbjcnbjkaaGreatDoorEvHs
namespace Go.Ev
open Go.Proofs
noncomputable def nP36 : Memo := { n0 := 26, args := argP 36, pat := patP 36, n1 := 27, res := .tup [.nilp, .int .i64 (.ofNat 36), .slice 26 0 1 none, .int .i64 (.ofNat 1)], out := [(26, .cells false true 1 [.int .i64 (.ofNat 0)])] }
theorem nP36_ok : MemoOK Tryz.prog 19 nP36 := memoRun_ok mixed q5Z_ok (S := q5Z) (by kernel_rfl) (n := 100000) (by kernel_rfl)
noncomputable def nS36 : Memo := { n0 := 50, args := argS 36, pat := patS 36, n1 := 50, res := .bool true, out := [] }
theorem nS36_ok : MemoOK Tryz.prog 21 nS36 := memoRun_ok mixed (qPDr_ok nP36_ok) (S := qPDr nP36) (by kernel_rfl) (n := 100000) (by kernel_rfl)
theorem dr36_run : (fun (x : Int) (k : Nat) => runDr (qSDr nP36 nS36) 36 x k) = fun x _ => (some (.int .i64 x), true) := by kernel_rfl
theorem dr36 : DrOK 36 := ⟨nP36, nS36, nP36_ok, nS36_ok, fun x k => congrFun (congrFun dr36_run x) k⟩
noncomputable def nP19 : Memo := { n0 := 26, args := argP 19, pat := patP 19, n1 := 83, res := .tup [.ptr 26 0, .int .i64 (.ofNat 19), .nils, .int .i64 (.ofNat 0)], out := [(26, .cells false false 1 [.int .i64 (.ofNat 1), .int .i64 (.ofNat 0), .slice 27 0 3 none]),
  (27, .cells false true 1 [.ptr 28 0, .ptr 29 0, .ptr 30 0]),
  (28, .cells false false 1 [.int .i64 (.ofNat 1), .int .i64 (.ofNat 0), .slice 31 0 3 none]),
  (29, .cells false false 1 [.int .i64 (.negSucc 0), .int .i64 (.ofNat 1), .nils]),
  (30, .cells false false 1 [.int .i64 (.ofNat 3), .int .i64 (.ofNat 0), .slice 32 0 1 none]),
  (31, .cells false true 1 [.ptr 33 0, .ptr 34 0, .ptr 35 0]),
  (32, .cells false true 1 [.ptr 36 0]),
  (33, .cells false false 1 [.int .i64 (.ofNat 1), .int .i64 (.ofNat 0), .slice 37 0 3 none]),
  (34, .cells false false 1 [.int .i64 (.negSucc 0), .int .i64 (.ofNat 1), .nils]),
  (35, .cells false false 1 [.int .i64 (.ofNat 3), .int .i64 (.ofNat 0), .slice 38 0 1 none]),
  (36, .cells false false 1 [.int .i64 (.negSucc 0), .int .i64 (.ofNat 0), .nils]),
  (37, .cells false true 1 [.ptr 39 0, .ptr 40 0, .ptr 41 0]),
  (38, .cells false true 1 [.ptr 42 0]),
  (39, .cells false false 1 [.int .i64 (.ofNat 1), .int .i64 (.ofNat 0), .slice 43 0 3 none]),
  (40, .cells false false 1 [.int .i64 (.negSucc 0), .int .i64 (.ofNat 1), .nils]),
  (41, .cells false false 1 [.int .i64 (.ofNat 3), .int .i64 (.ofNat 0), .slice 44 0 1 none]),
  (42, .cells false false 1 [.int .i64 (.negSucc 0), .int .i64 (.ofNat 0), .nils]),
  (43, .cells false true 1 [.ptr 45 0, .ptr 46 0, .ptr 47 0]),
  (44, .cells false true 1 [.ptr 48 0]),
  (45, .cells false false 1 [.int .i64 (.ofNat 1), .int .i64 (.ofNat 0), .slice 49 0 3 none]),
  (46, .cells false false 1 [.int .i64 (.negSucc 0), .int .i64 (.ofNat 1), .nils]),
  (47, .cells false false 1 [.int .i64 (.ofNat 3), .int .i64 (.ofNat 0), .slice 50 0 1 none]),
  (48, .cells false false 1 [.int .i64 (.negSucc 0), .int .i64 (.ofNat 0), .nils]),
  (49, .cells false true 1 [.ptr 51 0, .ptr 52 0, .ptr 53 0]),
  (50, .cells false true 1 [.ptr 54 0]),
  (51, .cells false false 1 [.int .i64 (.ofNat 1), .int .i64 (.ofNat 0), .slice 55 0 3 none]),
  (52, .cells false false 1 [.int .i64 (.negSucc 0), .int .i64 (.ofNat 1), .nils]),
  (53, .cells false false 1 [.int .i64 (.ofNat 3), .int .i64 (.ofNat 0), .slice 56 0 1 none]),
  (54, .cells false false 1 [.int .i64 (.negSucc 0), .int .i64 (.ofNat 0), .nils]),
  (55, .cells false true 1 [.ptr 57 0, .ptr 58 0, .ptr 59 0]),
  (56, .cells false true 1 [.ptr 60 0]),
  (57, .cells false false 1 [.int .i64 (.ofNat 1), .int .i64 (.ofNat 0), .slice 61 0 3 none]),
  (58, .cells false false 1 [.int .i64 (.negSucc 0), .int .i64 (.ofNat 1), .nils]),
  (59, .cells false false 1 [.int .i64 (.ofNat 3), .int .i64 (.ofNat 0), .slice 62 0 1 none]),
  (60, .cells false false 1 [.int .i64 (.negSucc 0), .int .i64 (.ofNat 0), .nils]),
  (61, .cells false true 1 [.ptr 63 0, .ptr 64 0, .ptr 65 0]),
  (62, .cells false true 1 [.ptr 66 0]),
  (63, .cells false false 1 [.int .i64 (.ofNat 1), .int .i64 (.ofNat 0), .slice 67 0 3 none]),
  (64, .cells false false 1 [.int .i64 (.negSucc 0), .int .i64 (.ofNat 1), .nils]),
  (65, .cells false false 1 [.int .i64 (.ofNat 3), .int .i64 (.ofNat 0), .slice 68 0 1 none]),
  (66, .cells false false 1 [.int .i64 (.negSucc 0), .int .i64 (.ofNat 0), .nils]),
  (67, .cells false true 1 [.ptr 69 0, .ptr 70 0, .ptr 71 0]),
  (68, .cells false true 1 [.ptr 72 0]),
  (69, .cells false false 1 [.int .i64 (.ofNat 1), .int .i64 (.ofNat 0), .slice 73 0 3 none]),
  (70, .cells false false 1 [.int .i64 (.negSucc 0), .int .i64 (.ofNat 1), .nils]),
  (71, .cells false false 1 [.int .i64 (.ofNat 3), .int .i64 (.ofNat 0), .slice 74 0 1 none]),
  (72, .cells false false 1 [.int .i64 (.negSucc 0), .int .i64 (.ofNat 0), .nils]),
  (73, .cells false true 1 [.ptr 75 0, .ptr 76 0, .ptr 77 0]),
  (74, .cells false true 1 [.ptr 78 0]),
  (75, .cells false false 1 [.int .i64 (.ofNat 3), .int .i64 (.ofNat 0), .slice 79 0 1 none]),
  (76, .cells false false 1 [.int .i64 (.negSucc 0), .int .i64 (.ofNat 1), .nils]),
  (77, .cells false false 1 [.int .i64 (.ofNat 3), .int .i64 (.ofNat 0), .slice 80 0 1 none]),
  (78, .cells false false 1 [.int .i64 (.negSucc 0), .int .i64 (.ofNat 0), .nils]),
  (79, .cells false true 1 [.ptr 81 0]),
  (80, .cells false true 1 [.ptr 82 0]),
  (81, .cells false false 1 [.int .i64 (.negSucc 0), .int .i64 (.ofNat 0), .nils]),
  (82, .cells false false 1 [.int .i64 (.negSucc 0), .int .i64 (.ofNat 0), .nils])] }
theorem nP19_ok : MemoOK Tryz.prog 19 nP19 := memoRun_ok mixed q5Z_ok (S := q5Z) (by kernel_rfl) (n := 100000) (by kernel_rfl)
noncomputable def nS19 : Memo := { n0 := 50, args := argS 19, pat := patS 19, n1 := 50, res := .bool true, out := [] }
theorem nS19_ok : MemoOK Tryz.prog 21 nS19 := memoRun_ok mixed (qPDr_ok nP19_ok) (S := qPDr nP19) (by kernel_rfl) (n := 100000) (by kernel_rfl)
theorem dr19_run : (fun (x : Int) (k : Nat) => runDr (qSDr nP19 nS19) 19 x k) = fun x _ => (some (.int .i64 x), true) := by kernel_rfl
theorem dr19 : DrOK 19 := ⟨nP19, nS19, nP19_ok, nS19_ok, fun x k => congrFun (congrFun dr19_run x) k⟩
end Go.Ev
