/- DriveRange: notes and runs, 34, 9 words. -/
import Derived.Test.YtpgjlcbjcnbjkaaGreatDoorEvHs
namespace Go.Ev
open Go.Proofs
noncomputable def nP34 : Memo := { n0 := 26, args := argP 34, pat := patP 34, n1 := 27, res := .tup [.nilp, .int .i64 (.ofNat 34), .slice 26 0 1 none, .int .i64 (.ofNat 1)], out := [(26, .cells false true 1 [.int .i64 (.ofNat 0)])] }
theorem nP34_ok : MemoOK Tryz.prog 19 nP34 := memoRun_ok mixed q5Z_ok (S := q5Z) (by kernel_rfl) (n := 100000) (by kernel_rfl)
noncomputable def nS34 : Memo := { n0 := 50, args := argS 34, pat := patS 34, n1 := 50, res := .bool true, out := [] }
theorem nS34_ok : MemoOK Tryz.prog 21 nS34 := memoRun_ok mixed (qPDr_ok nP34_ok) (S := qPDr nP34) (by kernel_rfl) (n := 100000) (by kernel_rfl)
theorem dr34_run : (fun (x : Int) (k : Nat) => runDr (qSDr nP34 nS34) 34 x k) = fun x _ => (some (.int .i64 x), true) := by kernel_rfl
theorem dr34 : DrOK 34 := ⟨nP34, nS34, nP34_ok, nS34_ok, fun x k => congrFun (congrFun dr34_run x) k⟩
noncomputable def nP9 : Memo := { n0 := 26, args := argP 9, pat := patP 9, n1 := 53, res := .tup [.ptr 26 0, .int .i64 (.ofNat 9), .nils, .int .i64 (.ofNat 0)], out := [(26, .cells false false 1 [.int .i64 (.ofNat 1), .int .i64 (.ofNat 0), .slice 27 0 3 none]),
  (27, .cells false true 1 [.ptr 28 0, .ptr 29 0, .ptr 30 0]),
  (28, .cells false false 1 [.int .i64 (.ofNat 1), .int .i64 (.ofNat 0), .slice 31 0 3 none]),
  (29, .cells false false 1 [.int .i64 (.negSucc 0), .int .i64 (.ofNat 1), .nils]),
  (30, .cells false false 1 [.int .i64 (.ofNat 3), .int .i64 (.ofNat 0), .slice 32 0 1 none]),
  (31, .cells false true 1 [.ptr 33 0, .ptr 34 0, .ptr 35 0]),
  (32, .cells false true 1 [.ptr 36 0]),
  (33, .cells false false 1 [.int .i64 (.ofNat 1), .int .i64 (.ofNat 0), .slice 37 0 3 none]),
  (34, .cells false false 1 [.int .i64 (.negSucc 0), .int .i64 (.ofNat 1), .nils]),
  (35, .cells false false 1 [.int .i64 (.ofNat 3), .int .i64 (.ofNat 0), .slice 38 0 1 none]),
  (36, .cells false false 1 [.int .i64 (.negSucc 0), .int .i64 (.ofNat 0), .nils]),
  (37, .cells false true 1 [.ptr 39 0, .ptr 40 0, .ptr 41 0]),
  (38, .cells false true 1 [.ptr 42 0]),
  (39, .cells false false 1 [.int .i64 (.ofNat 1), .int .i64 (.ofNat 0), .slice 43 0 3 none]),
  (40, .cells false false 1 [.int .i64 (.negSucc 0), .int .i64 (.ofNat 1), .nils]),
  (41, .cells false false 1 [.int .i64 (.ofNat 3), .int .i64 (.ofNat 0), .slice 44 0 1 none]),
  (42, .cells false false 1 [.int .i64 (.negSucc 0), .int .i64 (.ofNat 0), .nils]),
  (43, .cells false true 1 [.ptr 45 0, .ptr 46 0, .ptr 47 0]),
  (44, .cells false true 1 [.ptr 48 0]),
  (45, .cells false false 1 [.int .i64 (.ofNat 3), .int .i64 (.ofNat 0), .slice 49 0 1 none]),
  (46, .cells false false 1 [.int .i64 (.negSucc 0), .int .i64 (.ofNat 1), .nils]),
  (47, .cells false false 1 [.int .i64 (.ofNat 3), .int .i64 (.ofNat 0), .slice 50 0 1 none]),
  (48, .cells false false 1 [.int .i64 (.negSucc 0), .int .i64 (.ofNat 0), .nils]),
  (49, .cells false true 1 [.ptr 51 0]),
  (50, .cells false true 1 [.ptr 52 0]),
  (51, .cells false false 1 [.int .i64 (.negSucc 0), .int .i64 (.ofNat 0), .nils]),
  (52, .cells false false 1 [.int .i64 (.negSucc 0), .int .i64 (.ofNat 0), .nils])] }
theorem nP9_ok : MemoOK Tryz.prog 19 nP9 := memoRun_ok mixed q5Z_ok (S := q5Z) (by kernel_rfl) (n := 100000) (by kernel_rfl)
noncomputable def nS9 : Memo := { n0 := 50, args := argS 9, pat := patS 9, n1 := 50, res := .bool true, out := [] }
theorem nS9_ok : MemoOK Tryz.prog 21 nS9 := memoRun_ok mixed (qPDr_ok nP9_ok) (S := qPDr nP9) (by kernel_rfl) (n := 100000) (by kernel_rfl)
theorem dr9_run : (fun (x : Int) (k : Nat) => runDr (qSDr nP9 nS9) 9 x k) = fun x _ => (some (.int .i64 x), true) := by kernel_rfl
theorem dr9 : DrOK 9 := ⟨nP9, nS9, nP9_ok, nS9_ok, fun x k => congrFun (congrFun dr9_run x) k⟩
end Go.Ev
