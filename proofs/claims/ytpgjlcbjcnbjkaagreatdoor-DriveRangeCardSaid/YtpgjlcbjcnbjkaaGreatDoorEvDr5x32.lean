/- DriveRange: notes and runs, 32, 23 words. -/
import Derived.Test.YtpgjlcbjcnbjkaaGreatDoorEvHs
namespace Go.Ev
open Go.Proofs
noncomputable def nP32 : Memo := { n0 := 26, args := argP 32, pat := patP 32, n1 := 27, res := .tup [.nilp, .int .i64 (.ofNat 32), .slice 26 0 1 none, .int .i64 (.ofNat 1)], out := [(26, .cells false true 1 [.int .i64 (.ofNat 0)])] }
theorem nP32_ok : MemoOK Tryz.prog 19 nP32 := memoRun_ok mixed q5Z_ok (S := q5Z) (by kernel_rfl) (n := 100000) (by kernel_rfl)
noncomputable def nS32 : Memo := { n0 := 50, args := argS 32, pat := patS 32, n1 := 50, res := .bool true, out := [] }
theorem nS32_ok : MemoOK Tryz.prog 21 nS32 := memoRun_ok mixed (qPDr_ok nP32_ok) (S := qPDr nP32) (by kernel_rfl) (n := 100000) (by kernel_rfl)
theorem dr32_run : (fun (x : Int) (k : Nat) => runDr (qSDr nP32 nS32) 32 x k) = fun x _ => (some (.int .i64 x), true) := by kernel_rfl
theorem dr32 : DrOK 32 := ⟨nP32, nS32, nP32_ok, nS32_ok, fun x k => congrFun (congrFun dr32_run x) k⟩
noncomputable def nP23 : Memo := { n0 := 26, args := argP 23, pat := patP 23, n1 := 95, res := .tup [.ptr 26 0, .int .i64 (.ofNat 23), .nils, .int .i64 (.ofNat 0)], out := [(26, .cells false false 1 [.int .i64 (.ofNat 1), .int .i64 (.ofNat 0), .slice 27 0 3 none]),
  (27, .cells false true 1 [.ptr 28 0, .ptr 29 0, .ptr 30 0]),
  (28, .cells false false 1 [.int .i64 (.ofNat 1), .int .i64 (.ofNat 0), .slice 31 0 3 none]),
  (29, .cells false false 1 [.int .i64 (.negSucc 0), .int .i64 (.ofNat 1), .nils]),
  (30, .cells false false 1 [.int .i64 (.ofNat 3), .int .i64 (.ofNat 0), .slice 32 0 1 none]),
  (31, .cells false true 1 [.ptr 33 0, .ptr 34 0, .ptr 35 0]),
  (32, .cells false true 1 [.ptr 36 0]),
  (33, .cells false false 1 [.int .i64 (.ofNat 1), .int .i64 (.ofNat 0), .slice 37 0 3 none]),
  (34, .cells false false 1 [.int .i64 (.negSucc 0), .int .i64 (.ofNat 1), .nils]),
  (35, .cells false false 1 [.int .i64 (.ofNat 3), .int .i64 (.ofNat 0), .slice 38 0 1 none]),
  (36, .cells false false 1 [.int .i64 (.negSucc 0), .int .i64 (.ofNat 0), .nils]),
  (37, .cells false true 1 [.ptr 39 0, .ptr 40 0, .ptr 41 0]),
  (38, .cells false true 1 [.ptr 42 0]),
  (39, .cells false false 1 [.int .i64 (.ofNat 1), .int .i64 (.ofNat 0), .slice 43 0 3 none]),
  (40, .cells false false 1 [.int .i64 (.negSucc 0), .int .i64 (.ofNat 1), .nils]),
  (41, .cells false false 1 [.int .i64 (.ofNat 3), .int .i64 (.ofNat 0), .slice 44 0 1 none]),
  (42, .cells false false 1 [.int .i64 (.negSucc 0), .int .i64 (.ofNat 0), .nils]),
  (43, .cells false true 1 [.ptr 45 0, .ptr 46 0, .ptr 47 0]),
  (44, .cells false true 1 [.ptr 48 0]),
  (45, .cells false false 1 [.int .i64 (.ofNat 1), .int .i64 (.ofNat 0), .slice 49 0 3 none]),
  (46, .cells false false 1 [.int .i64 (.negSucc 0), .int .i64 (.ofNat 1), .nils]),
  (47, .cells false false 1 [.int .i64 (.ofNat 3), .int .i64 (.ofNat 0), .slice 50 0 1 none]),
  (48, .cells false false 1 [.int .i64 (.negSucc 0), .int .i64 (.ofNat 0), .nils]),
  (49, .cells false true 1 [.ptr 51 0, .ptr 52 0, .ptr 53 0]),
  (50, .cells false true 1 [.ptr 54 0]),
  (51, .cells false false 1 [.int .i64 (.ofNat 1), .int .i64 (.ofNat 0), .slice 55 0 3 none]),
  (52, .cells false false 1 [.int .i64 (.negSucc 0), .int .i64 (.ofNat 1), .nils]),
  (53, .cells false false 1 [.int .i64 (.ofNat 3), .int .i64 (.ofNat 0), .slice 56 0 1 none]),
  (54, .cells false false 1 [.int .i64 (.negSucc 0), .int .i64 (.ofNat 0), .nils]),
  (55, .cells false true 1 [.ptr 57 0, .ptr 58 0, .ptr 59 0]),
  (56, .cells false true 1 [.ptr 60 0]),
  (57, .cells false false 1 [.int .i64 (.ofNat 1), .int .i64 (.ofNat 0), .slice 61 0 3 none]),
  (58, .cells false false 1 [.int .i64 (.negSucc 0), .int .i64 (.ofNat 1), .nils]),
  (59, .cells false false 1 [.int .i64 (.ofNat 3), .int .i64 (.ofNat 0), .slice 62 0 1 none]),
  (60, .cells false false 1 [.int .i64 (.negSucc 0), .int .i64 (.ofNat 0), .nils]),
  (61, .cells false true 1 [.ptr 63 0, .ptr 64 0, .ptr 65 0]),
  (62, .cells false true 1 [.ptr 66 0]),
  (63, .cells false false 1 [.int .i64 (.ofNat 1), .int .i64 (.ofNat 0), .slice 67 0 3 none]),
  (64, .cells false false 1 [.int .i64 (.negSucc 0), .int .i64 (.ofNat 1), .nils]),
  (65, .cells false false 1 [.int .i64 (.ofNat 3), .int .i64 (.ofNat 0), .slice 68 0 1 none]),
  (66, .cells false false 1 [.int .i64 (.negSucc 0), .int .i64 (.ofNat 0), .nils]),
  (67, .cells false true 1 [.ptr 69 0, .ptr 70 0, .ptr 71 0]),
  (68, .cells false true 1 [.ptr 72 0]),
  (69, .cells false false 1 [.int .i64 (.ofNat 1), .int .i64 (.ofNat 0), .slice 73 0 3 none]),
  (70, .cells false false 1 [.int .i64 (.negSucc 0), .int .i64 (.ofNat 1), .nils]),
  (71, .cells false false 1 [.int .i64 (.ofNat 3), .int .i64 (.ofNat 0), .slice 74 0 1 none]),
  (72, .cells false false 1 [.int .i64 (.negSucc 0), .int .i64 (.ofNat 0), .nils]),
  (73, .cells false true 1 [.ptr 75 0, .ptr 76 0, .ptr 77 0]),
  (74, .cells false true 1 [.ptr 78 0]),
  (75, .cells false false 1 [.int .i64 (.ofNat 1), .int .i64 (.ofNat 0), .slice 79 0 3 none]),
  (76, .cells false false 1 [.int .i64 (.negSucc 0), .int .i64 (.ofNat 1), .nils]),
  (77, .cells false false 1 [.int .i64 (.ofNat 3), .int .i64 (.ofNat 0), .slice 80 0 1 none]),
  (78, .cells false false 1 [.int .i64 (.negSucc 0), .int .i64 (.ofNat 0), .nils]),
  (79, .cells false true 1 [.ptr 81 0, .ptr 82 0, .ptr 83 0]),
  (80, .cells false true 1 [.ptr 84 0]),
  (81, .cells false false 1 [.int .i64 (.ofNat 1), .int .i64 (.ofNat 0), .slice 85 0 3 none]),
  (82, .cells false false 1 [.int .i64 (.negSucc 0), .int .i64 (.ofNat 1), .nils]),
  (83, .cells false false 1 [.int .i64 (.ofNat 3), .int .i64 (.ofNat 0), .slice 86 0 1 none]),
  (84, .cells false false 1 [.int .i64 (.negSucc 0), .int .i64 (.ofNat 0), .nils]),
  (85, .cells false true 1 [.ptr 87 0, .ptr 88 0, .ptr 89 0]),
  (86, .cells false true 1 [.ptr 90 0]),
  (87, .cells false false 1 [.int .i64 (.ofNat 3), .int .i64 (.ofNat 0), .slice 91 0 1 none]),
  (88, .cells false false 1 [.int .i64 (.negSucc 0), .int .i64 (.ofNat 1), .nils]),
  (89, .cells false false 1 [.int .i64 (.ofNat 3), .int .i64 (.ofNat 0), .slice 92 0 1 none]),
  (90, .cells false false 1 [.int .i64 (.negSucc 0), .int .i64 (.ofNat 0), .nils]),
  (91, .cells false true 1 [.ptr 93 0]),
  (92, .cells false true 1 [.ptr 94 0]),
  (93, .cells false false 1 [.int .i64 (.negSucc 0), .int .i64 (.ofNat 0), .nils]),
  (94, .cells false false 1 [.int .i64 (.negSucc 0), .int .i64 (.ofNat 0), .nils])] }
theorem nP23_ok : MemoOK Tryz.prog 19 nP23 := memoRun_ok mixed q5Z_ok (S := q5Z) (by kernel_rfl) (n := 100000) (by kernel_rfl)
noncomputable def nS23 : Memo := { n0 := 50, args := argS 23, pat := patS 23, n1 := 50, res := .bool true, out := [] }
theorem nS23_ok : MemoOK Tryz.prog 21 nS23 := memoRun_ok mixed (qPDr_ok nP23_ok) (S := qPDr nP23) (by kernel_rfl) (n := 100000) (by kernel_rfl)
theorem dr23_run : (fun (x : Int) (k : Nat) => runDr (qSDr nP23 nS23) 23 x k) = fun x _ => (some (.int .i64 x), true) := by kernel_rfl
theorem dr23 : DrOK 23 := ⟨nP23, nS23, nP23_ok, nS23_ok, fun x k => congrFun (congrFun dr23_run x) k⟩
end Go.Ev
