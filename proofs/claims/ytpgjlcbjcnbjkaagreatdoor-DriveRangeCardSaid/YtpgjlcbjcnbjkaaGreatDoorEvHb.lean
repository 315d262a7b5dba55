/- What unions of sets of numbers come to, noted and shown by runs. The sums with those of unions. What the flow of sets along a relation comes to, whatever the order of the map. The sums with those of flows. -/
import Derived.Test.YtpgjlcbjcnbjkaaGreatDoorEvGc
import Derived.Test.YtpgjlcbjcnbjkaaGreatDoorEvHa
section
namespace Go.Ev
open Go.Proofs
noncomputable def U5147_0 : Memo where
  n0 := 4
  args := [.ptr 0 0, .ptr 1 0]
  pat := [(0, .cells true true 1 [.fn 149 [], .slice 2 0 3 none]), (1, .cells true true 1 [.fn 149 [], .slice 3 0 3 none]), (2, .cells true true 1 [.int .i64 (.ofNat 1), .int .i64 (.ofNat 2), .int .i64 (.ofNat 3)]), (3, .cells true true 1 [.int .i64 (.ofNat 1), .int .i64 (.ofNat 2), .int .i64 (.ofNat 3)])]
  n1 := 4
  res := .bool false
  out := []
theorem U5147_0_ok : MemoOK Tryz.prog 147 U5147_0 := memoRun_ok mixed sums5_ok (S := (sums5 Tryz.prog)) (by kernel_rfl) (n := 100000) (by kernel_rfl)
noncomputable def U5147_1 : Memo where
  n0 := 3
  args := [.ptr 0 0, .ptr 1 0]
  pat := [(0, .cells false true 1 [.fn 149 [], .nils]), (1, .cells true true 1 [.fn 149 [], .slice 2 0 3 none]), (2, .cells true true 1 [.int .i64 (.ofNat 1), .int .i64 (.ofNat 2), .int .i64 (.ofNat 3)])]
  n1 := 4
  res := .bool true
  out := [(0, .cells false true 1 [.fn 149 [], .slice 3 0 3 none]), (3, .cells false true 1 [.int .i64 (.ofNat 1), .int .i64 (.ofNat 2), .int .i64 (.ofNat 3)])]
theorem U5147_1_ok : MemoOK Tryz.prog 147 U5147_1 := memoRun_ok mixed sums5_ok (S := (sums5 Tryz.prog)) (by kernel_rfl) (n := 100000) (by kernel_rfl)
noncomputable def U5147_2 : Memo where
  n0 := 4
  args := [.ptr 0 0, .ptr 1 0]
  pat := [(0, .cells true true 1 [.fn 149 [], .slice 2 0 3 none]), (1, .cells true true 1 [.fn 149 [], .slice 3 0 3 none]), (2, .cells true true 1 [.int .i64 (.ofNat 0), .int .i64 (.ofNat 1), .int .i64 (.ofNat 3)]), (3, .cells true true 1 [.int .i64 (.ofNat 0), .int .i64 (.ofNat 1), .int .i64 (.ofNat 3)])]
  n1 := 4
  res := .bool false
  out := []
theorem U5147_2_ok : MemoOK Tryz.prog 147 U5147_2 := memoRun_ok mixed sums5_ok (S := (sums5 Tryz.prog)) (by kernel_rfl) (n := 100000) (by kernel_rfl)
noncomputable def U5147_3 : Memo where
  n0 := 3
  args := [.ptr 0 0, .ptr 1 0]
  pat := [(0, .cells false true 1 [.fn 149 [], .nils]), (1, .cells true true 1 [.fn 149 [], .slice 2 0 3 none]), (2, .cells true true 1 [.int .i64 (.ofNat 0), .int .i64 (.ofNat 1), .int .i64 (.ofNat 3)])]
  n1 := 4
  res := .bool true
  out := [(0, .cells false true 1 [.fn 149 [], .slice 3 0 3 none]), (3, .cells false true 1 [.int .i64 (.ofNat 0), .int .i64 (.ofNat 1), .int .i64 (.ofNat 3)])]
theorem U5147_3_ok : MemoOK Tryz.prog 147 U5147_3 := memoRun_ok mixed sums5_ok (S := (sums5 Tryz.prog)) (by kernel_rfl) (n := 100000) (by kernel_rfl)
noncomputable def U5147_4 : Memo where
  n0 := 2
  args := [.ptr 0 0, .ptr 0 0]
  pat := [(0, .cells true true 1 [.fn 149 [], .slice 1 0 3 none]), (1, .cells true true 1 [.int .i64 (.ofNat 1), .int .i64 (.ofNat 2), .int .i64 (.ofNat 3)])]
  n1 := 2
  res := .bool false
  out := []
theorem U5147_4_ok : MemoOK Tryz.prog 147 U5147_4 := memoRun_ok mixed sums5_ok (S := (sums5 Tryz.prog)) (by kernel_rfl) (n := 100000) (by kernel_rfl)
noncomputable def U5147_5 : Memo where
  n0 := 4
  args := [.ptr 0 0, .ptr 1 0]
  pat := [(0, .cells false true 1 [.fn 149 [], .slice 2 0 2 none]), (1, .cells true true 1 [.fn 149 [], .slice 3 0 3 none]), (2, .cells false true 1 [.int .i64 (.ofNat 1), .int .i64 (.ofNat 2)]), (3, .cells true true 1 [.int .i64 (.ofNat 1), .int .i64 (.ofNat 2), .int .i64 (.ofNat 3)])]
  n1 := 5
  res := .bool true
  out := [(0, .cells false true 1 [.fn 149 [], .slice 4 0 3 none]), (4, .cells false true 1 [.int .i64 (.ofNat 1), .int .i64 (.ofNat 2), .int .i64 (.ofNat 3)])]
theorem U5147_5_ok : MemoOK Tryz.prog 147 U5147_5 := memoRun_ok mixed sums5_ok (S := (sums5 Tryz.prog)) (by kernel_rfl) (n := 100000) (by kernel_rfl)
noncomputable def U5147_6 : Memo where
  n0 := 2
  args := [.ptr 0 0, .ptr 0 0]
  pat := [(0, .cells true true 1 [.fn 149 [], .slice 1 0 3 none]), (1, .cells true true 1 [.int .i64 (.ofNat 0), .int .i64 (.ofNat 1), .int .i64 (.ofNat 3)])]
  n1 := 2
  res := .bool false
  out := []
theorem U5147_6_ok : MemoOK Tryz.prog 147 U5147_6 := memoRun_ok mixed sums5_ok (S := (sums5 Tryz.prog)) (by kernel_rfl) (n := 100000) (by kernel_rfl)
noncomputable def U5147_7 : Memo where
  n0 := 3
  args := [.ptr 0 0, .ptr 1 0]
  pat := [(0, .cells false true 1 [.fn 149 [], .nils]), (1, .cells true true 1 [.fn 149 [], .slice 2 0 1 none]), (2, .cells true true 1 [.int .i64 (.ofNat 0)])]
  n1 := 4
  res := .bool true
  out := [(0, .cells false true 1 [.fn 149 [], .slice 3 0 1 none]), (3, .cells false true 1 [.int .i64 (.ofNat 0)])]
theorem U5147_7_ok : MemoOK Tryz.prog 147 U5147_7 := memoRun_ok mixed sums5_ok (S := (sums5 Tryz.prog)) (by kernel_rfl) (n := 100000) (by kernel_rfl)
noncomputable def U5147_8 : Memo where
  n0 := 2
  args := [.ptr 0 0, .ptr 0 0]
  pat := [(0, .cells true true 1 [.fn 149 [], .slice 1 0 2 none]), (1, .cells true true 1 [.int .i64 (.ofNat 1), .int .i64 (.ofNat 2)])]
  n1 := 2
  res := .bool false
  out := []
theorem U5147_8_ok : MemoOK Tryz.prog 147 U5147_8 := memoRun_ok mixed sums5_ok (S := (sums5 Tryz.prog)) (by kernel_rfl) (n := 100000) (by kernel_rfl)
noncomputable def U5147_9 : Memo where
  n0 := 4
  args := [.ptr 0 0, .ptr 1 0]
  pat := [(0, .cells true true 1 [.fn 149 [], .slice 2 0 2 none]), (1, .cells true true 1 [.fn 149 [], .slice 3 0 2 none]), (2, .cells true true 1 [.int .i64 (.ofNat 1), .int .i64 (.ofNat 2)]), (3, .cells true true 1 [.int .i64 (.ofNat 1), .int .i64 (.ofNat 2)])]
  n1 := 4
  res := .bool false
  out := []
theorem U5147_9_ok : MemoOK Tryz.prog 147 U5147_9 := memoRun_ok mixed sums5_ok (S := (sums5 Tryz.prog)) (by kernel_rfl) (n := 100000) (by kernel_rfl)
noncomputable def U5147_10 : Memo where
  n0 := 4
  args := [.ptr 0 0, .ptr 1 0]
  pat := [(0, .cells true true 1 [.fn 149 [], .slice 2 0 3 none]), (1, .cells true true 1 [.fn 149 [], .slice 3 0 2 none]), (2, .cells true true 1 [.int .i64 (.ofNat 1), .int .i64 (.ofNat 2), .int .i64 (.ofNat 3)]), (3, .cells true true 1 [.int .i64 (.ofNat 1), .int .i64 (.ofNat 2)])]
  n1 := 4
  res := .bool false
  out := []
theorem U5147_10_ok : MemoOK Tryz.prog 147 U5147_10 := memoRun_ok mixed sums5_ok (S := (sums5 Tryz.prog)) (by kernel_rfl) (n := 100000) (by kernel_rfl)
noncomputable def U5147_11 : Memo where
  n0 := 4
  args := [.ptr 0 0, .ptr 1 0]
  pat := [(0, .cells false true 1 [.fn 149 [], .slice 2 0 2 none]), (1, .cells true true 1 [.fn 149 [], .slice 3 0 3 none]), (2, .cells false true 1 [.int .i64 (.ofNat 0), .int .i64 (.ofNat 1)]), (3, .cells true true 1 [.int .i64 (.ofNat 0), .int .i64 (.ofNat 1), .int .i64 (.ofNat 3)])]
  n1 := 5
  res := .bool true
  out := [(0, .cells false true 1 [.fn 149 [], .slice 4 0 3 none]), (4, .cells false true 1 [.int .i64 (.ofNat 0), .int .i64 (.ofNat 1), .int .i64 (.ofNat 3)])]
theorem U5147_11_ok : MemoOK Tryz.prog 147 U5147_11 := memoRun_ok mixed sums5_ok (S := (sums5 Tryz.prog)) (by kernel_rfl) (n := 100000) (by kernel_rfl)
noncomputable def U5147_12 : Memo where
  n0 := 2
  args := [.ptr 0 0, .ptr 1 0]
  pat := [(0, .cells true true 1 [.fn 149 [], .nils]), (1, .cells true true 1 [.fn 149 [], .nils])]
  n1 := 2
  res := .bool false
  out := []
theorem U5147_12_ok : MemoOK Tryz.prog 147 U5147_12 := memoRun_ok mixed sums5_ok (S := (sums5 Tryz.prog)) (by kernel_rfl) (n := 100000) (by kernel_rfl)
noncomputable def U5147_13 : Memo where
  n0 := 4
  args := [.ptr 0 0, .ptr 1 0]
  pat := [(0, .cells true true 1 [.fn 149 [], .slice 2 0 1 none]), (1, .cells true true 1 [.fn 149 [], .slice 3 0 1 none]), (2, .cells true true 1 [.int .i64 (.ofNat 0)]), (3, .cells true true 1 [.int .i64 (.ofNat 0)])]
  n1 := 4
  res := .bool false
  out := []
theorem U5147_13_ok : MemoOK Tryz.prog 147 U5147_13 := memoRun_ok mixed sums5_ok (S := (sums5 Tryz.prog)) (by kernel_rfl) (n := 100000) (by kernel_rfl)
noncomputable def U5147_14 : Memo where
  n0 := 3
  args := [.ptr 0 0, .ptr 1 0]
  pat := [(0, .cells false true 1 [.fn 149 [], .nils]), (1, .cells true true 1 [.fn 149 [], .slice 2 0 1 none]), (2, .cells true true 1 [.int .i64 (.ofNat 1)])]
  n1 := 4
  res := .bool true
  out := [(0, .cells false true 1 [.fn 149 [], .slice 3 0 1 none]), (3, .cells false true 1 [.int .i64 (.ofNat 1)])]
theorem U5147_14_ok : MemoOK Tryz.prog 147 U5147_14 := memoRun_ok mixed sums5_ok (S := (sums5 Tryz.prog)) (by kernel_rfl) (n := 100000) (by kernel_rfl)
noncomputable def U5147_15 : Memo where
  n0 := 3
  args := [.ptr 0 0, .ptr 1 0]
  pat := [(0, .cells false true 1 [.fn 149 [], .nils]), (1, .cells true true 1 [.fn 149 [], .slice 2 0 1 none]), (2, .cells true true 1 [.int .i64 (.ofNat 2)])]
  n1 := 4
  res := .bool true
  out := [(0, .cells false true 1 [.fn 149 [], .slice 3 0 1 none]), (3, .cells false true 1 [.int .i64 (.ofNat 2)])]
theorem U5147_15_ok : MemoOK Tryz.prog 147 U5147_15 := memoRun_ok mixed sums5_ok (S := (sums5 Tryz.prog)) (by kernel_rfl) (n := 100000) (by kernel_rfl)
noncomputable def U5147_16 : Memo where
  n0 := 3
  args := [.ptr 0 0, .ptr 1 0]
  pat := [(0, .cells true true 1 [.fn 149 [], .slice 2 0 3 none]), (1, .cells true true 1 [.fn 149 [], .nils]), (2, .cells true true 1 [.int .i64 (.ofNat 1), .int .i64 (.ofNat 2), .int .i64 (.ofNat 3)])]
  n1 := 3
  res := .bool false
  out := []
theorem U5147_16_ok : MemoOK Tryz.prog 147 U5147_16 := memoRun_ok mixed sums5_ok (S := (sums5 Tryz.prog)) (by kernel_rfl) (n := 100000) (by kernel_rfl)
noncomputable def U5147_17 : Memo where
  n0 := 2
  args := [.ptr 0 0, .ptr 0 0]
  pat := [(0, .cells true true 1 [.fn 149 [], .slice 1 0 2 none]), (1, .cells true true 1 [.int .i64 (.ofNat 0), .int .i64 (.ofNat 1)])]
  n1 := 2
  res := .bool false
  out := []
theorem U5147_17_ok : MemoOK Tryz.prog 147 U5147_17 := memoRun_ok mixed sums5_ok (S := (sums5 Tryz.prog)) (by kernel_rfl) (n := 100000) (by kernel_rfl)
noncomputable def U5147_18 : Memo where
  n0 := 3
  args := [.ptr 0 0, .ptr 1 0]
  pat := [(0, .cells false true 1 [.fn 149 [], .nils]), (1, .cells true true 1 [.fn 149 [], .slice 2 0 2 none]), (2, .cells true true 1 [.int .i64 (.ofNat 1), .int .i64 (.ofNat 2)])]
  n1 := 4
  res := .bool true
  out := [(0, .cells false true 1 [.fn 149 [], .slice 3 0 2 none]), (3, .cells false true 1 [.int .i64 (.ofNat 1), .int .i64 (.ofNat 2)])]
theorem U5147_18_ok : MemoOK Tryz.prog 147 U5147_18 := memoRun_ok mixed sums5_ok (S := (sums5 Tryz.prog)) (by kernel_rfl) (n := 100000) (by kernel_rfl)
noncomputable def U5147_19 : Memo where
  n0 := 4
  args := [.ptr 0 0, .ptr 1 0]
  pat := [(0, .cells true true 1 [.fn 149 [], .slice 2 0 3 none]), (1, .cells true true 1 [.fn 149 [], .slice 3 0 2 none]), (2, .cells true true 1 [.int .i64 (.ofNat 0), .int .i64 (.ofNat 1), .int .i64 (.ofNat 3)]), (3, .cells true true 1 [.int .i64 (.ofNat 0), .int .i64 (.ofNat 1)])]
  n1 := 4
  res := .bool false
  out := []
theorem U5147_19_ok : MemoOK Tryz.prog 147 U5147_19 := memoRun_ok mixed sums5_ok (S := (sums5 Tryz.prog)) (by kernel_rfl) (n := 100000) (by kernel_rfl)
noncomputable def U5147_20 : Memo where
  n0 := 4
  args := [.ptr 0 0, .ptr 1 0]
  pat := [(0, .cells true true 1 [.fn 149 [], .slice 2 0 2 none]), (1, .cells true true 1 [.fn 149 [], .slice 3 0 2 none]), (2, .cells true true 1 [.int .i64 (.ofNat 0), .int .i64 (.ofNat 1)]), (3, .cells true true 1 [.int .i64 (.ofNat 0), .int .i64 (.ofNat 1)])]
  n1 := 4
  res := .bool false
  out := []
theorem U5147_20_ok : MemoOK Tryz.prog 147 U5147_20 := memoRun_ok mixed sums5_ok (S := (sums5 Tryz.prog)) (by kernel_rfl) (n := 100000) (by kernel_rfl)
noncomputable def U5147_21 : Memo where
  n0 := 4
  args := [.ptr 0 0, .ptr 1 0]
  pat := [(0, .cells false true 1 [.fn 149 [], .slice 2 0 1 none]), (1, .cells true true 1 [.fn 149 [], .slice 3 0 1 none]), (2, .cells false true 1 [.int .i64 (.ofNat 3)]), (3, .cells true true 1 [.int .i64 (.ofNat 1)])]
  n1 := 5
  res := .bool true
  out := [(0, .cells false true 1 [.fn 149 [], .slice 4 0 2 none]), (4, .cells false true 1 [.int .i64 (.ofNat 1), .int .i64 (.ofNat 3)])]
theorem U5147_21_ok : MemoOK Tryz.prog 147 U5147_21 := memoRun_ok mixed sums5_ok (S := (sums5 Tryz.prog)) (by kernel_rfl) (n := 100000) (by kernel_rfl)
noncomputable def U5147_22 : Memo where
  n0 := 3
  args := [.ptr 0 0, .ptr 1 0]
  pat := [(0, .cells true true 1 [.fn 149 [], .slice 2 0 2 none]), (1, .cells true true 1 [.fn 149 [], .nils]), (2, .cells true true 1 [.int .i64 (.ofNat 1), .int .i64 (.ofNat 3)])]
  n1 := 3
  res := .bool false
  out := []
theorem U5147_22_ok : MemoOK Tryz.prog 147 U5147_22 := memoRun_ok mixed sums5_ok (S := (sums5 Tryz.prog)) (by kernel_rfl) (n := 100000) (by kernel_rfl)
noncomputable def U5147_23 : Memo where
  n0 := 2
  args := [.ptr 0 0, .ptr 0 0]
  pat := [(0, .cells true true 1 [.fn 149 [], .slice 1 0 2 none]), (1, .cells true true 1 [.int .i64 (.ofNat 1), .int .i64 (.ofNat 3)])]
  n1 := 2
  res := .bool false
  out := []
theorem U5147_23_ok : MemoOK Tryz.prog 147 U5147_23 := memoRun_ok mixed sums5_ok (S := (sums5 Tryz.prog)) (by kernel_rfl) (n := 100000) (by kernel_rfl)
noncomputable def U5147_24 : Memo where
  n0 := 4
  args := [.ptr 0 0, .ptr 1 0]
  pat := [(0, .cells false true 1 [.fn 149 [], .slice 2 0 2 none]), (1, .cells true true 1 [.fn 149 [], .slice 3 0 1 none]), (2, .cells false true 1 [.int .i64 (.ofNat 1), .int .i64 (.ofNat 3)]), (3, .cells true true 1 [.int .i64 (.ofNat 2)])]
  n1 := 5
  res := .bool true
  out := [(0, .cells false true 1 [.fn 149 [], .slice 4 0 3 none]), (4, .cells false true 1 [.int .i64 (.ofNat 1), .int .i64 (.ofNat 2), .int .i64 (.ofNat 3)])]
theorem U5147_24_ok : MemoOK Tryz.prog 147 U5147_24 := memoRun_ok mixed sums5_ok (S := (sums5 Tryz.prog)) (by kernel_rfl) (n := 100000) (by kernel_rfl)
noncomputable def U5147_25 : Memo where
  n0 := 4
  args := [.ptr 0 0, .ptr 1 0]
  pat := [(0, .cells true true 1 [.fn 149 [], .slice 2 0 3 none]), (1, .cells true true 1 [.fn 149 [], .slice 3 0 1 none]), (2, .cells true true 1 [.int .i64 (.ofNat 1), .int .i64 (.ofNat 2), .int .i64 (.ofNat 3)]), (3, .cells true true 1 [.int .i64 (.ofNat 1)])]
  n1 := 4
  res := .bool false
  out := []
theorem U5147_25_ok : MemoOK Tryz.prog 147 U5147_25 := memoRun_ok mixed sums5_ok (S := (sums5 Tryz.prog)) (by kernel_rfl) (n := 100000) (by kernel_rfl)
noncomputable def U5147_26 : Memo where
  n0 := 4
  args := [.ptr 0 0, .ptr 1 0]
  pat := [(0, .cells true true 1 [.fn 149 [], .slice 2 0 3 none]), (1, .cells true true 1 [.fn 149 [], .slice 3 0 1 none]), (2, .cells true true 1 [.int .i64 (.ofNat 1), .int .i64 (.ofNat 2), .int .i64 (.ofNat 3)]), (3, .cells true true 1 [.int .i64 (.ofNat 2)])]
  n1 := 4
  res := .bool false
  out := []
theorem U5147_26_ok : MemoOK Tryz.prog 147 U5147_26 := memoRun_ok mixed sums5_ok (S := (sums5 Tryz.prog)) (by kernel_rfl) (n := 100000) (by kernel_rfl)
noncomputable def U5147_27 : Memo where
  n0 := 4
  args := [.ptr 0 0, .ptr 1 0]
  pat := [(0, .cells true true 1 [.fn 149 [], .slice 2 0 1 none]), (1, .cells true true 1 [.fn 149 [], .slice 3 0 1 none]), (2, .cells true true 1 [.int .i64 (.ofNat 2)]), (3, .cells true true 1 [.int .i64 (.ofNat 2)])]
  n1 := 4
  res := .bool false
  out := []
theorem U5147_27_ok : MemoOK Tryz.prog 147 U5147_27 := memoRun_ok mixed sums5_ok (S := (sums5 Tryz.prog)) (by kernel_rfl) (n := 100000) (by kernel_rfl)
noncomputable def U5147_28 : Memo where
  n0 := 3
  args := [.ptr 0 0, .ptr 1 0]
  pat := [(0, .cells true true 1 [.fn 149 [], .slice 2 0 3 none]), (1, .cells true true 1 [.fn 149 [], .nils]), (2, .cells true true 1 [.int .i64 (.ofNat 0), .int .i64 (.ofNat 1), .int .i64 (.ofNat 3)])]
  n1 := 3
  res := .bool false
  out := []
theorem U5147_28_ok : MemoOK Tryz.prog 147 U5147_28 := memoRun_ok mixed sums5_ok (S := (sums5 Tryz.prog)) (by kernel_rfl) (n := 100000) (by kernel_rfl)
noncomputable def U5147_29 : Memo where
  n0 := 3
  args := [.ptr 0 0, .ptr 1 0]
  pat := [(0, .cells true true 1 [.fn 149 [], .slice 2 0 2 none]), (1, .cells true true 1 [.fn 149 [], .nils]), (2, .cells true true 1 [.int .i64 (.ofNat 1), .int .i64 (.ofNat 2)])]
  n1 := 3
  res := .bool false
  out := []
theorem U5147_29_ok : MemoOK Tryz.prog 147 U5147_29 := memoRun_ok mixed sums5_ok (S := (sums5 Tryz.prog)) (by kernel_rfl) (n := 100000) (by kernel_rfl)
noncomputable def U5147_30 : Memo where
  n0 := 4
  args := [.ptr 0 0, .ptr 1 0]
  pat := [(0, .cells false true 1 [.fn 149 [], .slice 2 0 1 none]), (1, .cells true true 1 [.fn 149 [], .slice 3 0 2 none]), (2, .cells false true 1 [.int .i64 (.ofNat 1)]), (3, .cells true true 1 [.int .i64 (.ofNat 1), .int .i64 (.ofNat 2)])]
  n1 := 5
  res := .bool true
  out := [(0, .cells false true 1 [.fn 149 [], .slice 4 0 2 none]), (4, .cells false true 1 [.int .i64 (.ofNat 1), .int .i64 (.ofNat 2)])]
theorem U5147_30_ok : MemoOK Tryz.prog 147 U5147_30 := memoRun_ok mixed sums5_ok (S := (sums5 Tryz.prog)) (by kernel_rfl) (n := 100000) (by kernel_rfl)
noncomputable def U5147_31 : Memo where
  n0 := 4
  args := [.ptr 0 0, .ptr 1 0]
  pat := [(0, .cells false true 1 [.fn 149 [], .slice 2 0 1 none]), (1, .cells true true 1 [.fn 149 [], .slice 3 0 1 none]), (2, .cells false true 1 [.int .i64 (.ofNat 3)]), (3, .cells true true 1 [.int .i64 (.ofNat 0)])]
  n1 := 5
  res := .bool true
  out := [(0, .cells false true 1 [.fn 149 [], .slice 4 0 2 none]), (4, .cells false true 1 [.int .i64 (.ofNat 0), .int .i64 (.ofNat 3)])]
theorem U5147_31_ok : MemoOK Tryz.prog 147 U5147_31 := memoRun_ok mixed sums5_ok (S := (sums5 Tryz.prog)) (by kernel_rfl) (n := 100000) (by kernel_rfl)
noncomputable def U5147_32 : Memo where
  n0 := 3
  args := [.ptr 0 0, .ptr 1 0]
  pat := [(0, .cells true true 1 [.fn 149 [], .slice 2 0 2 none]), (1, .cells true true 1 [.fn 149 [], .nils]), (2, .cells true true 1 [.int .i64 (.ofNat 0), .int .i64 (.ofNat 3)])]
  n1 := 3
  res := .bool false
  out := []
theorem U5147_32_ok : MemoOK Tryz.prog 147 U5147_32 := memoRun_ok mixed sums5_ok (S := (sums5 Tryz.prog)) (by kernel_rfl) (n := 100000) (by kernel_rfl)
noncomputable def U5147_33 : Memo where
  n0 := 2
  args := [.ptr 0 0, .ptr 0 0]
  pat := [(0, .cells true true 1 [.fn 149 [], .slice 1 0 2 none]), (1, .cells true true 1 [.int .i64 (.ofNat 0), .int .i64 (.ofNat 3)])]
  n1 := 2
  res := .bool false
  out := []
theorem U5147_33_ok : MemoOK Tryz.prog 147 U5147_33 := memoRun_ok mixed sums5_ok (S := (sums5 Tryz.prog)) (by kernel_rfl) (n := 100000) (by kernel_rfl)
noncomputable def U5147_34 : Memo where
  n0 := 4
  args := [.ptr 0 0, .ptr 1 0]
  pat := [(0, .cells false true 1 [.fn 149 [], .slice 2 0 2 none]), (1, .cells true true 1 [.fn 149 [], .slice 3 0 1 none]), (2, .cells false true 1 [.int .i64 (.ofNat 0), .int .i64 (.ofNat 3)]), (3, .cells true true 1 [.int .i64 (.ofNat 1)])]
  n1 := 5
  res := .bool true
  out := [(0, .cells false true 1 [.fn 149 [], .slice 4 0 3 none]), (4, .cells false true 1 [.int .i64 (.ofNat 0), .int .i64 (.ofNat 1), .int .i64 (.ofNat 3)])]
theorem U5147_34_ok : MemoOK Tryz.prog 147 U5147_34 := memoRun_ok mixed sums5_ok (S := (sums5 Tryz.prog)) (by kernel_rfl) (n := 100000) (by kernel_rfl)
noncomputable def U5147_35 : Memo where
  n0 := 4
  args := [.ptr 0 0, .ptr 1 0]
  pat := [(0, .cells true true 1 [.fn 149 [], .slice 2 0 3 none]), (1, .cells true true 1 [.fn 149 [], .slice 3 0 1 none]), (2, .cells true true 1 [.int .i64 (.ofNat 0), .int .i64 (.ofNat 1), .int .i64 (.ofNat 3)]), (3, .cells true true 1 [.int .i64 (.ofNat 0)])]
  n1 := 4
  res := .bool false
  out := []
theorem U5147_35_ok : MemoOK Tryz.prog 147 U5147_35 := memoRun_ok mixed sums5_ok (S := (sums5 Tryz.prog)) (by kernel_rfl) (n := 100000) (by kernel_rfl)
noncomputable def U5147_36 : Memo where
  n0 := 4
  args := [.ptr 0 0, .ptr 1 0]
  pat := [(0, .cells true true 1 [.fn 149 [], .slice 2 0 3 none]), (1, .cells true true 1 [.fn 149 [], .slice 3 0 1 none]), (2, .cells true true 1 [.int .i64 (.ofNat 0), .int .i64 (.ofNat 1), .int .i64 (.ofNat 3)]), (3, .cells true true 1 [.int .i64 (.ofNat 1)])]
  n1 := 4
  res := .bool false
  out := []
theorem U5147_36_ok : MemoOK Tryz.prog 147 U5147_36 := memoRun_ok mixed sums5_ok (S := (sums5 Tryz.prog)) (by kernel_rfl) (n := 100000) (by kernel_rfl)
noncomputable def U5147_37 : Memo where
  n0 := 4
  args := [.ptr 0 0, .ptr 1 0]
  pat := [(0, .cells false true 1 [.fn 149 [], .slice 2 0 1 none]), (1, .cells true true 1 [.fn 149 [], .slice 3 0 1 none]), (2, .cells false true 1 [.int .i64 (.ofNat 2)]), (3, .cells true true 1 [.int .i64 (.ofNat 1)])]
  n1 := 5
  res := .bool true
  out := [(0, .cells false true 1 [.fn 149 [], .slice 4 0 2 none]), (4, .cells false true 1 [.int .i64 (.ofNat 1), .int .i64 (.ofNat 2)])]
theorem U5147_37_ok : MemoOK Tryz.prog 147 U5147_37 := memoRun_ok mixed sums5_ok (S := (sums5 Tryz.prog)) (by kernel_rfl) (n := 100000) (by kernel_rfl)
noncomputable def U5147_38 : Memo where
  n0 := 4
  args := [.ptr 0 0, .ptr 1 0]
  pat := [(0, .cells true true 1 [.fn 149 [], .slice 2 0 2 none]), (1, .cells true true 1 [.fn 149 [], .slice 3 0 1 none]), (2, .cells true true 1 [.int .i64 (.ofNat 1), .int .i64 (.ofNat 2)]), (3, .cells true true 1 [.int .i64 (.ofNat 1)])]
  n1 := 4
  res := .bool false
  out := []
theorem U5147_38_ok : MemoOK Tryz.prog 147 U5147_38 := memoRun_ok mixed sums5_ok (S := (sums5 Tryz.prog)) (by kernel_rfl) (n := 100000) (by kernel_rfl)
noncomputable def U5147_39 : Memo where
  n0 := 2
  args := [.ptr 0 0, .ptr 0 0]
  pat := [(0, .cells true true 1 [.fn 149 [], .slice 1 0 1 none]), (1, .cells true true 1 [.int .i64 (.ofNat 1)])]
  n1 := 2
  res := .bool false
  out := []
theorem U5147_39_ok : MemoOK Tryz.prog 147 U5147_39 := memoRun_ok mixed sums5_ok (S := (sums5 Tryz.prog)) (by kernel_rfl) (n := 100000) (by kernel_rfl)
noncomputable def U5147 : List AV → AMem → OR := fun args m => memoTry U5147_0 args m (memoTry U5147_1 args m (memoTry U5147_2 args m (memoTry U5147_3 args m (memoTry U5147_4 args m (memoTry U5147_5 args m (memoTry U5147_6 args m (memoTry U5147_7 args m (memoTry U5147_8 args m (memoTry U5147_9 args m (memoTry U5147_10 args m (memoTry U5147_11 args m (memoTry U5147_12 args m (memoTry U5147_13 args m (memoTry U5147_14 args m (memoTry U5147_15 args m (memoTry U5147_16 args m (memoTry U5147_17 args m (memoTry U5147_18 args m (memoTry U5147_19 args m (memoTry U5147_20 args m (memoTry U5147_21 args m (memoTry U5147_22 args m (memoTry U5147_23 args m (memoTry U5147_24 args m (memoTry U5147_25 args m (memoTry U5147_26 args m (memoTry U5147_27 args m (memoTry U5147_28 args m (memoTry U5147_29 args m (memoTry U5147_30 args m (memoTry U5147_31 args m (memoTry U5147_32 args m (memoTry U5147_33 args m (memoTry U5147_34 args m (memoTry U5147_35 args m (memoTry U5147_36 args m (memoTry U5147_37 args m (memoTry U5147_38 args m (memoTry U5147_39 args m (.fail 3300))))))))))))))))))))))))))))))))))))))))
theorem U5147_ok : SumOK Tryz.prog 147 U5147 := memoSum_ok U5147_0_ok (memoSum_ok U5147_1_ok (memoSum_ok U5147_2_ok (memoSum_ok U5147_3_ok (memoSum_ok U5147_4_ok (memoSum_ok U5147_5_ok (memoSum_ok U5147_6_ok (memoSum_ok U5147_7_ok (memoSum_ok U5147_8_ok (memoSum_ok U5147_9_ok (memoSum_ok U5147_10_ok (memoSum_ok U5147_11_ok (memoSum_ok U5147_12_ok (memoSum_ok U5147_13_ok (memoSum_ok U5147_14_ok (memoSum_ok U5147_15_ok (memoSum_ok U5147_16_ok (memoSum_ok U5147_17_ok (memoSum_ok U5147_18_ok (memoSum_ok U5147_19_ok (memoSum_ok U5147_20_ok (memoSum_ok U5147_21_ok (memoSum_ok U5147_22_ok (memoSum_ok U5147_23_ok (memoSum_ok U5147_24_ok (memoSum_ok U5147_25_ok (memoSum_ok U5147_26_ok (memoSum_ok U5147_27_ok (memoSum_ok U5147_28_ok (memoSum_ok U5147_29_ok (memoSum_ok U5147_30_ok (memoSum_ok U5147_31_ok (memoSum_ok U5147_32_ok (memoSum_ok U5147_33_ok (memoSum_ok U5147_34_ok (memoSum_ok U5147_35_ok (memoSum_ok U5147_36_ok (memoSum_ok U5147_37_ok (memoSum_ok U5147_38_ok (memoSum_ok U5147_39_ok (fun _ _ _ _ h => by cases h))))))))))))))))))))))))))))))))))))))))
end Go.Ev
end
section
namespace Go.Ev
open Go.Proofs
noncomputable def q5U : Sums := addS 147 U5147 ((sums5 Tryz.prog))
theorem q5U_ok : SumsOK Tryz.prog q5U := addS_ok U5147_ok (sums5_ok)
end Go.Ev
end
section
namespace Go.Ev
open Go.Proofs
noncomputable def F5144_0 : Memo where
  n0 := 11
  args := [.ptr 0 0, .map 1]
  pat := [(0, .cells true true 1 [.any, .any, .any, .any, .any, .any, .any, .any, .any, .any, .map 2, .any, .any, .any]), (1, .map true 2 [⟨.agg [.int .i64 (.ofNat 3), .int .i64 (.ofNat 4)], .slice 3 0 3 none, none⟩, ⟨.agg [.int .i64 (.ofNat 4), .int .i64 (.ofNat 4)], .slice 4 0 3 none, none⟩]), (2, .map true 3 [⟨.agg [.int .i64 (.ofNat 0), .int .i64 (.ofNat 4)], .ptr 5 0, none⟩, ⟨.agg [.int .i64 (.ofNat 3), .int .i64 (.ofNat 4)], .ptr 6 0, none⟩, ⟨.agg [.int .i64 (.ofNat 4), .int .i64 (.ofNat 4)], .ptr 7 0, none⟩]), (3, .cells true true 2 [.int .i64 (.ofNat 0), .int .i64 (.ofNat 4), .int .i64 (.ofNat 3), .int .i64 (.ofNat 4), .int .i64 (.ofNat 4), .int .i64 (.ofNat 4)]), (4, .cells true true 2 [.int .i64 (.ofNat 0), .int .i64 (.ofNat 4), .int .i64 (.ofNat 3), .int .i64 (.ofNat 4), .int .i64 (.ofNat 4), .int .i64 (.ofNat 4)]), (5, .cells true true 1 [.fn 149 [], .slice 8 0 3 none]), (6, .cells false true 1 [.fn 149 [], .slice 9 0 2 none]), (7, .cells false true 1 [.fn 149 [], .slice 10 0 2 none]), (8, .cells true true 1 [.int .i64 (.ofNat 1), .int .i64 (.ofNat 2), .int .i64 (.ofNat 3)]), (9, .cells false true 1 [.int .i64 (.ofNat 1), .int .i64 (.ofNat 2)]), (10, .cells false true 1 [.int .i64 (.ofNat 1), .int .i64 (.ofNat 2)])]
  n1 := 13
  res := .tup []
  out := [(6, .cells false true 1 [.fn 149 [], .slice 11 0 3 none]), (7, .cells false true 1 [.fn 149 [], .slice 12 0 3 none]), (11, .cells false true 1 [.int .i64 (.ofNat 1), .int .i64 (.ofNat 2), .int .i64 (.ofNat 3)]), (12, .cells false true 1 [.int .i64 (.ofNat 1), .int .i64 (.ofNat 2), .int .i64 (.ofNat 3)])]
theorem F5144_0_ok : MemoOK Tryz.prog 144 F5144_0 := memoRunN_ok mixed q5U_ok (S := q5U) (N := fun _ => false) (n := 100000) (hi := 1000000) (by kernel_rfl)
noncomputable def F5144_1 : Memo where
  n0 := 11
  args := [.ptr 0 0, .map 1]
  pat := [(0, .cells true true 1 [.any, .any, .any, .any, .any, .any, .any, .any, .any, .any, .map 2, .any, .any, .any]), (1, .map true 2 [⟨.agg [.int .i64 (.ofNat 3), .int .i64 (.ofNat 4)], .slice 3 0 3 none, none⟩, ⟨.agg [.int .i64 (.ofNat 4), .int .i64 (.ofNat 4)], .slice 4 0 3 none, none⟩]), (2, .map true 3 [⟨.agg [.int .i64 (.ofNat 0), .int .i64 (.ofNat 4)], .ptr 5 0, none⟩, ⟨.agg [.int .i64 (.ofNat 3), .int .i64 (.ofNat 4)], .ptr 6 0, none⟩, ⟨.agg [.int .i64 (.ofNat 4), .int .i64 (.ofNat 4)], .ptr 7 0, none⟩]), (3, .cells true true 2 [.int .i64 (.ofNat 0), .int .i64 (.ofNat 4), .int .i64 (.ofNat 4), .int .i64 (.ofNat 4), .int .i64 (.ofNat 3), .int .i64 (.ofNat 4)]), (4, .cells true true 2 [.int .i64 (.ofNat 0), .int .i64 (.ofNat 4), .int .i64 (.ofNat 4), .int .i64 (.ofNat 4), .int .i64 (.ofNat 3), .int .i64 (.ofNat 4)]), (5, .cells true true 1 [.fn 149 [], .slice 8 0 3 none]), (6, .cells false true 1 [.fn 149 [], .slice 9 0 2 none]), (7, .cells false true 1 [.fn 149 [], .slice 10 0 2 none]), (8, .cells true true 1 [.int .i64 (.ofNat 1), .int .i64 (.ofNat 2), .int .i64 (.ofNat 3)]), (9, .cells false true 1 [.int .i64 (.ofNat 1), .int .i64 (.ofNat 2)]), (10, .cells false true 1 [.int .i64 (.ofNat 1), .int .i64 (.ofNat 2)])]
  n1 := 13
  res := .tup []
  out := [(6, .cells false true 1 [.fn 149 [], .slice 11 0 3 none]), (7, .cells false true 1 [.fn 149 [], .slice 12 0 3 none]), (11, .cells false true 1 [.int .i64 (.ofNat 1), .int .i64 (.ofNat 2), .int .i64 (.ofNat 3)]), (12, .cells false true 1 [.int .i64 (.ofNat 1), .int .i64 (.ofNat 2), .int .i64 (.ofNat 3)])]
theorem F5144_1_ok : MemoOK Tryz.prog 144 F5144_1 := memoRunN_ok mixed q5U_ok (S := q5U) (N := fun _ => false) (n := 100000) (hi := 1000000) (by kernel_rfl)
noncomputable def F5144_2 : Memo where
  n0 := 11
  args := [.ptr 0 0, .map 1]
  pat := [(0, .cells true true 1 [.any, .any, .any, .any, .any, .any, .any, .any, .any, .any, .map 2, .any, .any, .any]), (1, .map true 2 [⟨.agg [.int .i64 (.ofNat 3), .int .i64 (.ofNat 4)], .slice 3 0 3 none, none⟩, ⟨.agg [.int .i64 (.ofNat 4), .int .i64 (.ofNat 4)], .slice 4 0 3 none, none⟩]), (2, .map true 3 [⟨.agg [.int .i64 (.ofNat 0), .int .i64 (.ofNat 4)], .ptr 5 0, none⟩, ⟨.agg [.int .i64 (.ofNat 3), .int .i64 (.ofNat 4)], .ptr 6 0, none⟩, ⟨.agg [.int .i64 (.ofNat 4), .int .i64 (.ofNat 4)], .ptr 7 0, none⟩]), (3, .cells true true 2 [.int .i64 (.ofNat 3), .int .i64 (.ofNat 4), .int .i64 (.ofNat 0), .int .i64 (.ofNat 4), .int .i64 (.ofNat 4), .int .i64 (.ofNat 4)]), (4, .cells true true 2 [.int .i64 (.ofNat 3), .int .i64 (.ofNat 4), .int .i64 (.ofNat 0), .int .i64 (.ofNat 4), .int .i64 (.ofNat 4), .int .i64 (.ofNat 4)]), (5, .cells true true 1 [.fn 149 [], .slice 8 0 3 none]), (6, .cells false true 1 [.fn 149 [], .slice 9 0 2 none]), (7, .cells false true 1 [.fn 149 [], .slice 10 0 2 none]), (8, .cells true true 1 [.int .i64 (.ofNat 1), .int .i64 (.ofNat 2), .int .i64 (.ofNat 3)]), (9, .cells false true 1 [.int .i64 (.ofNat 1), .int .i64 (.ofNat 2)]), (10, .cells false true 1 [.int .i64 (.ofNat 1), .int .i64 (.ofNat 2)])]
  n1 := 13
  res := .tup []
  out := [(6, .cells false true 1 [.fn 149 [], .slice 11 0 3 none]), (7, .cells false true 1 [.fn 149 [], .slice 12 0 3 none]), (11, .cells false true 1 [.int .i64 (.ofNat 1), .int .i64 (.ofNat 2), .int .i64 (.ofNat 3)]), (12, .cells false true 1 [.int .i64 (.ofNat 1), .int .i64 (.ofNat 2), .int .i64 (.ofNat 3)])]
theorem F5144_2_ok : MemoOK Tryz.prog 144 F5144_2 := memoRunN_ok mixed q5U_ok (S := q5U) (N := fun _ => false) (n := 100000) (hi := 1000000) (by kernel_rfl)
noncomputable def F5144_3 : Memo where
  n0 := 11
  args := [.ptr 0 0, .map 1]
  pat := [(0, .cells true true 1 [.any, .any, .any, .any, .any, .any, .any, .any, .any, .any, .map 2, .any, .any, .any]), (1, .map true 2 [⟨.agg [.int .i64 (.ofNat 3), .int .i64 (.ofNat 4)], .slice 3 0 3 none, none⟩, ⟨.agg [.int .i64 (.ofNat 4), .int .i64 (.ofNat 4)], .slice 4 0 3 none, none⟩]), (2, .map true 3 [⟨.agg [.int .i64 (.ofNat 0), .int .i64 (.ofNat 4)], .ptr 5 0, none⟩, ⟨.agg [.int .i64 (.ofNat 3), .int .i64 (.ofNat 4)], .ptr 6 0, none⟩, ⟨.agg [.int .i64 (.ofNat 4), .int .i64 (.ofNat 4)], .ptr 7 0, none⟩]), (3, .cells true true 2 [.int .i64 (.ofNat 3), .int .i64 (.ofNat 4), .int .i64 (.ofNat 4), .int .i64 (.ofNat 4), .int .i64 (.ofNat 0), .int .i64 (.ofNat 4)]), (4, .cells true true 2 [.int .i64 (.ofNat 3), .int .i64 (.ofNat 4), .int .i64 (.ofNat 4), .int .i64 (.ofNat 4), .int .i64 (.ofNat 0), .int .i64 (.ofNat 4)]), (5, .cells true true 1 [.fn 149 [], .slice 8 0 3 none]), (6, .cells false true 1 [.fn 149 [], .slice 9 0 2 none]), (7, .cells false true 1 [.fn 149 [], .slice 10 0 2 none]), (8, .cells true true 1 [.int .i64 (.ofNat 1), .int .i64 (.ofNat 2), .int .i64 (.ofNat 3)]), (9, .cells false true 1 [.int .i64 (.ofNat 1), .int .i64 (.ofNat 2)]), (10, .cells false true 1 [.int .i64 (.ofNat 1), .int .i64 (.ofNat 2)])]
  n1 := 13
  res := .tup []
  out := [(6, .cells false true 1 [.fn 149 [], .slice 11 0 3 none]), (7, .cells false true 1 [.fn 149 [], .slice 12 0 3 none]), (11, .cells false true 1 [.int .i64 (.ofNat 1), .int .i64 (.ofNat 2), .int .i64 (.ofNat 3)]), (12, .cells false true 1 [.int .i64 (.ofNat 1), .int .i64 (.ofNat 2), .int .i64 (.ofNat 3)])]
theorem F5144_3_ok : MemoOK Tryz.prog 144 F5144_3 := memoRunN_ok mixed q5U_ok (S := q5U) (N := fun _ => false) (n := 100000) (hi := 1000000) (by kernel_rfl)
noncomputable def F5144_4 : Memo where
  n0 := 11
  args := [.ptr 0 0, .map 1]
  pat := [(0, .cells true true 1 [.any, .any, .any, .any, .any, .any, .any, .any, .any, .any, .map 2, .any, .any, .any]), (1, .map true 2 [⟨.agg [.int .i64 (.ofNat 3), .int .i64 (.ofNat 4)], .slice 3 0 3 none, none⟩, ⟨.agg [.int .i64 (.ofNat 4), .int .i64 (.ofNat 4)], .slice 4 0 3 none, none⟩]), (2, .map true 3 [⟨.agg [.int .i64 (.ofNat 0), .int .i64 (.ofNat 4)], .ptr 5 0, none⟩, ⟨.agg [.int .i64 (.ofNat 3), .int .i64 (.ofNat 4)], .ptr 6 0, none⟩, ⟨.agg [.int .i64 (.ofNat 4), .int .i64 (.ofNat 4)], .ptr 7 0, none⟩]), (3, .cells true true 2 [.int .i64 (.ofNat 4), .int .i64 (.ofNat 4), .int .i64 (.ofNat 0), .int .i64 (.ofNat 4), .int .i64 (.ofNat 3), .int .i64 (.ofNat 4)]), (4, .cells true true 2 [.int .i64 (.ofNat 4), .int .i64 (.ofNat 4), .int .i64 (.ofNat 0), .int .i64 (.ofNat 4), .int .i64 (.ofNat 3), .int .i64 (.ofNat 4)]), (5, .cells true true 1 [.fn 149 [], .slice 8 0 3 none]), (6, .cells false true 1 [.fn 149 [], .slice 9 0 2 none]), (7, .cells false true 1 [.fn 149 [], .slice 10 0 2 none]), (8, .cells true true 1 [.int .i64 (.ofNat 1), .int .i64 (.ofNat 2), .int .i64 (.ofNat 3)]), (9, .cells false true 1 [.int .i64 (.ofNat 1), .int .i64 (.ofNat 2)]), (10, .cells false true 1 [.int .i64 (.ofNat 1), .int .i64 (.ofNat 2)])]
  n1 := 13
  res := .tup []
  out := [(6, .cells false true 1 [.fn 149 [], .slice 11 0 3 none]), (7, .cells false true 1 [.fn 149 [], .slice 12 0 3 none]), (11, .cells false true 1 [.int .i64 (.ofNat 1), .int .i64 (.ofNat 2), .int .i64 (.ofNat 3)]), (12, .cells false true 1 [.int .i64 (.ofNat 1), .int .i64 (.ofNat 2), .int .i64 (.ofNat 3)])]
theorem F5144_4_ok : MemoOK Tryz.prog 144 F5144_4 := memoRunN_ok mixed q5U_ok (S := q5U) (N := fun _ => false) (n := 100000) (hi := 1000000) (by kernel_rfl)
noncomputable def F5144_5 : Memo where
  n0 := 11
  args := [.ptr 0 0, .map 1]
  pat := [(0, .cells true true 1 [.any, .any, .any, .any, .any, .any, .any, .any, .any, .any, .map 2, .any, .any, .any]), (1, .map true 2 [⟨.agg [.int .i64 (.ofNat 3), .int .i64 (.ofNat 4)], .slice 3 0 3 none, none⟩, ⟨.agg [.int .i64 (.ofNat 4), .int .i64 (.ofNat 4)], .slice 4 0 3 none, none⟩]), (2, .map true 3 [⟨.agg [.int .i64 (.ofNat 0), .int .i64 (.ofNat 4)], .ptr 5 0, none⟩, ⟨.agg [.int .i64 (.ofNat 3), .int .i64 (.ofNat 4)], .ptr 6 0, none⟩, ⟨.agg [.int .i64 (.ofNat 4), .int .i64 (.ofNat 4)], .ptr 7 0, none⟩]), (3, .cells true true 2 [.int .i64 (.ofNat 4), .int .i64 (.ofNat 4), .int .i64 (.ofNat 3), .int .i64 (.ofNat 4), .int .i64 (.ofNat 0), .int .i64 (.ofNat 4)]), (4, .cells true true 2 [.int .i64 (.ofNat 4), .int .i64 (.ofNat 4), .int .i64 (.ofNat 3), .int .i64 (.ofNat 4), .int .i64 (.ofNat 0), .int .i64 (.ofNat 4)]), (5, .cells true true 1 [.fn 149 [], .slice 8 0 3 none]), (6, .cells false true 1 [.fn 149 [], .slice 9 0 2 none]), (7, .cells false true 1 [.fn 149 [], .slice 10 0 2 none]), (8, .cells true true 1 [.int .i64 (.ofNat 1), .int .i64 (.ofNat 2), .int .i64 (.ofNat 3)]), (9, .cells false true 1 [.int .i64 (.ofNat 1), .int .i64 (.ofNat 2)]), (10, .cells false true 1 [.int .i64 (.ofNat 1), .int .i64 (.ofNat 2)])]
  n1 := 13
  res := .tup []
  out := [(6, .cells false true 1 [.fn 149 [], .slice 11 0 3 none]), (7, .cells false true 1 [.fn 149 [], .slice 12 0 3 none]), (11, .cells false true 1 [.int .i64 (.ofNat 1), .int .i64 (.ofNat 2), .int .i64 (.ofNat 3)]), (12, .cells false true 1 [.int .i64 (.ofNat 1), .int .i64 (.ofNat 2), .int .i64 (.ofNat 3)])]
theorem F5144_5_ok : MemoOK Tryz.prog 144 F5144_5 := memoRunN_ok mixed q5U_ok (S := q5U) (N := fun _ => false) (n := 100000) (hi := 1000000) (by kernel_rfl)
noncomputable def F5144_6 : Memo where
  n0 := 5
  args := [.ptr 0 0, .map 1]
  pat := [(0, .cells true true 1 [.any, .any, .any, .any, .any, .any, .any, .any, .any, .any, .map 2, .any, .any, .any]), (1, .map true 0 []), (2, .map true 1 [⟨.agg [.int .i64 (.ofNat 0), .int .i64 (.ofNat 2)], .ptr 3 0, none⟩]), (3, .cells true true 1 [.fn 149 [], .slice 4 0 1 none]), (4, .cells true true 1 [.int .i64 (.ofNat 1)])]
  n1 := 5
  res := .tup []
  out := []
theorem F5144_6_ok : MemoOK Tryz.prog 144 F5144_6 := memoRunN_ok mixed q5U_ok (S := q5U) (N := fun _ => false) (n := 100000) (hi := 1000000) (by kernel_rfl)
noncomputable def F5144_7 : Memo where
  n0 := 9
  args := [.ptr 0 0, .map 1]
  pat := [(0, .cells true true 1 [.any, .any, .any, .any, .any, .any, .any, .any, .any, .any, .map 2, .any, .any, .any]), (1, .map true 0 []), (2, .map true 3 [⟨.agg [.int .i64 (.ofNat 0), .int .i64 (.ofNat 4)], .ptr 3 0, none⟩, ⟨.agg [.int .i64 (.ofNat 3), .int .i64 (.ofNat 4)], .ptr 4 0, none⟩, ⟨.agg [.int .i64 (.ofNat 4), .int .i64 (.ofNat 4)], .ptr 5 0, none⟩]), (3, .cells true true 1 [.fn 149 [], .slice 6 0 3 none]), (4, .cells true true 1 [.fn 149 [], .slice 7 0 2 none]), (5, .cells true true 1 [.fn 149 [], .slice 8 0 2 none]), (6, .cells true true 1 [.int .i64 (.ofNat 1), .int .i64 (.ofNat 2), .int .i64 (.ofNat 3)]), (7, .cells true true 1 [.int .i64 (.ofNat 1), .int .i64 (.ofNat 2)]), (8, .cells true true 1 [.int .i64 (.ofNat 1), .int .i64 (.ofNat 2)])]
  n1 := 9
  res := .tup []
  out := []
theorem F5144_7_ok : MemoOK Tryz.prog 144 F5144_7 := memoRunN_ok mixed q5U_ok (S := q5U) (N := fun _ => false) (n := 100000) (hi := 1000000) (by kernel_rfl)
noncomputable def F5144_8 : Memo where
  n0 := 11
  args := [.ptr 0 0, .map 1]
  pat := [(0, .cells true true 1 [.any, .any, .any, .any, .any, .any, .any, .any, .any, .any, .map 2, .any, .any, .any]), (1, .map true 2 [⟨.agg [.int .i64 (.ofNat 3), .int .i64 (.ofNat 4)], .slice 3 0 3 none, none⟩, ⟨.agg [.int .i64 (.ofNat 4), .int .i64 (.ofNat 4)], .slice 4 0 3 none, none⟩]), (2, .map true 3 [⟨.agg [.int .i64 (.ofNat 0), .int .i64 (.ofNat 4)], .ptr 5 0, none⟩, ⟨.agg [.int .i64 (.ofNat 3), .int .i64 (.ofNat 4)], .ptr 6 0, none⟩, ⟨.agg [.int .i64 (.ofNat 4), .int .i64 (.ofNat 4)], .ptr 7 0, none⟩]), (3, .cells true true 2 [.int .i64 (.ofNat 0), .int .i64 (.ofNat 4), .int .i64 (.ofNat 3), .int .i64 (.ofNat 4), .int .i64 (.ofNat 4), .int .i64 (.ofNat 4)]), (4, .cells true true 2 [.int .i64 (.ofNat 0), .int .i64 (.ofNat 4), .int .i64 (.ofNat 3), .int .i64 (.ofNat 4), .int .i64 (.ofNat 4), .int .i64 (.ofNat 4)]), (5, .cells true true 1 [.fn 149 [], .slice 8 0 3 none]), (6, .cells false true 1 [.fn 149 [], .slice 9 0 2 none]), (7, .cells false true 1 [.fn 149 [], .slice 10 0 2 none]), (8, .cells true true 1 [.int .i64 (.ofNat 0), .int .i64 (.ofNat 1), .int .i64 (.ofNat 3)]), (9, .cells false true 1 [.int .i64 (.ofNat 0), .int .i64 (.ofNat 1)]), (10, .cells false true 1 [.int .i64 (.ofNat 0), .int .i64 (.ofNat 1)])]
  n1 := 13
  res := .tup []
  out := [(6, .cells false true 1 [.fn 149 [], .slice 11 0 3 none]), (7, .cells false true 1 [.fn 149 [], .slice 12 0 3 none]), (11, .cells false true 1 [.int .i64 (.ofNat 0), .int .i64 (.ofNat 1), .int .i64 (.ofNat 3)]), (12, .cells false true 1 [.int .i64 (.ofNat 0), .int .i64 (.ofNat 1), .int .i64 (.ofNat 3)])]
theorem F5144_8_ok : MemoOK Tryz.prog 144 F5144_8 := memoRunN_ok mixed q5U_ok (S := q5U) (N := fun _ => false) (n := 100000) (hi := 1000000) (by kernel_rfl)
noncomputable def F5144_9 : Memo where
  n0 := 11
  args := [.ptr 0 0, .map 1]
  pat := [(0, .cells true true 1 [.any, .any, .any, .any, .any, .any, .any, .any, .any, .any, .map 2, .any, .any, .any]), (1, .map true 2 [⟨.agg [.int .i64 (.ofNat 3), .int .i64 (.ofNat 4)], .slice 3 0 3 none, none⟩, ⟨.agg [.int .i64 (.ofNat 4), .int .i64 (.ofNat 4)], .slice 4 0 3 none, none⟩]), (2, .map true 3 [⟨.agg [.int .i64 (.ofNat 0), .int .i64 (.ofNat 4)], .ptr 5 0, none⟩, ⟨.agg [.int .i64 (.ofNat 3), .int .i64 (.ofNat 4)], .ptr 6 0, none⟩, ⟨.agg [.int .i64 (.ofNat 4), .int .i64 (.ofNat 4)], .ptr 7 0, none⟩]), (3, .cells true true 2 [.int .i64 (.ofNat 0), .int .i64 (.ofNat 4), .int .i64 (.ofNat 4), .int .i64 (.ofNat 4), .int .i64 (.ofNat 3), .int .i64 (.ofNat 4)]), (4, .cells true true 2 [.int .i64 (.ofNat 0), .int .i64 (.ofNat 4), .int .i64 (.ofNat 4), .int .i64 (.ofNat 4), .int .i64 (.ofNat 3), .int .i64 (.ofNat 4)]), (5, .cells true true 1 [.fn 149 [], .slice 8 0 3 none]), (6, .cells false true 1 [.fn 149 [], .slice 9 0 2 none]), (7, .cells false true 1 [.fn 149 [], .slice 10 0 2 none]), (8, .cells true true 1 [.int .i64 (.ofNat 0), .int .i64 (.ofNat 1), .int .i64 (.ofNat 3)]), (9, .cells false true 1 [.int .i64 (.ofNat 0), .int .i64 (.ofNat 1)]), (10, .cells false true 1 [.int .i64 (.ofNat 0), .int .i64 (.ofNat 1)])]
  n1 := 13
  res := .tup []
  out := [(6, .cells false true 1 [.fn 149 [], .slice 11 0 3 none]), (7, .cells false true 1 [.fn 149 [], .slice 12 0 3 none]), (11, .cells false true 1 [.int .i64 (.ofNat 0), .int .i64 (.ofNat 1), .int .i64 (.ofNat 3)]), (12, .cells false true 1 [.int .i64 (.ofNat 0), .int .i64 (.ofNat 1), .int .i64 (.ofNat 3)])]
theorem F5144_9_ok : MemoOK Tryz.prog 144 F5144_9 := memoRunN_ok mixed q5U_ok (S := q5U) (N := fun _ => false) (n := 100000) (hi := 1000000) (by kernel_rfl)
noncomputable def F5144_10 : Memo where
  n0 := 11
  args := [.ptr 0 0, .map 1]
  pat := [(0, .cells true true 1 [.any, .any, .any, .any, .any, .any, .any, .any, .any, .any, .map 2, .any, .any, .any]), (1, .map true 2 [⟨.agg [.int .i64 (.ofNat 3), .int .i64 (.ofNat 4)], .slice 3 0 3 none, none⟩, ⟨.agg [.int .i64 (.ofNat 4), .int .i64 (.ofNat 4)], .slice 4 0 3 none, none⟩]), (2, .map true 3 [⟨.agg [.int .i64 (.ofNat 0), .int .i64 (.ofNat 4)], .ptr 5 0, none⟩, ⟨.agg [.int .i64 (.ofNat 3), .int .i64 (.ofNat 4)], .ptr 6 0, none⟩, ⟨.agg [.int .i64 (.ofNat 4), .int .i64 (.ofNat 4)], .ptr 7 0, none⟩]), (3, .cells true true 2 [.int .i64 (.ofNat 3), .int .i64 (.ofNat 4), .int .i64 (.ofNat 0), .int .i64 (.ofNat 4), .int .i64 (.ofNat 4), .int .i64 (.ofNat 4)]), (4, .cells true true 2 [.int .i64 (.ofNat 3), .int .i64 (.ofNat 4), .int .i64 (.ofNat 0), .int .i64 (.ofNat 4), .int .i64 (.ofNat 4), .int .i64 (.ofNat 4)]), (5, .cells true true 1 [.fn 149 [], .slice 8 0 3 none]), (6, .cells false true 1 [.fn 149 [], .slice 9 0 2 none]), (7, .cells false true 1 [.fn 149 [], .slice 10 0 2 none]), (8, .cells true true 1 [.int .i64 (.ofNat 0), .int .i64 (.ofNat 1), .int .i64 (.ofNat 3)]), (9, .cells false true 1 [.int .i64 (.ofNat 0), .int .i64 (.ofNat 1)]), (10, .cells false true 1 [.int .i64 (.ofNat 0), .int .i64 (.ofNat 1)])]
  n1 := 13
  res := .tup []
  out := [(6, .cells false true 1 [.fn 149 [], .slice 11 0 3 none]), (7, .cells false true 1 [.fn 149 [], .slice 12 0 3 none]), (11, .cells false true 1 [.int .i64 (.ofNat 0), .int .i64 (.ofNat 1), .int .i64 (.ofNat 3)]), (12, .cells false true 1 [.int .i64 (.ofNat 0), .int .i64 (.ofNat 1), .int .i64 (.ofNat 3)])]
theorem F5144_10_ok : MemoOK Tryz.prog 144 F5144_10 := memoRunN_ok mixed q5U_ok (S := q5U) (N := fun _ => false) (n := 100000) (hi := 1000000) (by kernel_rfl)
noncomputable def F5144_11 : Memo where
  n0 := 11
  args := [.ptr 0 0, .map 1]
  pat := [(0, .cells true true 1 [.any, .any, .any, .any, .any, .any, .any, .any, .any, .any, .map 2, .any, .any, .any]), (1, .map true 2 [⟨.agg [.int .i64 (.ofNat 3), .int .i64 (.ofNat 4)], .slice 3 0 3 none, none⟩, ⟨.agg [.int .i64 (.ofNat 4), .int .i64 (.ofNat 4)], .slice 4 0 3 none, none⟩]), (2, .map true 3 [⟨.agg [.int .i64 (.ofNat 0), .int .i64 (.ofNat 4)], .ptr 5 0, none⟩, ⟨.agg [.int .i64 (.ofNat 3), .int .i64 (.ofNat 4)], .ptr 6 0, none⟩, ⟨.agg [.int .i64 (.ofNat 4), .int .i64 (.ofNat 4)], .ptr 7 0, none⟩]), (3, .cells true true 2 [.int .i64 (.ofNat 3), .int .i64 (.ofNat 4), .int .i64 (.ofNat 4), .int .i64 (.ofNat 4), .int .i64 (.ofNat 0), .int .i64 (.ofNat 4)]), (4, .cells true true 2 [.int .i64 (.ofNat 3), .int .i64 (.ofNat 4), .int .i64 (.ofNat 4), .int .i64 (.ofNat 4), .int .i64 (.ofNat 0), .int .i64 (.ofNat 4)]), (5, .cells true true 1 [.fn 149 [], .slice 8 0 3 none]), (6, .cells false true 1 [.fn 149 [], .slice 9 0 2 none]), (7, .cells false true 1 [.fn 149 [], .slice 10 0 2 none]), (8, .cells true true 1 [.int .i64 (.ofNat 0), .int .i64 (.ofNat 1), .int .i64 (.ofNat 3)]), (9, .cells false true 1 [.int .i64 (.ofNat 0), .int .i64 (.ofNat 1)]), (10, .cells false true 1 [.int .i64 (.ofNat 0), .int .i64 (.ofNat 1)])]
  n1 := 13
  res := .tup []
  out := [(6, .cells false true 1 [.fn 149 [], .slice 11 0 3 none]), (7, .cells false true 1 [.fn 149 [], .slice 12 0 3 none]), (11, .cells false true 1 [.int .i64 (.ofNat 0), .int .i64 (.ofNat 1), .int .i64 (.ofNat 3)]), (12, .cells false true 1 [.int .i64 (.ofNat 0), .int .i64 (.ofNat 1), .int .i64 (.ofNat 3)])]
theorem F5144_11_ok : MemoOK Tryz.prog 144 F5144_11 := memoRunN_ok mixed q5U_ok (S := q5U) (N := fun _ => false) (n := 100000) (hi := 1000000) (by kernel_rfl)
noncomputable def F5144_12 : Memo where
  n0 := 11
  args := [.ptr 0 0, .map 1]
  pat := [(0, .cells true true 1 [.any, .any, .any, .any, .any, .any, .any, .any, .any, .any, .map 2, .any, .any, .any]), (1, .map true 2 [⟨.agg [.int .i64 (.ofNat 3), .int .i64 (.ofNat 4)], .slice 3 0 3 none, none⟩, ⟨.agg [.int .i64 (.ofNat 4), .int .i64 (.ofNat 4)], .slice 4 0 3 none, none⟩]), (2, .map true 3 [⟨.agg [.int .i64 (.ofNat 0), .int .i64 (.ofNat 4)], .ptr 5 0, none⟩, ⟨.agg [.int .i64 (.ofNat 3), .int .i64 (.ofNat 4)], .ptr 6 0, none⟩, ⟨.agg [.int .i64 (.ofNat 4), .int .i64 (.ofNat 4)], .ptr 7 0, none⟩]), (3, .cells true true 2 [.int .i64 (.ofNat 4), .int .i64 (.ofNat 4), .int .i64 (.ofNat 0), .int .i64 (.ofNat 4), .int .i64 (.ofNat 3), .int .i64 (.ofNat 4)]), (4, .cells true true 2 [.int .i64 (.ofNat 4), .int .i64 (.ofNat 4), .int .i64 (.ofNat 0), .int .i64 (.ofNat 4), .int .i64 (.ofNat 3), .int .i64 (.ofNat 4)]), (5, .cells true true 1 [.fn 149 [], .slice 8 0 3 none]), (6, .cells false true 1 [.fn 149 [], .slice 9 0 2 none]), (7, .cells false true 1 [.fn 149 [], .slice 10 0 2 none]), (8, .cells true true 1 [.int .i64 (.ofNat 0), .int .i64 (.ofNat 1), .int .i64 (.ofNat 3)]), (9, .cells false true 1 [.int .i64 (.ofNat 0), .int .i64 (.ofNat 1)]), (10, .cells false true 1 [.int .i64 (.ofNat 0), .int .i64 (.ofNat 1)])]
  n1 := 13
  res := .tup []
  out := [(6, .cells false true 1 [.fn 149 [], .slice 11 0 3 none]), (7, .cells false true 1 [.fn 149 [], .slice 12 0 3 none]), (11, .cells false true 1 [.int .i64 (.ofNat 0), .int .i64 (.ofNat 1), .int .i64 (.ofNat 3)]), (12, .cells false true 1 [.int .i64 (.ofNat 0), .int .i64 (.ofNat 1), .int .i64 (.ofNat 3)])]
theorem F5144_12_ok : MemoOK Tryz.prog 144 F5144_12 := memoRunN_ok mixed q5U_ok (S := q5U) (N := fun _ => false) (n := 100000) (hi := 1000000) (by kernel_rfl)
noncomputable def F5144_13 : Memo where
  n0 := 11
  args := [.ptr 0 0, .map 1]
  pat := [(0, .cells true true 1 [.any, .any, .any, .any, .any, .any, .any, .any, .any, .any, .map 2, .any, .any, .any]), (1, .map true 2 [⟨.agg [.int .i64 (.ofNat 3), .int .i64 (.ofNat 4)], .slice 3 0 3 none, none⟩, ⟨.agg [.int .i64 (.ofNat 4), .int .i64 (.ofNat 4)], .slice 4 0 3 none, none⟩]), (2, .map true 3 [⟨.agg [.int .i64 (.ofNat 0), .int .i64 (.ofNat 4)], .ptr 5 0, none⟩, ⟨.agg [.int .i64 (.ofNat 3), .int .i64 (.ofNat 4)], .ptr 6 0, none⟩, ⟨.agg [.int .i64 (.ofNat 4), .int .i64 (.ofNat 4)], .ptr 7 0, none⟩]), (3, .cells true true 2 [.int .i64 (.ofNat 4), .int .i64 (.ofNat 4), .int .i64 (.ofNat 3), .int .i64 (.ofNat 4), .int .i64 (.ofNat 0), .int .i64 (.ofNat 4)]), (4, .cells true true 2 [.int .i64 (.ofNat 4), .int .i64 (.ofNat 4), .int .i64 (.ofNat 3), .int .i64 (.ofNat 4), .int .i64 (.ofNat 0), .int .i64 (.ofNat 4)]), (5, .cells true true 1 [.fn 149 [], .slice 8 0 3 none]), (6, .cells false true 1 [.fn 149 [], .slice 9 0 2 none]), (7, .cells false true 1 [.fn 149 [], .slice 10 0 2 none]), (8, .cells true true 1 [.int .i64 (.ofNat 0), .int .i64 (.ofNat 1), .int .i64 (.ofNat 3)]), (9, .cells false true 1 [.int .i64 (.ofNat 0), .int .i64 (.ofNat 1)]), (10, .cells false true 1 [.int .i64 (.ofNat 0), .int .i64 (.ofNat 1)])]
  n1 := 13
  res := .tup []
  out := [(6, .cells false true 1 [.fn 149 [], .slice 11 0 3 none]), (7, .cells false true 1 [.fn 149 [], .slice 12 0 3 none]), (11, .cells false true 1 [.int .i64 (.ofNat 0), .int .i64 (.ofNat 1), .int .i64 (.ofNat 3)]), (12, .cells false true 1 [.int .i64 (.ofNat 0), .int .i64 (.ofNat 1), .int .i64 (.ofNat 3)])]
theorem F5144_13_ok : MemoOK Tryz.prog 144 F5144_13 := memoRunN_ok mixed q5U_ok (S := q5U) (N := fun _ => false) (n := 100000) (hi := 1000000) (by kernel_rfl)
noncomputable def F5144_14 : Memo where
  n0 := 9
  args := [.ptr 0 0, .map 1]
  pat := [(0, .cells true true 1 [.any, .any, .any, .any, .any, .any, .any, .any, .any, .any, .map 2, .any, .any, .any]), (1, .map true 0 []), (2, .map true 3 [⟨.agg [.int .i64 (.ofNat 0), .int .i64 (.ofNat 4)], .ptr 3 0, none⟩, ⟨.agg [.int .i64 (.ofNat 3), .int .i64 (.ofNat 4)], .ptr 4 0, none⟩, ⟨.agg [.int .i64 (.ofNat 4), .int .i64 (.ofNat 4)], .ptr 5 0, none⟩]), (3, .cells true true 1 [.fn 149 [], .slice 6 0 3 none]), (4, .cells true true 1 [.fn 149 [], .slice 7 0 2 none]), (5, .cells true true 1 [.fn 149 [], .slice 8 0 2 none]), (6, .cells true true 1 [.int .i64 (.ofNat 0), .int .i64 (.ofNat 1), .int .i64 (.ofNat 3)]), (7, .cells true true 1 [.int .i64 (.ofNat 0), .int .i64 (.ofNat 1)]), (8, .cells true true 1 [.int .i64 (.ofNat 0), .int .i64 (.ofNat 1)])]
  n1 := 9
  res := .tup []
  out := []
theorem F5144_14_ok : MemoOK Tryz.prog 144 F5144_14 := memoRunN_ok mixed q5U_ok (S := q5U) (N := fun _ => false) (n := 100000) (hi := 1000000) (by kernel_rfl)
noncomputable def F5144_15 : Memo where
  n0 := 7
  args := [.ptr 0 0, .map 1]
  pat := [(0, .cells true true 1 [.any, .any, .any, .any, .any, .any, .any, .any, .any, .any, .map 2, .any, .any, .any]), (1, .map true 0 []), (2, .map true 2 [⟨.agg [.int .i64 (.ofNat 0), .int .i64 (.ofNat 3)], .ptr 3 0, none⟩, ⟨.agg [.int .i64 (.ofNat 3), .int .i64 (.ofNat 3)], .ptr 4 0, none⟩]), (3, .cells true true 1 [.fn 149 [], .slice 5 0 2 none]), (4, .cells true true 1 [.fn 149 [], .slice 6 0 1 none]), (5, .cells true true 1 [.int .i64 (.ofNat 1), .int .i64 (.ofNat 2)]), (6, .cells true true 1 [.int .i64 (.ofNat 1)])]
  n1 := 7
  res := .tup []
  out := []
theorem F5144_15_ok : MemoOK Tryz.prog 144 F5144_15 := memoRunN_ok mixed q5U_ok (S := q5U) (N := fun _ => false) (n := 100000) (hi := 1000000) (by kernel_rfl)
noncomputable def F5144_16 : Memo where
  n0 := 8
  args := [.ptr 0 0, .map 1]
  pat := [(0, .cells true true 1 [.any, .any, .any, .any, .any, .any, .any, .any, .any, .any, .map 2, .any, .any, .any]), (1, .map true 1 [⟨.agg [.int .i64 (.ofNat 3), .int .i64 (.ofNat 3)], .slice 3 0 2 none, none⟩]), (2, .map true 2 [⟨.agg [.int .i64 (.ofNat 0), .int .i64 (.ofNat 3)], .ptr 4 0, none⟩, ⟨.agg [.int .i64 (.ofNat 3), .int .i64 (.ofNat 3)], .ptr 5 0, none⟩]), (3, .cells true true 2 [.int .i64 (.ofNat 0), .int .i64 (.ofNat 3), .int .i64 (.ofNat 3), .int .i64 (.ofNat 3)]), (4, .cells true true 1 [.fn 149 [], .slice 6 0 2 none]), (5, .cells false true 1 [.fn 149 [], .slice 7 0 1 none]), (6, .cells true true 1 [.int .i64 (.ofNat 1), .int .i64 (.ofNat 2)]), (7, .cells false true 1 [.int .i64 (.ofNat 1)])]
  n1 := 9
  res := .tup []
  out := [(5, .cells false true 1 [.fn 149 [], .slice 8 0 2 none]), (8, .cells false true 1 [.int .i64 (.ofNat 1), .int .i64 (.ofNat 2)])]
theorem F5144_16_ok : MemoOK Tryz.prog 144 F5144_16 := memoRunN_ok mixed q5U_ok (S := q5U) (N := fun _ => false) (n := 100000) (hi := 1000000) (by kernel_rfl)
noncomputable def F5144_17 : Memo where
  n0 := 8
  args := [.ptr 0 0, .map 1]
  pat := [(0, .cells true true 1 [.any, .any, .any, .any, .any, .any, .any, .any, .any, .any, .map 2, .any, .any, .any]), (1, .map true 1 [⟨.agg [.int .i64 (.ofNat 3), .int .i64 (.ofNat 3)], .slice 3 0 2 none, none⟩]), (2, .map true 2 [⟨.agg [.int .i64 (.ofNat 0), .int .i64 (.ofNat 3)], .ptr 4 0, none⟩, ⟨.agg [.int .i64 (.ofNat 3), .int .i64 (.ofNat 3)], .ptr 5 0, none⟩]), (3, .cells true true 2 [.int .i64 (.ofNat 3), .int .i64 (.ofNat 3), .int .i64 (.ofNat 0), .int .i64 (.ofNat 3)]), (4, .cells true true 1 [.fn 149 [], .slice 6 0 2 none]), (5, .cells false true 1 [.fn 149 [], .slice 7 0 1 none]), (6, .cells true true 1 [.int .i64 (.ofNat 1), .int .i64 (.ofNat 2)]), (7, .cells false true 1 [.int .i64 (.ofNat 1)])]
  n1 := 9
  res := .tup []
  out := [(5, .cells false true 1 [.fn 149 [], .slice 8 0 2 none]), (8, .cells false true 1 [.int .i64 (.ofNat 1), .int .i64 (.ofNat 2)])]
theorem F5144_17_ok : MemoOK Tryz.prog 144 F5144_17 := memoRunN_ok mixed q5U_ok (S := q5U) (N := fun _ => false) (n := 100000) (hi := 1000000) (by kernel_rfl)
noncomputable def F5144 : List AV → AMem → OR := fun args m => memoTry F5144_0 args m (memoTry F5144_1 args m (memoTry F5144_2 args m (memoTry F5144_3 args m (memoTry F5144_4 args m (memoTry F5144_5 args m (memoTry F5144_6 args m (memoTry F5144_7 args m (memoTry F5144_8 args m (memoTry F5144_9 args m (memoTry F5144_10 args m (memoTry F5144_11 args m (memoTry F5144_12 args m (memoTry F5144_13 args m (memoTry F5144_14 args m (memoTry F5144_15 args m (memoTry F5144_16 args m (memoTry F5144_17 args m (.fail 3300))))))))))))))))))
theorem F5144_ok : SumOK Tryz.prog 144 F5144 := memoSum_ok F5144_0_ok (memoSum_ok F5144_1_ok (memoSum_ok F5144_2_ok (memoSum_ok F5144_3_ok (memoSum_ok F5144_4_ok (memoSum_ok F5144_5_ok (memoSum_ok F5144_6_ok (memoSum_ok F5144_7_ok (memoSum_ok F5144_8_ok (memoSum_ok F5144_9_ok (memoSum_ok F5144_10_ok (memoSum_ok F5144_11_ok (memoSum_ok F5144_12_ok (memoSum_ok F5144_13_ok (memoSum_ok F5144_14_ok (memoSum_ok F5144_15_ok (memoSum_ok F5144_16_ok (memoSum_ok F5144_17_ok (fun _ _ _ _ h => by cases h))))))))))))))))))
end Go.Ev
end
section
namespace Go.Ev
open Go.Proofs
noncomputable def q5F : Sums := addS 144 F5144 (q5U)
theorem q5F_ok : SumsOK Tryz.prog q5F := addS_ok F5144_ok (q5U_ok)
end Go.Ev
end
