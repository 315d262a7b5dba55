/- What unions of sets of numbers come to, noted and shown by runs. The sums with those of unions. What the flow of sets along a relation comes to, whatever the order of the map. The sums with those of flows. -/
import Derived.Test.YtoiehldmodgfkaaGreatDoorEvGc
import Derived.Test.YtoiehldmodgfkaaGreatDoorEvHa
section
namespace Go.Ev
open Go.Proofs
noncomputable def U6342_0 : Memo where
  n0 := 4
  args := [.ptr 0 0, .ptr 1 0]
  pat := [(0, .cells true true 1 [.fn 344 [], .slice 2 0 3 none]), (1, .cells true true 1 [.fn 344 [], .slice 3 0 3 none]), (2, .cells true true 1 [.int .i64 (.ofNat 1), .int .i64 (.ofNat 2), .int .i64 (.ofNat 3)]), (3, .cells true true 1 [.int .i64 (.ofNat 1), .int .i64 (.ofNat 2), .int .i64 (.ofNat 3)])]
  n1 := 4
  res := .bool false
  out := []
theorem U6342_0_ok : MemoOK Tryz.prog 342 U6342_0 := memoRun_ok mixed sums6_ok (S := (sums6 Tryz.prog)) (by kernel_rfl) (n := 100000) (by kernel_rfl)
noncomputable def U6342_1 : Memo where
  n0 := 3
  args := [.ptr 0 0, .ptr 1 0]
  pat := [(0, .cells false true 1 [.fn 344 [], .nils]), (1, .cells true true 1 [.fn 344 [], .slice 2 0 3 none]), (2, .cells true true 1 [.int .i64 (.ofNat 1), .int .i64 (.ofNat 2), .int .i64 (.ofNat 3)])]
  n1 := 4
  res := .bool true
  out := [(0, .cells false true 1 [.fn 344 [], .slice 3 0 3 none]), (3, .cells false true 1 [.int .i64 (.ofNat 1), .int .i64 (.ofNat 2), .int .i64 (.ofNat 3)])]
theorem U6342_1_ok : MemoOK Tryz.prog 342 U6342_1 := memoRun_ok mixed sums6_ok (S := (sums6 Tryz.prog)) (by kernel_rfl) (n := 100000) (by kernel_rfl)
noncomputable def U6342_2 : Memo where
  n0 := 4
  args := [.ptr 0 0, .ptr 1 0]
  pat := [(0, .cells true true 1 [.fn 344 [], .slice 2 0 3 none]), (1, .cells true true 1 [.fn 344 [], .slice 3 0 3 none]), (2, .cells true true 1 [.int .i64 (.ofNat 0), .int .i64 (.ofNat 1), .int .i64 (.ofNat 3)]), (3, .cells true true 1 [.int .i64 (.ofNat 0), .int .i64 (.ofNat 1), .int .i64 (.ofNat 3)])]
  n1 := 4
  res := .bool false
  out := []
theorem U6342_2_ok : MemoOK Tryz.prog 342 U6342_2 := memoRun_ok mixed sums6_ok (S := (sums6 Tryz.prog)) (by kernel_rfl) (n := 100000) (by kernel_rfl)
noncomputable def U6342_3 : Memo where
  n0 := 3
  args := [.ptr 0 0, .ptr 1 0]
  pat := [(0, .cells false true 1 [.fn 344 [], .nils]), (1, .cells true true 1 [.fn 344 [], .slice 2 0 3 none]), (2, .cells true true 1 [.int .i64 (.ofNat 0), .int .i64 (.ofNat 1), .int .i64 (.ofNat 3)])]
  n1 := 4
  res := .bool true
  out := [(0, .cells false true 1 [.fn 344 [], .slice 3 0 3 none]), (3, .cells false true 1 [.int .i64 (.ofNat 0), .int .i64 (.ofNat 1), .int .i64 (.ofNat 3)])]
theorem U6342_3_ok : MemoOK Tryz.prog 342 U6342_3 := memoRun_ok mixed sums6_ok (S := (sums6 Tryz.prog)) (by kernel_rfl) (n := 100000) (by kernel_rfl)
noncomputable def U6342_4 : Memo where
  n0 := 2
  args := [.ptr 0 0, .ptr 0 0]
  pat := [(0, .cells true true 1 [.fn 344 [], .slice 1 0 3 none]), (1, .cells true true 1 [.int .i64 (.ofNat 1), .int .i64 (.ofNat 2), .int .i64 (.ofNat 3)])]
  n1 := 2
  res := .bool false
  out := []
theorem U6342_4_ok : MemoOK Tryz.prog 342 U6342_4 := memoRun_ok mixed sums6_ok (S := (sums6 Tryz.prog)) (by kernel_rfl) (n := 100000) (by kernel_rfl)
noncomputable def U6342_5 : Memo where
  n0 := 4
  args := [.ptr 0 0, .ptr 1 0]
  pat := [(0, .cells false true 1 [.fn 344 [], .slice 2 0 2 none]), (1, .cells true true 1 [.fn 344 [], .slice 3 0 3 none]), (2, .cells false true 1 [.int .i64 (.ofNat 1), .int .i64 (.ofNat 2)]), (3, .cells true true 1 [.int .i64 (.ofNat 1), .int .i64 (.ofNat 2), .int .i64 (.ofNat 3)])]
  n1 := 5
  res := .bool true
  out := [(0, .cells false true 1 [.fn 344 [], .slice 4 0 3 none]), (4, .cells false true 1 [.int .i64 (.ofNat 1), .int .i64 (.ofNat 2), .int .i64 (.ofNat 3)])]
theorem U6342_5_ok : MemoOK Tryz.prog 342 U6342_5 := memoRun_ok mixed sums6_ok (S := (sums6 Tryz.prog)) (by kernel_rfl) (n := 100000) (by kernel_rfl)
noncomputable def U6342_6 : Memo where
  n0 := 3
  args := [.ptr 0 0, .ptr 1 0]
  pat := [(0, .cells false true 1 [.fn 344 [], .nils]), (1, .cells true true 1 [.fn 344 [], .slice 2 0 1 none]), (2, .cells true true 1 [.int .i64 (.ofNat 0)])]
  n1 := 4
  res := .bool true
  out := [(0, .cells false true 1 [.fn 344 [], .slice 3 0 1 none]), (3, .cells false true 1 [.int .i64 (.ofNat 0)])]
theorem U6342_6_ok : MemoOK Tryz.prog 342 U6342_6 := memoRun_ok mixed sums6_ok (S := (sums6 Tryz.prog)) (by kernel_rfl) (n := 100000) (by kernel_rfl)
noncomputable def U6342_7 : Memo where
  n0 := 2
  args := [.ptr 0 0, .ptr 0 0]
  pat := [(0, .cells true true 1 [.fn 344 [], .slice 1 0 3 none]), (1, .cells true true 1 [.int .i64 (.ofNat 0), .int .i64 (.ofNat 1), .int .i64 (.ofNat 3)])]
  n1 := 2
  res := .bool false
  out := []
theorem U6342_7_ok : MemoOK Tryz.prog 342 U6342_7 := memoRun_ok mixed sums6_ok (S := (sums6 Tryz.prog)) (by kernel_rfl) (n := 100000) (by kernel_rfl)
noncomputable def U6342_8 : Memo where
  n0 := 2
  args := [.ptr 0 0, .ptr 0 0]
  pat := [(0, .cells true true 1 [.fn 344 [], .slice 1 0 2 none]), (1, .cells true true 1 [.int .i64 (.ofNat 1), .int .i64 (.ofNat 2)])]
  n1 := 2
  res := .bool false
  out := []
theorem U6342_8_ok : MemoOK Tryz.prog 342 U6342_8 := memoRun_ok mixed sums6_ok (S := (sums6 Tryz.prog)) (by kernel_rfl) (n := 100000) (by kernel_rfl)
noncomputable def U6342_9 : Memo where
  n0 := 4
  args := [.ptr 0 0, .ptr 1 0]
  pat := [(0, .cells true true 1 [.fn 344 [], .slice 2 0 2 none]), (1, .cells true true 1 [.fn 344 [], .slice 3 0 2 none]), (2, .cells true true 1 [.int .i64 (.ofNat 1), .int .i64 (.ofNat 2)]), (3, .cells true true 1 [.int .i64 (.ofNat 1), .int .i64 (.ofNat 2)])]
  n1 := 4
  res := .bool false
  out := []
theorem U6342_9_ok : MemoOK Tryz.prog 342 U6342_9 := memoRun_ok mixed sums6_ok (S := (sums6 Tryz.prog)) (by kernel_rfl) (n := 100000) (by kernel_rfl)
noncomputable def U6342_10 : Memo where
  n0 := 4
  args := [.ptr 0 0, .ptr 1 0]
  pat := [(0, .cells true true 1 [.fn 344 [], .slice 2 0 1 none]), (1, .cells true true 1 [.fn 344 [], .slice 3 0 1 none]), (2, .cells true true 1 [.int .i64 (.ofNat 0)]), (3, .cells true true 1 [.int .i64 (.ofNat 0)])]
  n1 := 4
  res := .bool false
  out := []
theorem U6342_10_ok : MemoOK Tryz.prog 342 U6342_10 := memoRun_ok mixed sums6_ok (S := (sums6 Tryz.prog)) (by kernel_rfl) (n := 100000) (by kernel_rfl)
noncomputable def U6342_11 : Memo where
  n0 := 3
  args := [.ptr 0 0, .ptr 1 0]
  pat := [(0, .cells false true 1 [.fn 344 [], .nils]), (1, .cells true true 1 [.fn 344 [], .slice 2 0 1 none]), (2, .cells true true 1 [.int .i64 (.ofNat 1)])]
  n1 := 4
  res := .bool true
  out := [(0, .cells false true 1 [.fn 344 [], .slice 3 0 1 none]), (3, .cells false true 1 [.int .i64 (.ofNat 1)])]
theorem U6342_11_ok : MemoOK Tryz.prog 342 U6342_11 := memoRun_ok mixed sums6_ok (S := (sums6 Tryz.prog)) (by kernel_rfl) (n := 100000) (by kernel_rfl)
noncomputable def U6342_12 : Memo where
  n0 := 4
  args := [.ptr 0 0, .ptr 1 0]
  pat := [(0, .cells true true 1 [.fn 344 [], .slice 2 0 3 none]), (1, .cells true true 1 [.fn 344 [], .slice 3 0 2 none]), (2, .cells true true 1 [.int .i64 (.ofNat 1), .int .i64 (.ofNat 2), .int .i64 (.ofNat 3)]), (3, .cells true true 1 [.int .i64 (.ofNat 1), .int .i64 (.ofNat 2)])]
  n1 := 4
  res := .bool false
  out := []
theorem U6342_12_ok : MemoOK Tryz.prog 342 U6342_12 := memoRun_ok mixed sums6_ok (S := (sums6 Tryz.prog)) (by kernel_rfl) (n := 100000) (by kernel_rfl)
noncomputable def U6342_13 : Memo where
  n0 := 4
  args := [.ptr 0 0, .ptr 1 0]
  pat := [(0, .cells false true 1 [.fn 344 [], .slice 2 0 2 none]), (1, .cells true true 1 [.fn 344 [], .slice 3 0 3 none]), (2, .cells false true 1 [.int .i64 (.ofNat 0), .int .i64 (.ofNat 1)]), (3, .cells true true 1 [.int .i64 (.ofNat 0), .int .i64 (.ofNat 1), .int .i64 (.ofNat 3)])]
  n1 := 5
  res := .bool true
  out := [(0, .cells false true 1 [.fn 344 [], .slice 4 0 3 none]), (4, .cells false true 1 [.int .i64 (.ofNat 0), .int .i64 (.ofNat 1), .int .i64 (.ofNat 3)])]
theorem U6342_13_ok : MemoOK Tryz.prog 342 U6342_13 := memoRun_ok mixed sums6_ok (S := (sums6 Tryz.prog)) (by kernel_rfl) (n := 100000) (by kernel_rfl)
noncomputable def U6342_14 : Memo where
  n0 := 2
  args := [.ptr 0 0, .ptr 1 0]
  pat := [(0, .cells true true 1 [.fn 344 [], .nils]), (1, .cells true true 1 [.fn 344 [], .nils])]
  n1 := 2
  res := .bool false
  out := []
theorem U6342_14_ok : MemoOK Tryz.prog 342 U6342_14 := memoRun_ok mixed sums6_ok (S := (sums6 Tryz.prog)) (by kernel_rfl) (n := 100000) (by kernel_rfl)
noncomputable def U6342_15 : Memo where
  n0 := 3
  args := [.ptr 0 0, .ptr 1 0]
  pat := [(0, .cells false true 1 [.fn 344 [], .nils]), (1, .cells true true 1 [.fn 344 [], .slice 2 0 1 none]), (2, .cells true true 1 [.int .i64 (.ofNat 2)])]
  n1 := 4
  res := .bool true
  out := [(0, .cells false true 1 [.fn 344 [], .slice 3 0 1 none]), (3, .cells false true 1 [.int .i64 (.ofNat 2)])]
theorem U6342_15_ok : MemoOK Tryz.prog 342 U6342_15 := memoRun_ok mixed sums6_ok (S := (sums6 Tryz.prog)) (by kernel_rfl) (n := 100000) (by kernel_rfl)
noncomputable def U6342_16 : Memo where
  n0 := 3
  args := [.ptr 0 0, .ptr 1 0]
  pat := [(0, .cells true true 1 [.fn 344 [], .slice 2 0 3 none]), (1, .cells true true 1 [.fn 344 [], .nils]), (2, .cells true true 1 [.int .i64 (.ofNat 1), .int .i64 (.ofNat 2), .int .i64 (.ofNat 3)])]
  n1 := 3
  res := .bool false
  out := []
theorem U6342_16_ok : MemoOK Tryz.prog 342 U6342_16 := memoRun_ok mixed sums6_ok (S := (sums6 Tryz.prog)) (by kernel_rfl) (n := 100000) (by kernel_rfl)
noncomputable def U6342_17 : Memo where
  n0 := 2
  args := [.ptr 0 0, .ptr 0 0]
  pat := [(0, .cells true true 1 [.fn 344 [], .slice 1 0 2 none]), (1, .cells true true 1 [.int .i64 (.ofNat 0), .int .i64 (.ofNat 1)])]
  n1 := 2
  res := .bool false
  out := []
theorem U6342_17_ok : MemoOK Tryz.prog 342 U6342_17 := memoRun_ok mixed sums6_ok (S := (sums6 Tryz.prog)) (by kernel_rfl) (n := 100000) (by kernel_rfl)
noncomputable def U6342_18 : Memo where
  n0 := 3
  args := [.ptr 0 0, .ptr 1 0]
  pat := [(0, .cells false true 1 [.fn 344 [], .nils]), (1, .cells true true 1 [.fn 344 [], .slice 2 0 2 none]), (2, .cells true true 1 [.int .i64 (.ofNat 1), .int .i64 (.ofNat 2)])]
  n1 := 4
  res := .bool true
  out := [(0, .cells false true 1 [.fn 344 [], .slice 3 0 2 none]), (3, .cells false true 1 [.int .i64 (.ofNat 1), .int .i64 (.ofNat 2)])]
theorem U6342_18_ok : MemoOK Tryz.prog 342 U6342_18 := memoRun_ok mixed sums6_ok (S := (sums6 Tryz.prog)) (by kernel_rfl) (n := 100000) (by kernel_rfl)
noncomputable def U6342_19 : Memo where
  n0 := 4
  args := [.ptr 0 0, .ptr 1 0]
  pat := [(0, .cells true true 1 [.fn 344 [], .slice 2 0 3 none]), (1, .cells true true 1 [.fn 344 [], .slice 3 0 2 none]), (2, .cells true true 1 [.int .i64 (.ofNat 0), .int .i64 (.ofNat 1), .int .i64 (.ofNat 3)]), (3, .cells true true 1 [.int .i64 (.ofNat 0), .int .i64 (.ofNat 1)])]
  n1 := 4
  res := .bool false
  out := []
theorem U6342_19_ok : MemoOK Tryz.prog 342 U6342_19 := memoRun_ok mixed sums6_ok (S := (sums6 Tryz.prog)) (by kernel_rfl) (n := 100000) (by kernel_rfl)
noncomputable def U6342_20 : Memo where
  n0 := 4
  args := [.ptr 0 0, .ptr 1 0]
  pat := [(0, .cells true true 1 [.fn 344 [], .slice 2 0 2 none]), (1, .cells true true 1 [.fn 344 [], .slice 3 0 2 none]), (2, .cells true true 1 [.int .i64 (.ofNat 0), .int .i64 (.ofNat 1)]), (3, .cells true true 1 [.int .i64 (.ofNat 0), .int .i64 (.ofNat 1)])]
  n1 := 4
  res := .bool false
  out := []
theorem U6342_20_ok : MemoOK Tryz.prog 342 U6342_20 := memoRun_ok mixed sums6_ok (S := (sums6 Tryz.prog)) (by kernel_rfl) (n := 100000) (by kernel_rfl)
noncomputable def U6342_21 : Memo where
  n0 := 4
  args := [.ptr 0 0, .ptr 1 0]
  pat := [(0, .cells false true 1 [.fn 344 [], .slice 2 0 1 none]), (1, .cells true true 1 [.fn 344 [], .slice 3 0 1 none]), (2, .cells false true 1 [.int .i64 (.ofNat 3)]), (3, .cells true true 1 [.int .i64 (.ofNat 1)])]
  n1 := 5
  res := .bool true
  out := [(0, .cells false true 1 [.fn 344 [], .slice 4 0 2 none]), (4, .cells false true 1 [.int .i64 (.ofNat 1), .int .i64 (.ofNat 3)])]
theorem U6342_21_ok : MemoOK Tryz.prog 342 U6342_21 := memoRun_ok mixed sums6_ok (S := (sums6 Tryz.prog)) (by kernel_rfl) (n := 100000) (by kernel_rfl)
noncomputable def U6342_22 : Memo where
  n0 := 3
  args := [.ptr 0 0, .ptr 1 0]
  pat := [(0, .cells true true 1 [.fn 344 [], .slice 2 0 2 none]), (1, .cells true true 1 [.fn 344 [], .nils]), (2, .cells true true 1 [.int .i64 (.ofNat 1), .int .i64 (.ofNat 3)])]
  n1 := 3
  res := .bool false
  out := []
theorem U6342_22_ok : MemoOK Tryz.prog 342 U6342_22 := memoRun_ok mixed sums6_ok (S := (sums6 Tryz.prog)) (by kernel_rfl) (n := 100000) (by kernel_rfl)
noncomputable def U6342_23 : Memo where
  n0 := 2
  args := [.ptr 0 0, .ptr 0 0]
  pat := [(0, .cells true true 1 [.fn 344 [], .slice 1 0 2 none]), (1, .cells true true 1 [.int .i64 (.ofNat 1), .int .i64 (.ofNat 3)])]
  n1 := 2
  res := .bool false
  out := []
theorem U6342_23_ok : MemoOK Tryz.prog 342 U6342_23 := memoRun_ok mixed sums6_ok (S := (sums6 Tryz.prog)) (by kernel_rfl) (n := 100000) (by kernel_rfl)
noncomputable def U6342_24 : Memo where
  n0 := 4
  args := [.ptr 0 0, .ptr 1 0]
  pat := [(0, .cells false true 1 [.fn 344 [], .slice 2 0 2 none]), (1, .cells true true 1 [.fn 344 [], .slice 3 0 1 none]), (2, .cells false true 1 [.int .i64 (.ofNat 1), .int .i64 (.ofNat 3)]), (3, .cells true true 1 [.int .i64 (.ofNat 2)])]
  n1 := 5
  res := .bool true
  out := [(0, .cells false true 1 [.fn 344 [], .slice 4 0 3 none]), (4, .cells false true 1 [.int .i64 (.ofNat 1), .int .i64 (.ofNat 2), .int .i64 (.ofNat 3)])]
theorem U6342_24_ok : MemoOK Tryz.prog 342 U6342_24 := memoRun_ok mixed sums6_ok (S := (sums6 Tryz.prog)) (by kernel_rfl) (n := 100000) (by kernel_rfl)
noncomputable def U6342_25 : Memo where
  n0 := 4
  args := [.ptr 0 0, .ptr 1 0]
  pat := [(0, .cells true true 1 [.fn 344 [], .slice 2 0 3 none]), (1, .cells true true 1 [.fn 344 [], .slice 3 0 1 none]), (2, .cells true true 1 [.int .i64 (.ofNat 1), .int .i64 (.ofNat 2), .int .i64 (.ofNat 3)]), (3, .cells true true 1 [.int .i64 (.ofNat 1)])]
  n1 := 4
  res := .bool false
  out := []
theorem U6342_25_ok : MemoOK Tryz.prog 342 U6342_25 := memoRun_ok mixed sums6_ok (S := (sums6 Tryz.prog)) (by kernel_rfl) (n := 100000) (by kernel_rfl)
noncomputable def U6342_26 : Memo where
  n0 := 4
  args := [.ptr 0 0, .ptr 1 0]
  pat := [(0, .cells true true 1 [.fn 344 [], .slice 2 0 3 none]), (1, .cells true true 1 [.fn 344 [], .slice 3 0 1 none]), (2, .cells true true 1 [.int .i64 (.ofNat 1), .int .i64 (.ofNat 2), .int .i64 (.ofNat 3)]), (3, .cells true true 1 [.int .i64 (.ofNat 2)])]
  n1 := 4
  res := .bool false
  out := []
theorem U6342_26_ok : MemoOK Tryz.prog 342 U6342_26 := memoRun_ok mixed sums6_ok (S := (sums6 Tryz.prog)) (by kernel_rfl) (n := 100000) (by kernel_rfl)
noncomputable def U6342_27 : Memo where
  n0 := 4
  args := [.ptr 0 0, .ptr 1 0]
  pat := [(0, .cells true true 1 [.fn 344 [], .slice 2 0 1 none]), (1, .cells true true 1 [.fn 344 [], .slice 3 0 1 none]), (2, .cells true true 1 [.int .i64 (.ofNat 2)]), (3, .cells true true 1 [.int .i64 (.ofNat 2)])]
  n1 := 4
  res := .bool false
  out := []
theorem U6342_27_ok : MemoOK Tryz.prog 342 U6342_27 := memoRun_ok mixed sums6_ok (S := (sums6 Tryz.prog)) (by kernel_rfl) (n := 100000) (by kernel_rfl)
noncomputable def U6342_28 : Memo where
  n0 := 3
  args := [.ptr 0 0, .ptr 1 0]
  pat := [(0, .cells true true 1 [.fn 344 [], .slice 2 0 3 none]), (1, .cells true true 1 [.fn 344 [], .nils]), (2, .cells true true 1 [.int .i64 (.ofNat 0), .int .i64 (.ofNat 1), .int .i64 (.ofNat 3)])]
  n1 := 3
  res := .bool false
  out := []
theorem U6342_28_ok : MemoOK Tryz.prog 342 U6342_28 := memoRun_ok mixed sums6_ok (S := (sums6 Tryz.prog)) (by kernel_rfl) (n := 100000) (by kernel_rfl)
noncomputable def U6342_29 : Memo where
  n0 := 3
  args := [.ptr 0 0, .ptr 1 0]
  pat := [(0, .cells true true 1 [.fn 344 [], .slice 2 0 2 none]), (1, .cells true true 1 [.fn 344 [], .nils]), (2, .cells true true 1 [.int .i64 (.ofNat 1), .int .i64 (.ofNat 2)])]
  n1 := 3
  res := .bool false
  out := []
theorem U6342_29_ok : MemoOK Tryz.prog 342 U6342_29 := memoRun_ok mixed sums6_ok (S := (sums6 Tryz.prog)) (by kernel_rfl) (n := 100000) (by kernel_rfl)
noncomputable def U6342_30 : Memo where
  n0 := 4
  args := [.ptr 0 0, .ptr 1 0]
  pat := [(0, .cells false true 1 [.fn 344 [], .slice 2 0 1 none]), (1, .cells true true 1 [.fn 344 [], .slice 3 0 2 none]), (2, .cells false true 1 [.int .i64 (.ofNat 1)]), (3, .cells true true 1 [.int .i64 (.ofNat 1), .int .i64 (.ofNat 2)])]
  n1 := 5
  res := .bool true
  out := [(0, .cells false true 1 [.fn 344 [], .slice 4 0 2 none]), (4, .cells false true 1 [.int .i64 (.ofNat 1), .int .i64 (.ofNat 2)])]
theorem U6342_30_ok : MemoOK Tryz.prog 342 U6342_30 := memoRun_ok mixed sums6_ok (S := (sums6 Tryz.prog)) (by kernel_rfl) (n := 100000) (by kernel_rfl)
noncomputable def U6342_31 : Memo where
  n0 := 4
  args := [.ptr 0 0, .ptr 1 0]
  pat := [(0, .cells false true 1 [.fn 344 [], .slice 2 0 1 none]), (1, .cells true true 1 [.fn 344 [], .slice 3 0 1 none]), (2, .cells false true 1 [.int .i64 (.ofNat 3)]), (3, .cells true true 1 [.int .i64 (.ofNat 0)])]
  n1 := 5
  res := .bool true
  out := [(0, .cells false true 1 [.fn 344 [], .slice 4 0 2 none]), (4, .cells false true 1 [.int .i64 (.ofNat 0), .int .i64 (.ofNat 3)])]
theorem U6342_31_ok : MemoOK Tryz.prog 342 U6342_31 := memoRun_ok mixed sums6_ok (S := (sums6 Tryz.prog)) (by kernel_rfl) (n := 100000) (by kernel_rfl)
noncomputable def U6342_32 : Memo where
  n0 := 3
  args := [.ptr 0 0, .ptr 1 0]
  pat := [(0, .cells true true 1 [.fn 344 [], .slice 2 0 2 none]), (1, .cells true true 1 [.fn 344 [], .nils]), (2, .cells true true 1 [.int .i64 (.ofNat 0), .int .i64 (.ofNat 3)])]
  n1 := 3
  res := .bool false
  out := []
theorem U6342_32_ok : MemoOK Tryz.prog 342 U6342_32 := memoRun_ok mixed sums6_ok (S := (sums6 Tryz.prog)) (by kernel_rfl) (n := 100000) (by kernel_rfl)
noncomputable def U6342_33 : Memo where
  n0 := 2
  args := [.ptr 0 0, .ptr 0 0]
  pat := [(0, .cells true true 1 [.fn 344 [], .slice 1 0 2 none]), (1, .cells true true 1 [.int .i64 (.ofNat 0), .int .i64 (.ofNat 3)])]
  n1 := 2
  res := .bool false
  out := []
theorem U6342_33_ok : MemoOK Tryz.prog 342 U6342_33 := memoRun_ok mixed sums6_ok (S := (sums6 Tryz.prog)) (by kernel_rfl) (n := 100000) (by kernel_rfl)
noncomputable def U6342_34 : Memo where
  n0 := 4
  args := [.ptr 0 0, .ptr 1 0]
  pat := [(0, .cells false true 1 [.fn 344 [], .slice 2 0 2 none]), (1, .cells true true 1 [.fn 344 [], .slice 3 0 1 none]), (2, .cells false true 1 [.int .i64 (.ofNat 0), .int .i64 (.ofNat 3)]), (3, .cells true true 1 [.int .i64 (.ofNat 1)])]
  n1 := 5
  res := .bool true
  out := [(0, .cells false true 1 [.fn 344 [], .slice 4 0 3 none]), (4, .cells false true 1 [.int .i64 (.ofNat 0), .int .i64 (.ofNat 1), .int .i64 (.ofNat 3)])]
theorem U6342_34_ok : MemoOK Tryz.prog 342 U6342_34 := memoRun_ok mixed sums6_ok (S := (sums6 Tryz.prog)) (by kernel_rfl) (n := 100000) (by kernel_rfl)
noncomputable def U6342_35 : Memo where
  n0 := 4
  args := [.ptr 0 0, .ptr 1 0]
  pat := [(0, .cells true true 1 [.fn 344 [], .slice 2 0 3 none]), (1, .cells true true 1 [.fn 344 [], .slice 3 0 1 none]), (2, .cells true true 1 [.int .i64 (.ofNat 0), .int .i64 (.ofNat 1), .int .i64 (.ofNat 3)]), (3, .cells true true 1 [.int .i64 (.ofNat 0)])]
  n1 := 4
  res := .bool false
  out := []
theorem U6342_35_ok : MemoOK Tryz.prog 342 U6342_35 := memoRun_ok mixed sums6_ok (S := (sums6 Tryz.prog)) (by kernel_rfl) (n := 100000) (by kernel_rfl)
noncomputable def U6342_36 : Memo where
  n0 := 4
  args := [.ptr 0 0, .ptr 1 0]
  pat := [(0, .cells true true 1 [.fn 344 [], .slice 2 0 3 none]), (1, .cells true true 1 [.fn 344 [], .slice 3 0 1 none]), (2, .cells true true 1 [.int .i64 (.ofNat 0), .int .i64 (.ofNat 1), .int .i64 (.ofNat 3)]), (3, .cells true true 1 [.int .i64 (.ofNat 1)])]
  n1 := 4
  res := .bool false
  out := []
theorem U6342_36_ok : MemoOK Tryz.prog 342 U6342_36 := memoRun_ok mixed sums6_ok (S := (sums6 Tryz.prog)) (by kernel_rfl) (n := 100000) (by kernel_rfl)
noncomputable def U6342_37 : Memo where
  n0 := 4
  args := [.ptr 0 0, .ptr 1 0]
  pat := [(0, .cells false true 1 [.fn 344 [], .slice 2 0 1 none]), (1, .cells true true 1 [.fn 344 [], .slice 3 0 1 none]), (2, .cells false true 1 [.int .i64 (.ofNat 2)]), (3, .cells true true 1 [.int .i64 (.ofNat 1)])]
  n1 := 5
  res := .bool true
  out := [(0, .cells false true 1 [.fn 344 [], .slice 4 0 2 none]), (4, .cells false true 1 [.int .i64 (.ofNat 1), .int .i64 (.ofNat 2)])]
theorem U6342_37_ok : MemoOK Tryz.prog 342 U6342_37 := memoRun_ok mixed sums6_ok (S := (sums6 Tryz.prog)) (by kernel_rfl) (n := 100000) (by kernel_rfl)
noncomputable def U6342_38 : Memo where
  n0 := 4
  args := [.ptr 0 0, .ptr 1 0]
  pat := [(0, .cells true true 1 [.fn 344 [], .slice 2 0 2 none]), (1, .cells true true 1 [.fn 344 [], .slice 3 0 1 none]), (2, .cells true true 1 [.int .i64 (.ofNat 1), .int .i64 (.ofNat 2)]), (3, .cells true true 1 [.int .i64 (.ofNat 1)])]
  n1 := 4
  res := .bool false
  out := []
theorem U6342_38_ok : MemoOK Tryz.prog 342 U6342_38 := memoRun_ok mixed sums6_ok (S := (sums6 Tryz.prog)) (by kernel_rfl) (n := 100000) (by kernel_rfl)
noncomputable def U6342_39 : Memo where
  n0 := 2
  args := [.ptr 0 0, .ptr 0 0]
  pat := [(0, .cells true true 1 [.fn 344 [], .slice 1 0 1 none]), (1, .cells true true 1 [.int .i64 (.ofNat 1)])]
  n1 := 2
  res := .bool false
  out := []
theorem U6342_39_ok : MemoOK Tryz.prog 342 U6342_39 := memoRun_ok mixed sums6_ok (S := (sums6 Tryz.prog)) (by kernel_rfl) (n := 100000) (by kernel_rfl)
noncomputable def U6342 : List AV → AMem → OR := fun args m => memoTry U6342_0 args m (memoTry U6342_1 args m (memoTry U6342_2 args m (memoTry U6342_3 args m (memoTry U6342_4 args m (memoTry U6342_5 args m (memoTry U6342_6 args m (memoTry U6342_7 args m (memoTry U6342_8 args m (memoTry U6342_9 args m (memoTry U6342_10 args m (memoTry U6342_11 args m (memoTry U6342_12 args m (memoTry U6342_13 args m (memoTry U6342_14 args m (memoTry U6342_15 args m (memoTry U6342_16 args m (memoTry U6342_17 args m (memoTry U6342_18 args m (memoTry U6342_19 args m (memoTry U6342_20 args m (memoTry U6342_21 args m (memoTry U6342_22 args m (memoTry U6342_23 args m (memoTry U6342_24 args m (memoTry U6342_25 args m (memoTry U6342_26 args m (memoTry U6342_27 args m (memoTry U6342_28 args m (memoTry U6342_29 args m (memoTry U6342_30 args m (memoTry U6342_31 args m (memoTry U6342_32 args m (memoTry U6342_33 args m (memoTry U6342_34 args m (memoTry U6342_35 args m (memoTry U6342_36 args m (memoTry U6342_37 args m (memoTry U6342_38 args m (memoTry U6342_39 args m (.fail 3300))))))))))))))))))))))))))))))))))))))))
theorem U6342_ok : SumOK Tryz.prog 342 U6342 := memoSum_ok U6342_0_ok (memoSum_ok U6342_1_ok (memoSum_ok U6342_2_ok (memoSum_ok U6342_3_ok (memoSum_ok U6342_4_ok (memoSum_ok U6342_5_ok (memoSum_ok U6342_6_ok (memoSum_ok U6342_7_ok (memoSum_ok U6342_8_ok (memoSum_ok U6342_9_ok (memoSum_ok U6342_10_ok (memoSum_ok U6342_11_ok (memoSum_ok U6342_12_ok (memoSum_ok U6342_13_ok (memoSum_ok U6342_14_ok (memoSum_ok U6342_15_ok (memoSum_ok U6342_16_ok (memoSum_ok U6342_17_ok (memoSum_ok U6342_18_ok (memoSum_ok U6342_19_ok (memoSum_ok U6342_20_ok (memoSum_ok U6342_21_ok (memoSum_ok U6342_22_ok (memoSum_ok U6342_23_ok (memoSum_ok U6342_24_ok (memoSum_ok U6342_25_ok (memoSum_ok U6342_26_ok (memoSum_ok U6342_27_ok (memoSum_ok U6342_28_ok (memoSum_ok U6342_29_ok (memoSum_ok U6342_30_ok (memoSum_ok U6342_31_ok (memoSum_ok U6342_32_ok (memoSum_ok U6342_33_ok (memoSum_ok U6342_34_ok (memoSum_ok U6342_35_ok (memoSum_ok U6342_36_ok (memoSum_ok U6342_37_ok (memoSum_ok U6342_38_ok (memoSum_ok U6342_39_ok (fun _ _ _ _ h => by cases h))))))))))))))))))))))))))))))))))))))))
end Go.Ev
end
section
namespace Go.Ev
open Go.Proofs
noncomputable def q6U : Sums := addS 342 U6342 ((sums6 Tryz.prog))
theorem q6U_ok : SumsOK Tryz.prog q6U := addS_ok U6342_ok (sums6_ok)
end Go.Ev
end
section
namespace Go.Ev
open Go.Proofs
noncomputable def F6339_0 : Memo where
  n0 := 5
  args := [.ptr 0 0, .map 1]
  pat := [(0, .cells true true 1 [.any, .any, .any, .any, .any, .any, .any, .any, .any, .any, .map 2, .any, .any, .any]), (1, .map true 0 []), (2, .map true 1 [⟨.agg [.int .i64 (.ofNat 0), .int .i64 (.ofNat 2)], .ptr 3 0, none⟩]), (3, .cells true true 1 [.fn 344 [], .slice 4 0 1 none]), (4, .cells true true 1 [.int .i64 (.ofNat 1)])]
  n1 := 5
  res := .tup []
  out := []
theorem F6339_0_ok : MemoOK Tryz.prog 339 F6339_0 := memoRunN_ok mixed q6U_ok (S := q6U) (N := fun _ => false) (n := 100000) (hi := 1000000) (by kernel_rfl)
noncomputable def F6339_1 : Memo where
  n0 := 11
  args := [.ptr 0 0, .map 1]
  pat := [(0, .cells true true 1 [.any, .any, .any, .any, .any, .any, .any, .any, .any, .any, .map 2, .any, .any, .any]), (1, .map true 2 [⟨.agg [.int .i64 (.ofNat 3), .int .i64 (.ofNat 4)], .slice 3 0 3 none, none⟩, ⟨.agg [.int .i64 (.ofNat 4), .int .i64 (.ofNat 4)], .slice 4 0 3 none, none⟩]), (2, .map true 3 [⟨.agg [.int .i64 (.ofNat 0), .int .i64 (.ofNat 4)], .ptr 5 0, none⟩, ⟨.agg [.int .i64 (.ofNat 3), .int .i64 (.ofNat 4)], .ptr 6 0, none⟩, ⟨.agg [.int .i64 (.ofNat 4), .int .i64 (.ofNat 4)], .ptr 7 0, none⟩]), (3, .cells true true 2 [.int .i64 (.ofNat 0), .int .i64 (.ofNat 4), .int .i64 (.ofNat 3), .int .i64 (.ofNat 4), .int .i64 (.ofNat 4), .int .i64 (.ofNat 4)]), (4, .cells true true 2 [.int .i64 (.ofNat 0), .int .i64 (.ofNat 4), .int .i64 (.ofNat 3), .int .i64 (.ofNat 4), .int .i64 (.ofNat 4), .int .i64 (.ofNat 4)]), (5, .cells true true 1 [.fn 344 [], .slice 8 0 3 none]), (6, .cells false true 1 [.fn 344 [], .slice 9 0 2 none]), (7, .cells false true 1 [.fn 344 [], .slice 10 0 2 none]), (8, .cells true true 1 [.int .i64 (.ofNat 1), .int .i64 (.ofNat 2), .int .i64 (.ofNat 3)]), (9, .cells false true 1 [.int .i64 (.ofNat 1), .int .i64 (.ofNat 2)]), (10, .cells false true 1 [.int .i64 (.ofNat 1), .int .i64 (.ofNat 2)])]
  n1 := 13
  res := .tup []
  out := [(6, .cells false true 1 [.fn 344 [], .slice 11 0 3 none]), (7, .cells false true 1 [.fn 344 [], .slice 12 0 3 none]), (11, .cells false true 1 [.int .i64 (.ofNat 1), .int .i64 (.ofNat 2), .int .i64 (.ofNat 3)]), (12, .cells false true 1 [.int .i64 (.ofNat 1), .int .i64 (.ofNat 2), .int .i64 (.ofNat 3)])]
theorem F6339_1_ok : MemoOK Tryz.prog 339 F6339_1 := memoRunN_ok mixed q6U_ok (S := q6U) (N := fun _ => false) (n := 100000) (hi := 1000000) (by kernel_rfl)
noncomputable def F6339_2 : Memo where
  n0 := 11
  args := [.ptr 0 0, .map 1]
  pat := [(0, .cells true true 1 [.any, .any, .any, .any, .any, .any, .any, .any, .any, .any, .map 2, .any, .any, .any]), (1, .map true 2 [⟨.agg [.int .i64 (.ofNat 3), .int .i64 (.ofNat 4)], .slice 3 0 3 none, none⟩, ⟨.agg [.int .i64 (.ofNat 4), .int .i64 (.ofNat 4)], .slice 4 0 3 none, none⟩]), (2, .map true 3 [⟨.agg [.int .i64 (.ofNat 0), .int .i64 (.ofNat 4)], .ptr 5 0, none⟩, ⟨.agg [.int .i64 (.ofNat 3), .int .i64 (.ofNat 4)], .ptr 6 0, none⟩, ⟨.agg [.int .i64 (.ofNat 4), .int .i64 (.ofNat 4)], .ptr 7 0, none⟩]), (3, .cells true true 2 [.int .i64 (.ofNat 0), .int .i64 (.ofNat 4), .int .i64 (.ofNat 4), .int .i64 (.ofNat 4), .int .i64 (.ofNat 3), .int .i64 (.ofNat 4)]), (4, .cells true true 2 [.int .i64 (.ofNat 0), .int .i64 (.ofNat 4), .int .i64 (.ofNat 4), .int .i64 (.ofNat 4), .int .i64 (.ofNat 3), .int .i64 (.ofNat 4)]), (5, .cells true true 1 [.fn 344 [], .slice 8 0 3 none]), (6, .cells false true 1 [.fn 344 [], .slice 9 0 2 none]), (7, .cells false true 1 [.fn 344 [], .slice 10 0 2 none]), (8, .cells true true 1 [.int .i64 (.ofNat 1), .int .i64 (.ofNat 2), .int .i64 (.ofNat 3)]), (9, .cells false true 1 [.int .i64 (.ofNat 1), .int .i64 (.ofNat 2)]), (10, .cells false true 1 [.int .i64 (.ofNat 1), .int .i64 (.ofNat 2)])]
  n1 := 13
  res := .tup []
  out := [(6, .cells false true 1 [.fn 344 [], .slice 11 0 3 none]), (7, .cells false true 1 [.fn 344 [], .slice 12 0 3 none]), (11, .cells false true 1 [.int .i64 (.ofNat 1), .int .i64 (.ofNat 2), .int .i64 (.ofNat 3)]), (12, .cells false true 1 [.int .i64 (.ofNat 1), .int .i64 (.ofNat 2), .int .i64 (.ofNat 3)])]
theorem F6339_2_ok : MemoOK Tryz.prog 339 F6339_2 := memoRunN_ok mixed q6U_ok (S := q6U) (N := fun _ => false) (n := 100000) (hi := 1000000) (by kernel_rfl)
noncomputable def F6339_3 : Memo where
  n0 := 11
  args := [.ptr 0 0, .map 1]
  pat := [(0, .cells true true 1 [.any, .any, .any, .any, .any, .any, .any, .any, .any, .any, .map 2, .any, .any, .any]), (1, .map true 2 [⟨.agg [.int .i64 (.ofNat 3), .int .i64 (.ofNat 4)], .slice 3 0 3 none, none⟩, ⟨.agg [.int .i64 (.ofNat 4), .int .i64 (.ofNat 4)], .slice 4 0 3 none, none⟩]), (2, .map true 3 [⟨.agg [.int .i64 (.ofNat 0), .int .i64 (.ofNat 4)], .ptr 5 0, none⟩, ⟨.agg [.int .i64 (.ofNat 3), .int .i64 (.ofNat 4)], .ptr 6 0, none⟩, ⟨.agg [.int .i64 (.ofNat 4), .int .i64 (.ofNat 4)], .ptr 7 0, none⟩]), (3, .cells true true 2 [.int .i64 (.ofNat 3), .int .i64 (.ofNat 4), .int .i64 (.ofNat 0), .int .i64 (.ofNat 4), .int .i64 (.ofNat 4), .int .i64 (.ofNat 4)]), (4, .cells true true 2 [.int .i64 (.ofNat 3), .int .i64 (.ofNat 4), .int .i64 (.ofNat 0), .int .i64 (.ofNat 4), .int .i64 (.ofNat 4), .int .i64 (.ofNat 4)]), (5, .cells true true 1 [.fn 344 [], .slice 8 0 3 none]), (6, .cells false true 1 [.fn 344 [], .slice 9 0 2 none]), (7, .cells false true 1 [.fn 344 [], .slice 10 0 2 none]), (8, .cells true true 1 [.int .i64 (.ofNat 1), .int .i64 (.ofNat 2), .int .i64 (.ofNat 3)]), (9, .cells false true 1 [.int .i64 (.ofNat 1), .int .i64 (.ofNat 2)]), (10, .cells false true 1 [.int .i64 (.ofNat 1), .int .i64 (.ofNat 2)])]
  n1 := 13
  res := .tup []
  out := [(6, .cells false true 1 [.fn 344 [], .slice 11 0 3 none]), (7, .cells false true 1 [.fn 344 [], .slice 12 0 3 none]), (11, .cells false true 1 [.int .i64 (.ofNat 1), .int .i64 (.ofNat 2), .int .i64 (.ofNat 3)]), (12, .cells false true 1 [.int .i64 (.ofNat 1), .int .i64 (.ofNat 2), .int .i64 (.ofNat 3)])]
theorem F6339_3_ok : MemoOK Tryz.prog 339 F6339_3 := memoRunN_ok mixed q6U_ok (S := q6U) (N := fun _ => false) (n := 100000) (hi := 1000000) (by kernel_rfl)
noncomputable def F6339_4 : Memo where
  n0 := 11
  args := [.ptr 0 0, .map 1]
  pat := [(0, .cells true true 1 [.any, .any, .any, .any, .any, .any, .any, .any, .any, .any, .map 2, .any, .any, .any]), (1, .map true 2 [⟨.agg [.int .i64 (.ofNat 3), .int .i64 (.ofNat 4)], .slice 3 0 3 none, none⟩, ⟨.agg [.int .i64 (.ofNat 4), .int .i64 (.ofNat 4)], .slice 4 0 3 none, none⟩]), (2, .map true 3 [⟨.agg [.int .i64 (.ofNat 0), .int .i64 (.ofNat 4)], .ptr 5 0, none⟩, ⟨.agg [.int .i64 (.ofNat 3), .int .i64 (.ofNat 4)], .ptr 6 0, none⟩, ⟨.agg [.int .i64 (.ofNat 4), .int .i64 (.ofNat 4)], .ptr 7 0, none⟩]), (3, .cells true true 2 [.int .i64 (.ofNat 3), .int .i64 (.ofNat 4), .int .i64 (.ofNat 4), .int .i64 (.ofNat 4), .int .i64 (.ofNat 0), .int .i64 (.ofNat 4)]), (4, .cells true true 2 [.int .i64 (.ofNat 3), .int .i64 (.ofNat 4), .int .i64 (.ofNat 4), .int .i64 (.ofNat 4), .int .i64 (.ofNat 0), .int .i64 (.ofNat 4)]), (5, .cells true true 1 [.fn 344 [], .slice 8 0 3 none]), (6, .cells false true 1 [.fn 344 [], .slice 9 0 2 none]), (7, .cells false true 1 [.fn 344 [], .slice 10 0 2 none]), (8, .cells true true 1 [.int .i64 (.ofNat 1), .int .i64 (.ofNat 2), .int .i64 (.ofNat 3)]), (9, .cells false true 1 [.int .i64 (.ofNat 1), .int .i64 (.ofNat 2)]), (10, .cells false true 1 [.int .i64 (.ofNat 1), .int .i64 (.ofNat 2)])]
  n1 := 13
  res := .tup []
  out := [(6, .cells false true 1 [.fn 344 [], .slice 11 0 3 none]), (7, .cells false true 1 [.fn 344 [], .slice 12 0 3 none]), (11, .cells false true 1 [.int .i64 (.ofNat 1), .int .i64 (.ofNat 2), .int .i64 (.ofNat 3)]), (12, .cells false true 1 [.int .i64 (.ofNat 1), .int .i64 (.ofNat 2), .int .i64 (.ofNat 3)])]
theorem F6339_4_ok : MemoOK Tryz.prog 339 F6339_4 := memoRunN_ok mixed q6U_ok (S := q6U) (N := fun _ => false) (n := 100000) (hi := 1000000) (by kernel_rfl)
noncomputable def F6339_5 : Memo where
  n0 := 11
  args := [.ptr 0 0, .map 1]
  pat := [(0, .cells true true 1 [.any, .any, .any, .any, .any, .any, .any, .any, .any, .any, .map 2, .any, .any, .any]), (1, .map true 2 [⟨.agg [.int .i64 (.ofNat 3), .int .i64 (.ofNat 4)], .slice 3 0 3 none, none⟩, ⟨.agg [.int .i64 (.ofNat 4), .int .i64 (.ofNat 4)], .slice 4 0 3 none, none⟩]), (2, .map true 3 [⟨.agg [.int .i64 (.ofNat 0), .int .i64 (.ofNat 4)], .ptr 5 0, none⟩, ⟨.agg [.int .i64 (.ofNat 3), .int .i64 (.ofNat 4)], .ptr 6 0, none⟩, ⟨.agg [.int .i64 (.ofNat 4), .int .i64 (.ofNat 4)], .ptr 7 0, none⟩]), (3, .cells true true 2 [.int .i64 (.ofNat 4), .int .i64 (.ofNat 4), .int .i64 (.ofNat 0), .int .i64 (.ofNat 4), .int .i64 (.ofNat 3), .int .i64 (.ofNat 4)]), (4, .cells true true 2 [.int .i64 (.ofNat 4), .int .i64 (.ofNat 4), .int .i64 (.ofNat 0), .int .i64 (.ofNat 4), .int .i64 (.ofNat 3), .int .i64 (.ofNat 4)]), (5, .cells true true 1 [.fn 344 [], .slice 8 0 3 none]), (6, .cells false true 1 [.fn 344 [], .slice 9 0 2 none]), (7, .cells false true 1 [.fn 344 [], .slice 10 0 2 none]), (8, .cells true true 1 [.int .i64 (.ofNat 1), .int .i64 (.ofNat 2), .int .i64 (.ofNat 3)]), (9, .cells false true 1 [.int .i64 (.ofNat 1), .int .i64 (.ofNat 2)]), (10, .cells false true 1 [.int .i64 (.ofNat 1), .int .i64 (.ofNat 2)])]
  n1 := 13
  res := .tup []
  out := [(6, .cells false true 1 [.fn 344 [], .slice 11 0 3 none]), (7, .cells false true 1 [.fn 344 [], .slice 12 0 3 none]), (11, .cells false true 1 [.int .i64 (.ofNat 1), .int .i64 (.ofNat 2), .int .i64 (.ofNat 3)]), (12, .cells false true 1 [.int .i64 (.ofNat 1), .int .i64 (.ofNat 2), .int .i64 (.ofNat 3)])]
theorem F6339_5_ok : MemoOK Tryz.prog 339 F6339_5 := memoRunN_ok mixed q6U_ok (S := q6U) (N := fun _ => false) (n := 100000) (hi := 1000000) (by kernel_rfl)
noncomputable def F6339_6 : Memo where
  n0 := 11
  args := [.ptr 0 0, .map 1]
  pat := [(0, .cells true true 1 [.any, .any, .any, .any, .any, .any, .any, .any, .any, .any, .map 2, .any, .any, .any]), (1, .map true 2 [⟨.agg [.int .i64 (.ofNat 3), .int .i64 (.ofNat 4)], .slice 3 0 3 none, none⟩, ⟨.agg [.int .i64 (.ofNat 4), .int .i64 (.ofNat 4)], .slice 4 0 3 none, none⟩]), (2, .map true 3 [⟨.agg [.int .i64 (.ofNat 0), .int .i64 (.ofNat 4)], .ptr 5 0, none⟩, ⟨.agg [.int .i64 (.ofNat 3), .int .i64 (.ofNat 4)], .ptr 6 0, none⟩, ⟨.agg [.int .i64 (.ofNat 4), .int .i64 (.ofNat 4)], .ptr 7 0, none⟩]), (3, .cells true true 2 [.int .i64 (.ofNat 4), .int .i64 (.ofNat 4), .int .i64 (.ofNat 3), .int .i64 (.ofNat 4), .int .i64 (.ofNat 0), .int .i64 (.ofNat 4)]), (4, .cells true true 2 [.int .i64 (.ofNat 4), .int .i64 (.ofNat 4), .int .i64 (.ofNat 3), .int .i64 (.ofNat 4), .int .i64 (.ofNat 0), .int .i64 (.ofNat 4)]), (5, .cells true true 1 [.fn 344 [], .slice 8 0 3 none]), (6, .cells false true 1 [.fn 344 [], .slice 9 0 2 none]), (7, .cells false true 1 [.fn 344 [], .slice 10 0 2 none]), (8, .cells true true 1 [.int .i64 (.ofNat 1), .int .i64 (.ofNat 2), .int .i64 (.ofNat 3)]), (9, .cells false true 1 [.int .i64 (.ofNat 1), .int .i64 (.ofNat 2)]), (10, .cells false true 1 [.int .i64 (.ofNat 1), .int .i64 (.ofNat 2)])]
  n1 := 13
  res := .tup []
  out := [(6, .cells false true 1 [.fn 344 [], .slice 11 0 3 none]), (7, .cells false true 1 [.fn 344 [], .slice 12 0 3 none]), (11, .cells false true 1 [.int .i64 (.ofNat 1), .int .i64 (.ofNat 2), .int .i64 (.ofNat 3)]), (12, .cells false true 1 [.int .i64 (.ofNat 1), .int .i64 (.ofNat 2), .int .i64 (.ofNat 3)])]
theorem F6339_6_ok : MemoOK Tryz.prog 339 F6339_6 := memoRunN_ok mixed q6U_ok (S := q6U) (N := fun _ => false) (n := 100000) (hi := 1000000) (by kernel_rfl)
noncomputable def F6339_7 : Memo where
  n0 := 9
  args := [.ptr 0 0, .map 1]
  pat := [(0, .cells true true 1 [.any, .any, .any, .any, .any, .any, .any, .any, .any, .any, .map 2, .any, .any, .any]), (1, .map true 0 []), (2, .map true 3 [⟨.agg [.int .i64 (.ofNat 0), .int .i64 (.ofNat 4)], .ptr 3 0, none⟩, ⟨.agg [.int .i64 (.ofNat 3), .int .i64 (.ofNat 4)], .ptr 4 0, none⟩, ⟨.agg [.int .i64 (.ofNat 4), .int .i64 (.ofNat 4)], .ptr 5 0, none⟩]), (3, .cells true true 1 [.fn 344 [], .slice 6 0 3 none]), (4, .cells true true 1 [.fn 344 [], .slice 7 0 2 none]), (5, .cells true true 1 [.fn 344 [], .slice 8 0 2 none]), (6, .cells true true 1 [.int .i64 (.ofNat 1), .int .i64 (.ofNat 2), .int .i64 (.ofNat 3)]), (7, .cells true true 1 [.int .i64 (.ofNat 1), .int .i64 (.ofNat 2)]), (8, .cells true true 1 [.int .i64 (.ofNat 1), .int .i64 (.ofNat 2)])]
  n1 := 9
  res := .tup []
  out := []
theorem F6339_7_ok : MemoOK Tryz.prog 339 F6339_7 := memoRunN_ok mixed q6U_ok (S := q6U) (N := fun _ => false) (n := 100000) (hi := 1000000) (by kernel_rfl)
noncomputable def F6339_8 : Memo where
  n0 := 11
  args := [.ptr 0 0, .map 1]
  pat := [(0, .cells true true 1 [.any, .any, .any, .any, .any, .any, .any, .any, .any, .any, .map 2, .any, .any, .any]), (1, .map true 2 [⟨.agg [.int .i64 (.ofNat 3), .int .i64 (.ofNat 4)], .slice 3 0 3 none, none⟩, ⟨.agg [.int .i64 (.ofNat 4), .int .i64 (.ofNat 4)], .slice 4 0 3 none, none⟩]), (2, .map true 3 [⟨.agg [.int .i64 (.ofNat 0), .int .i64 (.ofNat 4)], .ptr 5 0, none⟩, ⟨.agg [.int .i64 (.ofNat 3), .int .i64 (.ofNat 4)], .ptr 6 0, none⟩, ⟨.agg [.int .i64 (.ofNat 4), .int .i64 (.ofNat 4)], .ptr 7 0, none⟩]), (3, .cells true true 2 [.int .i64 (.ofNat 0), .int .i64 (.ofNat 4), .int .i64 (.ofNat 3), .int .i64 (.ofNat 4), .int .i64 (.ofNat 4), .int .i64 (.ofNat 4)]), (4, .cells true true 2 [.int .i64 (.ofNat 0), .int .i64 (.ofNat 4), .int .i64 (.ofNat 3), .int .i64 (.ofNat 4), .int .i64 (.ofNat 4), .int .i64 (.ofNat 4)]), (5, .cells true true 1 [.fn 344 [], .slice 8 0 3 none]), (6, .cells false true 1 [.fn 344 [], .slice 9 0 2 none]), (7, .cells false true 1 [.fn 344 [], .slice 10 0 2 none]), (8, .cells true true 1 [.int .i64 (.ofNat 0), .int .i64 (.ofNat 1), .int .i64 (.ofNat 3)]), (9, .cells false true 1 [.int .i64 (.ofNat 0), .int .i64 (.ofNat 1)]), (10, .cells false true 1 [.int .i64 (.ofNat 0), .int .i64 (.ofNat 1)])]
  n1 := 13
  res := .tup []
  out := [(6, .cells false true 1 [.fn 344 [], .slice 11 0 3 none]), (7, .cells false true 1 [.fn 344 [], .slice 12 0 3 none]), (11, .cells false true 1 [.int .i64 (.ofNat 0), .int .i64 (.ofNat 1), .int .i64 (.ofNat 3)]), (12, .cells false true 1 [.int .i64 (.ofNat 0), .int .i64 (.ofNat 1), .int .i64 (.ofNat 3)])]
theorem F6339_8_ok : MemoOK Tryz.prog 339 F6339_8 := memoRunN_ok mixed q6U_ok (S := q6U) (N := fun _ => false) (n := 100000) (hi := 1000000) (by kernel_rfl)
noncomputable def F6339_9 : Memo where
  n0 := 11
  args := [.ptr 0 0, .map 1]
  pat := [(0, .cells true true 1 [.any, .any, .any, .any, .any, .any, .any, .any, .any, .any, .map 2, .any, .any, .any]), (1, .map true 2 [⟨.agg [.int .i64 (.ofNat 3), .int .i64 (.ofNat 4)], .slice 3 0 3 none, none⟩, ⟨.agg [.int .i64 (.ofNat 4), .int .i64 (.ofNat 4)], .slice 4 0 3 none, none⟩]), (2, .map true 3 [⟨.agg [.int .i64 (.ofNat 0), .int .i64 (.ofNat 4)], .ptr 5 0, none⟩, ⟨.agg [.int .i64 (.ofNat 3), .int .i64 (.ofNat 4)], .ptr 6 0, none⟩, ⟨.agg [.int .i64 (.ofNat 4), .int .i64 (.ofNat 4)], .ptr 7 0, none⟩]), (3, .cells true true 2 [.int .i64 (.ofNat 0), .int .i64 (.ofNat 4), .int .i64 (.ofNat 4), .int .i64 (.ofNat 4), .int .i64 (.ofNat 3), .int .i64 (.ofNat 4)]), (4, .cells true true 2 [.int .i64 (.ofNat 0), .int .i64 (.ofNat 4), .int .i64 (.ofNat 4), .int .i64 (.ofNat 4), .int .i64 (.ofNat 3), .int .i64 (.ofNat 4)]), (5, .cells true true 1 [.fn 344 [], .slice 8 0 3 none]), (6, .cells false true 1 [.fn 344 [], .slice 9 0 2 none]), (7, .cells false true 1 [.fn 344 [], .slice 10 0 2 none]), (8, .cells true true 1 [.int .i64 (.ofNat 0), .int .i64 (.ofNat 1), .int .i64 (.ofNat 3)]), (9, .cells false true 1 [.int .i64 (.ofNat 0), .int .i64 (.ofNat 1)]), (10, .cells false true 1 [.int .i64 (.ofNat 0), .int .i64 (.ofNat 1)])]
  n1 := 13
  res := .tup []
  out := [(6, .cells false true 1 [.fn 344 [], .slice 11 0 3 none]), (7, .cells false true 1 [.fn 344 [], .slice 12 0 3 none]), (11, .cells false true 1 [.int .i64 (.ofNat 0), .int .i64 (.ofNat 1), .int .i64 (.ofNat 3)]), (12, .cells false true 1 [.int .i64 (.ofNat 0), .int .i64 (.ofNat 1), .int .i64 (.ofNat 3)])]
theorem F6339_9_ok : MemoOK Tryz.prog 339 F6339_9 := memoRunN_ok mixed q6U_ok (S := q6U) (N := fun _ => false) (n := 100000) (hi := 1000000) (by kernel_rfl)
noncomputable def F6339_10 : Memo where
  n0 := 11
  args := [.ptr 0 0, .map 1]
  pat := [(0, .cells true true 1 [.any, .any, .any, .any, .any, .any, .any, .any, .any, .any, .map 2, .any, .any, .any]), (1, .map true 2 [⟨.agg [.int .i64 (.ofNat 3), .int .i64 (.ofNat 4)], .slice 3 0 3 none, none⟩, ⟨.agg [.int .i64 (.ofNat 4), .int .i64 (.ofNat 4)], .slice 4 0 3 none, none⟩]), (2, .map true 3 [⟨.agg [.int .i64 (.ofNat 0), .int .i64 (.ofNat 4)], .ptr 5 0, none⟩, ⟨.agg [.int .i64 (.ofNat 3), .int .i64 (.ofNat 4)], .ptr 6 0, none⟩, ⟨.agg [.int .i64 (.ofNat 4), .int .i64 (.ofNat 4)], .ptr 7 0, none⟩]), (3, .cells true true 2 [.int .i64 (.ofNat 3), .int .i64 (.ofNat 4), .int .i64 (.ofNat 0), .int .i64 (.ofNat 4), .int .i64 (.ofNat 4), .int .i64 (.ofNat 4)]), (4, .cells true true 2 [.int .i64 (.ofNat 3), .int .i64 (.ofNat 4), .int .i64 (.ofNat 0), .int .i64 (.ofNat 4), .int .i64 (.ofNat 4), .int .i64 (.ofNat 4)]), (5, .cells true true 1 [.fn 344 [], .slice 8 0 3 none]), (6, .cells false true 1 [.fn 344 [], .slice 9 0 2 none]), (7, .cells false true 1 [.fn 344 [], .slice 10 0 2 none]), (8, .cells true true 1 [.int .i64 (.ofNat 0), .int .i64 (.ofNat 1), .int .i64 (.ofNat 3)]), (9, .cells false true 1 [.int .i64 (.ofNat 0), .int .i64 (.ofNat 1)]), (10, .cells false true 1 [.int .i64 (.ofNat 0), .int .i64 (.ofNat 1)])]
  n1 := 13
  res := .tup []
  out := [(6, .cells false true 1 [.fn 344 [], .slice 11 0 3 none]), (7, .cells false true 1 [.fn 344 [], .slice 12 0 3 none]), (11, .cells false true 1 [.int .i64 (.ofNat 0), .int .i64 (.ofNat 1), .int .i64 (.ofNat 3)]), (12, .cells false true 1 [.int .i64 (.ofNat 0), .int .i64 (.ofNat 1), .int .i64 (.ofNat 3)])]
theorem F6339_10_ok : MemoOK Tryz.prog 339 F6339_10 := memoRunN_ok mixed q6U_ok (S := q6U) (N := fun _ => false) (n := 100000) (hi := 1000000) (by kernel_rfl)
noncomputable def F6339_11 : Memo where
  n0 := 11
  args := [.ptr 0 0, .map 1]
  pat := [(0, .cells true true 1 [.any, .any, .any, .any, .any, .any, .any, .any, .any, .any, .map 2, .any, .any, .any]), (1, .map true 2 [⟨.agg [.int .i64 (.ofNat 3), .int .i64 (.ofNat 4)], .slice 3 0 3 none, none⟩, ⟨.agg [.int .i64 (.ofNat 4), .int .i64 (.ofNat 4)], .slice 4 0 3 none, none⟩]), (2, .map true 3 [⟨.agg [.int .i64 (.ofNat 0), .int .i64 (.ofNat 4)], .ptr 5 0, none⟩, ⟨.agg [.int .i64 (.ofNat 3), .int .i64 (.ofNat 4)], .ptr 6 0, none⟩, ⟨.agg [.int .i64 (.ofNat 4), .int .i64 (.ofNat 4)], .ptr 7 0, none⟩]), (3, .cells true true 2 [.int .i64 (.ofNat 3), .int .i64 (.ofNat 4), .int .i64 (.ofNat 4), .int .i64 (.ofNat 4), .int .i64 (.ofNat 0), .int .i64 (.ofNat 4)]), (4, .cells true true 2 [.int .i64 (.ofNat 3), .int .i64 (.ofNat 4), .int .i64 (.ofNat 4), .int .i64 (.ofNat 4), .int .i64 (.ofNat 0), .int .i64 (.ofNat 4)]), (5, .cells true true 1 [.fn 344 [], .slice 8 0 3 none]), (6, .cells false true 1 [.fn 344 [], .slice 9 0 2 none]), (7, .cells false true 1 [.fn 344 [], .slice 10 0 2 none]), (8, .cells true true 1 [.int .i64 (.ofNat 0), .int .i64 (.ofNat 1), .int .i64 (.ofNat 3)]), (9, .cells false true 1 [.int .i64 (.ofNat 0), .int .i64 (.ofNat 1)]), (10, .cells false true 1 [.int .i64 (.ofNat 0), .int .i64 (.ofNat 1)])]
  n1 := 13
  res := .tup []
  out := [(6, .cells false true 1 [.fn 344 [], .slice 11 0 3 none]), (7, .cells false true 1 [.fn 344 [], .slice 12 0 3 none]), (11, .cells false true 1 [.int .i64 (.ofNat 0), .int .i64 (.ofNat 1), .int .i64 (.ofNat 3)]), (12, .cells false true 1 [.int .i64 (.ofNat 0), .int .i64 (.ofNat 1), .int .i64 (.ofNat 3)])]
theorem F6339_11_ok : MemoOK Tryz.prog 339 F6339_11 := memoRunN_ok mixed q6U_ok (S := q6U) (N := fun _ => false) (n := 100000) (hi := 1000000) (by kernel_rfl)
noncomputable def F6339_12 : Memo where
  n0 := 11
  args := [.ptr 0 0, .map 1]
  pat := [(0, .cells true true 1 [.any, .any, .any, .any, .any, .any, .any, .any, .any, .any, .map 2, .any, .any, .any]), (1, .map true 2 [⟨.agg [.int .i64 (.ofNat 3), .int .i64 (.ofNat 4)], .slice 3 0 3 none, none⟩, ⟨.agg [.int .i64 (.ofNat 4), .int .i64 (.ofNat 4)], .slice 4 0 3 none, none⟩]), (2, .map true 3 [⟨.agg [.int .i64 (.ofNat 0), .int .i64 (.ofNat 4)], .ptr 5 0, none⟩, ⟨.agg [.int .i64 (.ofNat 3), .int .i64 (.ofNat 4)], .ptr 6 0, none⟩, ⟨.agg [.int .i64 (.ofNat 4), .int .i64 (.ofNat 4)], .ptr 7 0, none⟩]), (3, .cells true true 2 [.int .i64 (.ofNat 4), .int .i64 (.ofNat 4), .int .i64 (.ofNat 0), .int .i64 (.ofNat 4), .int .i64 (.ofNat 3), .int .i64 (.ofNat 4)]), (4, .cells true true 2 [.int .i64 (.ofNat 4), .int .i64 (.ofNat 4), .int .i64 (.ofNat 0), .int .i64 (.ofNat 4), .int .i64 (.ofNat 3), .int .i64 (.ofNat 4)]), (5, .cells true true 1 [.fn 344 [], .slice 8 0 3 none]), (6, .cells false true 1 [.fn 344 [], .slice 9 0 2 none]), (7, .cells false true 1 [.fn 344 [], .slice 10 0 2 none]), (8, .cells true true 1 [.int .i64 (.ofNat 0), .int .i64 (.ofNat 1), .int .i64 (.ofNat 3)]), (9, .cells false true 1 [.int .i64 (.ofNat 0), .int .i64 (.ofNat 1)]), (10, .cells false true 1 [.int .i64 (.ofNat 0), .int .i64 (.ofNat 1)])]
  n1 := 13
  res := .tup []
  out := [(6, .cells false true 1 [.fn 344 [], .slice 11 0 3 none]), (7, .cells false true 1 [.fn 344 [], .slice 12 0 3 none]), (11, .cells false true 1 [.int .i64 (.ofNat 0), .int .i64 (.ofNat 1), .int .i64 (.ofNat 3)]), (12, .cells false true 1 [.int .i64 (.ofNat 0), .int .i64 (.ofNat 1), .int .i64 (.ofNat 3)])]
theorem F6339_12_ok : MemoOK Tryz.prog 339 F6339_12 := memoRunN_ok mixed q6U_ok (S := q6U) (N := fun _ => false) (n := 100000) (hi := 1000000) (by kernel_rfl)
noncomputable def F6339_13 : Memo where
  n0 := 11
  args := [.ptr 0 0, .map 1]
  pat := [(0, .cells true true 1 [.any, .any, .any, .any, .any, .any, .any, .any, .any, .any, .map 2, .any, .any, .any]), (1, .map true 2 [⟨.agg [.int .i64 (.ofNat 3), .int .i64 (.ofNat 4)], .slice 3 0 3 none, none⟩, ⟨.agg [.int .i64 (.ofNat 4), .int .i64 (.ofNat 4)], .slice 4 0 3 none, none⟩]), (2, .map true 3 [⟨.agg [.int .i64 (.ofNat 0), .int .i64 (.ofNat 4)], .ptr 5 0, none⟩, ⟨.agg [.int .i64 (.ofNat 3), .int .i64 (.ofNat 4)], .ptr 6 0, none⟩, ⟨.agg [.int .i64 (.ofNat 4), .int .i64 (.ofNat 4)], .ptr 7 0, none⟩]), (3, .cells true true 2 [.int .i64 (.ofNat 4), .int .i64 (.ofNat 4), .int .i64 (.ofNat 3), .int .i64 (.ofNat 4), .int .i64 (.ofNat 0), .int .i64 (.ofNat 4)]), (4, .cells true true 2 [.int .i64 (.ofNat 4), .int .i64 (.ofNat 4), .int .i64 (.ofNat 3), .int .i64 (.ofNat 4), .int .i64 (.ofNat 0), .int .i64 (.ofNat 4)]), (5, .cells true true 1 [.fn 344 [], .slice 8 0 3 none]), (6, .cells false true 1 [.fn 344 [], .slice 9 0 2 none]), (7, .cells false true 1 [.fn 344 [], .slice 10 0 2 none]), (8, .cells true true 1 [.int .i64 (.ofNat 0), .int .i64 (.ofNat 1), .int .i64 (.ofNat 3)]), (9, .cells false true 1 [.int .i64 (.ofNat 0), .int .i64 (.ofNat 1)]), (10, .cells false true 1 [.int .i64 (.ofNat 0), .int .i64 (.ofNat 1)])]
  n1 := 13
  res := .tup []
  out := [(6, .cells false true 1 [.fn 344 [], .slice 11 0 3 none]), (7, .cells false true 1 [.fn 344 [], .slice 12 0 3 none]), (11, .cells false true 1 [.int .i64 (.ofNat 0), .int .i64 (.ofNat 1), .int .i64 (.ofNat 3)]), (12, .cells false true 1 [.int .i64 (.ofNat 0), .int .i64 (.ofNat 1), .int .i64 (.ofNat 3)])]
theorem F6339_13_ok : MemoOK Tryz.prog 339 F6339_13 := memoRunN_ok mixed q6U_ok (S := q6U) (N := fun _ => false) (n := 100000) (hi := 1000000) (by kernel_rfl)
noncomputable def F6339_14 : Memo where
  n0 := 9
  args := [.ptr 0 0, .map 1]
  pat := [(0, .cells true true 1 [.any, .any, .any, .any, .any, .any, .any, .any, .any, .any, .map 2, .any, .any, .any]), (1, .map true 0 []), (2, .map true 3 [⟨.agg [.int .i64 (.ofNat 0), .int .i64 (.ofNat 4)], .ptr 3 0, none⟩, ⟨.agg [.int .i64 (.ofNat 3), .int .i64 (.ofNat 4)], .ptr 4 0, none⟩, ⟨.agg [.int .i64 (.ofNat 4), .int .i64 (.ofNat 4)], .ptr 5 0, none⟩]), (3, .cells true true 1 [.fn 344 [], .slice 6 0 3 none]), (4, .cells true true 1 [.fn 344 [], .slice 7 0 2 none]), (5, .cells true true 1 [.fn 344 [], .slice 8 0 2 none]), (6, .cells true true 1 [.int .i64 (.ofNat 0), .int .i64 (.ofNat 1), .int .i64 (.ofNat 3)]), (7, .cells true true 1 [.int .i64 (.ofNat 0), .int .i64 (.ofNat 1)]), (8, .cells true true 1 [.int .i64 (.ofNat 0), .int .i64 (.ofNat 1)])]
  n1 := 9
  res := .tup []
  out := []
theorem F6339_14_ok : MemoOK Tryz.prog 339 F6339_14 := memoRunN_ok mixed q6U_ok (S := q6U) (N := fun _ => false) (n := 100000) (hi := 1000000) (by kernel_rfl)
noncomputable def F6339_15 : Memo where
  n0 := 7
  args := [.ptr 0 0, .map 1]
  pat := [(0, .cells true true 1 [.any, .any, .any, .any, .any, .any, .any, .any, .any, .any, .map 2, .any, .any, .any]), (1, .map true 0 []), (2, .map true 2 [⟨.agg [.int .i64 (.ofNat 0), .int .i64 (.ofNat 3)], .ptr 3 0, none⟩, ⟨.agg [.int .i64 (.ofNat 3), .int .i64 (.ofNat 3)], .ptr 4 0, none⟩]), (3, .cells true true 1 [.fn 344 [], .slice 5 0 2 none]), (4, .cells true true 1 [.fn 344 [], .slice 6 0 1 none]), (5, .cells true true 1 [.int .i64 (.ofNat 1), .int .i64 (.ofNat 2)]), (6, .cells true true 1 [.int .i64 (.ofNat 1)])]
  n1 := 7
  res := .tup []
  out := []
theorem F6339_15_ok : MemoOK Tryz.prog 339 F6339_15 := memoRunN_ok mixed q6U_ok (S := q6U) (N := fun _ => false) (n := 100000) (hi := 1000000) (by kernel_rfl)
noncomputable def F6339_16 : Memo where
  n0 := 8
  args := [.ptr 0 0, .map 1]
  pat := [(0, .cells true true 1 [.any, .any, .any, .any, .any, .any, .any, .any, .any, .any, .map 2, .any, .any, .any]), (1, .map true 1 [⟨.agg [.int .i64 (.ofNat 3), .int .i64 (.ofNat 3)], .slice 3 0 2 none, none⟩]), (2, .map true 2 [⟨.agg [.int .i64 (.ofNat 0), .int .i64 (.ofNat 3)], .ptr 4 0, none⟩, ⟨.agg [.int .i64 (.ofNat 3), .int .i64 (.ofNat 3)], .ptr 5 0, none⟩]), (3, .cells true true 2 [.int .i64 (.ofNat 0), .int .i64 (.ofNat 3), .int .i64 (.ofNat 3), .int .i64 (.ofNat 3)]), (4, .cells true true 1 [.fn 344 [], .slice 6 0 2 none]), (5, .cells false true 1 [.fn 344 [], .slice 7 0 1 none]), (6, .cells true true 1 [.int .i64 (.ofNat 1), .int .i64 (.ofNat 2)]), (7, .cells false true 1 [.int .i64 (.ofNat 1)])]
  n1 := 9
  res := .tup []
  out := [(5, .cells false true 1 [.fn 344 [], .slice 8 0 2 none]), (8, .cells false true 1 [.int .i64 (.ofNat 1), .int .i64 (.ofNat 2)])]
theorem F6339_16_ok : MemoOK Tryz.prog 339 F6339_16 := memoRunN_ok mixed q6U_ok (S := q6U) (N := fun _ => false) (n := 100000) (hi := 1000000) (by kernel_rfl)
noncomputable def F6339_17 : Memo where
  n0 := 8
  args := [.ptr 0 0, .map 1]
  pat := [(0, .cells true true 1 [.any, .any, .any, .any, .any, .any, .any, .any, .any, .any, .map 2, .any, .any, .any]), (1, .map true 1 [⟨.agg [.int .i64 (.ofNat 3), .int .i64 (.ofNat 3)], .slice 3 0 2 none, none⟩]), (2, .map true 2 [⟨.agg [.int .i64 (.ofNat 0), .int .i64 (.ofNat 3)], .ptr 4 0, none⟩, ⟨.agg [.int .i64 (.ofNat 3), .int .i64 (.ofNat 3)], .ptr 5 0, none⟩]), (3, .cells true true 2 [.int .i64 (.ofNat 3), .int .i64 (.ofNat 3), .int .i64 (.ofNat 0), .int .i64 (.ofNat 3)]), (4, .cells true true 1 [.fn 344 [], .slice 6 0 2 none]), (5, .cells false true 1 [.fn 344 [], .slice 7 0 1 none]), (6, .cells true true 1 [.int .i64 (.ofNat 1), .int .i64 (.ofNat 2)]), (7, .cells false true 1 [.int .i64 (.ofNat 1)])]
  n1 := 9
  res := .tup []
  out := [(5, .cells false true 1 [.fn 344 [], .slice 8 0 2 none]), (8, .cells false true 1 [.int .i64 (.ofNat 1), .int .i64 (.ofNat 2)])]
theorem F6339_17_ok : MemoOK Tryz.prog 339 F6339_17 := memoRunN_ok mixed q6U_ok (S := q6U) (N := fun _ => false) (n := 100000) (hi := 1000000) (by kernel_rfl)
noncomputable def F6339 : List AV → AMem → OR := fun args m => memoTry F6339_0 args m (memoTry F6339_1 args m (memoTry F6339_2 args m (memoTry F6339_3 args m (memoTry F6339_4 args m (memoTry F6339_5 args m (memoTry F6339_6 args m (memoTry F6339_7 args m (memoTry F6339_8 args m (memoTry F6339_9 args m (memoTry F6339_10 args m (memoTry F6339_11 args m (memoTry F6339_12 args m (memoTry F6339_13 args m (memoTry F6339_14 args m (memoTry F6339_15 args m (memoTry F6339_16 args m (memoTry F6339_17 args m (.fail 3300))))))))))))))))))
theorem F6339_ok : SumOK Tryz.prog 339 F6339 := memoSum_ok F6339_0_ok (memoSum_ok F6339_1_ok (memoSum_ok F6339_2_ok (memoSum_ok F6339_3_ok (memoSum_ok F6339_4_ok (memoSum_ok F6339_5_ok (memoSum_ok F6339_6_ok (memoSum_ok F6339_7_ok (memoSum_ok F6339_8_ok (memoSum_ok F6339_9_ok (memoSum_ok F6339_10_ok (memoSum_ok F6339_11_ok (memoSum_ok F6339_12_ok (memoSum_ok F6339_13_ok (memoSum_ok F6339_14_ok (memoSum_ok F6339_15_ok (memoSum_ok F6339_16_ok (memoSum_ok F6339_17_ok (fun _ _ _ _ h => by cases h))))))))))))))))))
end Go.Ev
end
section
namespace Go.Ev
open Go.Proofs
noncomputable def q6F : Sums := addS 339 F6339 (q6U)
theorem q6F_ok : SumsOK Tryz.prog q6F := addS_ok F6339_ok (q6U_ok)
end Go.Ev
end
