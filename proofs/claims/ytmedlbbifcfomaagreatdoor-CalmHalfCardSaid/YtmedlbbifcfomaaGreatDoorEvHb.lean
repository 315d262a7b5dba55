/- What unions of sets of numbers come to, noted and shown by runs. The sums with those of unions. What the flow of sets along a relation comes to, whatever the order of the map. The sums with those of flows. -/
import Derived.Test.YtmedlbbifcfomaaGreatDoorEvGc
import Derived.Test.YtmedlbbifcfomaaGreatDoorEvHa
section
namespace Go.Ev
open Go.Proofs
noncomputable def U8317_0 : Memo where
  n0 := 4
  args := [.ptr 0 0, .ptr 1 0]
  pat := [(0, .cells true true 1 [.fn 319 [], .slice 2 0 3 none]), (1, .cells true true 1 [.fn 319 [], .slice 3 0 3 none]), (2, .cells true true 1 [.int .i64 (.ofNat 1), .int .i64 (.ofNat 2), .int .i64 (.ofNat 3)]), (3, .cells true true 1 [.int .i64 (.ofNat 1), .int .i64 (.ofNat 2), .int .i64 (.ofNat 3)])]
  n1 := 4
  res := .bool false
  out := []
theorem U8317_0_ok : MemoOK Tryz.prog 317 U8317_0 := memoRun_ok mixed sums8_ok (S := (sums8 Tryz.prog)) (by kernel_rfl) (n := 100000) (by kernel_rfl)
noncomputable def U8317_1 : Memo where
  n0 := 3
  args := [.ptr 0 0, .ptr 1 0]
  pat := [(0, .cells false true 1 [.fn 319 [], .nils]), (1, .cells true true 1 [.fn 319 [], .slice 2 0 3 none]), (2, .cells true true 1 [.int .i64 (.ofNat 1), .int .i64 (.ofNat 2), .int .i64 (.ofNat 3)])]
  n1 := 4
  res := .bool true
  out := [(0, .cells false true 1 [.fn 319 [], .slice 3 0 3 none]), (3, .cells false true 1 [.int .i64 (.ofNat 1), .int .i64 (.ofNat 2), .int .i64 (.ofNat 3)])]
theorem U8317_1_ok : MemoOK Tryz.prog 317 U8317_1 := memoRun_ok mixed sums8_ok (S := (sums8 Tryz.prog)) (by kernel_rfl) (n := 100000) (by kernel_rfl)
noncomputable def U8317_2 : Memo where
  n0 := 4
  args := [.ptr 0 0, .ptr 1 0]
  pat := [(0, .cells true true 1 [.fn 319 [], .slice 2 0 3 none]), (1, .cells true true 1 [.fn 319 [], .slice 3 0 3 none]), (2, .cells true true 1 [.int .i64 (.ofNat 0), .int .i64 (.ofNat 1), .int .i64 (.ofNat 3)]), (3, .cells true true 1 [.int .i64 (.ofNat 0), .int .i64 (.ofNat 1), .int .i64 (.ofNat 3)])]
  n1 := 4
  res := .bool false
  out := []
theorem U8317_2_ok : MemoOK Tryz.prog 317 U8317_2 := memoRun_ok mixed sums8_ok (S := (sums8 Tryz.prog)) (by kernel_rfl) (n := 100000) (by kernel_rfl)
noncomputable def U8317_3 : Memo where
  n0 := 3
  args := [.ptr 0 0, .ptr 1 0]
  pat := [(0, .cells false true 1 [.fn 319 [], .nils]), (1, .cells true true 1 [.fn 319 [], .slice 2 0 1 none]), (2, .cells true true 1 [.int .i64 (.ofNat 0)])]
  n1 := 4
  res := .bool true
  out := [(0, .cells false true 1 [.fn 319 [], .slice 3 0 1 none]), (3, .cells false true 1 [.int .i64 (.ofNat 0)])]
theorem U8317_3_ok : MemoOK Tryz.prog 317 U8317_3 := memoRun_ok mixed sums8_ok (S := (sums8 Tryz.prog)) (by kernel_rfl) (n := 100000) (by kernel_rfl)
noncomputable def U8317_4 : Memo where
  n0 := 3
  args := [.ptr 0 0, .ptr 1 0]
  pat := [(0, .cells false true 1 [.fn 319 [], .nils]), (1, .cells true true 1 [.fn 319 [], .slice 2 0 3 none]), (2, .cells true true 1 [.int .i64 (.ofNat 0), .int .i64 (.ofNat 1), .int .i64 (.ofNat 3)])]
  n1 := 4
  res := .bool true
  out := [(0, .cells false true 1 [.fn 319 [], .slice 3 0 3 none]), (3, .cells false true 1 [.int .i64 (.ofNat 0), .int .i64 (.ofNat 1), .int .i64 (.ofNat 3)])]
theorem U8317_4_ok : MemoOK Tryz.prog 317 U8317_4 := memoRun_ok mixed sums8_ok (S := (sums8 Tryz.prog)) (by kernel_rfl) (n := 100000) (by kernel_rfl)
noncomputable def U8317_5 : Memo where
  n0 := 2
  args := [.ptr 0 0, .ptr 0 0]
  pat := [(0, .cells true true 1 [.fn 319 [], .slice 1 0 3 none]), (1, .cells true true 1 [.int .i64 (.ofNat 1), .int .i64 (.ofNat 2), .int .i64 (.ofNat 3)])]
  n1 := 2
  res := .bool false
  out := []
theorem U8317_5_ok : MemoOK Tryz.prog 317 U8317_5 := memoRun_ok mixed sums8_ok (S := (sums8 Tryz.prog)) (by kernel_rfl) (n := 100000) (by kernel_rfl)
noncomputable def U8317_6 : Memo where
  n0 := 4
  args := [.ptr 0 0, .ptr 1 0]
  pat := [(0, .cells true true 1 [.fn 319 [], .slice 2 0 1 none]), (1, .cells true true 1 [.fn 319 [], .slice 3 0 1 none]), (2, .cells true true 1 [.int .i64 (.ofNat 0)]), (3, .cells true true 1 [.int .i64 (.ofNat 0)])]
  n1 := 4
  res := .bool false
  out := []
theorem U8317_6_ok : MemoOK Tryz.prog 317 U8317_6 := memoRun_ok mixed sums8_ok (S := (sums8 Tryz.prog)) (by kernel_rfl) (n := 100000) (by kernel_rfl)
noncomputable def U8317_7 : Memo where
  n0 := 3
  args := [.ptr 0 0, .ptr 1 0]
  pat := [(0, .cells false true 1 [.fn 319 [], .nils]), (1, .cells true true 1 [.fn 319 [], .slice 2 0 1 none]), (2, .cells true true 1 [.int .i64 (.ofNat 1)])]
  n1 := 4
  res := .bool true
  out := [(0, .cells false true 1 [.fn 319 [], .slice 3 0 1 none]), (3, .cells false true 1 [.int .i64 (.ofNat 1)])]
theorem U8317_7_ok : MemoOK Tryz.prog 317 U8317_7 := memoRun_ok mixed sums8_ok (S := (sums8 Tryz.prog)) (by kernel_rfl) (n := 100000) (by kernel_rfl)
noncomputable def U8317_8 : Memo where
  n0 := 4
  args := [.ptr 0 0, .ptr 1 0]
  pat := [(0, .cells false true 1 [.fn 319 [], .slice 2 0 2 none]), (1, .cells true true 1 [.fn 319 [], .slice 3 0 3 none]), (2, .cells false true 1 [.int .i64 (.ofNat 1), .int .i64 (.ofNat 2)]), (3, .cells true true 1 [.int .i64 (.ofNat 1), .int .i64 (.ofNat 2), .int .i64 (.ofNat 3)])]
  n1 := 5
  res := .bool true
  out := [(0, .cells false true 1 [.fn 319 [], .slice 4 0 3 none]), (4, .cells false true 1 [.int .i64 (.ofNat 1), .int .i64 (.ofNat 2), .int .i64 (.ofNat 3)])]
theorem U8317_8_ok : MemoOK Tryz.prog 317 U8317_8 := memoRun_ok mixed sums8_ok (S := (sums8 Tryz.prog)) (by kernel_rfl) (n := 100000) (by kernel_rfl)
noncomputable def U8317_9 : Memo where
  n0 := 2
  args := [.ptr 0 0, .ptr 0 0]
  pat := [(0, .cells true true 1 [.fn 319 [], .slice 1 0 3 none]), (1, .cells true true 1 [.int .i64 (.ofNat 0), .int .i64 (.ofNat 1), .int .i64 (.ofNat 3)])]
  n1 := 2
  res := .bool false
  out := []
theorem U8317_9_ok : MemoOK Tryz.prog 317 U8317_9 := memoRun_ok mixed sums8_ok (S := (sums8 Tryz.prog)) (by kernel_rfl) (n := 100000) (by kernel_rfl)
noncomputable def U8317_10 : Memo where
  n0 := 2
  args := [.ptr 0 0, .ptr 0 0]
  pat := [(0, .cells true true 1 [.fn 319 [], .slice 1 0 2 none]), (1, .cells true true 1 [.int .i64 (.ofNat 1), .int .i64 (.ofNat 2)])]
  n1 := 2
  res := .bool false
  out := []
theorem U8317_10_ok : MemoOK Tryz.prog 317 U8317_10 := memoRun_ok mixed sums8_ok (S := (sums8 Tryz.prog)) (by kernel_rfl) (n := 100000) (by kernel_rfl)
noncomputable def U8317_11 : Memo where
  n0 := 4
  args := [.ptr 0 0, .ptr 1 0]
  pat := [(0, .cells true true 1 [.fn 319 [], .slice 2 0 2 none]), (1, .cells true true 1 [.fn 319 [], .slice 3 0 2 none]), (2, .cells true true 1 [.int .i64 (.ofNat 1), .int .i64 (.ofNat 2)]), (3, .cells true true 1 [.int .i64 (.ofNat 1), .int .i64 (.ofNat 2)])]
  n1 := 4
  res := .bool false
  out := []
theorem U8317_11_ok : MemoOK Tryz.prog 317 U8317_11 := memoRun_ok mixed sums8_ok (S := (sums8 Tryz.prog)) (by kernel_rfl) (n := 100000) (by kernel_rfl)
noncomputable def U8317_12 : Memo where
  n0 := 4
  args := [.ptr 0 0, .ptr 1 0]
  pat := [(0, .cells false true 1 [.fn 319 [], .slice 2 0 2 none]), (1, .cells true true 1 [.fn 319 [], .slice 3 0 3 none]), (2, .cells false true 1 [.int .i64 (.ofNat 0), .int .i64 (.ofNat 1)]), (3, .cells true true 1 [.int .i64 (.ofNat 0), .int .i64 (.ofNat 1), .int .i64 (.ofNat 3)])]
  n1 := 5
  res := .bool true
  out := [(0, .cells false true 1 [.fn 319 [], .slice 4 0 3 none]), (4, .cells false true 1 [.int .i64 (.ofNat 0), .int .i64 (.ofNat 1), .int .i64 (.ofNat 3)])]
theorem U8317_12_ok : MemoOK Tryz.prog 317 U8317_12 := memoRun_ok mixed sums8_ok (S := (sums8 Tryz.prog)) (by kernel_rfl) (n := 100000) (by kernel_rfl)
noncomputable def U8317_13 : Memo where
  n0 := 4
  args := [.ptr 0 0, .ptr 1 0]
  pat := [(0, .cells true true 1 [.fn 319 [], .slice 2 0 3 none]), (1, .cells true true 1 [.fn 319 [], .slice 3 0 2 none]), (2, .cells true true 1 [.int .i64 (.ofNat 1), .int .i64 (.ofNat 2), .int .i64 (.ofNat 3)]), (3, .cells true true 1 [.int .i64 (.ofNat 1), .int .i64 (.ofNat 2)])]
  n1 := 4
  res := .bool false
  out := []
theorem U8317_13_ok : MemoOK Tryz.prog 317 U8317_13 := memoRun_ok mixed sums8_ok (S := (sums8 Tryz.prog)) (by kernel_rfl) (n := 100000) (by kernel_rfl)
noncomputable def U8317_14 : Memo where
  n0 := 2
  args := [.ptr 0 0, .ptr 1 0]
  pat := [(0, .cells true true 1 [.fn 319 [], .nils]), (1, .cells true true 1 [.fn 319 [], .nils])]
  n1 := 2
  res := .bool false
  out := []
theorem U8317_14_ok : MemoOK Tryz.prog 317 U8317_14 := memoRun_ok mixed sums8_ok (S := (sums8 Tryz.prog)) (by kernel_rfl) (n := 100000) (by kernel_rfl)
noncomputable def U8317_15 : Memo where
  n0 := 3
  args := [.ptr 0 0, .ptr 1 0]
  pat := [(0, .cells false true 1 [.fn 319 [], .nils]), (1, .cells true true 1 [.fn 319 [], .slice 2 0 1 none]), (2, .cells true true 1 [.int .i64 (.ofNat 2)])]
  n1 := 4
  res := .bool true
  out := [(0, .cells false true 1 [.fn 319 [], .slice 3 0 1 none]), (3, .cells false true 1 [.int .i64 (.ofNat 2)])]
theorem U8317_15_ok : MemoOK Tryz.prog 317 U8317_15 := memoRun_ok mixed sums8_ok (S := (sums8 Tryz.prog)) (by kernel_rfl) (n := 100000) (by kernel_rfl)
noncomputable def U8317_16 : Memo where
  n0 := 3
  args := [.ptr 0 0, .ptr 1 0]
  pat := [(0, .cells true true 1 [.fn 319 [], .slice 2 0 3 none]), (1, .cells true true 1 [.fn 319 [], .nils]), (2, .cells true true 1 [.int .i64 (.ofNat 1), .int .i64 (.ofNat 2), .int .i64 (.ofNat 3)])]
  n1 := 3
  res := .bool false
  out := []
theorem U8317_16_ok : MemoOK Tryz.prog 317 U8317_16 := memoRun_ok mixed sums8_ok (S := (sums8 Tryz.prog)) (by kernel_rfl) (n := 100000) (by kernel_rfl)
noncomputable def U8317_17 : Memo where
  n0 := 2
  args := [.ptr 0 0, .ptr 0 0]
  pat := [(0, .cells true true 1 [.fn 319 [], .slice 1 0 2 none]), (1, .cells true true 1 [.int .i64 (.ofNat 0), .int .i64 (.ofNat 1)])]
  n1 := 2
  res := .bool false
  out := []
theorem U8317_17_ok : MemoOK Tryz.prog 317 U8317_17 := memoRun_ok mixed sums8_ok (S := (sums8 Tryz.prog)) (by kernel_rfl) (n := 100000) (by kernel_rfl)
noncomputable def U8317_18 : Memo where
  n0 := 3
  args := [.ptr 0 0, .ptr 1 0]
  pat := [(0, .cells false true 1 [.fn 319 [], .nils]), (1, .cells true true 1 [.fn 319 [], .slice 2 0 2 none]), (2, .cells true true 1 [.int .i64 (.ofNat 1), .int .i64 (.ofNat 2)])]
  n1 := 4
  res := .bool true
  out := [(0, .cells false true 1 [.fn 319 [], .slice 3 0 2 none]), (3, .cells false true 1 [.int .i64 (.ofNat 1), .int .i64 (.ofNat 2)])]
theorem U8317_18_ok : MemoOK Tryz.prog 317 U8317_18 := memoRun_ok mixed sums8_ok (S := (sums8 Tryz.prog)) (by kernel_rfl) (n := 100000) (by kernel_rfl)
noncomputable def U8317_19 : Memo where
  n0 := 4
  args := [.ptr 0 0, .ptr 1 0]
  pat := [(0, .cells true true 1 [.fn 319 [], .slice 2 0 3 none]), (1, .cells true true 1 [.fn 319 [], .slice 3 0 2 none]), (2, .cells true true 1 [.int .i64 (.ofNat 0), .int .i64 (.ofNat 1), .int .i64 (.ofNat 3)]), (3, .cells true true 1 [.int .i64 (.ofNat 0), .int .i64 (.ofNat 1)])]
  n1 := 4
  res := .bool false
  out := []
theorem U8317_19_ok : MemoOK Tryz.prog 317 U8317_19 := memoRun_ok mixed sums8_ok (S := (sums8 Tryz.prog)) (by kernel_rfl) (n := 100000) (by kernel_rfl)
noncomputable def U8317_20 : Memo where
  n0 := 4
  args := [.ptr 0 0, .ptr 1 0]
  pat := [(0, .cells true true 1 [.fn 319 [], .slice 2 0 2 none]), (1, .cells true true 1 [.fn 319 [], .slice 3 0 2 none]), (2, .cells true true 1 [.int .i64 (.ofNat 0), .int .i64 (.ofNat 1)]), (3, .cells true true 1 [.int .i64 (.ofNat 0), .int .i64 (.ofNat 1)])]
  n1 := 4
  res := .bool false
  out := []
theorem U8317_20_ok : MemoOK Tryz.prog 317 U8317_20 := memoRun_ok mixed sums8_ok (S := (sums8 Tryz.prog)) (by kernel_rfl) (n := 100000) (by kernel_rfl)
noncomputable def U8317_21 : Memo where
  n0 := 4
  args := [.ptr 0 0, .ptr 1 0]
  pat := [(0, .cells false true 1 [.fn 319 [], .slice 2 0 1 none]), (1, .cells true true 1 [.fn 319 [], .slice 3 0 1 none]), (2, .cells false true 1 [.int .i64 (.ofNat 3)]), (3, .cells true true 1 [.int .i64 (.ofNat 1)])]
  n1 := 5
  res := .bool true
  out := [(0, .cells false true 1 [.fn 319 [], .slice 4 0 2 none]), (4, .cells false true 1 [.int .i64 (.ofNat 1), .int .i64 (.ofNat 3)])]
theorem U8317_21_ok : MemoOK Tryz.prog 317 U8317_21 := memoRun_ok mixed sums8_ok (S := (sums8 Tryz.prog)) (by kernel_rfl) (n := 100000) (by kernel_rfl)
noncomputable def U8317_22 : Memo where
  n0 := 3
  args := [.ptr 0 0, .ptr 1 0]
  pat := [(0, .cells true true 1 [.fn 319 [], .slice 2 0 2 none]), (1, .cells true true 1 [.fn 319 [], .nils]), (2, .cells true true 1 [.int .i64 (.ofNat 1), .int .i64 (.ofNat 3)])]
  n1 := 3
  res := .bool false
  out := []
theorem U8317_22_ok : MemoOK Tryz.prog 317 U8317_22 := memoRun_ok mixed sums8_ok (S := (sums8 Tryz.prog)) (by kernel_rfl) (n := 100000) (by kernel_rfl)
noncomputable def U8317_23 : Memo where
  n0 := 2
  args := [.ptr 0 0, .ptr 0 0]
  pat := [(0, .cells true true 1 [.fn 319 [], .slice 1 0 2 none]), (1, .cells true true 1 [.int .i64 (.ofNat 1), .int .i64 (.ofNat 3)])]
  n1 := 2
  res := .bool false
  out := []
theorem U8317_23_ok : MemoOK Tryz.prog 317 U8317_23 := memoRun_ok mixed sums8_ok (S := (sums8 Tryz.prog)) (by kernel_rfl) (n := 100000) (by kernel_rfl)
noncomputable def U8317_24 : Memo where
  n0 := 4
  args := [.ptr 0 0, .ptr 1 0]
  pat := [(0, .cells false true 1 [.fn 319 [], .slice 2 0 2 none]), (1, .cells true true 1 [.fn 319 [], .slice 3 0 1 none]), (2, .cells false true 1 [.int .i64 (.ofNat 1), .int .i64 (.ofNat 3)]), (3, .cells true true 1 [.int .i64 (.ofNat 2)])]
  n1 := 5
  res := .bool true
  out := [(0, .cells false true 1 [.fn 319 [], .slice 4 0 3 none]), (4, .cells false true 1 [.int .i64 (.ofNat 1), .int .i64 (.ofNat 2), .int .i64 (.ofNat 3)])]
theorem U8317_24_ok : MemoOK Tryz.prog 317 U8317_24 := memoRun_ok mixed sums8_ok (S := (sums8 Tryz.prog)) (by kernel_rfl) (n := 100000) (by kernel_rfl)
noncomputable def U8317_25 : Memo where
  n0 := 4
  args := [.ptr 0 0, .ptr 1 0]
  pat := [(0, .cells true true 1 [.fn 319 [], .slice 2 0 3 none]), (1, .cells true true 1 [.fn 319 [], .slice 3 0 1 none]), (2, .cells true true 1 [.int .i64 (.ofNat 1), .int .i64 (.ofNat 2), .int .i64 (.ofNat 3)]), (3, .cells true true 1 [.int .i64 (.ofNat 1)])]
  n1 := 4
  res := .bool false
  out := []
theorem U8317_25_ok : MemoOK Tryz.prog 317 U8317_25 := memoRun_ok mixed sums8_ok (S := (sums8 Tryz.prog)) (by kernel_rfl) (n := 100000) (by kernel_rfl)
noncomputable def U8317_26 : Memo where
  n0 := 4
  args := [.ptr 0 0, .ptr 1 0]
  pat := [(0, .cells true true 1 [.fn 319 [], .slice 2 0 3 none]), (1, .cells true true 1 [.fn 319 [], .slice 3 0 1 none]), (2, .cells true true 1 [.int .i64 (.ofNat 1), .int .i64 (.ofNat 2), .int .i64 (.ofNat 3)]), (3, .cells true true 1 [.int .i64 (.ofNat 2)])]
  n1 := 4
  res := .bool false
  out := []
theorem U8317_26_ok : MemoOK Tryz.prog 317 U8317_26 := memoRun_ok mixed sums8_ok (S := (sums8 Tryz.prog)) (by kernel_rfl) (n := 100000) (by kernel_rfl)
noncomputable def U8317_27 : Memo where
  n0 := 4
  args := [.ptr 0 0, .ptr 1 0]
  pat := [(0, .cells true true 1 [.fn 319 [], .slice 2 0 1 none]), (1, .cells true true 1 [.fn 319 [], .slice 3 0 1 none]), (2, .cells true true 1 [.int .i64 (.ofNat 2)]), (3, .cells true true 1 [.int .i64 (.ofNat 2)])]
  n1 := 4
  res := .bool false
  out := []
theorem U8317_27_ok : MemoOK Tryz.prog 317 U8317_27 := memoRun_ok mixed sums8_ok (S := (sums8 Tryz.prog)) (by kernel_rfl) (n := 100000) (by kernel_rfl)
noncomputable def U8317_28 : Memo where
  n0 := 3
  args := [.ptr 0 0, .ptr 1 0]
  pat := [(0, .cells true true 1 [.fn 319 [], .slice 2 0 3 none]), (1, .cells true true 1 [.fn 319 [], .nils]), (2, .cells true true 1 [.int .i64 (.ofNat 0), .int .i64 (.ofNat 1), .int .i64 (.ofNat 3)])]
  n1 := 3
  res := .bool false
  out := []
theorem U8317_28_ok : MemoOK Tryz.prog 317 U8317_28 := memoRun_ok mixed sums8_ok (S := (sums8 Tryz.prog)) (by kernel_rfl) (n := 100000) (by kernel_rfl)
noncomputable def U8317_29 : Memo where
  n0 := 3
  args := [.ptr 0 0, .ptr 1 0]
  pat := [(0, .cells true true 1 [.fn 319 [], .slice 2 0 2 none]), (1, .cells true true 1 [.fn 319 [], .nils]), (2, .cells true true 1 [.int .i64 (.ofNat 1), .int .i64 (.ofNat 2)])]
  n1 := 3
  res := .bool false
  out := []
theorem U8317_29_ok : MemoOK Tryz.prog 317 U8317_29 := memoRun_ok mixed sums8_ok (S := (sums8 Tryz.prog)) (by kernel_rfl) (n := 100000) (by kernel_rfl)
noncomputable def U8317_30 : Memo where
  n0 := 4
  args := [.ptr 0 0, .ptr 1 0]
  pat := [(0, .cells false true 1 [.fn 319 [], .slice 2 0 1 none]), (1, .cells true true 1 [.fn 319 [], .slice 3 0 2 none]), (2, .cells false true 1 [.int .i64 (.ofNat 1)]), (3, .cells true true 1 [.int .i64 (.ofNat 1), .int .i64 (.ofNat 2)])]
  n1 := 5
  res := .bool true
  out := [(0, .cells false true 1 [.fn 319 [], .slice 4 0 2 none]), (4, .cells false true 1 [.int .i64 (.ofNat 1), .int .i64 (.ofNat 2)])]
theorem U8317_30_ok : MemoOK Tryz.prog 317 U8317_30 := memoRun_ok mixed sums8_ok (S := (sums8 Tryz.prog)) (by kernel_rfl) (n := 100000) (by kernel_rfl)
noncomputable def U8317_31 : Memo where
  n0 := 4
  args := [.ptr 0 0, .ptr 1 0]
  pat := [(0, .cells false true 1 [.fn 319 [], .slice 2 0 1 none]), (1, .cells true true 1 [.fn 319 [], .slice 3 0 1 none]), (2, .cells false true 1 [.int .i64 (.ofNat 3)]), (3, .cells true true 1 [.int .i64 (.ofNat 0)])]
  n1 := 5
  res := .bool true
  out := [(0, .cells false true 1 [.fn 319 [], .slice 4 0 2 none]), (4, .cells false true 1 [.int .i64 (.ofNat 0), .int .i64 (.ofNat 3)])]
theorem U8317_31_ok : MemoOK Tryz.prog 317 U8317_31 := memoRun_ok mixed sums8_ok (S := (sums8 Tryz.prog)) (by kernel_rfl) (n := 100000) (by kernel_rfl)
noncomputable def U8317_32 : Memo where
  n0 := 3
  args := [.ptr 0 0, .ptr 1 0]
  pat := [(0, .cells true true 1 [.fn 319 [], .slice 2 0 2 none]), (1, .cells true true 1 [.fn 319 [], .nils]), (2, .cells true true 1 [.int .i64 (.ofNat 0), .int .i64 (.ofNat 3)])]
  n1 := 3
  res := .bool false
  out := []
theorem U8317_32_ok : MemoOK Tryz.prog 317 U8317_32 := memoRun_ok mixed sums8_ok (S := (sums8 Tryz.prog)) (by kernel_rfl) (n := 100000) (by kernel_rfl)
noncomputable def U8317_33 : Memo where
  n0 := 2
  args := [.ptr 0 0, .ptr 0 0]
  pat := [(0, .cells true true 1 [.fn 319 [], .slice 1 0 2 none]), (1, .cells true true 1 [.int .i64 (.ofNat 0), .int .i64 (.ofNat 3)])]
  n1 := 2
  res := .bool false
  out := []
theorem U8317_33_ok : MemoOK Tryz.prog 317 U8317_33 := memoRun_ok mixed sums8_ok (S := (sums8 Tryz.prog)) (by kernel_rfl) (n := 100000) (by kernel_rfl)
noncomputable def U8317_34 : Memo where
  n0 := 4
  args := [.ptr 0 0, .ptr 1 0]
  pat := [(0, .cells false true 1 [.fn 319 [], .slice 2 0 2 none]), (1, .cells true true 1 [.fn 319 [], .slice 3 0 1 none]), (2, .cells false true 1 [.int .i64 (.ofNat 0), .int .i64 (.ofNat 3)]), (3, .cells true true 1 [.int .i64 (.ofNat 1)])]
  n1 := 5
  res := .bool true
  out := [(0, .cells false true 1 [.fn 319 [], .slice 4 0 3 none]), (4, .cells false true 1 [.int .i64 (.ofNat 0), .int .i64 (.ofNat 1), .int .i64 (.ofNat 3)])]
theorem U8317_34_ok : MemoOK Tryz.prog 317 U8317_34 := memoRun_ok mixed sums8_ok (S := (sums8 Tryz.prog)) (by kernel_rfl) (n := 100000) (by kernel_rfl)
noncomputable def U8317_35 : Memo where
  n0 := 4
  args := [.ptr 0 0, .ptr 1 0]
  pat := [(0, .cells true true 1 [.fn 319 [], .slice 2 0 3 none]), (1, .cells true true 1 [.fn 319 [], .slice 3 0 1 none]), (2, .cells true true 1 [.int .i64 (.ofNat 0), .int .i64 (.ofNat 1), .int .i64 (.ofNat 3)]), (3, .cells true true 1 [.int .i64 (.ofNat 0)])]
  n1 := 4
  res := .bool false
  out := []
theorem U8317_35_ok : MemoOK Tryz.prog 317 U8317_35 := memoRun_ok mixed sums8_ok (S := (sums8 Tryz.prog)) (by kernel_rfl) (n := 100000) (by kernel_rfl)
noncomputable def U8317_36 : Memo where
  n0 := 4
  args := [.ptr 0 0, .ptr 1 0]
  pat := [(0, .cells true true 1 [.fn 319 [], .slice 2 0 3 none]), (1, .cells true true 1 [.fn 319 [], .slice 3 0 1 none]), (2, .cells true true 1 [.int .i64 (.ofNat 0), .int .i64 (.ofNat 1), .int .i64 (.ofNat 3)]), (3, .cells true true 1 [.int .i64 (.ofNat 1)])]
  n1 := 4
  res := .bool false
  out := []
theorem U8317_36_ok : MemoOK Tryz.prog 317 U8317_36 := memoRun_ok mixed sums8_ok (S := (sums8 Tryz.prog)) (by kernel_rfl) (n := 100000) (by kernel_rfl)
noncomputable def U8317_37 : Memo where
  n0 := 4
  args := [.ptr 0 0, .ptr 1 0]
  pat := [(0, .cells false true 1 [.fn 319 [], .slice 2 0 1 none]), (1, .cells true true 1 [.fn 319 [], .slice 3 0 1 none]), (2, .cells false true 1 [.int .i64 (.ofNat 2)]), (3, .cells true true 1 [.int .i64 (.ofNat 1)])]
  n1 := 5
  res := .bool true
  out := [(0, .cells false true 1 [.fn 319 [], .slice 4 0 2 none]), (4, .cells false true 1 [.int .i64 (.ofNat 1), .int .i64 (.ofNat 2)])]
theorem U8317_37_ok : MemoOK Tryz.prog 317 U8317_37 := memoRun_ok mixed sums8_ok (S := (sums8 Tryz.prog)) (by kernel_rfl) (n := 100000) (by kernel_rfl)
noncomputable def U8317_38 : Memo where
  n0 := 4
  args := [.ptr 0 0, .ptr 1 0]
  pat := [(0, .cells true true 1 [.fn 319 [], .slice 2 0 2 none]), (1, .cells true true 1 [.fn 319 [], .slice 3 0 1 none]), (2, .cells true true 1 [.int .i64 (.ofNat 1), .int .i64 (.ofNat 2)]), (3, .cells true true 1 [.int .i64 (.ofNat 1)])]
  n1 := 4
  res := .bool false
  out := []
theorem U8317_38_ok : MemoOK Tryz.prog 317 U8317_38 := memoRun_ok mixed sums8_ok (S := (sums8 Tryz.prog)) (by kernel_rfl) (n := 100000) (by kernel_rfl)
noncomputable def U8317_39 : Memo where
  n0 := 2
  args := [.ptr 0 0, .ptr 0 0]
  pat := [(0, .cells true true 1 [.fn 319 [], .slice 1 0 1 none]), (1, .cells true true 1 [.int .i64 (.ofNat 1)])]
  n1 := 2
  res := .bool false
  out := []
theorem U8317_39_ok : MemoOK Tryz.prog 317 U8317_39 := memoRun_ok mixed sums8_ok (S := (sums8 Tryz.prog)) (by kernel_rfl) (n := 100000) (by kernel_rfl)
noncomputable def U8317 : List AV → AMem → OR := fun args m => memoTry U8317_0 args m (memoTry U8317_1 args m (memoTry U8317_2 args m (memoTry U8317_3 args m (memoTry U8317_4 args m (memoTry U8317_5 args m (memoTry U8317_6 args m (memoTry U8317_7 args m (memoTry U8317_8 args m (memoTry U8317_9 args m (memoTry U8317_10 args m (memoTry U8317_11 args m (memoTry U8317_12 args m (memoTry U8317_13 args m (memoTry U8317_14 args m (memoTry U8317_15 args m (memoTry U8317_16 args m (memoTry U8317_17 args m (memoTry U8317_18 args m (memoTry U8317_19 args m (memoTry U8317_20 args m (memoTry U8317_21 args m (memoTry U8317_22 args m (memoTry U8317_23 args m (memoTry U8317_24 args m (memoTry U8317_25 args m (memoTry U8317_26 args m (memoTry U8317_27 args m (memoTry U8317_28 args m (memoTry U8317_29 args m (memoTry U8317_30 args m (memoTry U8317_31 args m (memoTry U8317_32 args m (memoTry U8317_33 args m (memoTry U8317_34 args m (memoTry U8317_35 args m (memoTry U8317_36 args m (memoTry U8317_37 args m (memoTry U8317_38 args m (memoTry U8317_39 args m (call Tryz.prog (sums8 Tryz.prog) 100000 317 args m))))))))))))))))))))))))))))))))))))))))
theorem U8317_ok : SumOK Tryz.prog 317 U8317 := memoSum_ok U8317_0_ok (memoSum_ok U8317_1_ok (memoSum_ok U8317_2_ok (memoSum_ok U8317_3_ok (memoSum_ok U8317_4_ok (memoSum_ok U8317_5_ok (memoSum_ok U8317_6_ok (memoSum_ok U8317_7_ok (memoSum_ok U8317_8_ok (memoSum_ok U8317_9_ok (memoSum_ok U8317_10_ok (memoSum_ok U8317_11_ok (memoSum_ok U8317_12_ok (memoSum_ok U8317_13_ok (memoSum_ok U8317_14_ok (memoSum_ok U8317_15_ok (memoSum_ok U8317_16_ok (memoSum_ok U8317_17_ok (memoSum_ok U8317_18_ok (memoSum_ok U8317_19_ok (memoSum_ok U8317_20_ok (memoSum_ok U8317_21_ok (memoSum_ok U8317_22_ok (memoSum_ok U8317_23_ok (memoSum_ok U8317_24_ok (memoSum_ok U8317_25_ok (memoSum_ok U8317_26_ok (memoSum_ok U8317_27_ok (memoSum_ok U8317_28_ok (memoSum_ok U8317_29_ok (memoSum_ok U8317_30_ok (memoSum_ok U8317_31_ok (memoSum_ok U8317_32_ok (memoSum_ok U8317_33_ok (memoSum_ok U8317_34_ok (memoSum_ok U8317_35_ok (memoSum_ok U8317_36_ok (memoSum_ok U8317_37_ok (memoSum_ok U8317_38_ok (memoSum_ok U8317_39_ok (fun args m v m1 h => call_sound mixed sums8_ok 100000 317 args m v m1 h))))))))))))))))))))))))))))))))))))))))
end Go.Ev
end
section
namespace Go.Ev
open Go.Proofs
noncomputable def q8U : Sums := addS 317 U8317 ((sums8 Tryz.prog))
theorem q8U_ok : SumsOK Tryz.prog q8U := addS_ok U8317_ok (sums8_ok)
end Go.Ev
end
section
namespace Go.Ev
open Go.Proofs
noncomputable def F8314_0 : Memo where
  n0 := 5
  args := [.ptr 0 0, .map 1]
  pat := [(0, .cells true true 1 [.any, .any, .any, .any, .any, .any, .any, .any, .any, .any, .map 2, .any, .any, .any]), (1, .map true 0 []), (2, .map true 1 [⟨.agg [.int .i64 (.ofNat 0), .int .i64 (.ofNat 2)], .ptr 3 0, none⟩]), (3, .cells true true 1 [.fn 319 [], .slice 4 0 1 none]), (4, .cells true true 1 [.int .i64 (.ofNat 1)])]
  n1 := 5
  res := .tup []
  out := []
theorem F8314_0_ok : MemoOK Tryz.prog 314 F8314_0 := memoRunN_ok mixed q8U_ok (S := q8U) (N := fun _ => false) (n := 100000) (hi := 1000000) (by kernel_rfl)
noncomputable def F8314_1 : Memo where
  n0 := 11
  args := [.ptr 0 0, .map 1]
  pat := [(0, .cells true true 1 [.any, .any, .any, .any, .any, .any, .any, .any, .any, .any, .map 2, .any, .any, .any]), (1, .map true 2 [⟨.agg [.int .i64 (.ofNat 3), .int .i64 (.ofNat 4)], .slice 3 0 3 none, none⟩, ⟨.agg [.int .i64 (.ofNat 4), .int .i64 (.ofNat 4)], .slice 4 0 3 none, none⟩]), (2, .map true 3 [⟨.agg [.int .i64 (.ofNat 0), .int .i64 (.ofNat 4)], .ptr 5 0, none⟩, ⟨.agg [.int .i64 (.ofNat 3), .int .i64 (.ofNat 4)], .ptr 6 0, none⟩, ⟨.agg [.int .i64 (.ofNat 4), .int .i64 (.ofNat 4)], .ptr 7 0, none⟩]), (3, .cells true true 2 [.int .i64 (.ofNat 0), .int .i64 (.ofNat 4), .int .i64 (.ofNat 3), .int .i64 (.ofNat 4), .int .i64 (.ofNat 4), .int .i64 (.ofNat 4)]), (4, .cells true true 2 [.int .i64 (.ofNat 0), .int .i64 (.ofNat 4), .int .i64 (.ofNat 3), .int .i64 (.ofNat 4), .int .i64 (.ofNat 4), .int .i64 (.ofNat 4)]), (5, .cells true true 1 [.fn 319 [], .slice 8 0 3 none]), (6, .cells false true 1 [.fn 319 [], .slice 9 0 2 none]), (7, .cells false true 1 [.fn 319 [], .slice 10 0 2 none]), (8, .cells true true 1 [.int .i64 (.ofNat 1), .int .i64 (.ofNat 2), .int .i64 (.ofNat 3)]), (9, .cells false true 1 [.int .i64 (.ofNat 1), .int .i64 (.ofNat 2)]), (10, .cells false true 1 [.int .i64 (.ofNat 1), .int .i64 (.ofNat 2)])]
  n1 := 13
  res := .tup []
  out := [(6, .cells false true 1 [.fn 319 [], .slice 11 0 3 none]), (7, .cells false true 1 [.fn 319 [], .slice 12 0 3 none]), (11, .cells false true 1 [.int .i64 (.ofNat 1), .int .i64 (.ofNat 2), .int .i64 (.ofNat 3)]), (12, .cells false true 1 [.int .i64 (.ofNat 1), .int .i64 (.ofNat 2), .int .i64 (.ofNat 3)])]
theorem F8314_1_ok : MemoOK Tryz.prog 314 F8314_1 := memoRunN_ok mixed q8U_ok (S := q8U) (N := fun _ => false) (n := 100000) (hi := 1000000) (by kernel_rfl)
noncomputable def F8314_2 : Memo where
  n0 := 11
  args := [.ptr 0 0, .map 1]
  pat := [(0, .cells true true 1 [.any, .any, .any, .any, .any, .any, .any, .any, .any, .any, .map 2, .any, .any, .any]), (1, .map true 2 [⟨.agg [.int .i64 (.ofNat 3), .int .i64 (.ofNat 4)], .slice 3 0 3 none, none⟩, ⟨.agg [.int .i64 (.ofNat 4), .int .i64 (.ofNat 4)], .slice 4 0 3 none, none⟩]), (2, .map true 3 [⟨.agg [.int .i64 (.ofNat 0), .int .i64 (.ofNat 4)], .ptr 5 0, none⟩, ⟨.agg [.int .i64 (.ofNat 3), .int .i64 (.ofNat 4)], .ptr 6 0, none⟩, ⟨.agg [.int .i64 (.ofNat 4), .int .i64 (.ofNat 4)], .ptr 7 0, none⟩]), (3, .cells true true 2 [.int .i64 (.ofNat 0), .int .i64 (.ofNat 4), .int .i64 (.ofNat 4), .int .i64 (.ofNat 4), .int .i64 (.ofNat 3), .int .i64 (.ofNat 4)]), (4, .cells true true 2 [.int .i64 (.ofNat 0), .int .i64 (.ofNat 4), .int .i64 (.ofNat 4), .int .i64 (.ofNat 4), .int .i64 (.ofNat 3), .int .i64 (.ofNat 4)]), (5, .cells true true 1 [.fn 319 [], .slice 8 0 3 none]), (6, .cells false true 1 [.fn 319 [], .slice 9 0 2 none]), (7, .cells false true 1 [.fn 319 [], .slice 10 0 2 none]), (8, .cells true true 1 [.int .i64 (.ofNat 1), .int .i64 (.ofNat 2), .int .i64 (.ofNat 3)]), (9, .cells false true 1 [.int .i64 (.ofNat 1), .int .i64 (.ofNat 2)]), (10, .cells false true 1 [.int .i64 (.ofNat 1), .int .i64 (.ofNat 2)])]
  n1 := 13
  res := .tup []
  out := [(6, .cells false true 1 [.fn 319 [], .slice 11 0 3 none]), (7, .cells false true 1 [.fn 319 [], .slice 12 0 3 none]), (11, .cells false true 1 [.int .i64 (.ofNat 1), .int .i64 (.ofNat 2), .int .i64 (.ofNat 3)]), (12, .cells false true 1 [.int .i64 (.ofNat 1), .int .i64 (.ofNat 2), .int .i64 (.ofNat 3)])]
theorem F8314_2_ok : MemoOK Tryz.prog 314 F8314_2 := memoRunN_ok mixed q8U_ok (S := q8U) (N := fun _ => false) (n := 100000) (hi := 1000000) (by kernel_rfl)
noncomputable def F8314_3 : Memo where
  n0 := 11
  args := [.ptr 0 0, .map 1]
  pat := [(0, .cells true true 1 [.any, .any, .any, .any, .any, .any, .any, .any, .any, .any, .map 2, .any, .any, .any]), (1, .map true 2 [⟨.agg [.int .i64 (.ofNat 3), .int .i64 (.ofNat 4)], .slice 3 0 3 none, none⟩, ⟨.agg [.int .i64 (.ofNat 4), .int .i64 (.ofNat 4)], .slice 4 0 3 none, none⟩]), (2, .map true 3 [⟨.agg [.int .i64 (.ofNat 0), .int .i64 (.ofNat 4)], .ptr 5 0, none⟩, ⟨.agg [.int .i64 (.ofNat 3), .int .i64 (.ofNat 4)], .ptr 6 0, none⟩, ⟨.agg [.int .i64 (.ofNat 4), .int .i64 (.ofNat 4)], .ptr 7 0, none⟩]), (3, .cells true true 2 [.int .i64 (.ofNat 3), .int .i64 (.ofNat 4), .int .i64 (.ofNat 0), .int .i64 (.ofNat 4), .int .i64 (.ofNat 4), .int .i64 (.ofNat 4)]), (4, .cells true true 2 [.int .i64 (.ofNat 3), .int .i64 (.ofNat 4), .int .i64 (.ofNat 0), .int .i64 (.ofNat 4), .int .i64 (.ofNat 4), .int .i64 (.ofNat 4)]), (5, .cells true true 1 [.fn 319 [], .slice 8 0 3 none]), (6, .cells false true 1 [.fn 319 [], .slice 9 0 2 none]), (7, .cells false true 1 [.fn 319 [], .slice 10 0 2 none]), (8, .cells true true 1 [.int .i64 (.ofNat 1), .int .i64 (.ofNat 2), .int .i64 (.ofNat 3)]), (9, .cells false true 1 [.int .i64 (.ofNat 1), .int .i64 (.ofNat 2)]), (10, .cells false true 1 [.int .i64 (.ofNat 1), .int .i64 (.ofNat 2)])]
  n1 := 13
  res := .tup []
  out := [(6, .cells false true 1 [.fn 319 [], .slice 11 0 3 none]), (7, .cells false true 1 [.fn 319 [], .slice 12 0 3 none]), (11, .cells false true 1 [.int .i64 (.ofNat 1), .int .i64 (.ofNat 2), .int .i64 (.ofNat 3)]), (12, .cells false true 1 [.int .i64 (.ofNat 1), .int .i64 (.ofNat 2), .int .i64 (.ofNat 3)])]
theorem F8314_3_ok : MemoOK Tryz.prog 314 F8314_3 := memoRunN_ok mixed q8U_ok (S := q8U) (N := fun _ => false) (n := 100000) (hi := 1000000) (by kernel_rfl)
noncomputable def F8314_4 : Memo where
  n0 := 11
  args := [.ptr 0 0, .map 1]
  pat := [(0, .cells true true 1 [.any, .any, .any, .any, .any, .any, .any, .any, .any, .any, .map 2, .any, .any, .any]), (1, .map true 2 [⟨.agg [.int .i64 (.ofNat 3), .int .i64 (.ofNat 4)], .slice 3 0 3 none, none⟩, ⟨.agg [.int .i64 (.ofNat 4), .int .i64 (.ofNat 4)], .slice 4 0 3 none, none⟩]), (2, .map true 3 [⟨.agg [.int .i64 (.ofNat 0), .int .i64 (.ofNat 4)], .ptr 5 0, none⟩, ⟨.agg [.int .i64 (.ofNat 3), .int .i64 (.ofNat 4)], .ptr 6 0, none⟩, ⟨.agg [.int .i64 (.ofNat 4), .int .i64 (.ofNat 4)], .ptr 7 0, none⟩]), (3, .cells true true 2 [.int .i64 (.ofNat 3), .int .i64 (.ofNat 4), .int .i64 (.ofNat 4), .int .i64 (.ofNat 4), .int .i64 (.ofNat 0), .int .i64 (.ofNat 4)]), (4, .cells true true 2 [.int .i64 (.ofNat 3), .int .i64 (.ofNat 4), .int .i64 (.ofNat 4), .int .i64 (.ofNat 4), .int .i64 (.ofNat 0), .int .i64 (.ofNat 4)]), (5, .cells true true 1 [.fn 319 [], .slice 8 0 3 none]), (6, .cells false true 1 [.fn 319 [], .slice 9 0 2 none]), (7, .cells false true 1 [.fn 319 [], .slice 10 0 2 none]), (8, .cells true true 1 [.int .i64 (.ofNat 1), .int .i64 (.ofNat 2), .int .i64 (.ofNat 3)]), (9, .cells false true 1 [.int .i64 (.ofNat 1), .int .i64 (.ofNat 2)]), (10, .cells false true 1 [.int .i64 (.ofNat 1), .int .i64 (.ofNat 2)])]
  n1 := 13
  res := .tup []
  out := [(6, .cells false true 1 [.fn 319 [], .slice 11 0 3 none]), (7, .cells false true 1 [.fn 319 [], .slice 12 0 3 none]), (11, .cells false true 1 [.int .i64 (.ofNat 1), .int .i64 (.ofNat 2), .int .i64 (.ofNat 3)]), (12, .cells false true 1 [.int .i64 (.ofNat 1), .int .i64 (.ofNat 2), .int .i64 (.ofNat 3)])]
theorem F8314_4_ok : MemoOK Tryz.prog 314 F8314_4 := memoRunN_ok mixed q8U_ok (S := q8U) (N := fun _ => false) (n := 100000) (hi := 1000000) (by kernel_rfl)
noncomputable def F8314_5 : Memo where
  n0 := 11
  args := [.ptr 0 0, .map 1]
  pat := [(0, .cells true true 1 [.any, .any, .any, .any, .any, .any, .any, .any, .any, .any, .map 2, .any, .any, .any]), (1, .map true 2 [⟨.agg [.int .i64 (.ofNat 3), .int .i64 (.ofNat 4)], .slice 3 0 3 none, none⟩, ⟨.agg [.int .i64 (.ofNat 4), .int .i64 (.ofNat 4)], .slice 4 0 3 none, none⟩]), (2, .map true 3 [⟨.agg [.int .i64 (.ofNat 0), .int .i64 (.ofNat 4)], .ptr 5 0, none⟩, ⟨.agg [.int .i64 (.ofNat 3), .int .i64 (.ofNat 4)], .ptr 6 0, none⟩, ⟨.agg [.int .i64 (.ofNat 4), .int .i64 (.ofNat 4)], .ptr 7 0, none⟩]), (3, .cells true true 2 [.int .i64 (.ofNat 4), .int .i64 (.ofNat 4), .int .i64 (.ofNat 0), .int .i64 (.ofNat 4), .int .i64 (.ofNat 3), .int .i64 (.ofNat 4)]), (4, .cells true true 2 [.int .i64 (.ofNat 4), .int .i64 (.ofNat 4), .int .i64 (.ofNat 0), .int .i64 (.ofNat 4), .int .i64 (.ofNat 3), .int .i64 (.ofNat 4)]), (5, .cells true true 1 [.fn 319 [], .slice 8 0 3 none]), (6, .cells false true 1 [.fn 319 [], .slice 9 0 2 none]), (7, .cells false true 1 [.fn 319 [], .slice 10 0 2 none]), (8, .cells true true 1 [.int .i64 (.ofNat 1), .int .i64 (.ofNat 2), .int .i64 (.ofNat 3)]), (9, .cells false true 1 [.int .i64 (.ofNat 1), .int .i64 (.ofNat 2)]), (10, .cells false true 1 [.int .i64 (.ofNat 1), .int .i64 (.ofNat 2)])]
  n1 := 13
  res := .tup []
  out := [(6, .cells false true 1 [.fn 319 [], .slice 11 0 3 none]), (7, .cells false true 1 [.fn 319 [], .slice 12 0 3 none]), (11, .cells false true 1 [.int .i64 (.ofNat 1), .int .i64 (.ofNat 2), .int .i64 (.ofNat 3)]), (12, .cells false true 1 [.int .i64 (.ofNat 1), .int .i64 (.ofNat 2), .int .i64 (.ofNat 3)])]
theorem F8314_5_ok : MemoOK Tryz.prog 314 F8314_5 := memoRunN_ok mixed q8U_ok (S := q8U) (N := fun _ => false) (n := 100000) (hi := 1000000) (by kernel_rfl)
noncomputable def F8314_6 : Memo where
  n0 := 11
  args := [.ptr 0 0, .map 1]
  pat := [(0, .cells true true 1 [.any, .any, .any, .any, .any, .any, .any, .any, .any, .any, .map 2, .any, .any, .any]), (1, .map true 2 [⟨.agg [.int .i64 (.ofNat 3), .int .i64 (.ofNat 4)], .slice 3 0 3 none, none⟩, ⟨.agg [.int .i64 (.ofNat 4), .int .i64 (.ofNat 4)], .slice 4 0 3 none, none⟩]), (2, .map true 3 [⟨.agg [.int .i64 (.ofNat 0), .int .i64 (.ofNat 4)], .ptr 5 0, none⟩, ⟨.agg [.int .i64 (.ofNat 3), .int .i64 (.ofNat 4)], .ptr 6 0, none⟩, ⟨.agg [.int .i64 (.ofNat 4), .int .i64 (.ofNat 4)], .ptr 7 0, none⟩]), (3, .cells true true 2 [.int .i64 (.ofNat 4), .int .i64 (.ofNat 4), .int .i64 (.ofNat 3), .int .i64 (.ofNat 4), .int .i64 (.ofNat 0), .int .i64 (.ofNat 4)]), (4, .cells true true 2 [.int .i64 (.ofNat 4), .int .i64 (.ofNat 4), .int .i64 (.ofNat 3), .int .i64 (.ofNat 4), .int .i64 (.ofNat 0), .int .i64 (.ofNat 4)]), (5, .cells true true 1 [.fn 319 [], .slice 8 0 3 none]), (6, .cells false true 1 [.fn 319 [], .slice 9 0 2 none]), (7, .cells false true 1 [.fn 319 [], .slice 10 0 2 none]), (8, .cells true true 1 [.int .i64 (.ofNat 1), .int .i64 (.ofNat 2), .int .i64 (.ofNat 3)]), (9, .cells false true 1 [.int .i64 (.ofNat 1), .int .i64 (.ofNat 2)]), (10, .cells false true 1 [.int .i64 (.ofNat 1), .int .i64 (.ofNat 2)])]
  n1 := 13
  res := .tup []
  out := [(6, .cells false true 1 [.fn 319 [], .slice 11 0 3 none]), (7, .cells false true 1 [.fn 319 [], .slice 12 0 3 none]), (11, .cells false true 1 [.int .i64 (.ofNat 1), .int .i64 (.ofNat 2), .int .i64 (.ofNat 3)]), (12, .cells false true 1 [.int .i64 (.ofNat 1), .int .i64 (.ofNat 2), .int .i64 (.ofNat 3)])]
theorem F8314_6_ok : MemoOK Tryz.prog 314 F8314_6 := memoRunN_ok mixed q8U_ok (S := q8U) (N := fun _ => false) (n := 100000) (hi := 1000000) (by kernel_rfl)
noncomputable def F8314_7 : Memo where
  n0 := 11
  args := [.ptr 0 0, .map 1]
  pat := [(0, .cells true true 1 [.any, .any, .any, .any, .any, .any, .any, .any, .any, .any, .map 2, .any, .any, .any]), (1, .map true 2 [⟨.agg [.int .i64 (.ofNat 3), .int .i64 (.ofNat 4)], .slice 3 0 3 none, none⟩, ⟨.agg [.int .i64 (.ofNat 4), .int .i64 (.ofNat 4)], .slice 4 0 3 none, none⟩]), (2, .map true 3 [⟨.agg [.int .i64 (.ofNat 0), .int .i64 (.ofNat 4)], .ptr 5 0, none⟩, ⟨.agg [.int .i64 (.ofNat 3), .int .i64 (.ofNat 4)], .ptr 6 0, none⟩, ⟨.agg [.int .i64 (.ofNat 4), .int .i64 (.ofNat 4)], .ptr 7 0, none⟩]), (3, .cells true true 2 [.int .i64 (.ofNat 0), .int .i64 (.ofNat 4), .int .i64 (.ofNat 3), .int .i64 (.ofNat 4), .int .i64 (.ofNat 4), .int .i64 (.ofNat 4)]), (4, .cells true true 2 [.int .i64 (.ofNat 0), .int .i64 (.ofNat 4), .int .i64 (.ofNat 3), .int .i64 (.ofNat 4), .int .i64 (.ofNat 4), .int .i64 (.ofNat 4)]), (5, .cells true true 1 [.fn 319 [], .slice 8 0 3 none]), (6, .cells false true 1 [.fn 319 [], .slice 9 0 2 none]), (7, .cells false true 1 [.fn 319 [], .slice 10 0 2 none]), (8, .cells true true 1 [.int .i64 (.ofNat 0), .int .i64 (.ofNat 1), .int .i64 (.ofNat 3)]), (9, .cells false true 1 [.int .i64 (.ofNat 0), .int .i64 (.ofNat 1)]), (10, .cells false true 1 [.int .i64 (.ofNat 0), .int .i64 (.ofNat 1)])]
  n1 := 13
  res := .tup []
  out := [(6, .cells false true 1 [.fn 319 [], .slice 11 0 3 none]), (7, .cells false true 1 [.fn 319 [], .slice 12 0 3 none]), (11, .cells false true 1 [.int .i64 (.ofNat 0), .int .i64 (.ofNat 1), .int .i64 (.ofNat 3)]), (12, .cells false true 1 [.int .i64 (.ofNat 0), .int .i64 (.ofNat 1), .int .i64 (.ofNat 3)])]
theorem F8314_7_ok : MemoOK Tryz.prog 314 F8314_7 := memoRunN_ok mixed q8U_ok (S := q8U) (N := fun _ => false) (n := 100000) (hi := 1000000) (by kernel_rfl)
noncomputable def F8314_8 : Memo where
  n0 := 11
  args := [.ptr 0 0, .map 1]
  pat := [(0, .cells true true 1 [.any, .any, .any, .any, .any, .any, .any, .any, .any, .any, .map 2, .any, .any, .any]), (1, .map true 2 [⟨.agg [.int .i64 (.ofNat 3), .int .i64 (.ofNat 4)], .slice 3 0 3 none, none⟩, ⟨.agg [.int .i64 (.ofNat 4), .int .i64 (.ofNat 4)], .slice 4 0 3 none, none⟩]), (2, .map true 3 [⟨.agg [.int .i64 (.ofNat 0), .int .i64 (.ofNat 4)], .ptr 5 0, none⟩, ⟨.agg [.int .i64 (.ofNat 3), .int .i64 (.ofNat 4)], .ptr 6 0, none⟩, ⟨.agg [.int .i64 (.ofNat 4), .int .i64 (.ofNat 4)], .ptr 7 0, none⟩]), (3, .cells true true 2 [.int .i64 (.ofNat 0), .int .i64 (.ofNat 4), .int .i64 (.ofNat 4), .int .i64 (.ofNat 4), .int .i64 (.ofNat 3), .int .i64 (.ofNat 4)]), (4, .cells true true 2 [.int .i64 (.ofNat 0), .int .i64 (.ofNat 4), .int .i64 (.ofNat 4), .int .i64 (.ofNat 4), .int .i64 (.ofNat 3), .int .i64 (.ofNat 4)]), (5, .cells true true 1 [.fn 319 [], .slice 8 0 3 none]), (6, .cells false true 1 [.fn 319 [], .slice 9 0 2 none]), (7, .cells false true 1 [.fn 319 [], .slice 10 0 2 none]), (8, .cells true true 1 [.int .i64 (.ofNat 0), .int .i64 (.ofNat 1), .int .i64 (.ofNat 3)]), (9, .cells false true 1 [.int .i64 (.ofNat 0), .int .i64 (.ofNat 1)]), (10, .cells false true 1 [.int .i64 (.ofNat 0), .int .i64 (.ofNat 1)])]
  n1 := 13
  res := .tup []
  out := [(6, .cells false true 1 [.fn 319 [], .slice 11 0 3 none]), (7, .cells false true 1 [.fn 319 [], .slice 12 0 3 none]), (11, .cells false true 1 [.int .i64 (.ofNat 0), .int .i64 (.ofNat 1), .int .i64 (.ofNat 3)]), (12, .cells false true 1 [.int .i64 (.ofNat 0), .int .i64 (.ofNat 1), .int .i64 (.ofNat 3)])]
theorem F8314_8_ok : MemoOK Tryz.prog 314 F8314_8 := memoRunN_ok mixed q8U_ok (S := q8U) (N := fun _ => false) (n := 100000) (hi := 1000000) (by kernel_rfl)
noncomputable def F8314_9 : Memo where
  n0 := 11
  args := [.ptr 0 0, .map 1]
  pat := [(0, .cells true true 1 [.any, .any, .any, .any, .any, .any, .any, .any, .any, .any, .map 2, .any, .any, .any]), (1, .map true 2 [⟨.agg [.int .i64 (.ofNat 3), .int .i64 (.ofNat 4)], .slice 3 0 3 none, none⟩, ⟨.agg [.int .i64 (.ofNat 4), .int .i64 (.ofNat 4)], .slice 4 0 3 none, none⟩]), (2, .map true 3 [⟨.agg [.int .i64 (.ofNat 0), .int .i64 (.ofNat 4)], .ptr 5 0, none⟩, ⟨.agg [.int .i64 (.ofNat 3), .int .i64 (.ofNat 4)], .ptr 6 0, none⟩, ⟨.agg [.int .i64 (.ofNat 4), .int .i64 (.ofNat 4)], .ptr 7 0, none⟩]), (3, .cells true true 2 [.int .i64 (.ofNat 3), .int .i64 (.ofNat 4), .int .i64 (.ofNat 0), .int .i64 (.ofNat 4), .int .i64 (.ofNat 4), .int .i64 (.ofNat 4)]), (4, .cells true true 2 [.int .i64 (.ofNat 3), .int .i64 (.ofNat 4), .int .i64 (.ofNat 0), .int .i64 (.ofNat 4), .int .i64 (.ofNat 4), .int .i64 (.ofNat 4)]), (5, .cells true true 1 [.fn 319 [], .slice 8 0 3 none]), (6, .cells false true 1 [.fn 319 [], .slice 9 0 2 none]), (7, .cells false true 1 [.fn 319 [], .slice 10 0 2 none]), (8, .cells true true 1 [.int .i64 (.ofNat 0), .int .i64 (.ofNat 1), .int .i64 (.ofNat 3)]), (9, .cells false true 1 [.int .i64 (.ofNat 0), .int .i64 (.ofNat 1)]), (10, .cells false true 1 [.int .i64 (.ofNat 0), .int .i64 (.ofNat 1)])]
  n1 := 13
  res := .tup []
  out := [(6, .cells false true 1 [.fn 319 [], .slice 11 0 3 none]), (7, .cells false true 1 [.fn 319 [], .slice 12 0 3 none]), (11, .cells false true 1 [.int .i64 (.ofNat 0), .int .i64 (.ofNat 1), .int .i64 (.ofNat 3)]), (12, .cells false true 1 [.int .i64 (.ofNat 0), .int .i64 (.ofNat 1), .int .i64 (.ofNat 3)])]
theorem F8314_9_ok : MemoOK Tryz.prog 314 F8314_9 := memoRunN_ok mixed q8U_ok (S := q8U) (N := fun _ => false) (n := 100000) (hi := 1000000) (by kernel_rfl)
noncomputable def F8314_10 : Memo where
  n0 := 11
  args := [.ptr 0 0, .map 1]
  pat := [(0, .cells true true 1 [.any, .any, .any, .any, .any, .any, .any, .any, .any, .any, .map 2, .any, .any, .any]), (1, .map true 2 [⟨.agg [.int .i64 (.ofNat 3), .int .i64 (.ofNat 4)], .slice 3 0 3 none, none⟩, ⟨.agg [.int .i64 (.ofNat 4), .int .i64 (.ofNat 4)], .slice 4 0 3 none, none⟩]), (2, .map true 3 [⟨.agg [.int .i64 (.ofNat 0), .int .i64 (.ofNat 4)], .ptr 5 0, none⟩, ⟨.agg [.int .i64 (.ofNat 3), .int .i64 (.ofNat 4)], .ptr 6 0, none⟩, ⟨.agg [.int .i64 (.ofNat 4), .int .i64 (.ofNat 4)], .ptr 7 0, none⟩]), (3, .cells true true 2 [.int .i64 (.ofNat 3), .int .i64 (.ofNat 4), .int .i64 (.ofNat 4), .int .i64 (.ofNat 4), .int .i64 (.ofNat 0), .int .i64 (.ofNat 4)]), (4, .cells true true 2 [.int .i64 (.ofNat 3), .int .i64 (.ofNat 4), .int .i64 (.ofNat 4), .int .i64 (.ofNat 4), .int .i64 (.ofNat 0), .int .i64 (.ofNat 4)]), (5, .cells true true 1 [.fn 319 [], .slice 8 0 3 none]), (6, .cells false true 1 [.fn 319 [], .slice 9 0 2 none]), (7, .cells false true 1 [.fn 319 [], .slice 10 0 2 none]), (8, .cells true true 1 [.int .i64 (.ofNat 0), .int .i64 (.ofNat 1), .int .i64 (.ofNat 3)]), (9, .cells false true 1 [.int .i64 (.ofNat 0), .int .i64 (.ofNat 1)]), (10, .cells false true 1 [.int .i64 (.ofNat 0), .int .i64 (.ofNat 1)])]
  n1 := 13
  res := .tup []
  out := [(6, .cells false true 1 [.fn 319 [], .slice 11 0 3 none]), (7, .cells false true 1 [.fn 319 [], .slice 12 0 3 none]), (11, .cells false true 1 [.int .i64 (.ofNat 0), .int .i64 (.ofNat 1), .int .i64 (.ofNat 3)]), (12, .cells false true 1 [.int .i64 (.ofNat 0), .int .i64 (.ofNat 1), .int .i64 (.ofNat 3)])]
theorem F8314_10_ok : MemoOK Tryz.prog 314 F8314_10 := memoRunN_ok mixed q8U_ok (S := q8U) (N := fun _ => false) (n := 100000) (hi := 1000000) (by kernel_rfl)
noncomputable def F8314_11 : Memo where
  n0 := 11
  args := [.ptr 0 0, .map 1]
  pat := [(0, .cells true true 1 [.any, .any, .any, .any, .any, .any, .any, .any, .any, .any, .map 2, .any, .any, .any]), (1, .map true 2 [⟨.agg [.int .i64 (.ofNat 3), .int .i64 (.ofNat 4)], .slice 3 0 3 none, none⟩, ⟨.agg [.int .i64 (.ofNat 4), .int .i64 (.ofNat 4)], .slice 4 0 3 none, none⟩]), (2, .map true 3 [⟨.agg [.int .i64 (.ofNat 0), .int .i64 (.ofNat 4)], .ptr 5 0, none⟩, ⟨.agg [.int .i64 (.ofNat 3), .int .i64 (.ofNat 4)], .ptr 6 0, none⟩, ⟨.agg [.int .i64 (.ofNat 4), .int .i64 (.ofNat 4)], .ptr 7 0, none⟩]), (3, .cells true true 2 [.int .i64 (.ofNat 4), .int .i64 (.ofNat 4), .int .i64 (.ofNat 0), .int .i64 (.ofNat 4), .int .i64 (.ofNat 3), .int .i64 (.ofNat 4)]), (4, .cells true true 2 [.int .i64 (.ofNat 4), .int .i64 (.ofNat 4), .int .i64 (.ofNat 0), .int .i64 (.ofNat 4), .int .i64 (.ofNat 3), .int .i64 (.ofNat 4)]), (5, .cells true true 1 [.fn 319 [], .slice 8 0 3 none]), (6, .cells false true 1 [.fn 319 [], .slice 9 0 2 none]), (7, .cells false true 1 [.fn 319 [], .slice 10 0 2 none]), (8, .cells true true 1 [.int .i64 (.ofNat 0), .int .i64 (.ofNat 1), .int .i64 (.ofNat 3)]), (9, .cells false true 1 [.int .i64 (.ofNat 0), .int .i64 (.ofNat 1)]), (10, .cells false true 1 [.int .i64 (.ofNat 0), .int .i64 (.ofNat 1)])]
  n1 := 13
  res := .tup []
  out := [(6, .cells false true 1 [.fn 319 [], .slice 11 0 3 none]), (7, .cells false true 1 [.fn 319 [], .slice 12 0 3 none]), (11, .cells false true 1 [.int .i64 (.ofNat 0), .int .i64 (.ofNat 1), .int .i64 (.ofNat 3)]), (12, .cells false true 1 [.int .i64 (.ofNat 0), .int .i64 (.ofNat 1), .int .i64 (.ofNat 3)])]
theorem F8314_11_ok : MemoOK Tryz.prog 314 F8314_11 := memoRunN_ok mixed q8U_ok (S := q8U) (N := fun _ => false) (n := 100000) (hi := 1000000) (by kernel_rfl)
noncomputable def F8314_12 : Memo where
  n0 := 11
  args := [.ptr 0 0, .map 1]
  pat := [(0, .cells true true 1 [.any, .any, .any, .any, .any, .any, .any, .any, .any, .any, .map 2, .any, .any, .any]), (1, .map true 2 [⟨.agg [.int .i64 (.ofNat 3), .int .i64 (.ofNat 4)], .slice 3 0 3 none, none⟩, ⟨.agg [.int .i64 (.ofNat 4), .int .i64 (.ofNat 4)], .slice 4 0 3 none, none⟩]), (2, .map true 3 [⟨.agg [.int .i64 (.ofNat 0), .int .i64 (.ofNat 4)], .ptr 5 0, none⟩, ⟨.agg [.int .i64 (.ofNat 3), .int .i64 (.ofNat 4)], .ptr 6 0, none⟩, ⟨.agg [.int .i64 (.ofNat 4), .int .i64 (.ofNat 4)], .ptr 7 0, none⟩]), (3, .cells true true 2 [.int .i64 (.ofNat 4), .int .i64 (.ofNat 4), .int .i64 (.ofNat 3), .int .i64 (.ofNat 4), .int .i64 (.ofNat 0), .int .i64 (.ofNat 4)]), (4, .cells true true 2 [.int .i64 (.ofNat 4), .int .i64 (.ofNat 4), .int .i64 (.ofNat 3), .int .i64 (.ofNat 4), .int .i64 (.ofNat 0), .int .i64 (.ofNat 4)]), (5, .cells true true 1 [.fn 319 [], .slice 8 0 3 none]), (6, .cells false true 1 [.fn 319 [], .slice 9 0 2 none]), (7, .cells false true 1 [.fn 319 [], .slice 10 0 2 none]), (8, .cells true true 1 [.int .i64 (.ofNat 0), .int .i64 (.ofNat 1), .int .i64 (.ofNat 3)]), (9, .cells false true 1 [.int .i64 (.ofNat 0), .int .i64 (.ofNat 1)]), (10, .cells false true 1 [.int .i64 (.ofNat 0), .int .i64 (.ofNat 1)])]
  n1 := 13
  res := .tup []
  out := [(6, .cells false true 1 [.fn 319 [], .slice 11 0 3 none]), (7, .cells false true 1 [.fn 319 [], .slice 12 0 3 none]), (11, .cells false true 1 [.int .i64 (.ofNat 0), .int .i64 (.ofNat 1), .int .i64 (.ofNat 3)]), (12, .cells false true 1 [.int .i64 (.ofNat 0), .int .i64 (.ofNat 1), .int .i64 (.ofNat 3)])]
theorem F8314_12_ok : MemoOK Tryz.prog 314 F8314_12 := memoRunN_ok mixed q8U_ok (S := q8U) (N := fun _ => false) (n := 100000) (hi := 1000000) (by kernel_rfl)
noncomputable def F8314_13 : Memo where
  n0 := 9
  args := [.ptr 0 0, .map 1]
  pat := [(0, .cells true true 1 [.any, .any, .any, .any, .any, .any, .any, .any, .any, .any, .map 2, .any, .any, .any]), (1, .map true 0 []), (2, .map true 3 [⟨.agg [.int .i64 (.ofNat 0), .int .i64 (.ofNat 4)], .ptr 3 0, none⟩, ⟨.agg [.int .i64 (.ofNat 3), .int .i64 (.ofNat 4)], .ptr 4 0, none⟩, ⟨.agg [.int .i64 (.ofNat 4), .int .i64 (.ofNat 4)], .ptr 5 0, none⟩]), (3, .cells true true 1 [.fn 319 [], .slice 6 0 3 none]), (4, .cells true true 1 [.fn 319 [], .slice 7 0 2 none]), (5, .cells true true 1 [.fn 319 [], .slice 8 0 2 none]), (6, .cells true true 1 [.int .i64 (.ofNat 1), .int .i64 (.ofNat 2), .int .i64 (.ofNat 3)]), (7, .cells true true 1 [.int .i64 (.ofNat 1), .int .i64 (.ofNat 2)]), (8, .cells true true 1 [.int .i64 (.ofNat 1), .int .i64 (.ofNat 2)])]
  n1 := 9
  res := .tup []
  out := []
theorem F8314_13_ok : MemoOK Tryz.prog 314 F8314_13 := memoRunN_ok mixed q8U_ok (S := q8U) (N := fun _ => false) (n := 100000) (hi := 1000000) (by kernel_rfl)
noncomputable def F8314_14 : Memo where
  n0 := 9
  args := [.ptr 0 0, .map 1]
  pat := [(0, .cells true true 1 [.any, .any, .any, .any, .any, .any, .any, .any, .any, .any, .map 2, .any, .any, .any]), (1, .map true 0 []), (2, .map true 3 [⟨.agg [.int .i64 (.ofNat 0), .int .i64 (.ofNat 4)], .ptr 3 0, none⟩, ⟨.agg [.int .i64 (.ofNat 3), .int .i64 (.ofNat 4)], .ptr 4 0, none⟩, ⟨.agg [.int .i64 (.ofNat 4), .int .i64 (.ofNat 4)], .ptr 5 0, none⟩]), (3, .cells true true 1 [.fn 319 [], .slice 6 0 3 none]), (4, .cells true true 1 [.fn 319 [], .slice 7 0 2 none]), (5, .cells true true 1 [.fn 319 [], .slice 8 0 2 none]), (6, .cells true true 1 [.int .i64 (.ofNat 0), .int .i64 (.ofNat 1), .int .i64 (.ofNat 3)]), (7, .cells true true 1 [.int .i64 (.ofNat 0), .int .i64 (.ofNat 1)]), (8, .cells true true 1 [.int .i64 (.ofNat 0), .int .i64 (.ofNat 1)])]
  n1 := 9
  res := .tup []
  out := []
theorem F8314_14_ok : MemoOK Tryz.prog 314 F8314_14 := memoRunN_ok mixed q8U_ok (S := q8U) (N := fun _ => false) (n := 100000) (hi := 1000000) (by kernel_rfl)
noncomputable def F8314_15 : Memo where
  n0 := 7
  args := [.ptr 0 0, .map 1]
  pat := [(0, .cells true true 1 [.any, .any, .any, .any, .any, .any, .any, .any, .any, .any, .map 2, .any, .any, .any]), (1, .map true 0 []), (2, .map true 2 [⟨.agg [.int .i64 (.ofNat 0), .int .i64 (.ofNat 3)], .ptr 3 0, none⟩, ⟨.agg [.int .i64 (.ofNat 3), .int .i64 (.ofNat 3)], .ptr 4 0, none⟩]), (3, .cells true true 1 [.fn 319 [], .slice 5 0 2 none]), (4, .cells true true 1 [.fn 319 [], .slice 6 0 1 none]), (5, .cells true true 1 [.int .i64 (.ofNat 1), .int .i64 (.ofNat 2)]), (6, .cells true true 1 [.int .i64 (.ofNat 1)])]
  n1 := 7
  res := .tup []
  out := []
theorem F8314_15_ok : MemoOK Tryz.prog 314 F8314_15 := memoRunN_ok mixed q8U_ok (S := q8U) (N := fun _ => false) (n := 100000) (hi := 1000000) (by kernel_rfl)
noncomputable def F8314_16 : Memo where
  n0 := 8
  args := [.ptr 0 0, .map 1]
  pat := [(0, .cells true true 1 [.any, .any, .any, .any, .any, .any, .any, .any, .any, .any, .map 2, .any, .any, .any]), (1, .map true 1 [⟨.agg [.int .i64 (.ofNat 3), .int .i64 (.ofNat 3)], .slice 3 0 2 none, none⟩]), (2, .map true 2 [⟨.agg [.int .i64 (.ofNat 0), .int .i64 (.ofNat 3)], .ptr 4 0, none⟩, ⟨.agg [.int .i64 (.ofNat 3), .int .i64 (.ofNat 3)], .ptr 5 0, none⟩]), (3, .cells true true 2 [.int .i64 (.ofNat 0), .int .i64 (.ofNat 3), .int .i64 (.ofNat 3), .int .i64 (.ofNat 3)]), (4, .cells true true 1 [.fn 319 [], .slice 6 0 2 none]), (5, .cells false true 1 [.fn 319 [], .slice 7 0 1 none]), (6, .cells true true 1 [.int .i64 (.ofNat 1), .int .i64 (.ofNat 2)]), (7, .cells false true 1 [.int .i64 (.ofNat 1)])]
  n1 := 9
  res := .tup []
  out := [(5, .cells false true 1 [.fn 319 [], .slice 8 0 2 none]), (8, .cells false true 1 [.int .i64 (.ofNat 1), .int .i64 (.ofNat 2)])]
theorem F8314_16_ok : MemoOK Tryz.prog 314 F8314_16 := memoRunN_ok mixed q8U_ok (S := q8U) (N := fun _ => false) (n := 100000) (hi := 1000000) (by kernel_rfl)
noncomputable def F8314_17 : Memo where
  n0 := 8
  args := [.ptr 0 0, .map 1]
  pat := [(0, .cells true true 1 [.any, .any, .any, .any, .any, .any, .any, .any, .any, .any, .map 2, .any, .any, .any]), (1, .map true 1 [⟨.agg [.int .i64 (.ofNat 3), .int .i64 (.ofNat 3)], .slice 3 0 2 none, none⟩]), (2, .map true 2 [⟨.agg [.int .i64 (.ofNat 0), .int .i64 (.ofNat 3)], .ptr 4 0, none⟩, ⟨.agg [.int .i64 (.ofNat 3), .int .i64 (.ofNat 3)], .ptr 5 0, none⟩]), (3, .cells true true 2 [.int .i64 (.ofNat 3), .int .i64 (.ofNat 3), .int .i64 (.ofNat 0), .int .i64 (.ofNat 3)]), (4, .cells true true 1 [.fn 319 [], .slice 6 0 2 none]), (5, .cells false true 1 [.fn 319 [], .slice 7 0 1 none]), (6, .cells true true 1 [.int .i64 (.ofNat 1), .int .i64 (.ofNat 2)]), (7, .cells false true 1 [.int .i64 (.ofNat 1)])]
  n1 := 9
  res := .tup []
  out := [(5, .cells false true 1 [.fn 319 [], .slice 8 0 2 none]), (8, .cells false true 1 [.int .i64 (.ofNat 1), .int .i64 (.ofNat 2)])]
theorem F8314_17_ok : MemoOK Tryz.prog 314 F8314_17 := memoRunN_ok mixed q8U_ok (S := q8U) (N := fun _ => false) (n := 100000) (hi := 1000000) (by kernel_rfl)
noncomputable def F8314 : List AV → AMem → OR := fun args m => memoTry F8314_0 args m (memoTry F8314_1 args m (memoTry F8314_2 args m (memoTry F8314_3 args m (memoTry F8314_4 args m (memoTry F8314_5 args m (memoTry F8314_6 args m (memoTry F8314_7 args m (memoTry F8314_8 args m (memoTry F8314_9 args m (memoTry F8314_10 args m (memoTry F8314_11 args m (memoTry F8314_12 args m (memoTry F8314_13 args m (memoTry F8314_14 args m (memoTry F8314_15 args m (memoTry F8314_16 args m (memoTry F8314_17 args m (.fail 3300))))))))))))))))))
theorem F8314_ok : SumOK Tryz.prog 314 F8314 := memoSum_ok F8314_0_ok (memoSum_ok F8314_1_ok (memoSum_ok F8314_2_ok (memoSum_ok F8314_3_ok (memoSum_ok F8314_4_ok (memoSum_ok F8314_5_ok (memoSum_ok F8314_6_ok (memoSum_ok F8314_7_ok (memoSum_ok F8314_8_ok (memoSum_ok F8314_9_ok (memoSum_ok F8314_10_ok (memoSum_ok F8314_11_ok (memoSum_ok F8314_12_ok (memoSum_ok F8314_13_ok (memoSum_ok F8314_14_ok (memoSum_ok F8314_15_ok (memoSum_ok F8314_16_ok (memoSum_ok F8314_17_ok (fun _ _ _ _ h => by cases h))))))))))))))))))
end Go.Ev
end
section
namespace Go.Ev
open Go.Proofs
noncomputable def q8F : Sums := addS 314 F8314 (q8U)
theorem q8F_ok : SumsOK Tryz.prog q8F := addS_ok F8314_ok (q8U_ok)
end Go.Ev
end
