/- What a function comes to, noted and shown by runs. -/
import Derived.Test.YtmedlbbifcfomaaGreatDoorEvHi
namespace Go.Ev
open Go.Proofs
noncomputable def Y8123_0 : Memo where
  n0 := 0
  args := [.str []]
  pat := []
  n1 := 0
  res := .tup [.nils, .bool false]
  out := []
theorem Y8123_0_ok : MemoOK Tryz.prog 123 Y8123_0 := memoRun_ok mixed q8Z_ok (S := q8Z) (by kernel_rfl) (n := 100000) (by kernel_rfl)
noncomputable def Y8123_1 : Memo where
  n0 := 0
  args := [.str [49]]
  pat := []
  n1 := 1
  res := .tup [.slice 0 0 1 none, .bool true]
  out := [(0, .cells false true 1 [.int .i64 (.ofNat 1)])]
theorem Y8123_1_ok : MemoOK Tryz.prog 123 Y8123_1 := memoRun_ok mixed q8Z_ok (S := q8Z) (by kernel_rfl) (n := 100000) (by kernel_rfl)
noncomputable def Y8123_2 : Memo where
  n0 := 0
  args := [.str [49, 50, 51, 52, 53]]
  pat := []
  n1 := 1
  res := .tup [.slice 0 0 5 none, .bool true]
  out := [(0, .cells false true 1 [.int .i64 (.ofNat 1), .int .i64 (.ofNat 2), .int .i64 (.ofNat 3), .int .i64 (.ofNat 4), .int .i64 (.ofNat 5)])]
theorem Y8123_2_ok : MemoOK Tryz.prog 123 Y8123_2 := memoRun_ok mixed q8Z_ok (S := q8Z) (by kernel_rfl) (n := 100000) (by kernel_rfl)
noncomputable def Y8123_3 : Memo where
  n0 := 0
  args := [.str [2, 2, 0, 38, 37, 116, 111, 107, 101, 110, 32, 65, 32, 37, 37, 32, 115, 32, 58, 32, 65, 32, 59]]
  pat := []
  n1 := 0
  res := .tup [.nils, .bool false]
  out := []
theorem Y8123_3_ok : MemoOK Tryz.prog 123 Y8123_3 := memoRun_ok mixed q8Z_ok (S := q8Z) (by kernel_rfl) (n := 100000) (by kernel_rfl)
end Go.Ev
