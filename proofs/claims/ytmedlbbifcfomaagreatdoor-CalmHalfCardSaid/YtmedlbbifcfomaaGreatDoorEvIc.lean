/- What a function comes to, noted and shown by runs. -/
import Derived.Test.YtmedlbbifcfomaaGreatDoorEvHi
namespace Go.Ev
open Go.Proofs
noncomputable def Y8123_8 : Memo where
  n0 := 0
  args := [.str [49, 50, 51]]
  pat := []
  n1 := 1
  res := .tup [.slice 0 0 3 none, .bool true]
  out := [(0, .cells false true 1 [.int .i64 (.ofNat 1), .int .i64 (.ofNat 2), .int .i64 (.ofNat 3)])]
theorem Y8123_8_ok : MemoOK Tryz.prog 123 Y8123_8 := memoRun_ok mixed q8Z_ok (S := q8Z) (by kernel_rfl) (n := 100000) (by kernel_rfl)
noncomputable def Y8123_9 : Memo where
  n0 := 0
  args := [.str [2, 2, 0, 38, 37, 116, 111, 107, 101, 110, 32, 68, 32, 37, 37, 32, 115, 32, 58, 32, 68, 32, 59]]
  pat := []
  n1 := 0
  res := .tup [.nils, .bool false]
  out := []
theorem Y8123_9_ok : MemoOK Tryz.prog 123 Y8123_9 := memoRun_ok mixed q8Z_ok (S := q8Z) (by kernel_rfl) (n := 100000) (by kernel_rfl)
noncomputable def Y8123_10 : Memo where
  n0 := 0
  args := [.str [2, 10, 8, 38, 37, 116, 111, 107, 101, 110, 32, 65, 32, 37, 37, 32, 115, 32, 58, 32, 65, 32, 59]]
  pat := []
  n1 := 0
  res := .tup [.nils, .bool false]
  out := []
theorem Y8123_10_ok : MemoOK Tryz.prog 123 Y8123_10 := memoRun_ok mixed q8Z_ok (S := q8Z) (by kernel_rfl) (n := 100000) (by kernel_rfl)
noncomputable def Y8123_11 : Memo where
  n0 := 0
  args := [.str [49, 50]]
  pat := []
  n1 := 1
  res := .tup [.slice 0 0 2 none, .bool true]
  out := [(0, .cells false true 1 [.int .i64 (.ofNat 1), .int .i64 (.ofNat 2)])]
theorem Y8123_11_ok : MemoOK Tryz.prog 123 Y8123_11 := memoRun_ok mixed q8Z_ok (S := q8Z) (by kernel_rfl) (n := 100000) (by kernel_rfl)
end Go.Ev
