/- What a function comes to, noted and shown by runs. -/
import Derived.Test.YtmedlbbifcfomaaGreatDoorEvHi
namespace Go.Ev
open Go.Proofs
noncomputable def Y8123_12 : Memo where
  n0 := 0
  args := [.str [2, 12, 10, 38, 37, 116, 111, 107, 101, 110, 32, 65, 32, 37, 37, 32, 115, 32, 58, 32, 65, 32, 59]]
  pat := []
  n1 := 0
  res := .tup [.nils, .bool false]
  out := []
theorem Y8123_12_ok : MemoOK Tryz.prog 123 Y8123_12 := memoRun_ok mixed q8Z_ok (S := q8Z) (by kernel_rfl) (n := 100000) (by kernel_rfl)
noncomputable def Y8123_13 : Memo where
  n0 := 0
  args := [.str [2, 14, 12, 38, 37, 116, 111, 107, 101, 110, 32, 65, 32, 37, 37, 32, 115, 32, 58, 32, 65, 32, 59]]
  pat := []
  n1 := 0
  res := .tup [.nils, .bool false]
  out := []
theorem Y8123_13_ok : MemoOK Tryz.prog 123 Y8123_13 := memoRun_ok mixed q8Z_ok (S := q8Z) (by kernel_rfl) (n := 100000) (by kernel_rfl)
noncomputable def Y8123_14 : Memo where
  n0 := 0
  args := [.str [2, 16, 14, 38, 37, 116, 111, 107, 101, 110, 32, 65, 32, 37, 37, 32, 115, 32, 58, 32, 65, 32, 59]]
  pat := []
  n1 := 0
  res := .tup [.nils, .bool false]
  out := []
theorem Y8123_14_ok : MemoOK Tryz.prog 123 Y8123_14 := memoRun_ok mixed q8Z_ok (S := q8Z) (by kernel_rfl) (n := 100000) (by kernel_rfl)
end Go.Ev
