/- What a function comes to, noted and shown by runs. What a function comes to, noted and shown by runs. What a function comes to, noted and shown by runs. What a function comes to, noted and shown by runs. What a function comes to, noted and shown by runs. What a function comes to, noted and shown by runs. What a function comes to, noted and shown by runs. What a function comes to, noted and shown by runs. What a function comes to, noted and shown by runs. What a function comes to, noted and shown by runs. What a function comes to, noted and shown by runs. What a function comes to, noted and shown by runs. -/
import Derived.Test.YtmedlbbifcfomaaGreatDoorEvGc
import Derived.Test.YtmedlbbifcfomaaGreatDoorEvHa
section
namespace Go.Ev
open Go.Proofs
noncomputable def X8210_0 : Memo where
  n0 := 0
  args := [.agg [.bool true, .int .i64 (.ofNat 0), .int .i64 (.ofNat 0), .int .i64 (.ofNat 0), .int .i64 (.ofNat 0), .int .i64 (.ofNat 0), .str []]]
  pat := []
  n1 := 1
  res := .slice 0 0 8 none
  out := [(0, .cells false true 1 [.int .u8 (.ofNat 1), .int .u8 (.ofNat 4), .int .u8 (.ofNat 158), .int .u8 (.ofNat 241), .int .u8 (.ofNat 16), .int .u8 (.ofNat 165), .int .u8 (.ofNat 0), .int .u8 (.ofNat 0)])]
theorem X8210_0_ok : MemoOK Tryz.prog 210 X8210_0 := memoRun_ok mixed sums8_ok (S := (sums8 Tryz.prog)) (by kernel_rfl) (n := 100000) (by kernel_rfl)
noncomputable def X8210_1 : Memo where
  n0 := 0
  args := [.agg [.bool true, .int .i64 (.ofNat 1), .int .i64 (.ofNat 1), .int .i64 (.ofNat 0), .int .i64 (.ofNat 0), .int .i64 (.ofNat 0), .str []]]
  pat := []
  n1 := 1
  res := .slice 0 0 8 none
  out := [(0, .cells false true 1 [.int .u8 (.ofNat 1), .int .u8 (.ofNat 4), .int .u8 (.ofNat 66), .int .u8 (.ofNat 201), .int .u8 (.ofNat 19), .int .u8 (.ofNat 11), .int .u8 (.ofNat 2), .int .u8 (.ofNat 2)])]
theorem X8210_1_ok : MemoOK Tryz.prog 210 X8210_1 := memoRun_ok mixed sums8_ok (S := (sums8 Tryz.prog)) (by kernel_rfl) (n := 100000) (by kernel_rfl)
noncomputable def X8210_2 : Memo where
  n0 := 0
  args := [.agg [.bool false, .int .i64 (.ofNat 0), .int .i64 (.ofNat 0), .int .i64 (.ofNat 1), .int .i64 (.ofNat 1), .int .i64 (.ofNat 1), .str []]]
  pat := []
  n1 := 1
  res := .slice 0 0 10 none
  out := [(0, .cells false true 1 [.int .u8 (.ofNat 2), .int .u8 (.ofNat 8), .int .u8 (.ofNat 87), .int .u8 (.ofNat 193), .int .u8 (.ofNat 53), .int .u8 (.ofNat 14), .int .u8 (.ofNat 2), .int .u8 (.ofNat 2), .int .u8 (.ofNat 2), .int .u8 (.ofNat 0)])]
theorem X8210_2_ok : MemoOK Tryz.prog 210 X8210_2 := memoRun_ok mixed sums8_ok (S := (sums8 Tryz.prog)) (by kernel_rfl) (n := 100000) (by kernel_rfl)
end Go.Ev
end
section
namespace Go.Ev
open Go.Proofs
noncomputable def X8210_3 : Memo where
  n0 := 0
  args := [.agg [.bool false, .int .i64 (.ofNat 0), .int .i64 (.ofNat 0), .int .i64 (.ofNat 2), .int .i64 (.ofNat 1), .int .i64 (.ofNat 2), .str [2, 2, 0, 38, 37, 116, 111, 107, 101, 110, 32, 68, 32, 37, 37, 32, 115, 32, 58, 32, 68, 32, 59]]]
  pat := []
  n1 := 1
  res := .slice 0 0 33 none
  out := [(0, .cells false true 1 [.int .u8 (.ofNat 2), .int .u8 (.ofNat 54), .int .u8 (.ofNat 205), .int .u8 (.ofNat 242), .int .u8 (.ofNat 112), .int .u8 (.ofNat 226), .int .u8 (.ofNat 4), .int .u8 (.ofNat 2), .int .u8 (.ofNat 4), .int .u8 (.ofNat 46), .int .u8 (.ofNat 2), .int .u8 (.ofNat 2), .int .u8 (.ofNat 0), .int .u8 (.ofNat 38), .int .u8 (.ofNat 37), .int .u8 (.ofNat 116), .int .u8 (.ofNat 111), .int .u8 (.ofNat 107), .int .u8 (.ofNat 101), .int .u8 (.ofNat 110), .int .u8 (.ofNat 32), .int .u8 (.ofNat 68), .int .u8 (.ofNat 32), .int .u8 (.ofNat 37), .int .u8 (.ofNat 37), .int .u8 (.ofNat 32), .int .u8 (.ofNat 115), .int .u8 (.ofNat 32), .int .u8 (.ofNat 58), .int .u8 (.ofNat 32), .int .u8 (.ofNat 68), .int .u8 (.ofNat 32), .int .u8 (.ofNat 59)])]
theorem X8210_3_ok : MemoOK Tryz.prog 210 X8210_3 := memoRun_ok mixed sums8_ok (S := (sums8 Tryz.prog)) (by kernel_rfl) (n := 100000) (by kernel_rfl)
noncomputable def X8210_4 : Memo where
  n0 := 0
  args := [.agg [.bool true, .int .i64 (.ofNat 2), .int .i64 (.ofNat 1), .int .i64 (.ofNat 0), .int .i64 (.ofNat 0), .int .i64 (.ofNat 0), .str []]]
  pat := []
  n1 := 1
  res := .slice 0 0 8 none
  out := [(0, .cells false true 1 [.int .u8 (.ofNat 1), .int .u8 (.ofNat 4), .int .u8 (.ofNat 20), .int .u8 (.ofNat 147), .int .u8 (.ofNat 180), .int .u8 (.ofNat 141), .int .u8 (.ofNat 4), .int .u8 (.ofNat 2)])]
theorem X8210_4_ok : MemoOK Tryz.prog 210 X8210_4 := memoRun_ok mixed sums8_ok (S := (sums8 Tryz.prog)) (by kernel_rfl) (n := 100000) (by kernel_rfl)
noncomputable def X8210_5 : Memo where
  n0 := 0
  args := [.agg [.bool false, .int .i64 (.ofNat 0), .int .i64 (.ofNat 0), .int .i64 (.ofNat 2), .int .i64 (.ofNat 1), .int .i64 (.ofNat 2), .str [2, 2, 0, 38, 37, 116, 111, 107, 101, 110, 32, 65, 32, 37, 37, 32, 115, 32, 58, 32, 65, 32, 59]]]
  pat := []
  n1 := 1
  res := .slice 0 0 33 none
  out := [(0, .cells false true 1 [.int .u8 (.ofNat 2), .int .u8 (.ofNat 54), .int .u8 (.ofNat 83), .int .u8 (.ofNat 154), .int .u8 (.ofNat 197), .int .u8 (.ofNat 25), .int .u8 (.ofNat 4), .int .u8 (.ofNat 2), .int .u8 (.ofNat 4), .int .u8 (.ofNat 46), .int .u8 (.ofNat 2), .int .u8 (.ofNat 2), .int .u8 (.ofNat 0), .int .u8 (.ofNat 38), .int .u8 (.ofNat 37), .int .u8 (.ofNat 116), .int .u8 (.ofNat 111), .int .u8 (.ofNat 107), .int .u8 (.ofNat 101), .int .u8 (.ofNat 110), .int .u8 (.ofNat 32), .int .u8 (.ofNat 65), .int .u8 (.ofNat 32), .int .u8 (.ofNat 37), .int .u8 (.ofNat 37), .int .u8 (.ofNat 32), .int .u8 (.ofNat 115), .int .u8 (.ofNat 32), .int .u8 (.ofNat 58), .int .u8 (.ofNat 32), .int .u8 (.ofNat 65), .int .u8 (.ofNat 32), .int .u8 (.ofNat 59)])]
theorem X8210_5_ok : MemoOK Tryz.prog 210 X8210_5 := memoRun_ok mixed sums8_ok (S := (sums8 Tryz.prog)) (by kernel_rfl) (n := 100000) (by kernel_rfl)
end Go.Ev
end
section
namespace Go.Ev
open Go.Proofs
noncomputable def X8210_6 : Memo where
  n0 := 0
  args := [.agg [.bool true, .int .i64 (.ofNat 3), .int .i64 (.ofNat 1), .int .i64 (.ofNat 0), .int .i64 (.ofNat 0), .int .i64 (.ofNat 0), .str []]]
  pat := []
  n1 := 1
  res := .slice 0 0 8 none
  out := [(0, .cells false true 1 [.int .u8 (.ofNat 1), .int .u8 (.ofNat 4), .int .u8 (.ofNat 38), .int .u8 (.ofNat 165), .int .u8 (.ofNat 214), .int .u8 (.ofNat 15), .int .u8 (.ofNat 6), .int .u8 (.ofNat 2)])]
theorem X8210_6_ok : MemoOK Tryz.prog 210 X8210_6 := memoRun_ok mixed sums8_ok (S := (sums8 Tryz.prog)) (by kernel_rfl) (n := 100000) (by kernel_rfl)
noncomputable def X8210_7 : Memo where
  n0 := 0
  args := [.agg [.bool true, .int .i64 (.ofNat 4), .int .i64 (.ofNat 1), .int .i64 (.ofNat 0), .int .i64 (.ofNat 0), .int .i64 (.ofNat 0), .str []]]
  pat := []
  n1 := 1
  res := .slice 0 0 8 none
  out := [(0, .cells false true 1 [.int .u8 (.ofNat 1), .int .u8 (.ofNat 4), .int .u8 (.ofNat 184), .int .u8 (.ofNat 38), .int .u8 (.ofNat 251), .int .u8 (.ofNat 129), .int .u8 (.ofNat 8), .int .u8 (.ofNat 2)])]
theorem X8210_7_ok : MemoOK Tryz.prog 210 X8210_7 := memoRun_ok mixed sums8_ok (S := (sums8 Tryz.prog)) (by kernel_rfl) (n := 100000) (by kernel_rfl)
noncomputable def X8210_8 : Memo where
  n0 := 0
  args := [.agg [.bool true, .int .i64 (.ofNat 5), .int .i64 (.ofNat 1), .int .i64 (.ofNat 0), .int .i64 (.ofNat 0), .int .i64 (.ofNat 0), .str []]]
  pat := []
  n1 := 1
  res := .slice 0 0 8 none
  out := [(0, .cells false true 1 [.int .u8 (.ofNat 1), .int .u8 (.ofNat 4), .int .u8 (.ofNat 138), .int .u8 (.ofNat 16), .int .u8 (.ofNat 153), .int .u8 (.ofNat 3), .int .u8 (.ofNat 10), .int .u8 (.ofNat 2)])]
theorem X8210_8_ok : MemoOK Tryz.prog 210 X8210_8 := memoRun_ok mixed sums8_ok (S := (sums8 Tryz.prog)) (by kernel_rfl) (n := 100000) (by kernel_rfl)
end Go.Ev
end
section
namespace Go.Ev
open Go.Proofs
noncomputable def X8210_9 : Memo where
  n0 := 0
  args := [.agg [.bool true, .int .i64 (.ofNat 6), .int .i64 (.ofNat 1), .int .i64 (.ofNat 0), .int .i64 (.ofNat 0), .int .i64 (.ofNat 0), .str []]]
  pat := []
  n1 := 1
  res := .slice 0 0 8 none
  out := [(0, .cells false true 1 [.int .u8 (.ofNat 1), .int .u8 (.ofNat 4), .int .u8 (.ofNat 220), .int .u8 (.ofNat 74), .int .u8 (.ofNat 62), .int .u8 (.ofNat 133), .int .u8 (.ofNat 12), .int .u8 (.ofNat 2)])]
theorem X8210_9_ok : MemoOK Tryz.prog 210 X8210_9 := memoRun_ok mixed sums8_ok (S := (sums8 Tryz.prog)) (by kernel_rfl) (n := 100000) (by kernel_rfl)
noncomputable def X8210_10 : Memo where
  n0 := 0
  args := [.agg [.bool true, .int .i64 (.ofNat 7), .int .i64 (.ofNat 1), .int .i64 (.ofNat 0), .int .i64 (.ofNat 0), .int .i64 (.ofNat 0), .str []]]
  pat := []
  n1 := 1
  res := .slice 0 0 8 none
  out := [(0, .cells false true 1 [.int .u8 (.ofNat 1), .int .u8 (.ofNat 4), .int .u8 (.ofNat 238), .int .u8 (.ofNat 124), .int .u8 (.ofNat 92), .int .u8 (.ofNat 7), .int .u8 (.ofNat 14), .int .u8 (.ofNat 2)])]
theorem X8210_10_ok : MemoOK Tryz.prog 210 X8210_10 := memoRun_ok mixed sums8_ok (S := (sums8 Tryz.prog)) (by kernel_rfl) (n := 100000) (by kernel_rfl)
noncomputable def X8210_11 : Memo where
  n0 := 0
  args := [.agg [.bool true, .int .i64 (.ofNat 8), .int .i64 (.ofNat 1), .int .i64 (.ofNat 0), .int .i64 (.ofNat 0), .int .i64 (.ofNat 0), .str []]]
  pat := []
  n1 := 1
  res := .slice 0 0 8 none
  out := [(0, .cells false true 1 [.int .u8 (.ofNat 1), .int .u8 (.ofNat 4), .int .u8 (.ofNat 58), .int .u8 (.ofNat 61), .int .u8 (.ofNat 99), .int .u8 (.ofNat 216), .int .u8 (.ofNat 16), .int .u8 (.ofNat 2)])]
theorem X8210_11_ok : MemoOK Tryz.prog 210 X8210_11 := memoRun_ok mixed sums8_ok (S := (sums8 Tryz.prog)) (by kernel_rfl) (n := 100000) (by kernel_rfl)
end Go.Ev
end
section
namespace Go.Ev
open Go.Proofs
noncomputable def X8210_12 : Memo where
  n0 := 0
  args := [.agg [.bool true, .int .i64 (.ofNat 9), .int .i64 (.ofNat 1), .int .i64 (.ofNat 0), .int .i64 (.ofNat 0), .int .i64 (.ofNat 0), .str []]]
  pat := []
  n1 := 1
  res := .slice 0 0 8 none
  out := [(0, .cells false true 1 [.int .u8 (.ofNat 1), .int .u8 (.ofNat 4), .int .u8 (.ofNat 8), .int .u8 (.ofNat 11), .int .u8 (.ofNat 1), .int .u8 (.ofNat 90), .int .u8 (.ofNat 18), .int .u8 (.ofNat 2)])]
theorem X8210_12_ok : MemoOK Tryz.prog 210 X8210_12 := memoRun_ok mixed sums8_ok (S := (sums8 Tryz.prog)) (by kernel_rfl) (n := 100000) (by kernel_rfl)
noncomputable def X8210_13 : Memo where
  n0 := 0
  args := [.agg [.bool true, .int .i64 (.ofNat 10), .int .i64 (.ofNat 1), .int .i64 (.ofNat 0), .int .i64 (.ofNat 0), .int .i64 (.ofNat 0), .str []]]
  pat := []
  n1 := 1
  res := .slice 0 0 8 none
  out := [(0, .cells false true 1 [.int .u8 (.ofNat 1), .int .u8 (.ofNat 4), .int .u8 (.ofNat 94), .int .u8 (.ofNat 81), .int .u8 (.ofNat 166), .int .u8 (.ofNat 220), .int .u8 (.ofNat 20), .int .u8 (.ofNat 2)])]
theorem X8210_13_ok : MemoOK Tryz.prog 210 X8210_13 := memoRun_ok mixed sums8_ok (S := (sums8 Tryz.prog)) (by kernel_rfl) (n := 100000) (by kernel_rfl)
noncomputable def X8210_14 : Memo where
  n0 := 0
  args := [.agg [.bool true, .int .i64 (.ofNat 11), .int .i64 (.ofNat 1), .int .i64 (.ofNat 0), .int .i64 (.ofNat 0), .int .i64 (.ofNat 0), .str []]]
  pat := []
  n1 := 1
  res := .slice 0 0 8 none
  out := [(0, .cells false true 1 [.int .u8 (.ofNat 1), .int .u8 (.ofNat 4), .int .u8 (.ofNat 108), .int .u8 (.ofNat 103), .int .u8 (.ofNat 196), .int .u8 (.ofNat 94), .int .u8 (.ofNat 22), .int .u8 (.ofNat 2)])]
theorem X8210_14_ok : MemoOK Tryz.prog 210 X8210_14 := memoRun_ok mixed sums8_ok (S := (sums8 Tryz.prog)) (by kernel_rfl) (n := 100000) (by kernel_rfl)
end Go.Ev
end
section
namespace Go.Ev
open Go.Proofs
noncomputable def X8210_15 : Memo where
  n0 := 0
  args := [.agg [.bool true, .int .i64 (.ofNat 12), .int .i64 (.ofNat 1), .int .i64 (.ofNat 0), .int .i64 (.ofNat 0), .int .i64 (.ofNat 0), .str []]]
  pat := []
  n1 := 1
  res := .slice 0 0 8 none
  out := [(0, .cells false true 1 [.int .u8 (.ofNat 1), .int .u8 (.ofNat 4), .int .u8 (.ofNat 242), .int .u8 (.ofNat 228), .int .u8 (.ofNat 233), .int .u8 (.ofNat 208), .int .u8 (.ofNat 24), .int .u8 (.ofNat 2)])]
theorem X8210_15_ok : MemoOK Tryz.prog 210 X8210_15 := memoRun_ok mixed sums8_ok (S := (sums8 Tryz.prog)) (by kernel_rfl) (n := 100000) (by kernel_rfl)
noncomputable def X8210_16 : Memo where
  n0 := 0
  args := [.agg [.bool false, .int .i64 (.ofNat 0), .int .i64 (.ofNat 0), .int .i64 (.ofNat 3), .int .i64 (.ofNat 1), .int .i64 (.ofNat 2), .str [2, 4, 2, 38, 37, 116, 111, 107, 101, 110, 32, 65, 32, 37, 37, 32, 115, 32, 58, 32, 65, 32, 59]]]
  pat := []
  n1 := 1
  res := .slice 0 0 33 none
  out := [(0, .cells false true 1 [.int .u8 (.ofNat 2), .int .u8 (.ofNat 54), .int .u8 (.ofNat 24), .int .u8 (.ofNat 183), .int .u8 (.ofNat 168), .int .u8 (.ofNat 102), .int .u8 (.ofNat 6), .int .u8 (.ofNat 2), .int .u8 (.ofNat 4), .int .u8 (.ofNat 46), .int .u8 (.ofNat 2), .int .u8 (.ofNat 4), .int .u8 (.ofNat 2), .int .u8 (.ofNat 38), .int .u8 (.ofNat 37), .int .u8 (.ofNat 116), .int .u8 (.ofNat 111), .int .u8 (.ofNat 107), .int .u8 (.ofNat 101), .int .u8 (.ofNat 110), .int .u8 (.ofNat 32), .int .u8 (.ofNat 65), .int .u8 (.ofNat 32), .int .u8 (.ofNat 37), .int .u8 (.ofNat 37), .int .u8 (.ofNat 32), .int .u8 (.ofNat 115), .int .u8 (.ofNat 32), .int .u8 (.ofNat 58), .int .u8 (.ofNat 32), .int .u8 (.ofNat 65), .int .u8 (.ofNat 32), .int .u8 (.ofNat 59)])]
theorem X8210_16_ok : MemoOK Tryz.prog 210 X8210_16 := memoRun_ok mixed sums8_ok (S := (sums8 Tryz.prog)) (by kernel_rfl) (n := 100000) (by kernel_rfl)
noncomputable def X8210_17 : Memo where
  n0 := 0
  args := [.agg [.bool false, .int .i64 (.ofNat 0), .int .i64 (.ofNat 0), .int .i64 (.ofNat 4), .int .i64 (.ofNat 1), .int .i64 (.ofNat 2), .str [2, 6, 4, 38, 37, 116, 111, 107, 101, 110, 32, 65, 32, 37, 37, 32, 115, 32, 58, 32, 65, 32, 59]]]
  pat := []
  n1 := 1
  res := .slice 0 0 33 none
  out := [(0, .cells false true 1 [.int .u8 (.ofNat 2), .int .u8 (.ofNat 54), .int .u8 (.ofNat 190), .int .u8 (.ofNat 1), .int .u8 (.ofNat 239), .int .u8 (.ofNat 109), .int .u8 (.ofNat 8), .int .u8 (.ofNat 2), .int .u8 (.ofNat 4), .int .u8 (.ofNat 46), .int .u8 (.ofNat 2), .int .u8 (.ofNat 6), .int .u8 (.ofNat 4), .int .u8 (.ofNat 38), .int .u8 (.ofNat 37), .int .u8 (.ofNat 116), .int .u8 (.ofNat 111), .int .u8 (.ofNat 107), .int .u8 (.ofNat 101), .int .u8 (.ofNat 110), .int .u8 (.ofNat 32), .int .u8 (.ofNat 65), .int .u8 (.ofNat 32), .int .u8 (.ofNat 37), .int .u8 (.ofNat 37), .int .u8 (.ofNat 32), .int .u8 (.ofNat 115), .int .u8 (.ofNat 32), .int .u8 (.ofNat 58), .int .u8 (.ofNat 32), .int .u8 (.ofNat 65), .int .u8 (.ofNat 32), .int .u8 (.ofNat 59)])]
theorem X8210_17_ok : MemoOK Tryz.prog 210 X8210_17 := memoRun_ok mixed sums8_ok (S := (sums8 Tryz.prog)) (by kernel_rfl) (n := 100000) (by kernel_rfl)
end Go.Ev
end
section
namespace Go.Ev
open Go.Proofs
noncomputable def X8210_18 : Memo where
  n0 := 0
  args := [.agg [.bool false, .int .i64 (.ofNat 0), .int .i64 (.ofNat 0), .int .i64 (.ofNat 5), .int .i64 (.ofNat 1), .int .i64 (.ofNat 2), .str [2, 8, 6, 38, 37, 116, 111, 107, 101, 110, 32, 65, 32, 37, 37, 32, 115, 32, 58, 32, 65, 32, 59]]]
  pat := []
  n1 := 1
  res := .slice 0 0 33 none
  out := [(0, .cells false true 1 [.int .u8 (.ofNat 2), .int .u8 (.ofNat 54), .int .u8 (.ofNat 76), .int .u8 (.ofNat 111), .int .u8 (.ofNat 164), .int .u8 (.ofNat 18), .int .u8 (.ofNat 10), .int .u8 (.ofNat 2), .int .u8 (.ofNat 4), .int .u8 (.ofNat 46), .int .u8 (.ofNat 2), .int .u8 (.ofNat 8), .int .u8 (.ofNat 6), .int .u8 (.ofNat 38), .int .u8 (.ofNat 37), .int .u8 (.ofNat 116), .int .u8 (.ofNat 111), .int .u8 (.ofNat 107), .int .u8 (.ofNat 101), .int .u8 (.ofNat 110), .int .u8 (.ofNat 32), .int .u8 (.ofNat 65), .int .u8 (.ofNat 32), .int .u8 (.ofNat 37), .int .u8 (.ofNat 37), .int .u8 (.ofNat 32), .int .u8 (.ofNat 115), .int .u8 (.ofNat 32), .int .u8 (.ofNat 58), .int .u8 (.ofNat 32), .int .u8 (.ofNat 65), .int .u8 (.ofNat 32), .int .u8 (.ofNat 59)])]
theorem X8210_18_ok : MemoOK Tryz.prog 210 X8210_18 := memoRun_ok mixed sums8_ok (S := (sums8 Tryz.prog)) (by kernel_rfl) (n := 100000) (by kernel_rfl)
noncomputable def X8210_19 : Memo where
  n0 := 0
  args := [.agg [.bool false, .int .i64 (.ofNat 0), .int .i64 (.ofNat 0), .int .i64 (.ofNat 6), .int .i64 (.ofNat 1), .int .i64 (.ofNat 2), .str [2, 10, 8, 38, 37, 116, 111, 107, 101, 110, 32, 65, 32, 37, 37, 32, 115, 32, 58, 32, 65, 32, 59]]]
  pat := []
  n1 := 1
  res := .slice 0 0 33 none
  out := [(0, .cells false true 1 [.int .u8 (.ofNat 2), .int .u8 (.ofNat 54), .int .u8 (.ofNat 13), .int .u8 (.ofNat 169), .int .u8 (.ofNat 60), .int .u8 (.ofNat 229), .int .u8 (.ofNat 12), .int .u8 (.ofNat 2), .int .u8 (.ofNat 4), .int .u8 (.ofNat 46), .int .u8 (.ofNat 2), .int .u8 (.ofNat 10), .int .u8 (.ofNat 8), .int .u8 (.ofNat 38), .int .u8 (.ofNat 37), .int .u8 (.ofNat 116), .int .u8 (.ofNat 111), .int .u8 (.ofNat 107), .int .u8 (.ofNat 101), .int .u8 (.ofNat 110), .int .u8 (.ofNat 32), .int .u8 (.ofNat 65), .int .u8 (.ofNat 32), .int .u8 (.ofNat 37), .int .u8 (.ofNat 37), .int .u8 (.ofNat 32), .int .u8 (.ofNat 115), .int .u8 (.ofNat 32), .int .u8 (.ofNat 58), .int .u8 (.ofNat 32), .int .u8 (.ofNat 65), .int .u8 (.ofNat 32), .int .u8 (.ofNat 59)])]
theorem X8210_19_ok : MemoOK Tryz.prog 210 X8210_19 := memoRun_ok mixed sums8_ok (S := (sums8 Tryz.prog)) (by kernel_rfl) (n := 100000) (by kernel_rfl)
noncomputable def X8210_20 : Memo where
  n0 := 0
  args := [.agg [.bool false, .int .i64 (.ofNat 0), .int .i64 (.ofNat 0), .int .i64 (.ofNat 7), .int .i64 (.ofNat 1), .int .i64 (.ofNat 2), .str [2, 12, 10, 38, 37, 116, 111, 107, 101, 110, 32, 65, 32, 37, 37, 32, 115, 32, 58, 32, 65, 32, 59]]]
  pat := []
  n1 := 1
  res := .slice 0 0 33 none
  out := [(0, .cells false true 1 [.int .u8 (.ofNat 2), .int .u8 (.ofNat 54), .int .u8 (.ofNat 70), .int .u8 (.ofNat 132), .int .u8 (.ofNat 81), .int .u8 (.ofNat 154), .int .u8 (.ofNat 14), .int .u8 (.ofNat 2), .int .u8 (.ofNat 4), .int .u8 (.ofNat 46), .int .u8 (.ofNat 2), .int .u8 (.ofNat 12), .int .u8 (.ofNat 10), .int .u8 (.ofNat 38), .int .u8 (.ofNat 37), .int .u8 (.ofNat 116), .int .u8 (.ofNat 111), .int .u8 (.ofNat 107), .int .u8 (.ofNat 101), .int .u8 (.ofNat 110), .int .u8 (.ofNat 32), .int .u8 (.ofNat 65), .int .u8 (.ofNat 32), .int .u8 (.ofNat 37), .int .u8 (.ofNat 37), .int .u8 (.ofNat 32), .int .u8 (.ofNat 115), .int .u8 (.ofNat 32), .int .u8 (.ofNat 58), .int .u8 (.ofNat 32), .int .u8 (.ofNat 65), .int .u8 (.ofNat 32), .int .u8 (.ofNat 59)])]
theorem X8210_20_ok : MemoOK Tryz.prog 210 X8210_20 := memoRun_ok mixed sums8_ok (S := (sums8 Tryz.prog)) (by kernel_rfl) (n := 100000) (by kernel_rfl)
end Go.Ev
end
section
namespace Go.Ev
open Go.Proofs
noncomputable def X8210_21 : Memo where
  n0 := 0
  args := [.agg [.bool false, .int .i64 (.ofNat 0), .int .i64 (.ofNat 0), .int .i64 (.ofNat 2), .int .i64 (.ofNat 1), .int .i64 (.ofNat 2), .str [2, 2, 0, 34, 37, 116, 111, 107, 101, 110, 32, 65, 32, 37, 37, 32, 115, 58, 32, 65, 59]]]
  pat := []
  n1 := 1
  res := .slice 0 0 31 none
  out := [(0, .cells false true 1 [.int .u8 (.ofNat 2), .int .u8 (.ofNat 50), .int .u8 (.ofNat 117), .int .u8 (.ofNat 189), .int .u8 (.ofNat 178), .int .u8 (.ofNat 119), .int .u8 (.ofNat 4), .int .u8 (.ofNat 2), .int .u8 (.ofNat 4), .int .u8 (.ofNat 42), .int .u8 (.ofNat 2), .int .u8 (.ofNat 2), .int .u8 (.ofNat 0), .int .u8 (.ofNat 34), .int .u8 (.ofNat 37), .int .u8 (.ofNat 116), .int .u8 (.ofNat 111), .int .u8 (.ofNat 107), .int .u8 (.ofNat 101), .int .u8 (.ofNat 110), .int .u8 (.ofNat 32), .int .u8 (.ofNat 65), .int .u8 (.ofNat 32), .int .u8 (.ofNat 37), .int .u8 (.ofNat 37), .int .u8 (.ofNat 32), .int .u8 (.ofNat 115), .int .u8 (.ofNat 58), .int .u8 (.ofNat 32), .int .u8 (.ofNat 65), .int .u8 (.ofNat 59)])]
theorem X8210_21_ok : MemoOK Tryz.prog 210 X8210_21 := memoRun_ok mixed sums8_ok (S := (sums8 Tryz.prog)) (by kernel_rfl) (n := 100000) (by kernel_rfl)
noncomputable def X8210_22 : Memo where
  n0 := 0
  args := [.agg [.bool false, .int .i64 (.ofNat 0), .int .i64 (.ofNat 0), .int .i64 (.ofNat 3), .int .i64 (.ofNat 2), .int .i64 (.ofNat 1), .str []]]
  pat := []
  n1 := 1
  res := .slice 0 0 10 none
  out := [(0, .cells false true 1 [.int .u8 (.ofNat 2), .int .u8 (.ofNat 8), .int .u8 (.ofNat 220), .int .u8 (.ofNat 46), .int .u8 (.ofNat 222), .int .u8 (.ofNat 235), .int .u8 (.ofNat 6), .int .u8 (.ofNat 4), .int .u8 (.ofNat 2), .int .u8 (.ofNat 0)])]
theorem X8210_22_ok : MemoOK Tryz.prog 210 X8210_22 := memoRun_ok mixed sums8_ok (S := (sums8 Tryz.prog)) (by kernel_rfl) (n := 100000) (by kernel_rfl)
noncomputable def X8210_23 : Memo where
  n0 := 0
  args := [.agg [.bool false, .int .i64 (.ofNat 0), .int .i64 (.ofNat 0), .int .i64 (.ofNat 8), .int .i64 (.ofNat 1), .int .i64 (.ofNat 2), .str [2, 14, 12, 38, 37, 116, 111, 107, 101, 110, 32, 65, 32, 37, 37, 32, 115, 32, 58, 32, 65, 32, 59]]]
  pat := []
  n1 := 1
  res := .slice 0 0 33 none
  out := [(0, .cells false true 1 [.int .u8 (.ofNat 2), .int .u8 (.ofNat 54), .int .u8 (.ofNat 190), .int .u8 (.ofNat 70), .int .u8 (.ofNat 189), .int .u8 (.ofNat 196), .int .u8 (.ofNat 16), .int .u8 (.ofNat 2), .int .u8 (.ofNat 4), .int .u8 (.ofNat 46), .int .u8 (.ofNat 2), .int .u8 (.ofNat 14), .int .u8 (.ofNat 12), .int .u8 (.ofNat 38), .int .u8 (.ofNat 37), .int .u8 (.ofNat 116), .int .u8 (.ofNat 111), .int .u8 (.ofNat 107), .int .u8 (.ofNat 101), .int .u8 (.ofNat 110), .int .u8 (.ofNat 32), .int .u8 (.ofNat 65), .int .u8 (.ofNat 32), .int .u8 (.ofNat 37), .int .u8 (.ofNat 37), .int .u8 (.ofNat 32), .int .u8 (.ofNat 115), .int .u8 (.ofNat 32), .int .u8 (.ofNat 58), .int .u8 (.ofNat 32), .int .u8 (.ofNat 65), .int .u8 (.ofNat 32), .int .u8 (.ofNat 59)])]
theorem X8210_23_ok : MemoOK Tryz.prog 210 X8210_23 := memoRun_ok mixed sums8_ok (S := (sums8 Tryz.prog)) (by kernel_rfl) (n := 100000) (by kernel_rfl)
end Go.Ev
end
section
namespace Go.Ev
open Go.Proofs
noncomputable def X8210_24 : Memo where
  n0 := 0
  args := [.agg [.bool false, .int .i64 (.ofNat 0), .int .i64 (.ofNat 0), .int .i64 (.ofNat 4), .int .i64 (.ofNat 2), .int .i64 (.ofNat 1), .str []]]
  pat := []
  n1 := 1
  res := .slice 0 0 10 none
  out := [(0, .cells false true 1 [.int .u8 (.ofNat 2), .int .u8 (.ofNat 8), .int .u8 (.ofNat 60), .int .u8 (.ofNat 241), .int .u8 (.ofNat 169), .int .u8 (.ofNat 216), .int .u8 (.ofNat 8), .int .u8 (.ofNat 4), .int .u8 (.ofNat 2), .int .u8 (.ofNat 0)])]
theorem X8210_24_ok : MemoOK Tryz.prog 210 X8210_24 := memoRun_ok mixed sums8_ok (S := (sums8 Tryz.prog)) (by kernel_rfl) (n := 100000) (by kernel_rfl)
noncomputable def X8210_25 : Memo where
  n0 := 0
  args := [.agg [.bool false, .int .i64 (.ofNat 0), .int .i64 (.ofNat 0), .int .i64 (.ofNat 5), .int .i64 (.ofNat 2), .int .i64 (.ofNat 1), .str []]]
  pat := []
  n1 := 1
  res := .slice 0 0 10 none
  out := [(0, .cells false true 1 [.int .u8 (.ofNat 2), .int .u8 (.ofNat 8), .int .u8 (.ofNat 150), .int .u8 (.ofNat 248), .int .u8 (.ofNat 97), .int .u8 (.ofNat 83), .int .u8 (.ofNat 10), .int .u8 (.ofNat 4), .int .u8 (.ofNat 2), .int .u8 (.ofNat 0)])]
theorem X8210_25_ok : MemoOK Tryz.prog 210 X8210_25 := memoRun_ok mixed sums8_ok (S := (sums8 Tryz.prog)) (by kernel_rfl) (n := 100000) (by kernel_rfl)
noncomputable def X8210_26 : Memo where
  n0 := 0
  args := [.agg [.bool false, .int .i64 (.ofNat 0), .int .i64 (.ofNat 0), .int .i64 (.ofNat 6), .int .i64 (.ofNat 2), .int .i64 (.ofNat 1), .str []]]
  pat := []
  n1 := 1
  res := .slice 0 0 10 none
  out := [(0, .cells false true 1 [.int .u8 (.ofNat 2), .int .u8 (.ofNat 8), .int .u8 (.ofNat 179), .int .u8 (.ofNat 147), .int .u8 (.ofNat 62), .int .u8 (.ofNat 143), .int .u8 (.ofNat 12), .int .u8 (.ofNat 4), .int .u8 (.ofNat 2), .int .u8 (.ofNat 0)])]
theorem X8210_26_ok : MemoOK Tryz.prog 210 X8210_26 := memoRun_ok mixed sums8_ok (S := (sums8 Tryz.prog)) (by kernel_rfl) (n := 100000) (by kernel_rfl)
end Go.Ev
end
section
namespace Go.Ev
open Go.Proofs
noncomputable def X8210_27 : Memo where
  n0 := 0
  args := [.agg [.bool false, .int .i64 (.ofNat 0), .int .i64 (.ofNat 0), .int .i64 (.ofNat 7), .int .i64 (.ofNat 2), .int .i64 (.ofNat 1), .str []]]
  pat := []
  n1 := 1
  res := .slice 0 0 10 none
  out := [(0, .cells false true 1 [.int .u8 (.ofNat 2), .int .u8 (.ofNat 8), .int .u8 (.ofNat 25), .int .u8 (.ofNat 154), .int .u8 (.ofNat 246), .int .u8 (.ofNat 4), .int .u8 (.ofNat 14), .int .u8 (.ofNat 4), .int .u8 (.ofNat 2), .int .u8 (.ofNat 0)])]
theorem X8210_27_ok : MemoOK Tryz.prog 210 X8210_27 := memoRun_ok mixed sums8_ok (S := (sums8 Tryz.prog)) (by kernel_rfl) (n := 100000) (by kernel_rfl)
noncomputable def X8210_28 : Memo where
  n0 := 0
  args := [.agg [.bool false, .int .i64 (.ofNat 0), .int .i64 (.ofNat 0), .int .i64 (.ofNat 8), .int .i64 (.ofNat 2), .int .i64 (.ofNat 1), .str []]]
  pat := []
  n1 := 1
  res := .slice 0 0 10 none
  out := [(0, .cells false true 1 [.int .u8 (.ofNat 2), .int .u8 (.ofNat 8), .int .u8 (.ofNat 169), .int .u8 (.ofNat 92), .int .u8 (.ofNat 214), .int .u8 (.ofNat 168), .int .u8 (.ofNat 16), .int .u8 (.ofNat 4), .int .u8 (.ofNat 2), .int .u8 (.ofNat 0)])]
theorem X8210_28_ok : MemoOK Tryz.prog 210 X8210_28 := memoRun_ok mixed sums8_ok (S := (sums8 Tryz.prog)) (by kernel_rfl) (n := 100000) (by kernel_rfl)
noncomputable def X8210_29 : Memo where
  n0 := 0
  args := [.agg [.bool false, .int .i64 (.ofNat 0), .int .i64 (.ofNat 0), .int .i64 (.ofNat 9), .int .i64 (.ofNat 2), .int .i64 (.ofNat 1), .str []]]
  pat := []
  n1 := 1
  res := .slice 0 0 10 none
  out := [(0, .cells false true 1 [.int .u8 (.ofNat 2), .int .u8 (.ofNat 8), .int .u8 (.ofNat 3), .int .u8 (.ofNat 85), .int .u8 (.ofNat 30), .int .u8 (.ofNat 35), .int .u8 (.ofNat 18), .int .u8 (.ofNat 4), .int .u8 (.ofNat 2), .int .u8 (.ofNat 0)])]
theorem X8210_29_ok : MemoOK Tryz.prog 210 X8210_29 := memoRun_ok mixed sums8_ok (S := (sums8 Tryz.prog)) (by kernel_rfl) (n := 100000) (by kernel_rfl)
end Go.Ev
end
section
namespace Go.Ev
open Go.Proofs
noncomputable def X8210_30 : Memo where
  n0 := 0
  args := [.agg [.bool false, .int .i64 (.ofNat 0), .int .i64 (.ofNat 0), .int .i64 (.ofNat 9), .int .i64 (.ofNat 1), .int .i64 (.ofNat 2), .str [2, 16, 14, 38, 37, 116, 111, 107, 101, 110, 32, 65, 32, 37, 37, 32, 115, 32, 58, 32, 65, 32, 59]]]
  pat := []
  n1 := 1
  res := .slice 0 0 33 none
  out := [(0, .cells false true 1 [.int .u8 (.ofNat 2), .int .u8 (.ofNat 54), .int .u8 (.ofNat 229), .int .u8 (.ofNat 223), .int .u8 (.ofNat 188), .int .u8 (.ofNat 250), .int .u8 (.ofNat 18), .int .u8 (.ofNat 2), .int .u8 (.ofNat 4), .int .u8 (.ofNat 46), .int .u8 (.ofNat 2), .int .u8 (.ofNat 16), .int .u8 (.ofNat 14), .int .u8 (.ofNat 38), .int .u8 (.ofNat 37), .int .u8 (.ofNat 116), .int .u8 (.ofNat 111), .int .u8 (.ofNat 107), .int .u8 (.ofNat 101), .int .u8 (.ofNat 110), .int .u8 (.ofNat 32), .int .u8 (.ofNat 65), .int .u8 (.ofNat 32), .int .u8 (.ofNat 37), .int .u8 (.ofNat 37), .int .u8 (.ofNat 32), .int .u8 (.ofNat 115), .int .u8 (.ofNat 32), .int .u8 (.ofNat 58), .int .u8 (.ofNat 32), .int .u8 (.ofNat 65), .int .u8 (.ofNat 32), .int .u8 (.ofNat 59)])]
theorem X8210_30_ok : MemoOK Tryz.prog 210 X8210_30 := memoRun_ok mixed sums8_ok (S := (sums8 Tryz.prog)) (by kernel_rfl) (n := 100000) (by kernel_rfl)
noncomputable def X8210_31 : Memo where
  n0 := 0
  args := [.agg [.bool false, .int .i64 (.ofNat 0), .int .i64 (.ofNat 0), .int .i64 (.ofNat 10), .int .i64 (.ofNat 2), .int .i64 (.ofNat 1), .str []]]
  pat := []
  n1 := 1
  res := .slice 0 0 10 none
  out := [(0, .cells false true 1 [.int .u8 (.ofNat 2), .int .u8 (.ofNat 8), .int .u8 (.ofNat 38), .int .u8 (.ofNat 62), .int .u8 (.ofNat 65), .int .u8 (.ofNat 255), .int .u8 (.ofNat 20), .int .u8 (.ofNat 4), .int .u8 (.ofNat 2), .int .u8 (.ofNat 0)])]
theorem X8210_31_ok : MemoOK Tryz.prog 210 X8210_31 := memoRun_ok mixed sums8_ok (S := (sums8 Tryz.prog)) (by kernel_rfl) (n := 100000) (by kernel_rfl)
end Go.Ev
end
section
namespace Go.Ev
open Go.Proofs
noncomputable def X8210 : List AV → AMem → OR := fun args m => memoTry X8210_0 args m (memoTry X8210_1 args m (memoTry X8210_2 args m (memoTry X8210_3 args m (memoTry X8210_4 args m (memoTry X8210_5 args m (memoTry X8210_6 args m (memoTry X8210_7 args m (memoTry X8210_8 args m (memoTry X8210_9 args m (memoTry X8210_10 args m (memoTry X8210_11 args m (memoTry X8210_12 args m (memoTry X8210_13 args m (memoTry X8210_14 args m (memoTry X8210_15 args m (memoTry X8210_16 args m (memoTry X8210_17 args m (memoTry X8210_18 args m (memoTry X8210_19 args m (memoTry X8210_20 args m (memoTry X8210_21 args m (memoTry X8210_22 args m (memoTry X8210_23 args m (memoTry X8210_24 args m (memoTry X8210_25 args m (memoTry X8210_26 args m (memoTry X8210_27 args m (memoTry X8210_28 args m (memoTry X8210_29 args m (memoTry X8210_30 args m (memoTry X8210_31 args m (call Tryz.prog (sums8 Tryz.prog) 100000 210 args m))))))))))))))))))))))))))))))))
theorem X8210_ok : SumOK Tryz.prog 210 X8210 := memoSum_ok X8210_0_ok (memoSum_ok X8210_1_ok (memoSum_ok X8210_2_ok (memoSum_ok X8210_3_ok (memoSum_ok X8210_4_ok (memoSum_ok X8210_5_ok (memoSum_ok X8210_6_ok (memoSum_ok X8210_7_ok (memoSum_ok X8210_8_ok (memoSum_ok X8210_9_ok (memoSum_ok X8210_10_ok (memoSum_ok X8210_11_ok (memoSum_ok X8210_12_ok (memoSum_ok X8210_13_ok (memoSum_ok X8210_14_ok (memoSum_ok X8210_15_ok (memoSum_ok X8210_16_ok (memoSum_ok X8210_17_ok (memoSum_ok X8210_18_ok (memoSum_ok X8210_19_ok (memoSum_ok X8210_20_ok (memoSum_ok X8210_21_ok (memoSum_ok X8210_22_ok (memoSum_ok X8210_23_ok (memoSum_ok X8210_24_ok (memoSum_ok X8210_25_ok (memoSum_ok X8210_26_ok (memoSum_ok X8210_27_ok (memoSum_ok X8210_28_ok (memoSum_ok X8210_29_ok (memoSum_ok X8210_30_ok (memoSum_ok X8210_31_ok (fun args m v m1 h => call_sound mixed sums8_ok 100000 210 args m v m1 h))))))))))))))))))))))))))))))))
end Go.Ev
end
