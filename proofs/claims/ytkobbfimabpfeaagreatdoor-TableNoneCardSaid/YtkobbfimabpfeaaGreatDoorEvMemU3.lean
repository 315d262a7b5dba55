/- What unions of sets of numbers come to, noted and shown by runs. -/
import Derived.Test.YtkobbfimabpfeaaGreatDoorEvMeq
import Derived.Test.YtkobbfimabpfeaaGreatDoorEvFin03
namespace Go.Ev
open Go.Proofs
noncomputable def u39_0 : Memo where
  n0 := 4
  args := [.ptr 0 0, .ptr 1 0]
  pat := [(0, .cells true true 1 [.fn 41 [], .slice 2 0 3 none]), (1, .cells true true 1 [.fn 41 [], .slice 3 0 3 none]), (2, .cells true true 1 [.int .i64 (.ofNat 1), .int .i64 (.ofNat 2), .int .i64 (.ofNat 3)]), (3, .cells true true 1 [.int .i64 (.ofNat 1), .int .i64 (.ofNat 2), .int .i64 (.ofNat 3)])]
  n1 := 4
  res := .bool false
  out := []
theorem u39_0_ok : MemoOK Tryz.prog 39 u39_0 := memoRun_ok mixed sums3_ok (by kernel_rfl) (n := 100000) (by kernel_rfl)
noncomputable def u39_1 : Memo where
  n0 := 3
  args := [.ptr 0 0, .ptr 1 0]
  pat := [(0, .cells false true 1 [.fn 41 [], .nils]), (1, .cells true true 1 [.fn 41 [], .slice 2 0 3 none]), (2, .cells true true 1 [.int .i64 (.ofNat 1), .int .i64 (.ofNat 2), .int .i64 (.ofNat 3)])]
  n1 := 4
  res := .bool true
  out := [(0, .cells false true 1 [.fn 41 [], .slice 3 0 3 none]), (3, .cells false true 1 [.int .i64 (.ofNat 1), .int .i64 (.ofNat 2), .int .i64 (.ofNat 3)])]
theorem u39_1_ok : MemoOK Tryz.prog 39 u39_1 := memoRun_ok mixed sums3_ok (by kernel_rfl) (n := 100000) (by kernel_rfl)
noncomputable def u39_2 : Memo where
  n0 := 2
  args := [.ptr 0 0, .ptr 0 0]
  pat := [(0, .cells true true 1 [.fn 41 [], .slice 1 0 3 none]), (1, .cells true true 1 [.int .i64 (.ofNat 1), .int .i64 (.ofNat 2), .int .i64 (.ofNat 3)])]
  n1 := 2
  res := .bool false
  out := []
theorem u39_2_ok : MemoOK Tryz.prog 39 u39_2 := memoRun_ok mixed sums3_ok (by kernel_rfl) (n := 100000) (by kernel_rfl)
noncomputable def u39_3 : Memo where
  n0 := 4
  args := [.ptr 0 0, .ptr 1 0]
  pat := [(0, .cells false true 1 [.fn 41 [], .slice 2 0 2 none]), (1, .cells true true 1 [.fn 41 [], .slice 3 0 3 none]), (2, .cells false true 1 [.int .i64 (.ofNat 1), .int .i64 (.ofNat 2)]), (3, .cells true true 1 [.int .i64 (.ofNat 1), .int .i64 (.ofNat 2), .int .i64 (.ofNat 3)])]
  n1 := 5
  res := .bool true
  out := [(0, .cells false true 1 [.fn 41 [], .slice 4 0 3 none]), (4, .cells false true 1 [.int .i64 (.ofNat 1), .int .i64 (.ofNat 2), .int .i64 (.ofNat 3)])]
theorem u39_3_ok : MemoOK Tryz.prog 39 u39_3 := memoRun_ok mixed sums3_ok (by kernel_rfl) (n := 100000) (by kernel_rfl)
noncomputable def u39_4 : Memo where
  n0 := 2
  args := [.ptr 0 0, .ptr 0 0]
  pat := [(0, .cells true true 1 [.fn 41 [], .slice 1 0 2 none]), (1, .cells true true 1 [.int .i64 (.ofNat 1), .int .i64 (.ofNat 2)])]
  n1 := 2
  res := .bool false
  out := []
theorem u39_4_ok : MemoOK Tryz.prog 39 u39_4 := memoRun_ok mixed sums3_ok (by kernel_rfl) (n := 100000) (by kernel_rfl)
noncomputable def u39_5 : Memo where
  n0 := 4
  args := [.ptr 0 0, .ptr 1 0]
  pat := [(0, .cells true true 1 [.fn 41 [], .slice 2 0 3 none]), (1, .cells true true 1 [.fn 41 [], .slice 3 0 2 none]), (2, .cells true true 1 [.int .i64 (.ofNat 1), .int .i64 (.ofNat 2), .int .i64 (.ofNat 3)]), (3, .cells true true 1 [.int .i64 (.ofNat 1), .int .i64 (.ofNat 2)])]
  n1 := 4
  res := .bool false
  out := []
theorem u39_5_ok : MemoOK Tryz.prog 39 u39_5 := memoRun_ok mixed sums3_ok (by kernel_rfl) (n := 100000) (by kernel_rfl)
noncomputable def u39_6 : Memo where
  n0 := 4
  args := [.ptr 0 0, .ptr 1 0]
  pat := [(0, .cells true true 1 [.fn 41 [], .slice 2 0 2 none]), (1, .cells true true 1 [.fn 41 [], .slice 3 0 2 none]), (2, .cells true true 1 [.int .i64 (.ofNat 1), .int .i64 (.ofNat 2)]), (3, .cells true true 1 [.int .i64 (.ofNat 1), .int .i64 (.ofNat 2)])]
  n1 := 4
  res := .bool false
  out := []
theorem u39_6_ok : MemoOK Tryz.prog 39 u39_6 := memoRun_ok mixed sums3_ok (by kernel_rfl) (n := 100000) (by kernel_rfl)
noncomputable def u39_7 : Memo where
  n0 := 3
  args := [.ptr 0 0, .ptr 1 0]
  pat := [(0, .cells false true 1 [.fn 41 [], .nils]), (1, .cells true true 1 [.fn 41 [], .slice 2 0 1 none]), (2, .cells true true 1 [.int .i64 (.ofNat 0)])]
  n1 := 4
  res := .bool true
  out := [(0, .cells false true 1 [.fn 41 [], .slice 3 0 1 none]), (3, .cells false true 1 [.int .i64 (.ofNat 0)])]
theorem u39_7_ok : MemoOK Tryz.prog 39 u39_7 := memoRun_ok mixed sums3_ok (by kernel_rfl) (n := 100000) (by kernel_rfl)
noncomputable def u39_8 : Memo where
  n0 := 2
  args := [.ptr 0 0, .ptr 1 0]
  pat := [(0, .cells true true 1 [.fn 41 [], .nils]), (1, .cells true true 1 [.fn 41 [], .nils])]
  n1 := 2
  res := .bool false
  out := []
theorem u39_8_ok : MemoOK Tryz.prog 39 u39_8 := memoRun_ok mixed sums3_ok (by kernel_rfl) (n := 100000) (by kernel_rfl)
noncomputable def u39_9 : Memo where
  n0 := 4
  args := [.ptr 0 0, .ptr 1 0]
  pat := [(0, .cells true true 1 [.fn 41 [], .slice 2 0 1 none]), (1, .cells true true 1 [.fn 41 [], .slice 3 0 1 none]), (2, .cells true true 1 [.int .i64 (.ofNat 0)]), (3, .cells true true 1 [.int .i64 (.ofNat 0)])]
  n1 := 4
  res := .bool false
  out := []
theorem u39_9_ok : MemoOK Tryz.prog 39 u39_9 := memoRun_ok mixed sums3_ok (by kernel_rfl) (n := 100000) (by kernel_rfl)
noncomputable def u39_10 : Memo where
  n0 := 3
  args := [.ptr 0 0, .ptr 1 0]
  pat := [(0, .cells true true 1 [.fn 41 [], .slice 2 0 3 none]), (1, .cells true true 1 [.fn 41 [], .nils]), (2, .cells true true 1 [.int .i64 (.ofNat 1), .int .i64 (.ofNat 2), .int .i64 (.ofNat 3)])]
  n1 := 3
  res := .bool false
  out := []
theorem u39_10_ok : MemoOK Tryz.prog 39 u39_10 := memoRun_ok mixed sums3_ok (by kernel_rfl) (n := 100000) (by kernel_rfl)
noncomputable def u39_11 : Memo where
  n0 := 3
  args := [.ptr 0 0, .ptr 1 0]
  pat := [(0, .cells false true 1 [.fn 41 [], .nils]), (1, .cells true true 1 [.fn 41 [], .slice 2 0 1 none]), (2, .cells true true 1 [.int .i64 (.ofNat 1)])]
  n1 := 4
  res := .bool true
  out := [(0, .cells false true 1 [.fn 41 [], .slice 3 0 1 none]), (3, .cells false true 1 [.int .i64 (.ofNat 1)])]
theorem u39_11_ok : MemoOK Tryz.prog 39 u39_11 := memoRun_ok mixed sums3_ok (by kernel_rfl) (n := 100000) (by kernel_rfl)
noncomputable def u39_12 : Memo where
  n0 := 3
  args := [.ptr 0 0, .ptr 1 0]
  pat := [(0, .cells false true 1 [.fn 41 [], .nils]), (1, .cells true true 1 [.fn 41 [], .slice 2 0 1 none]), (2, .cells true true 1 [.int .i64 (.ofNat 2)])]
  n1 := 4
  res := .bool true
  out := [(0, .cells false true 1 [.fn 41 [], .slice 3 0 1 none]), (3, .cells false true 1 [.int .i64 (.ofNat 2)])]
theorem u39_12_ok : MemoOK Tryz.prog 39 u39_12 := memoRun_ok mixed sums3_ok (by kernel_rfl) (n := 100000) (by kernel_rfl)
noncomputable def u39_13 : Memo where
  n0 := 4
  args := [.ptr 0 0, .ptr 1 0]
  pat := [(0, .cells false true 1 [.fn 41 [], .slice 2 0 1 none]), (1, .cells true true 1 [.fn 41 [], .slice 3 0 1 none]), (2, .cells false true 1 [.int .i64 (.ofNat 3)]), (3, .cells true true 1 [.int .i64 (.ofNat 1)])]
  n1 := 5
  res := .bool true
  out := [(0, .cells false true 1 [.fn 41 [], .slice 4 0 2 none]), (4, .cells false true 1 [.int .i64 (.ofNat 1), .int .i64 (.ofNat 3)])]
theorem u39_13_ok : MemoOK Tryz.prog 39 u39_13 := memoRun_ok mixed sums3_ok (by kernel_rfl) (n := 100000) (by kernel_rfl)
noncomputable def u39_14 : Memo where
  n0 := 3
  args := [.ptr 0 0, .ptr 1 0]
  pat := [(0, .cells true true 1 [.fn 41 [], .slice 2 0 2 none]), (1, .cells true true 1 [.fn 41 [], .nils]), (2, .cells true true 1 [.int .i64 (.ofNat 1), .int .i64 (.ofNat 3)])]
  n1 := 3
  res := .bool false
  out := []
theorem u39_14_ok : MemoOK Tryz.prog 39 u39_14 := memoRun_ok mixed sums3_ok (by kernel_rfl) (n := 100000) (by kernel_rfl)
noncomputable def u39_15 : Memo where
  n0 := 2
  args := [.ptr 0 0, .ptr 0 0]
  pat := [(0, .cells true true 1 [.fn 41 [], .slice 1 0 2 none]), (1, .cells true true 1 [.int .i64 (.ofNat 1), .int .i64 (.ofNat 3)])]
  n1 := 2
  res := .bool false
  out := []
theorem u39_15_ok : MemoOK Tryz.prog 39 u39_15 := memoRun_ok mixed sums3_ok (by kernel_rfl) (n := 100000) (by kernel_rfl)
noncomputable def u39_16 : Memo where
  n0 := 4
  args := [.ptr 0 0, .ptr 1 0]
  pat := [(0, .cells false true 1 [.fn 41 [], .slice 2 0 2 none]), (1, .cells true true 1 [.fn 41 [], .slice 3 0 1 none]), (2, .cells false true 1 [.int .i64 (.ofNat 1), .int .i64 (.ofNat 3)]), (3, .cells true true 1 [.int .i64 (.ofNat 2)])]
  n1 := 5
  res := .bool true
  out := [(0, .cells false true 1 [.fn 41 [], .slice 4 0 3 none]), (4, .cells false true 1 [.int .i64 (.ofNat 1), .int .i64 (.ofNat 2), .int .i64 (.ofNat 3)])]
theorem u39_16_ok : MemoOK Tryz.prog 39 u39_16 := memoRun_ok mixed sums3_ok (by kernel_rfl) (n := 100000) (by kernel_rfl)
noncomputable def u39_17 : Memo where
  n0 := 4
  args := [.ptr 0 0, .ptr 1 0]
  pat := [(0, .cells true true 1 [.fn 41 [], .slice 2 0 3 none]), (1, .cells true true 1 [.fn 41 [], .slice 3 0 1 none]), (2, .cells true true 1 [.int .i64 (.ofNat 1), .int .i64 (.ofNat 2), .int .i64 (.ofNat 3)]), (3, .cells true true 1 [.int .i64 (.ofNat 1)])]
  n1 := 4
  res := .bool false
  out := []
theorem u39_17_ok : MemoOK Tryz.prog 39 u39_17 := memoRun_ok mixed sums3_ok (by kernel_rfl) (n := 100000) (by kernel_rfl)
noncomputable def u39_18 : Memo where
  n0 := 4
  args := [.ptr 0 0, .ptr 1 0]
  pat := [(0, .cells true true 1 [.fn 41 [], .slice 2 0 3 none]), (1, .cells true true 1 [.fn 41 [], .slice 3 0 1 none]), (2, .cells true true 1 [.int .i64 (.ofNat 1), .int .i64 (.ofNat 2), .int .i64 (.ofNat 3)]), (3, .cells true true 1 [.int .i64 (.ofNat 2)])]
  n1 := 4
  res := .bool false
  out := []
theorem u39_18_ok : MemoOK Tryz.prog 39 u39_18 := memoRun_ok mixed sums3_ok (by kernel_rfl) (n := 100000) (by kernel_rfl)
noncomputable def u39 : List AV → AMem → OR := fun args m => memoTry u39_0 args m (memoTry u39_1 args m (memoTry u39_2 args m (memoTry u39_3 args m (memoTry u39_4 args m (memoTry u39_5 args m (memoTry u39_6 args m (memoTry u39_7 args m (memoTry u39_8 args m (memoTry u39_9 args m (memoTry u39_10 args m (memoTry u39_11 args m (memoTry u39_12 args m (memoTry u39_13 args m (memoTry u39_14 args m (memoTry u39_15 args m (memoTry u39_16 args m (memoTry u39_17 args m (memoTry u39_18 args m (.fail 3300)))))))))))))))))))
theorem u39_ok : SumOK Tryz.prog 39 u39 := memoSum_ok u39_0_ok (memoSum_ok u39_1_ok (memoSum_ok u39_2_ok (memoSum_ok u39_3_ok (memoSum_ok u39_4_ok (memoSum_ok u39_5_ok (memoSum_ok u39_6_ok (memoSum_ok u39_7_ok (memoSum_ok u39_8_ok (memoSum_ok u39_9_ok (memoSum_ok u39_10_ok (memoSum_ok u39_11_ok (memoSum_ok u39_12_ok (memoSum_ok u39_13_ok (memoSum_ok u39_14_ok (memoSum_ok u39_15_ok (memoSum_ok u39_16_ok (memoSum_ok u39_17_ok (memoSum_ok u39_18_ok (fun _ _ _ _ h => by cases h)))))))))))))))))))
noncomputable def sums3U : Sums := fun f => bif2 (Nat.beq f 39) (some u39) (sums3 Tryz.prog f)
theorem sums3U_ok : SumsOK Tryz.prog sums3U := by
  intro f s hs
  unfold sums3U at hs
  rw [bif2_eq] at hs
  split at hs
  · rename_i e
    have e := Nat.eq_of_beq_eq_true e
    subst e; cases hs; exact u39_ok
  · exact sums3_ok f s hs
end Go.Ev
