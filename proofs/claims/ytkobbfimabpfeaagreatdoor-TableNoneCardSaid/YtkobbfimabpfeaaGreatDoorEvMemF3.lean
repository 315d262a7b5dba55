/- What the flow of lookaheads along a relation comes to, noted and shown for every order. -/
import Derived.Test.YtkobbfimabpfeaaGreatDoorEvMemU3
namespace Go.Ev
open Go.Proofs
noncomputable def F36_0 : Memo where
  n0 := 11
  args := [.ptr 0 0, .map 1]
  pat := [(0, .cells true true 1 [.any, .any, .any, .any, .any, .any, .any, .any, .any, .any, .map 2, .any, .any, .any]), (1, .map true 2 [⟨.agg [.int .i64 (.ofNat 3), .int .i64 (.ofNat 4)], .slice 3 0 3 none, none⟩, ⟨.agg [.int .i64 (.ofNat 4), .int .i64 (.ofNat 4)], .slice 4 0 3 none, none⟩]), (2, .map true 3 [⟨.agg [.int .i64 (.ofNat 0), .int .i64 (.ofNat 4)], .ptr 5 0, none⟩, ⟨.agg [.int .i64 (.ofNat 3), .int .i64 (.ofNat 4)], .ptr 6 0, none⟩, ⟨.agg [.int .i64 (.ofNat 4), .int .i64 (.ofNat 4)], .ptr 7 0, none⟩]), (3, .cells true true 2 [.int .i64 (.ofNat 0), .int .i64 (.ofNat 4), .int .i64 (.ofNat 3), .int .i64 (.ofNat 4), .int .i64 (.ofNat 4), .int .i64 (.ofNat 4)]), (4, .cells true true 2 [.int .i64 (.ofNat 0), .int .i64 (.ofNat 4), .int .i64 (.ofNat 3), .int .i64 (.ofNat 4), .int .i64 (.ofNat 4), .int .i64 (.ofNat 4)]), (5, .cells true true 1 [.fn 41 [], .slice 8 0 3 none]), (6, .cells false true 1 [.fn 41 [], .slice 9 0 2 none]), (7, .cells false true 1 [.fn 41 [], .slice 10 0 2 none]), (8, .cells true true 1 [.int .i64 (.ofNat 1), .int .i64 (.ofNat 2), .int .i64 (.ofNat 3)]), (9, .cells false true 1 [.int .i64 (.ofNat 1), .int .i64 (.ofNat 2)]), (10, .cells false true 1 [.int .i64 (.ofNat 1), .int .i64 (.ofNat 2)])]
  n1 := 13
  res := .tup []
  out := [(6, .cells false true 1 [.fn 41 [], .slice 11 0 3 none]), (7, .cells false true 1 [.fn 41 [], .slice 12 0 3 none]), (11, .cells false true 1 [.int .i64 (.ofNat 1), .int .i64 (.ofNat 2), .int .i64 (.ofNat 3)]), (12, .cells false true 1 [.int .i64 (.ofNat 1), .int .i64 (.ofNat 2), .int .i64 (.ofNat 3)])]
theorem F36_0_ok : MemoOK Tryz.prog 36 F36_0 := memoRunN_ok mixed sums3U_ok (S := sums3U) (N := fun _ => false) (n := 100000) (hi := 1000000) (by kernel_rfl)
noncomputable def F36_1 : Memo where
  n0 := 11
  args := [.ptr 0 0, .map 1]
  pat := [(0, .cells true true 1 [.any, .any, .any, .any, .any, .any, .any, .any, .any, .any, .map 2, .any, .any, .any]), (1, .map true 2 [⟨.agg [.int .i64 (.ofNat 3), .int .i64 (.ofNat 4)], .slice 3 0 3 none, none⟩, ⟨.agg [.int .i64 (.ofNat 4), .int .i64 (.ofNat 4)], .slice 4 0 3 none, none⟩]), (2, .map true 3 [⟨.agg [.int .i64 (.ofNat 0), .int .i64 (.ofNat 4)], .ptr 5 0, none⟩, ⟨.agg [.int .i64 (.ofNat 3), .int .i64 (.ofNat 4)], .ptr 6 0, none⟩, ⟨.agg [.int .i64 (.ofNat 4), .int .i64 (.ofNat 4)], .ptr 7 0, none⟩]), (3, .cells true true 2 [.int .i64 (.ofNat 0), .int .i64 (.ofNat 4), .int .i64 (.ofNat 4), .int .i64 (.ofNat 4), .int .i64 (.ofNat 3), .int .i64 (.ofNat 4)]), (4, .cells true true 2 [.int .i64 (.ofNat 0), .int .i64 (.ofNat 4), .int .i64 (.ofNat 4), .int .i64 (.ofNat 4), .int .i64 (.ofNat 3), .int .i64 (.ofNat 4)]), (5, .cells true true 1 [.fn 41 [], .slice 8 0 3 none]), (6, .cells false true 1 [.fn 41 [], .slice 9 0 2 none]), (7, .cells false true 1 [.fn 41 [], .slice 10 0 2 none]), (8, .cells true true 1 [.int .i64 (.ofNat 1), .int .i64 (.ofNat 2), .int .i64 (.ofNat 3)]), (9, .cells false true 1 [.int .i64 (.ofNat 1), .int .i64 (.ofNat 2)]), (10, .cells false true 1 [.int .i64 (.ofNat 1), .int .i64 (.ofNat 2)])]
  n1 := 13
  res := .tup []
  out := [(6, .cells false true 1 [.fn 41 [], .slice 11 0 3 none]), (7, .cells false true 1 [.fn 41 [], .slice 12 0 3 none]), (11, .cells false true 1 [.int .i64 (.ofNat 1), .int .i64 (.ofNat 2), .int .i64 (.ofNat 3)]), (12, .cells false true 1 [.int .i64 (.ofNat 1), .int .i64 (.ofNat 2), .int .i64 (.ofNat 3)])]
theorem F36_1_ok : MemoOK Tryz.prog 36 F36_1 := memoRunN_ok mixed sums3U_ok (S := sums3U) (N := fun _ => false) (n := 100000) (hi := 1000000) (by kernel_rfl)
noncomputable def F36_2 : Memo where
  n0 := 11
  args := [.ptr 0 0, .map 1]
  pat := [(0, .cells true true 1 [.any, .any, .any, .any, .any, .any, .any, .any, .any, .any, .map 2, .any, .any, .any]), (1, .map true 2 [⟨.agg [.int .i64 (.ofNat 3), .int .i64 (.ofNat 4)], .slice 3 0 3 none, none⟩, ⟨.agg [.int .i64 (.ofNat 4), .int .i64 (.ofNat 4)], .slice 4 0 3 none, none⟩]), (2, .map true 3 [⟨.agg [.int .i64 (.ofNat 0), .int .i64 (.ofNat 4)], .ptr 5 0, none⟩, ⟨.agg [.int .i64 (.ofNat 3), .int .i64 (.ofNat 4)], .ptr 6 0, none⟩, ⟨.agg [.int .i64 (.ofNat 4), .int .i64 (.ofNat 4)], .ptr 7 0, none⟩]), (3, .cells true true 2 [.int .i64 (.ofNat 3), .int .i64 (.ofNat 4), .int .i64 (.ofNat 0), .int .i64 (.ofNat 4), .int .i64 (.ofNat 4), .int .i64 (.ofNat 4)]), (4, .cells true true 2 [.int .i64 (.ofNat 3), .int .i64 (.ofNat 4), .int .i64 (.ofNat 0), .int .i64 (.ofNat 4), .int .i64 (.ofNat 4), .int .i64 (.ofNat 4)]), (5, .cells true true 1 [.fn 41 [], .slice 8 0 3 none]), (6, .cells false true 1 [.fn 41 [], .slice 9 0 2 none]), (7, .cells false true 1 [.fn 41 [], .slice 10 0 2 none]), (8, .cells true true 1 [.int .i64 (.ofNat 1), .int .i64 (.ofNat 2), .int .i64 (.ofNat 3)]), (9, .cells false true 1 [.int .i64 (.ofNat 1), .int .i64 (.ofNat 2)]), (10, .cells false true 1 [.int .i64 (.ofNat 1), .int .i64 (.ofNat 2)])]
  n1 := 13
  res := .tup []
  out := [(6, .cells false true 1 [.fn 41 [], .slice 11 0 3 none]), (7, .cells false true 1 [.fn 41 [], .slice 12 0 3 none]), (11, .cells false true 1 [.int .i64 (.ofNat 1), .int .i64 (.ofNat 2), .int .i64 (.ofNat 3)]), (12, .cells false true 1 [.int .i64 (.ofNat 1), .int .i64 (.ofNat 2), .int .i64 (.ofNat 3)])]
theorem F36_2_ok : MemoOK Tryz.prog 36 F36_2 := memoRunN_ok mixed sums3U_ok (S := sums3U) (N := fun _ => false) (n := 100000) (hi := 1000000) (by kernel_rfl)
noncomputable def F36_3 : Memo where
  n0 := 11
  args := [.ptr 0 0, .map 1]
  pat := [(0, .cells true true 1 [.any, .any, .any, .any, .any, .any, .any, .any, .any, .any, .map 2, .any, .any, .any]), (1, .map true 2 [⟨.agg [.int .i64 (.ofNat 3), .int .i64 (.ofNat 4)], .slice 3 0 3 none, none⟩, ⟨.agg [.int .i64 (.ofNat 4), .int .i64 (.ofNat 4)], .slice 4 0 3 none, none⟩]), (2, .map true 3 [⟨.agg [.int .i64 (.ofNat 0), .int .i64 (.ofNat 4)], .ptr 5 0, none⟩, ⟨.agg [.int .i64 (.ofNat 3), .int .i64 (.ofNat 4)], .ptr 6 0, none⟩, ⟨.agg [.int .i64 (.ofNat 4), .int .i64 (.ofNat 4)], .ptr 7 0, none⟩]), (3, .cells true true 2 [.int .i64 (.ofNat 3), .int .i64 (.ofNat 4), .int .i64 (.ofNat 4), .int .i64 (.ofNat 4), .int .i64 (.ofNat 0), .int .i64 (.ofNat 4)]), (4, .cells true true 2 [.int .i64 (.ofNat 3), .int .i64 (.ofNat 4), .int .i64 (.ofNat 4), .int .i64 (.ofNat 4), .int .i64 (.ofNat 0), .int .i64 (.ofNat 4)]), (5, .cells true true 1 [.fn 41 [], .slice 8 0 3 none]), (6, .cells false true 1 [.fn 41 [], .slice 9 0 2 none]), (7, .cells false true 1 [.fn 41 [], .slice 10 0 2 none]), (8, .cells true true 1 [.int .i64 (.ofNat 1), .int .i64 (.ofNat 2), .int .i64 (.ofNat 3)]), (9, .cells false true 1 [.int .i64 (.ofNat 1), .int .i64 (.ofNat 2)]), (10, .cells false true 1 [.int .i64 (.ofNat 1), .int .i64 (.ofNat 2)])]
  n1 := 13
  res := .tup []
  out := [(6, .cells false true 1 [.fn 41 [], .slice 11 0 3 none]), (7, .cells false true 1 [.fn 41 [], .slice 12 0 3 none]), (11, .cells false true 1 [.int .i64 (.ofNat 1), .int .i64 (.ofNat 2), .int .i64 (.ofNat 3)]), (12, .cells false true 1 [.int .i64 (.ofNat 1), .int .i64 (.ofNat 2), .int .i64 (.ofNat 3)])]
theorem F36_3_ok : MemoOK Tryz.prog 36 F36_3 := memoRunN_ok mixed sums3U_ok (S := sums3U) (N := fun _ => false) (n := 100000) (hi := 1000000) (by kernel_rfl)
noncomputable def F36_4 : Memo where
  n0 := 11
  args := [.ptr 0 0, .map 1]
  pat := [(0, .cells true true 1 [.any, .any, .any, .any, .any, .any, .any, .any, .any, .any, .map 2, .any, .any, .any]), (1, .map true 2 [⟨.agg [.int .i64 (.ofNat 3), .int .i64 (.ofNat 4)], .slice 3 0 3 none, none⟩, ⟨.agg [.int .i64 (.ofNat 4), .int .i64 (.ofNat 4)], .slice 4 0 3 none, none⟩]), (2, .map true 3 [⟨.agg [.int .i64 (.ofNat 0), .int .i64 (.ofNat 4)], .ptr 5 0, none⟩, ⟨.agg [.int .i64 (.ofNat 3), .int .i64 (.ofNat 4)], .ptr 6 0, none⟩, ⟨.agg [.int .i64 (.ofNat 4), .int .i64 (.ofNat 4)], .ptr 7 0, none⟩]), (3, .cells true true 2 [.int .i64 (.ofNat 4), .int .i64 (.ofNat 4), .int .i64 (.ofNat 0), .int .i64 (.ofNat 4), .int .i64 (.ofNat 3), .int .i64 (.ofNat 4)]), (4, .cells true true 2 [.int .i64 (.ofNat 4), .int .i64 (.ofNat 4), .int .i64 (.ofNat 0), .int .i64 (.ofNat 4), .int .i64 (.ofNat 3), .int .i64 (.ofNat 4)]), (5, .cells true true 1 [.fn 41 [], .slice 8 0 3 none]), (6, .cells false true 1 [.fn 41 [], .slice 9 0 2 none]), (7, .cells false true 1 [.fn 41 [], .slice 10 0 2 none]), (8, .cells true true 1 [.int .i64 (.ofNat 1), .int .i64 (.ofNat 2), .int .i64 (.ofNat 3)]), (9, .cells false true 1 [.int .i64 (.ofNat 1), .int .i64 (.ofNat 2)]), (10, .cells false true 1 [.int .i64 (.ofNat 1), .int .i64 (.ofNat 2)])]
  n1 := 13
  res := .tup []
  out := [(6, .cells false true 1 [.fn 41 [], .slice 11 0 3 none]), (7, .cells false true 1 [.fn 41 [], .slice 12 0 3 none]), (11, .cells false true 1 [.int .i64 (.ofNat 1), .int .i64 (.ofNat 2), .int .i64 (.ofNat 3)]), (12, .cells false true 1 [.int .i64 (.ofNat 1), .int .i64 (.ofNat 2), .int .i64 (.ofNat 3)])]
theorem F36_4_ok : MemoOK Tryz.prog 36 F36_4 := memoRunN_ok mixed sums3U_ok (S := sums3U) (N := fun _ => false) (n := 100000) (hi := 1000000) (by kernel_rfl)
noncomputable def F36_5 : Memo where
  n0 := 11
  args := [.ptr 0 0, .map 1]
  pat := [(0, .cells true true 1 [.any, .any, .any, .any, .any, .any, .any, .any, .any, .any, .map 2, .any, .any, .any]), (1, .map true 2 [⟨.agg [.int .i64 (.ofNat 3), .int .i64 (.ofNat 4)], .slice 3 0 3 none, none⟩, ⟨.agg [.int .i64 (.ofNat 4), .int .i64 (.ofNat 4)], .slice 4 0 3 none, none⟩]), (2, .map true 3 [⟨.agg [.int .i64 (.ofNat 0), .int .i64 (.ofNat 4)], .ptr 5 0, none⟩, ⟨.agg [.int .i64 (.ofNat 3), .int .i64 (.ofNat 4)], .ptr 6 0, none⟩, ⟨.agg [.int .i64 (.ofNat 4), .int .i64 (.ofNat 4)], .ptr 7 0, none⟩]), (3, .cells true true 2 [.int .i64 (.ofNat 4), .int .i64 (.ofNat 4), .int .i64 (.ofNat 3), .int .i64 (.ofNat 4), .int .i64 (.ofNat 0), .int .i64 (.ofNat 4)]), (4, .cells true true 2 [.int .i64 (.ofNat 4), .int .i64 (.ofNat 4), .int .i64 (.ofNat 3), .int .i64 (.ofNat 4), .int .i64 (.ofNat 0), .int .i64 (.ofNat 4)]), (5, .cells true true 1 [.fn 41 [], .slice 8 0 3 none]), (6, .cells false true 1 [.fn 41 [], .slice 9 0 2 none]), (7, .cells false true 1 [.fn 41 [], .slice 10 0 2 none]), (8, .cells true true 1 [.int .i64 (.ofNat 1), .int .i64 (.ofNat 2), .int .i64 (.ofNat 3)]), (9, .cells false true 1 [.int .i64 (.ofNat 1), .int .i64 (.ofNat 2)]), (10, .cells false true 1 [.int .i64 (.ofNat 1), .int .i64 (.ofNat 2)])]
  n1 := 13
  res := .tup []
  out := [(6, .cells false true 1 [.fn 41 [], .slice 11 0 3 none]), (7, .cells false true 1 [.fn 41 [], .slice 12 0 3 none]), (11, .cells false true 1 [.int .i64 (.ofNat 1), .int .i64 (.ofNat 2), .int .i64 (.ofNat 3)]), (12, .cells false true 1 [.int .i64 (.ofNat 1), .int .i64 (.ofNat 2), .int .i64 (.ofNat 3)])]
theorem F36_5_ok : MemoOK Tryz.prog 36 F36_5 := memoRunN_ok mixed sums3U_ok (S := sums3U) (N := fun _ => false) (n := 100000) (hi := 1000000) (by kernel_rfl)
noncomputable def F36_6 : Memo where
  n0 := 9
  args := [.ptr 0 0, .map 1]
  pat := [(0, .cells true true 1 [.any, .any, .any, .any, .any, .any, .any, .any, .any, .any, .map 2, .any, .any, .any]), (1, .map true 0 []), (2, .map true 3 [⟨.agg [.int .i64 (.ofNat 0), .int .i64 (.ofNat 4)], .ptr 3 0, none⟩, ⟨.agg [.int .i64 (.ofNat 3), .int .i64 (.ofNat 4)], .ptr 4 0, none⟩, ⟨.agg [.int .i64 (.ofNat 4), .int .i64 (.ofNat 4)], .ptr 5 0, none⟩]), (3, .cells true true 1 [.fn 41 [], .slice 6 0 3 none]), (4, .cells true true 1 [.fn 41 [], .slice 7 0 2 none]), (5, .cells true true 1 [.fn 41 [], .slice 8 0 2 none]), (6, .cells true true 1 [.int .i64 (.ofNat 1), .int .i64 (.ofNat 2), .int .i64 (.ofNat 3)]), (7, .cells true true 1 [.int .i64 (.ofNat 1), .int .i64 (.ofNat 2)]), (8, .cells true true 1 [.int .i64 (.ofNat 1), .int .i64 (.ofNat 2)])]
  n1 := 9
  res := .tup []
  out := []
theorem F36_6_ok : MemoOK Tryz.prog 36 F36_6 := memoRunN_ok mixed sums3U_ok (S := sums3U) (N := fun _ => false) (n := 100000) (hi := 1000000) (by kernel_rfl)
noncomputable def F36 : List AV → AMem → OR := fun args m => memoTry F36_0 args m (memoTry F36_1 args m (memoTry F36_2 args m (memoTry F36_3 args m (memoTry F36_4 args m (memoTry F36_5 args m (memoTry F36_6 args m (.fail 3300)))))))
theorem F36_ok : SumOK Tryz.prog 36 F36 := memoSum_ok F36_0_ok (memoSum_ok F36_1_ok (memoSum_ok F36_2_ok (memoSum_ok F36_3_ok (memoSum_ok F36_4_ok (memoSum_ok F36_5_ok (memoSum_ok F36_6_ok (fun _ _ _ _ h => by cases h)))))))
noncomputable def sums3UF : Sums := fun f => bif2 (Nat.beq f 36) (some F36) (sums3U f)
theorem sums3UF_ok : SumsOK Tryz.prog sums3UF := by
  intro f s hs
  unfold sums3UF at hs
  rw [bif2_eq] at hs
  split at hs
  · rename_i e
    have e := Nat.eq_of_beq_eq_true e
    subst e; cases hs; exact F36_ok
  · exact sums3U_ok f s hs
end Go.Ev
