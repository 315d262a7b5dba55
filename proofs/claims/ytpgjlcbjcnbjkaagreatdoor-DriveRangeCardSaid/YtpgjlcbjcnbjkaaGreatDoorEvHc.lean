/- What look.New comes to, whatever the orders of its maps. What look.New comes to, whatever the orders of its maps. What look.New comes to, whatever the orders of its maps. What look.New comes to, whatever the orders of its maps. What look.New comes to, whatever the orders of its maps. -/
import Derived.Test.YtpgjlcbjcnbjkaaGreatDoorEvHb
section
namespace Go.Ev
open Go.Proofs
noncomputable def M591_0 : Memo where
  n0 := 12
  args := [.agg [.int .i64 (.ofNat 1), .int .i64 (.ofNat 1), .int .i64 (.ofNat 2), .int .i64 (.ofNat 0), .slice 0 0 3 none, .slice 1 0 1 none, .slice 2 0 1 none, .slice 3 0 2 none], .ptr 4 0]
  pat := [(3, .cells true true 4 [.int .i64 (.negSucc 0), .slice 5 0 1 (some 1), .int .i64 (.ofNat 0), .int .i64 (.ofNat 0), .int .i64 (.ofNat 2), .slice 6 0 1 none, .int .i64 (.ofNat 0), .int .i64 (.ofNat 0)]), (4, .cells true true 1 [.any, .any, .any, .any, .any, .any, .any, .any, .slice 7 0 3 none, .slice 8 0 3 none, .any]), (5, .cells true true 1 [.int .i64 (.ofNat 2)]), (6, .cells true true 1 [.int .i64 (.ofNat 0)]), (8, .cells true true 1 [.slice 9 0 3 (some 3), .slice 10 0 3 (some 3), .slice 11 0 3 (some 3)]), (9, .cells true true 1 [.int .i64 (.ofNat 1), .int .i64 (.negSucc 0), .int .i64 (.ofNat 2)]), (10, .cells true true 1 [.int .i64 (.negSucc 0), .int .i64 (.negSucc 0), .int .i64 (.negSucc 0)]), (11, .cells true true 1 [.int .i64 (.negSucc 0), .int .i64 (.negSucc 0), .int .i64 (.negSucc 0)])]
  n1 := 18
  res := .ptr 12 0
  out := [(12, .cells false false 1 [.any, .any, .any, .any, .any, .any, .any, .any, .any, .any, .any, .any, .any, .map 13]), (13, .map false 2 [⟨.agg [.int .i64 (.ofNat 1), .int .i64 (.ofNat 1)], .ptr 14 0, none⟩, ⟨.agg [.int .i64 (.ofNat 2), .int .i64 (.ofNat 0)], .ptr 15 0, none⟩]), (14, .cells false true 1 [.fn 149 [], .slice 16 0 1 none]), (15, .cells false true 1 [.fn 149 [], .slice 17 0 1 none]), (16, .cells false true 1 [.int .i64 (.ofNat 1)]), (17, .cells false true 1 [.int .i64 (.ofNat 1)])]
theorem M591_0_ok : MemoOK Tryz.prog 91 M591_0 := memoRunN_ok mixed q5F_ok (S := q5F) (N := fun _ => false) (n := 100000) (hi := 1000000) (by kernel_rfl)
end Go.Ev
end
section
namespace Go.Ev
open Go.Proofs
noncomputable def M591_1 : Memo where
  n0 := 18
  args := [.agg [.int .i64 (.ofNat 3), .int .i64 (.ofNat 1), .int .i64 (.ofNat 4), .int .i64 (.ofNat 0), .slice 0 0 5 none, .slice 1 0 3 none, .slice 2 0 3 none, .slice 3 0 4 none], .ptr 4 0]
  pat := [(3, .cells true true 4 [.int .i64 (.negSucc 0), .slice 5 0 1 (some 1), .int .i64 (.ofNat 0), .int .i64 (.ofNat 0), .int .i64 (.ofNat 4), .slice 6 0 3 none, .int .i64 (.ofNat 1), .int .i64 (.ofNat 1), .int .i64 (.ofNat 4), .slice 7 0 3 none, .int .i64 (.ofNat 2), .int .i64 (.ofNat 1), .int .i64 (.ofNat 4), .slice 8 0 1 none, .int .i64 (.ofNat 0), .int .i64 (.ofNat 0)]), (4, .cells true true 1 [.any, .any, .any, .any, .any, .any, .any, .any, .slice 9 0 7 none, .slice 10 0 7 none, .any]), (5, .cells true true 1 [.int .i64 (.ofNat 4)]), (6, .cells true true 1 [.int .i64 (.ofNat 4), .int .i64 (.ofNat 1), .int .i64 (.ofNat 4)]), (7, .cells true true 1 [.int .i64 (.ofNat 4), .int .i64 (.ofNat 2), .int .i64 (.ofNat 4)]), (8, .cells true true 1 [.int .i64 (.ofNat 0)]), (10, .cells true true 1 [.slice 11 0 5 (some 5), .slice 12 0 5 (some 5), .slice 13 0 5 (some 5), .slice 14 0 5 (some 5), .slice 15 0 5 (some 5), .slice 16 0 5 (some 5), .slice 17 0 5 (some 5)]), (11, .cells true true 1 [.int .i64 (.ofNat 1), .int .i64 (.negSucc 0), .int .i64 (.negSucc 0), .int .i64 (.negSucc 0), .int .i64 (.ofNat 2)]), (12, .cells true true 1 [.int .i64 (.negSucc 0), .int .i64 (.negSucc 0), .int .i64 (.negSucc 0), .int .i64 (.negSucc 0), .int .i64 (.negSucc 0)]), (13, .cells true true 1 [.int .i64 (.negSucc 0), .int .i64 (.ofNat 3), .int .i64 (.ofNat 4), .int .i64 (.negSucc 0), .int .i64 (.negSucc 0)]), (14, .cells true true 1 [.int .i64 (.ofNat 1), .int .i64 (.negSucc 0), .int .i64 (.negSucc 0), .int .i64 (.negSucc 0), .int .i64 (.ofNat 5)]), (15, .cells true true 1 [.int .i64 (.ofNat 1), .int .i64 (.negSucc 0), .int .i64 (.negSucc 0), .int .i64 (.negSucc 0), .int .i64 (.ofNat 6)]), (16, .cells true true 1 [.int .i64 (.negSucc 0), .int .i64 (.ofNat 3), .int .i64 (.ofNat 4), .int .i64 (.negSucc 0), .int .i64 (.negSucc 0)]), (17, .cells true true 1 [.int .i64 (.negSucc 0), .int .i64 (.ofNat 3), .int .i64 (.ofNat 4), .int .i64 (.negSucc 0), .int .i64 (.negSucc 0)])]
  n1 := 28
  res := .ptr 18 0
  out := [(18, .cells false false 1 [.any, .any, .any, .any, .any, .any, .any, .any, .any, .any, .any, .any, .any, .map 19]), (19, .map false 4 [⟨.agg [.int .i64 (.ofNat 1), .int .i64 (.ofNat 3)], .ptr 20 0, none⟩, ⟨.agg [.int .i64 (.ofNat 6), .int .i64 (.ofNat 2)], .ptr 21 0, none⟩, ⟨.agg [.int .i64 (.ofNat 5), .int .i64 (.ofNat 1)], .ptr 22 0, none⟩, ⟨.agg [.int .i64 (.ofNat 2), .int .i64 (.ofNat 0)], .ptr 23 0, none⟩]), (20, .cells false true 1 [.fn 149 [], .slice 24 0 3 none]), (21, .cells false true 1 [.fn 149 [], .slice 25 0 3 none]), (22, .cells false true 1 [.fn 149 [], .slice 26 0 3 none]), (23, .cells false true 1 [.fn 149 [], .slice 27 0 1 none]), (24, .cells false true 1 [.int .i64 (.ofNat 1), .int .i64 (.ofNat 2), .int .i64 (.ofNat 3)]), (25, .cells false true 1 [.int .i64 (.ofNat 1), .int .i64 (.ofNat 2), .int .i64 (.ofNat 3)]), (26, .cells false true 1 [.int .i64 (.ofNat 1), .int .i64 (.ofNat 2), .int .i64 (.ofNat 3)]), (27, .cells false true 1 [.int .i64 (.ofNat 3)])]
theorem M591_1_ok : MemoOK Tryz.prog 91 M591_1 := memoRunN_ok mixed q5F_ok (S := q5F) (N := fun _ => false) (n := 100000) (hi := 1000000) (by kernel_rfl)
end Go.Ev
end
section
namespace Go.Ev
open Go.Proofs
noncomputable def M591_2 : Memo where
  n0 := 18
  args := [.agg [.int .i64 (.ofNat 3), .int .i64 (.ofNat 1), .int .i64 (.ofNat 4), .int .i64 (.ofNat 0), .slice 0 0 5 none, .slice 1 0 3 none, .slice 2 0 3 none, .slice 3 0 4 none], .ptr 4 0]
  pat := [(3, .cells true true 4 [.int .i64 (.negSucc 0), .slice 5 0 1 (some 1), .int .i64 (.ofNat 0), .int .i64 (.ofNat 0), .int .i64 (.ofNat 4), .slice 6 0 3 none, .int .i64 (.ofNat 1), .int .i64 (.ofNat 1), .int .i64 (.ofNat 4), .slice 7 0 3 none, .int .i64 (.ofNat 2), .int .i64 (.ofNat 1), .int .i64 (.ofNat 4), .slice 8 0 1 none, .int .i64 (.ofNat 0), .int .i64 (.ofNat 0)]), (4, .cells true true 1 [.any, .any, .any, .any, .any, .any, .any, .any, .slice 9 0 7 none, .slice 10 0 7 none, .any]), (5, .cells true true 1 [.int .i64 (.ofNat 4)]), (6, .cells true true 1 [.int .i64 (.ofNat 4), .int .i64 (.ofNat 0), .int .i64 (.ofNat 4)]), (7, .cells true true 1 [.int .i64 (.ofNat 4), .int .i64 (.ofNat 1), .int .i64 (.ofNat 4)]), (8, .cells true true 1 [.int .i64 (.ofNat 2)]), (10, .cells true true 1 [.slice 11 0 5 (some 5), .slice 12 0 5 (some 5), .slice 13 0 5 (some 5), .slice 14 0 5 (some 5), .slice 15 0 5 (some 5), .slice 16 0 5 (some 5), .slice 17 0 5 (some 5)]), (11, .cells true true 1 [.int .i64 (.negSucc 0), .int .i64 (.negSucc 0), .int .i64 (.ofNat 1), .int .i64 (.negSucc 0), .int .i64 (.ofNat 2)]), (12, .cells true true 1 [.int .i64 (.negSucc 0), .int .i64 (.negSucc 0), .int .i64 (.negSucc 0), .int .i64 (.negSucc 0), .int .i64 (.negSucc 0)]), (13, .cells true true 1 [.int .i64 (.ofNat 3), .int .i64 (.ofNat 4), .int .i64 (.negSucc 0), .int .i64 (.negSucc 0), .int .i64 (.negSucc 0)]), (14, .cells true true 1 [.int .i64 (.negSucc 0), .int .i64 (.negSucc 0), .int .i64 (.ofNat 1), .int .i64 (.negSucc 0), .int .i64 (.ofNat 5)]), (15, .cells true true 1 [.int .i64 (.negSucc 0), .int .i64 (.negSucc 0), .int .i64 (.ofNat 1), .int .i64 (.negSucc 0), .int .i64 (.ofNat 6)]), (16, .cells true true 1 [.int .i64 (.ofNat 3), .int .i64 (.ofNat 4), .int .i64 (.negSucc 0), .int .i64 (.negSucc 0), .int .i64 (.negSucc 0)]), (17, .cells true true 1 [.int .i64 (.ofNat 3), .int .i64 (.ofNat 4), .int .i64 (.negSucc 0), .int .i64 (.negSucc 0), .int .i64 (.negSucc 0)])]
  n1 := 28
  res := .ptr 18 0
  out := [(18, .cells false false 1 [.any, .any, .any, .any, .any, .any, .any, .any, .any, .any, .any, .any, .any, .map 19]), (19, .map false 4 [⟨.agg [.int .i64 (.ofNat 1), .int .i64 (.ofNat 3)], .ptr 20 0, none⟩, ⟨.agg [.int .i64 (.ofNat 6), .int .i64 (.ofNat 2)], .ptr 21 0, none⟩, ⟨.agg [.int .i64 (.ofNat 5), .int .i64 (.ofNat 1)], .ptr 22 0, none⟩, ⟨.agg [.int .i64 (.ofNat 2), .int .i64 (.ofNat 0)], .ptr 23 0, none⟩]), (20, .cells false true 1 [.fn 149 [], .slice 24 0 3 none]), (21, .cells false true 1 [.fn 149 [], .slice 25 0 3 none]), (22, .cells false true 1 [.fn 149 [], .slice 26 0 3 none]), (23, .cells false true 1 [.fn 149 [], .slice 27 0 1 none]), (24, .cells false true 1 [.int .i64 (.ofNat 0), .int .i64 (.ofNat 1), .int .i64 (.ofNat 3)]), (25, .cells false true 1 [.int .i64 (.ofNat 0), .int .i64 (.ofNat 1), .int .i64 (.ofNat 3)]), (26, .cells false true 1 [.int .i64 (.ofNat 0), .int .i64 (.ofNat 1), .int .i64 (.ofNat 3)]), (27, .cells false true 1 [.int .i64 (.ofNat 3)])]
theorem M591_2_ok : MemoOK Tryz.prog 91 M591_2 := memoRunN_ok mixed q5F_ok (S := q5F) (N := fun _ => false) (n := 100000) (hi := 1000000) (by kernel_rfl)
end Go.Ev
end
section
namespace Go.Ev
open Go.Proofs
noncomputable def M591_3 : Memo where
  n0 := 15
  args := [.agg [.int .i64 (.ofNat 2), .int .i64 (.ofNat 1), .int .i64 (.ofNat 3), .int .i64 (.ofNat 0), .slice 0 0 4 none, .slice 1 0 2 none, .slice 2 0 2 none, .slice 3 0 3 none], .ptr 4 0]
  pat := [(3, .cells true true 4 [.int .i64 (.negSucc 0), .slice 5 0 1 (some 1), .int .i64 (.ofNat 0), .int .i64 (.ofNat 0), .int .i64 (.ofNat 3), .slice 6 0 3 none, .int .i64 (.ofNat 0), .int .i64 (.ofNat 0), .int .i64 (.ofNat 3), .slice 7 0 1 none, .int .i64 (.ofNat 0), .int .i64 (.ofNat 0)]), (4, .cells true true 1 [.any, .any, .any, .any, .any, .any, .any, .any, .slice 8 0 5 none, .slice 9 0 5 none, .any]), (5, .cells true true 1 [.int .i64 (.ofNat 3)]), (6, .cells true true 1 [.int .i64 (.ofNat 3), .int .i64 (.ofNat 1), .int .i64 (.ofNat 3)]), (7, .cells true true 1 [.int .i64 (.ofNat 0)]), (9, .cells true true 1 [.slice 10 0 4 (some 4), .slice 11 0 4 (some 4), .slice 12 0 4 (some 4), .slice 13 0 4 (some 4), .slice 14 0 4 (some 4)]), (10, .cells true true 1 [.int .i64 (.ofNat 1), .int .i64 (.negSucc 0), .int .i64 (.negSucc 0), .int .i64 (.ofNat 2)]), (11, .cells true true 1 [.int .i64 (.negSucc 0), .int .i64 (.negSucc 0), .int .i64 (.negSucc 0), .int .i64 (.negSucc 0)]), (12, .cells true true 1 [.int .i64 (.negSucc 0), .int .i64 (.ofNat 3), .int .i64 (.negSucc 0), .int .i64 (.negSucc 0)]), (13, .cells true true 1 [.int .i64 (.ofNat 1), .int .i64 (.negSucc 0), .int .i64 (.negSucc 0), .int .i64 (.ofNat 4)]), (14, .cells true true 1 [.int .i64 (.negSucc 0), .int .i64 (.ofNat 3), .int .i64 (.negSucc 0), .int .i64 (.negSucc 0)])]
  n1 := 23
  res := .ptr 15 0
  out := [(15, .cells false false 1 [.any, .any, .any, .any, .any, .any, .any, .any, .any, .any, .any, .any, .any, .map 16]), (16, .map false 3 [⟨.agg [.int .i64 (.ofNat 1), .int .i64 (.ofNat 2)], .ptr 17 0, none⟩, ⟨.agg [.int .i64 (.ofNat 4), .int .i64 (.ofNat 1)], .ptr 18 0, none⟩, ⟨.agg [.int .i64 (.ofNat 2), .int .i64 (.ofNat 0)], .ptr 19 0, none⟩]), (17, .cells false true 1 [.fn 149 [], .slice 20 0 2 none]), (18, .cells false true 1 [.fn 149 [], .slice 21 0 2 none]), (19, .cells false true 1 [.fn 149 [], .slice 22 0 1 none]), (20, .cells false true 1 [.int .i64 (.ofNat 1), .int .i64 (.ofNat 2)]), (21, .cells false true 1 [.int .i64 (.ofNat 1), .int .i64 (.ofNat 2)]), (22, .cells false true 1 [.int .i64 (.ofNat 2)])]
theorem M591_3_ok : MemoOK Tryz.prog 91 M591_3 := memoRunN_ok mixed q5F_ok (S := q5F) (N := fun _ => false) (n := 100000) (hi := 1000000) (by kernel_rfl)
end Go.Ev
end
section
namespace Go.Ev
open Go.Proofs
noncomputable def M591 : List AV → AMem → OR := fun args m => memoTry M591_0 args m (memoTry M591_1 args m (memoTry M591_2 args m (memoTry M591_3 args m (.fail 3300))))
theorem M591_ok : SumOK Tryz.prog 91 M591 := memoSum_ok M591_0_ok (memoSum_ok M591_1_ok (memoSum_ok M591_2_ok (memoSum_ok M591_3_ok (fun _ _ _ _ h => by cases h))))
end Go.Ev
end
