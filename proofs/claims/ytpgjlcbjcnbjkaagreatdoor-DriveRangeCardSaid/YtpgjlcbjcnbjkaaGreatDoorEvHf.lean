/- The sums with those of automata and lookaheads. What table.Build comes to. What table.Build comes to. What table.Build comes to. What table.Build comes to. What table.Build comes to. The sums with those of tables and rows. What gate.Compile comes to. What gate.Compile comes to. What gate.Compile comes to. All notes. -/
import Derived.Test.YtpgjlcbjcnbjkaaGreatDoorEvHd
import Derived.Test.YtpgjlcbjcnbjkaaGreatDoorEvHc
import Derived.Test.YtpgjlcbjcnbjkaaGreatDoorEvHe
section
namespace Go.Ev
open Go.Proofs
noncomputable def q5T : Sums := addS 91 M591 (addS 90 A590 ((sums5 Tryz.prog)))
theorem q5T_ok : SumsOK Tryz.prog q5T := addS_ok M591_ok (addS_ok A590_ok (sums5_ok))
end Go.Ev
end
section
namespace Go.Ev
open Go.Proofs
noncomputable def T543_0 : Memo where
  n0 := 6
  args := [.agg [.int .i64 (.ofNat 1), .int .i64 (.ofNat 1), .int .i64 (.ofNat 2), .int .i64 (.ofNat 0), .slice 0 0 3 none, .slice 1 0 1 none, .slice 2 0 1 none, .slice 3 0 2 none]]
  pat := [(1, .cells true true 1 [.int .i64 (.ofNat 0)]), (2, .cells true true 1 [.int .i64 (.ofNat 0)]), (3, .cells true true 4 [.int .i64 (.negSucc 0), .slice 4 0 1 (some 1), .int .i64 (.ofNat 0), .int .i64 (.ofNat 0), .int .i64 (.ofNat 2), .slice 5 0 1 none, .int .i64 (.ofNat 0), .int .i64 (.ofNat 0)]), (4, .cells true true 1 [.int .i64 (.ofNat 2)]), (5, .cells true true 1 [.int .i64 (.ofNat 0)])]
  n1 := 15
  res := .tup [.ptr 6 0, .int .i64 (.ofNat 0)]
  out := [(6, .cells false true 1 [.slice 7 0 3 none, .slice 8 0 3 none, .int .i64 (.ofNat 1), .int .i64 (.ofNat 0), .int .i64 (.ofNat 0)]), (7, .cells false true 1 [.slice 9 0 2 (some 2), .slice 10 0 2 (some 2), .slice 11 0 2 (some 2)]), (8, .cells false true 1 [.slice 12 0 1 none, .slice 13 0 1 none, .slice 14 0 1 none]), (9, .cells false true 2 [.int .i64 (.ofNat 1), .int .i64 (.ofNat 1), .int .i64 (.ofNat 0), .int .i64 (.ofNat 0)]), (10, .cells false true 2 [.int .i64 (.ofNat 0), .int .i64 (.ofNat 0), .int .i64 (.ofNat 2), .int .i64 (.ofNat 1)]), (11, .cells false true 2 [.int .i64 (.ofNat 0), .int .i64 (.ofNat 0), .int .i64 (.ofNat 3), .int .i64 (.ofNat 0)]), (12, .cells false true 1 [.int .i64 (.ofNat 2)]), (13, .cells false true 1 [.int .i64 (.negSucc 0)]), (14, .cells false true 1 [.int .i64 (.negSucc 0)])]
theorem T543_0_ok : MemoOK Tryz.prog 43 T543_0 := memoRun_ok mixed q5T_ok (S := q5T) (by kernel_rfl) (n := 100000) (by kernel_rfl)
end Go.Ev
end
section
namespace Go.Ev
open Go.Proofs
noncomputable def T543_1 : Memo where
  n0 := 8
  args := [.agg [.int .i64 (.ofNat 3), .int .i64 (.ofNat 1), .int .i64 (.ofNat 4), .int .i64 (.ofNat 0), .slice 0 0 5 none, .slice 1 0 3 none, .slice 2 0 3 none, .slice 3 0 4 none]]
  pat := [(1, .cells true true 1 [.int .i64 (.ofNat 0), .int .i64 (.ofNat 1), .int .i64 (.ofNat 2)]), (2, .cells true true 1 [.int .i64 (.ofNat 0), .int .i64 (.ofNat 1), .int .i64 (.ofNat 1)]), (3, .cells true true 4 [.int .i64 (.negSucc 0), .slice 4 0 1 (some 1), .int .i64 (.ofNat 0), .int .i64 (.ofNat 0), .int .i64 (.ofNat 4), .slice 5 0 3 none, .int .i64 (.ofNat 1), .int .i64 (.ofNat 1), .int .i64 (.ofNat 4), .slice 6 0 3 none, .int .i64 (.ofNat 2), .int .i64 (.ofNat 1), .int .i64 (.ofNat 4), .slice 7 0 1 none, .int .i64 (.ofNat 0), .int .i64 (.ofNat 0)]), (4, .cells true true 1 [.int .i64 (.ofNat 4)]), (5, .cells true true 1 [.int .i64 (.ofNat 4), .int .i64 (.ofNat 1), .int .i64 (.ofNat 4)]), (6, .cells true true 1 [.int .i64 (.ofNat 4), .int .i64 (.ofNat 2), .int .i64 (.ofNat 4)]), (7, .cells true true 1 [.int .i64 (.ofNat 0)])]
  n1 := 25
  res := .tup [.ptr 8 0, .int .i64 (.ofNat 0)]
  out := [(8, .cells false true 1 [.slice 9 0 7 none, .slice 10 0 7 none, .int .i64 (.ofNat 3), .int .i64 (.ofNat 0), .int .i64 (.ofNat 4)]), (9, .cells false true 1 [.slice 11 0 4 (some 4), .slice 12 0 4 (some 4), .slice 13 0 4 (some 4), .slice 14 0 4 (some 4), .slice 15 0 4 (some 4), .slice 16 0 4 (some 4), .slice 17 0 4 (some 4)]), (10, .cells false true 1 [.slice 18 0 1 none, .slice 19 0 1 none, .slice 20 0 1 none, .slice 21 0 1 none, .slice 22 0 1 none, .slice 23 0 1 none, .slice 24 0 1 none]), (11, .cells false true 2 [.int .i64 (.ofNat 1), .int .i64 (.ofNat 1), .int .i64 (.ofNat 0), .int .i64 (.ofNat 0), .int .i64 (.ofNat 0), .int .i64 (.ofNat 0), .int .i64 (.ofNat 0), .int .i64 (.ofNat 0)]), (12, .cells false true 2 [.int .i64 (.ofNat 0), .int .i64 (.ofNat 0), .int .i64 (.ofNat 2), .int .i64 (.ofNat 3), .int .i64 (.ofNat 2), .int .i64 (.ofNat 3), .int .i64 (.ofNat 2), .int .i64 (.ofNat 3)]), (13, .cells false true 2 [.int .i64 (.ofNat 0), .int .i64 (.ofNat 0), .int .i64 (.ofNat 1), .int .i64 (.ofNat 3), .int .i64 (.ofNat 1), .int .i64 (.ofNat 4), .int .i64 (.ofNat 3), .int .i64 (.ofNat 0)]), (14, .cells false true 2 [.int .i64 (.ofNat 1), .int .i64 (.ofNat 1), .int .i64 (.ofNat 0), .int .i64 (.ofNat 0), .int .i64 (.ofNat 0), .int .i64 (.ofNat 0), .int .i64 (.ofNat 0), .int .i64 (.ofNat 0)]), (15, .cells false true 2 [.int .i64 (.ofNat 1), .int .i64 (.ofNat 1), .int .i64 (.ofNat 0), .int .i64 (.ofNat 0), .int .i64 (.ofNat 0), .int .i64 (.ofNat 0), .int .i64 (.ofNat 0), .int .i64 (.ofNat 0)]), (16, .cells false true 2 [.int .i64 (.ofNat 0), .int .i64 (.ofNat 0), .int .i64 (.ofNat 2), .int .i64 (.ofNat 1), .int .i64 (.ofNat 1), .int .i64 (.ofNat 4), .int .i64 (.ofNat 2), .int .i64 (.ofNat 1)]), (17, .cells false true 2 [.int .i64 (.ofNat 0), .int .i64 (.ofNat 0), .int .i64 (.ofNat 2), .int .i64 (.ofNat 2), .int .i64 (.ofNat 2), .int .i64 (.ofNat 2), .int .i64 (.ofNat 2), .int .i64 (.ofNat 2)]), (18, .cells false true 1 [.int .i64 (.ofNat 2)]), (19, .cells false true 1 [.int .i64 (.negSucc 0)]), (20, .cells false true 1 [.int .i64 (.negSucc 0)]), (21, .cells false true 1 [.int .i64 (.ofNat 5)]), (22, .cells false true 1 [.int .i64 (.ofNat 6)]), (23, .cells false true 1 [.int .i64 (.negSucc 0)]), (24, .cells false true 1 [.int .i64 (.negSucc 0)])]
theorem T543_1_ok : MemoOK Tryz.prog 43 T543_1 := memoRun_ok mixed q5T_ok (S := q5T) (by kernel_rfl) (n := 100000) (by kernel_rfl)
end Go.Ev
end
section
namespace Go.Ev
open Go.Proofs
noncomputable def T543_2 : Memo where
  n0 := 8
  args := [.agg [.int .i64 (.ofNat 3), .int .i64 (.ofNat 1), .int .i64 (.ofNat 4), .int .i64 (.ofNat 0), .slice 0 0 5 none, .slice 1 0 3 none, .slice 2 0 3 none, .slice 3 0 4 none]]
  pat := [(1, .cells true true 1 [.int .i64 (.ofNat 1), .int .i64 (.ofNat 2), .int .i64 (.ofNat 0)]), (2, .cells true true 1 [.int .i64 (.ofNat 1), .int .i64 (.ofNat 1), .int .i64 (.ofNat 0)]), (3, .cells true true 4 [.int .i64 (.negSucc 0), .slice 4 0 1 (some 1), .int .i64 (.ofNat 0), .int .i64 (.ofNat 0), .int .i64 (.ofNat 4), .slice 5 0 3 none, .int .i64 (.ofNat 1), .int .i64 (.ofNat 1), .int .i64 (.ofNat 4), .slice 6 0 3 none, .int .i64 (.ofNat 2), .int .i64 (.ofNat 1), .int .i64 (.ofNat 4), .slice 7 0 1 none, .int .i64 (.ofNat 0), .int .i64 (.ofNat 0)]), (4, .cells true true 1 [.int .i64 (.ofNat 4)]), (5, .cells true true 1 [.int .i64 (.ofNat 4), .int .i64 (.ofNat 0), .int .i64 (.ofNat 4)]), (6, .cells true true 1 [.int .i64 (.ofNat 4), .int .i64 (.ofNat 1), .int .i64 (.ofNat 4)]), (7, .cells true true 1 [.int .i64 (.ofNat 2)])]
  n1 := 25
  res := .tup [.ptr 8 0, .int .i64 (.ofNat 0)]
  out := [(8, .cells false true 1 [.slice 9 0 7 none, .slice 10 0 7 none, .int .i64 (.ofNat 3), .int .i64 (.ofNat 0), .int .i64 (.ofNat 4)]), (9, .cells false true 1 [.slice 11 0 4 (some 4), .slice 12 0 4 (some 4), .slice 13 0 4 (some 4), .slice 14 0 4 (some 4), .slice 15 0 4 (some 4), .slice 16 0 4 (some 4), .slice 17 0 4 (some 4)]), (10, .cells false true 1 [.slice 18 0 1 none, .slice 19 0 1 none, .slice 20 0 1 none, .slice 21 0 1 none, .slice 22 0 1 none, .slice 23 0 1 none, .slice 24 0 1 none]), (11, .cells false true 2 [.int .i64 (.ofNat 0), .int .i64 (.ofNat 0), .int .i64 (.ofNat 0), .int .i64 (.ofNat 0), .int .i64 (.ofNat 1), .int .i64 (.ofNat 1), .int .i64 (.ofNat 0), .int .i64 (.ofNat 0)]), (12, .cells false true 2 [.int .i64 (.ofNat 2), .int .i64 (.ofNat 3), .int .i64 (.ofNat 2), .int .i64 (.ofNat 3), .int .i64 (.ofNat 0), .int .i64 (.ofNat 0), .int .i64 (.ofNat 2), .int .i64 (.ofNat 3)]), (13, .cells false true 2 [.int .i64 (.ofNat 1), .int .i64 (.ofNat 3), .int .i64 (.ofNat 1), .int .i64 (.ofNat 4), .int .i64 (.ofNat 0), .int .i64 (.ofNat 0), .int .i64 (.ofNat 3), .int .i64 (.ofNat 0)]), (14, .cells false true 2 [.int .i64 (.ofNat 0), .int .i64 (.ofNat 0), .int .i64 (.ofNat 0), .int .i64 (.ofNat 0), .int .i64 (.ofNat 1), .int .i64 (.ofNat 1), .int .i64 (.ofNat 0), .int .i64 (.ofNat 0)]), (15, .cells false true 2 [.int .i64 (.ofNat 0), .int .i64 (.ofNat 0), .int .i64 (.ofNat 0), .int .i64 (.ofNat 0), .int .i64 (.ofNat 1), .int .i64 (.ofNat 1), .int .i64 (.ofNat 0), .int .i64 (.ofNat 0)]), (16, .cells false true 2 [.int .i64 (.ofNat 2), .int .i64 (.ofNat 1), .int .i64 (.ofNat 1), .int .i64 (.ofNat 4), .int .i64 (.ofNat 0), .int .i64 (.ofNat 0), .int .i64 (.ofNat 2), .int .i64 (.ofNat 1)]), (17, .cells false true 2 [.int .i64 (.ofNat 2), .int .i64 (.ofNat 2), .int .i64 (.ofNat 2), .int .i64 (.ofNat 2), .int .i64 (.ofNat 0), .int .i64 (.ofNat 0), .int .i64 (.ofNat 2), .int .i64 (.ofNat 2)]), (18, .cells false true 1 [.int .i64 (.ofNat 2)]), (19, .cells false true 1 [.int .i64 (.negSucc 0)]), (20, .cells false true 1 [.int .i64 (.negSucc 0)]), (21, .cells false true 1 [.int .i64 (.ofNat 5)]), (22, .cells false true 1 [.int .i64 (.ofNat 6)]), (23, .cells false true 1 [.int .i64 (.negSucc 0)]), (24, .cells false true 1 [.int .i64 (.negSucc 0)])]
theorem T543_2_ok : MemoOK Tryz.prog 43 T543_2 := memoRun_ok mixed q5T_ok (S := q5T) (by kernel_rfl) (n := 100000) (by kernel_rfl)
end Go.Ev
end
section
namespace Go.Ev
open Go.Proofs
noncomputable def T543_3 : Memo where
  n0 := 7
  args := [.agg [.int .i64 (.ofNat 2), .int .i64 (.ofNat 1), .int .i64 (.ofNat 3), .int .i64 (.ofNat 0), .slice 0 0 4 none, .slice 1 0 2 none, .slice 2 0 2 none, .slice 3 0 3 none]]
  pat := [(1, .cells true true 1 [.int .i64 (.ofNat 0), .int .i64 (.ofNat 0)]), (2, .cells true true 1 [.int .i64 (.ofNat 0), .int .i64 (.ofNat 0)]), (3, .cells true true 4 [.int .i64 (.negSucc 0), .slice 4 0 1 (some 1), .int .i64 (.ofNat 0), .int .i64 (.ofNat 0), .int .i64 (.ofNat 3), .slice 5 0 3 none, .int .i64 (.ofNat 0), .int .i64 (.ofNat 0), .int .i64 (.ofNat 3), .slice 6 0 1 none, .int .i64 (.ofNat 0), .int .i64 (.ofNat 0)]), (4, .cells true true 1 [.int .i64 (.ofNat 3)]), (5, .cells true true 1 [.int .i64 (.ofNat 3), .int .i64 (.ofNat 1), .int .i64 (.ofNat 3)]), (6, .cells true true 1 [.int .i64 (.ofNat 0)])]
  n1 := 20
  res := .tup [.ptr 7 0, .int .i64 (.ofNat 0)]
  out := [(7, .cells false true 1 [.slice 8 0 5 none, .slice 9 0 5 none, .int .i64 (.ofNat 2), .int .i64 (.ofNat 1), .int .i64 (.ofNat 0)]), (8, .cells false true 1 [.slice 10 0 3 (some 3), .slice 11 0 3 (some 3), .slice 12 0 3 (some 3), .slice 13 0 3 (some 3), .slice 14 0 3 (some 3)]), (9, .cells false true 1 [.slice 15 0 1 none, .slice 16 0 1 none, .slice 17 0 1 none, .slice 18 0 1 none, .slice 19 0 1 none]), (10, .cells false true 2 [.int .i64 (.ofNat 1), .int .i64 (.ofNat 1), .int .i64 (.ofNat 0), .int .i64 (.ofNat 0), .int .i64 (.ofNat 0), .int .i64 (.ofNat 0)]), (11, .cells false true 2 [.int .i64 (.ofNat 0), .int .i64 (.ofNat 0), .int .i64 (.ofNat 2), .int .i64 (.ofNat 2), .int .i64 (.ofNat 2), .int .i64 (.ofNat 2)]), (12, .cells false true 2 [.int .i64 (.ofNat 0), .int .i64 (.ofNat 0), .int .i64 (.ofNat 1), .int .i64 (.ofNat 3), .int .i64 (.ofNat 3), .int .i64 (.ofNat 0)]), (13, .cells false true 2 [.int .i64 (.ofNat 1), .int .i64 (.ofNat 1), .int .i64 (.ofNat 0), .int .i64 (.ofNat 0), .int .i64 (.ofNat 0), .int .i64 (.ofNat 0)]), (14, .cells false true 2 [.int .i64 (.ofNat 0), .int .i64 (.ofNat 0), .int .i64 (.ofNat 1), .int .i64 (.ofNat 3), .int .i64 (.ofNat 2), .int .i64 (.ofNat 1)]), (15, .cells false true 1 [.int .i64 (.ofNat 2)]), (16, .cells false true 1 [.int .i64 (.negSucc 0)]), (17, .cells false true 1 [.int .i64 (.negSucc 0)]), (18, .cells false true 1 [.int .i64 (.ofNat 4)]), (19, .cells false true 1 [.int .i64 (.negSucc 0)])]
theorem T543_3_ok : MemoOK Tryz.prog 43 T543_3 := memoRun_ok mixed q5T_ok (S := q5T) (by kernel_rfl) (n := 100000) (by kernel_rfl)
end Go.Ev
end
section
namespace Go.Ev
open Go.Proofs
noncomputable def T543 : List AV → AMem → OR := fun args m => memoTry T543_0 args m (memoTry T543_1 args m (memoTry T543_2 args m (memoTry T543_3 args m (.fail 3300))))
theorem T543_ok : SumOK Tryz.prog 43 T543 := memoSum_ok T543_0_ok (memoSum_ok T543_1_ok (memoSum_ok T543_2_ok (memoSum_ok T543_3_ok (fun _ _ _ _ h => by cases h))))
end Go.Ev
end
section
namespace Go.Ev
open Go.Proofs
noncomputable def q5G : Sums := addS 44 L544 (addS 43 T543 ((sums5 Tryz.prog)))
theorem q5G_ok : SumsOK Tryz.prog q5G := addS_ok L544_ok (addS_ok T543_ok (sums5_ok))
end Go.Ev
end
section
namespace Go.Ev
open Go.Proofs
noncomputable def G5131_0 : Memo where
  n0 := 0
  args := [.str [37, 116, 111, 107, 101, 110, 32, 65, 10, 37, 37, 10, 115, 32, 58, 32, 65, 32, 59, 10]]
  pat := []
  n1 := 18
  res := .tup [.agg [.slice 0 0 1 none, .str [], .int .i64 (.ofNat 0), .slice 1 0 1 none, .int .i64 (.ofNat 1), .int .i64 (.ofNat 1), .int .i64 (.ofNat 2), .int .i64 (.ofNat 0), .slice 2 0 3 none, .slice 3 0 1 none, .slice 4 0 1 none, .slice 5 0 2 none, .int .i64 (.ofNat 1), .int .i64 (.ofNat 1), .int .i64 (.ofNat 0), .int .i64 (.ofNat 0), .slice 6 0 3 none, .slice 7 0 3 none, .slice 8 0 3 none], .agg [.int .i64 (.ofNat 0), .int .i64 (.ofNat 0)]]
  out := [(0, .cells false true 3 [.str [65], .int .i64 (.ofNat 0), .int .i64 (.ofNat 0)]), (1, .cells false true 3 [.str [115], .slice 9 0 1 none, .str []]), (2, .cells false true 1 [.str [65], .str [], .str [115]]), (3, .cells false true 1 [.int .i64 (.ofNat 0)]), (4, .cells false true 1 [.int .i64 (.ofNat 0)]), (5, .cells false true 4 [.int .i64 (.negSucc 0), .slice 10 0 1 (some 1), .int .i64 (.ofNat 0), .int .i64 (.ofNat 0), .int .i64 (.ofNat 2), .slice 11 0 1 none, .int .i64 (.ofNat 0), .int .i64 (.ofNat 0)]), (6, .cells false true 1 [.int .i64 (.ofNat 0), .int .i64 (.ofNat 1), .int .i64 (.ofNat 2)]), (7, .cells false true 1 [.slice 12 0 2 none, .slice 13 0 2 none, .slice 14 0 2 none]), (8, .cells false true 1 [.slice 15 0 1 none, .slice 16 0 1 none, .slice 17 0 1 none]), (9, .cells false true 1 [.str [65]]), (10, .cells false false 1 [.int .i64 (.ofNat 2)]), (11, .cells false true 1 [.int .i64 (.ofNat 0)]), (12, .cells false true 2 [.int .i64 (.ofNat 1), .int .i64 (.ofNat 1), .int .i64 (.ofNat 0), .int .i64 (.ofNat 0)]), (13, .cells false true 2 [.int .i64 (.ofNat 0), .int .i64 (.ofNat 0), .int .i64 (.ofNat 2), .int .i64 (.ofNat 1)]), (14, .cells false true 2 [.int .i64 (.ofNat 0), .int .i64 (.ofNat 0), .int .i64 (.ofNat 3), .int .i64 (.ofNat 0)]), (15, .cells false true 1 [.int .i64 (.ofNat 2)]), (16, .cells false true 1 [.int .i64 (.negSucc 0)]), (17, .cells false true 1 [.int .i64 (.negSucc 0)])]
theorem G5131_0_ok : MemoOK Tryz.prog 131 G5131_0 := memoRun_ok mixed q5G_ok (S := q5G) (by kernel_rfl) (n := 100000) (by kernel_rfl)
noncomputable def G5131_1 : Memo where
  n0 := 0
  args := [.str [37, 108, 101, 102, 116, 32, 80, 32, 37, 108, 101, 102, 116, 32, 77, 32, 37, 116, 111, 107, 101, 110, 32, 78, 32, 37, 37, 32, 101, 58, 32, 101, 32, 80, 32, 101, 32, 124, 32, 101, 32, 77, 32, 101, 32, 124, 32, 78, 59]]
  pat := []
  n1 := 30
  res := .tup [.agg [.slice 0 0 3 none, .str [], .int .i64 (.ofNat 0), .slice 1 0 3 none, .int .i64 (.ofNat 3), .int .i64 (.ofNat 1), .int .i64 (.ofNat 4), .int .i64 (.ofNat 0), .slice 2 0 5 none, .slice 3 0 3 none, .slice 4 0 3 none, .slice 5 0 4 none, .int .i64 (.ofNat 3), .int .i64 (.ofNat 1), .int .i64 (.ofNat 0), .int .i64 (.ofNat 4), .slice 6 0 7 none, .slice 7 0 7 none, .slice 8 0 7 none], .agg [.int .i64 (.ofNat 0), .int .i64 (.ofNat 0)]]
  out := [(0, .cells false true 3 [.str [80], .int .i64 (.ofNat 1), .int .i64 (.ofNat 1), .str [77], .int .i64 (.ofNat 2), .int .i64 (.ofNat 1), .str [78], .int .i64 (.ofNat 0), .int .i64 (.ofNat 0)]), (1, .cells false true 3 [.str [101], .slice 9 0 3 none, .str [], .str [101], .slice 10 0 3 none, .str [], .str [101], .slice 11 0 1 none, .str []]), (2, .cells false true 1 [.str [80], .str [77], .str [78], .str [], .str [101]]), (3, .cells false true 1 [.int .i64 (.ofNat 1), .int .i64 (.ofNat 2), .int .i64 (.ofNat 0)]), (4, .cells false true 1 [.int .i64 (.ofNat 1), .int .i64 (.ofNat 1), .int .i64 (.ofNat 0)]), (5, .cells false true 4 [.int .i64 (.negSucc 0), .slice 12 0 1 (some 1), .int .i64 (.ofNat 0), .int .i64 (.ofNat 0), .int .i64 (.ofNat 4), .slice 13 0 3 none, .int .i64 (.ofNat 1), .int .i64 (.ofNat 1), .int .i64 (.ofNat 4), .slice 14 0 3 none, .int .i64 (.ofNat 2), .int .i64 (.ofNat 1), .int .i64 (.ofNat 4), .slice 15 0 1 none, .int .i64 (.ofNat 0), .int .i64 (.ofNat 0)]), (6, .cells false true 1 [.int .i64 (.ofNat 0), .int .i64 (.ofNat 1), .int .i64 (.ofNat 2), .int .i64 (.ofNat 3), .int .i64 (.ofNat 4), .int .i64 (.ofNat 5), .int .i64 (.ofNat 6)]), (7, .cells false true 1 [.slice 16 0 4 none, .slice 17 0 4 none, .slice 18 0 4 none, .slice 19 0 4 none, .slice 20 0 4 none, .slice 21 0 4 none, .slice 22 0 4 none]), (8, .cells false true 1 [.slice 23 0 1 none, .slice 24 0 1 none, .slice 25 0 1 none, .slice 26 0 1 none, .slice 27 0 1 none, .slice 28 0 1 none, .slice 29 0 1 none]), (9, .cells false true 1 [.str [101], .str [80], .str [101]]), (10, .cells false true 1 [.str [101], .str [77], .str [101]]), (11, .cells false true 1 [.str [78]]), (12, .cells false false 1 [.int .i64 (.ofNat 4)]), (13, .cells false true 1 [.int .i64 (.ofNat 4), .int .i64 (.ofNat 0), .int .i64 (.ofNat 4)]), (14, .cells false true 1 [.int .i64 (.ofNat 4), .int .i64 (.ofNat 1), .int .i64 (.ofNat 4)]), (15, .cells false true 1 [.int .i64 (.ofNat 2)]), (16, .cells false true 2 [.int .i64 (.ofNat 0), .int .i64 (.ofNat 0), .int .i64 (.ofNat 0), .int .i64 (.ofNat 0), .int .i64 (.ofNat 1), .int .i64 (.ofNat 1), .int .i64 (.ofNat 0), .int .i64 (.ofNat 0)]), (17, .cells false true 2 [.int .i64 (.ofNat 2), .int .i64 (.ofNat 3), .int .i64 (.ofNat 2), .int .i64 (.ofNat 3), .int .i64 (.ofNat 0), .int .i64 (.ofNat 0), .int .i64 (.ofNat 2), .int .i64 (.ofNat 3)]), (18, .cells false true 2 [.int .i64 (.ofNat 1), .int .i64 (.ofNat 3), .int .i64 (.ofNat 1), .int .i64 (.ofNat 4), .int .i64 (.ofNat 0), .int .i64 (.ofNat 0), .int .i64 (.ofNat 3), .int .i64 (.ofNat 0)]), (19, .cells false true 2 [.int .i64 (.ofNat 0), .int .i64 (.ofNat 0), .int .i64 (.ofNat 0), .int .i64 (.ofNat 0), .int .i64 (.ofNat 1), .int .i64 (.ofNat 1), .int .i64 (.ofNat 0), .int .i64 (.ofNat 0)]), (20, .cells false true 2 [.int .i64 (.ofNat 0), .int .i64 (.ofNat 0), .int .i64 (.ofNat 0), .int .i64 (.ofNat 0), .int .i64 (.ofNat 1), .int .i64 (.ofNat 1), .int .i64 (.ofNat 0), .int .i64 (.ofNat 0)]), (21, .cells false true 2 [.int .i64 (.ofNat 2), .int .i64 (.ofNat 1), .int .i64 (.ofNat 1), .int .i64 (.ofNat 4), .int .i64 (.ofNat 0), .int .i64 (.ofNat 0), .int .i64 (.ofNat 2), .int .i64 (.ofNat 1)]), (22, .cells false true 2 [.int .i64 (.ofNat 2), .int .i64 (.ofNat 2), .int .i64 (.ofNat 2), .int .i64 (.ofNat 2), .int .i64 (.ofNat 0), .int .i64 (.ofNat 0), .int .i64 (.ofNat 2), .int .i64 (.ofNat 2)]), (23, .cells false true 1 [.int .i64 (.ofNat 2)]), (24, .cells false true 1 [.int .i64 (.negSucc 0)]), (25, .cells false true 1 [.int .i64 (.negSucc 0)]), (26, .cells false true 1 [.int .i64 (.ofNat 5)]), (27, .cells false true 1 [.int .i64 (.ofNat 6)]), (28, .cells false true 1 [.int .i64 (.negSucc 0)]), (29, .cells false true 1 [.int .i64 (.negSucc 0)])]
theorem G5131_1_ok : MemoOK Tryz.prog 131 G5131_1 := memoRun_ok mixed q5G_ok (S := q5G) (by kernel_rfl) (n := 100000) (by kernel_rfl)
noncomputable def G5131_2 : Memo where
  n0 := 0
  args := [.str [37, 116, 111, 107, 101, 110, 32, 78, 32, 80, 32, 37, 37, 32, 101, 58, 32, 101, 32, 80, 32, 101, 32, 124, 32, 78, 59]]
  pat := []
  n1 := 0
  res := .tup [.agg [.nils, .str [], .int .i64 (.ofNat 0), .nils, .int .i64 (.ofNat 0), .int .i64 (.ofNat 0), .int .i64 (.ofNat 0), .int .i64 (.ofNat 0), .nils, .nils, .nils, .nils, .int .i64 (.ofNat 0), .int .i64 (.ofNat 0), .int .i64 (.ofNat 0), .int .i64 (.ofNat 0), .nils, .nils, .nils], .agg [.int .i64 (.ofNat 9), .int .i64 (.ofNat 0)]]
  out := []
theorem G5131_2_ok : MemoOK Tryz.prog 131 G5131_2 := memoRun_ok mixed q5G_ok (S := q5G) (by kernel_rfl) (n := 100000) (by kernel_rfl)
noncomputable def G5131_3 : Memo where
  n0 := 0
  args := [.str [37, 116, 111, 107, 101, 110, 32, 78, 32, 37, 37, 32, 101, 58, 32, 78, 59]]
  pat := []
  n1 := 18
  res := .tup [.agg [.slice 0 0 1 none, .str [], .int .i64 (.ofNat 0), .slice 1 0 1 none, .int .i64 (.ofNat 1), .int .i64 (.ofNat 1), .int .i64 (.ofNat 2), .int .i64 (.ofNat 0), .slice 2 0 3 none, .slice 3 0 1 none, .slice 4 0 1 none, .slice 5 0 2 none, .int .i64 (.ofNat 1), .int .i64 (.ofNat 1), .int .i64 (.ofNat 0), .int .i64 (.ofNat 0), .slice 6 0 3 none, .slice 7 0 3 none, .slice 8 0 3 none], .agg [.int .i64 (.ofNat 0), .int .i64 (.ofNat 0)]]
  out := [(0, .cells false true 3 [.str [78], .int .i64 (.ofNat 0), .int .i64 (.ofNat 0)]), (1, .cells false true 3 [.str [101], .slice 9 0 1 none, .str []]), (2, .cells false true 1 [.str [78], .str [], .str [101]]), (3, .cells false true 1 [.int .i64 (.ofNat 0)]), (4, .cells false true 1 [.int .i64 (.ofNat 0)]), (5, .cells false true 4 [.int .i64 (.negSucc 0), .slice 10 0 1 (some 1), .int .i64 (.ofNat 0), .int .i64 (.ofNat 0), .int .i64 (.ofNat 2), .slice 11 0 1 none, .int .i64 (.ofNat 0), .int .i64 (.ofNat 0)]), (6, .cells false true 1 [.int .i64 (.ofNat 0), .int .i64 (.ofNat 1), .int .i64 (.ofNat 2)]), (7, .cells false true 1 [.slice 12 0 2 none, .slice 13 0 2 none, .slice 14 0 2 none]), (8, .cells false true 1 [.slice 15 0 1 none, .slice 16 0 1 none, .slice 17 0 1 none]), (9, .cells false true 1 [.str [78]]), (10, .cells false false 1 [.int .i64 (.ofNat 2)]), (11, .cells false true 1 [.int .i64 (.ofNat 0)]), (12, .cells false true 2 [.int .i64 (.ofNat 1), .int .i64 (.ofNat 1), .int .i64 (.ofNat 0), .int .i64 (.ofNat 0)]), (13, .cells false true 2 [.int .i64 (.ofNat 0), .int .i64 (.ofNat 0), .int .i64 (.ofNat 2), .int .i64 (.ofNat 1)]), (14, .cells false true 2 [.int .i64 (.ofNat 0), .int .i64 (.ofNat 0), .int .i64 (.ofNat 3), .int .i64 (.ofNat 0)]), (15, .cells false true 1 [.int .i64 (.ofNat 2)]), (16, .cells false true 1 [.int .i64 (.negSucc 0)]), (17, .cells false true 1 [.int .i64 (.negSucc 0)])]
theorem G5131_3_ok : MemoOK Tryz.prog 131 G5131_3 := memoRun_ok mixed q5G_ok (S := q5G) (by kernel_rfl) (n := 100000) (by kernel_rfl)
end Go.Ev
end
section
namespace Go.Ev
open Go.Proofs
noncomputable def G5131_4 : Memo where
  n0 := 0
  args := [.str [37, 116, 111, 107, 101, 110, 32, 65, 32, 37, 37, 32, 115, 32, 58, 32, 65, 32, 59]]
  pat := []
  n1 := 18
  res := .tup [.agg [.slice 0 0 1 none, .str [], .int .i64 (.ofNat 0), .slice 1 0 1 none, .int .i64 (.ofNat 1), .int .i64 (.ofNat 1), .int .i64 (.ofNat 2), .int .i64 (.ofNat 0), .slice 2 0 3 none, .slice 3 0 1 none, .slice 4 0 1 none, .slice 5 0 2 none, .int .i64 (.ofNat 1), .int .i64 (.ofNat 1), .int .i64 (.ofNat 0), .int .i64 (.ofNat 0), .slice 6 0 3 none, .slice 7 0 3 none, .slice 8 0 3 none], .agg [.int .i64 (.ofNat 0), .int .i64 (.ofNat 0)]]
  out := [(0, .cells false true 3 [.str [65], .int .i64 (.ofNat 0), .int .i64 (.ofNat 0)]), (1, .cells false true 3 [.str [115], .slice 9 0 1 none, .str []]), (2, .cells false true 1 [.str [65], .str [], .str [115]]), (3, .cells false true 1 [.int .i64 (.ofNat 0)]), (4, .cells false true 1 [.int .i64 (.ofNat 0)]), (5, .cells false true 4 [.int .i64 (.negSucc 0), .slice 10 0 1 (some 1), .int .i64 (.ofNat 0), .int .i64 (.ofNat 0), .int .i64 (.ofNat 2), .slice 11 0 1 none, .int .i64 (.ofNat 0), .int .i64 (.ofNat 0)]), (6, .cells false true 1 [.int .i64 (.ofNat 0), .int .i64 (.ofNat 1), .int .i64 (.ofNat 2)]), (7, .cells false true 1 [.slice 12 0 2 none, .slice 13 0 2 none, .slice 14 0 2 none]), (8, .cells false true 1 [.slice 15 0 1 none, .slice 16 0 1 none, .slice 17 0 1 none]), (9, .cells false true 1 [.str [65]]), (10, .cells false false 1 [.int .i64 (.ofNat 2)]), (11, .cells false true 1 [.int .i64 (.ofNat 0)]), (12, .cells false true 2 [.int .i64 (.ofNat 1), .int .i64 (.ofNat 1), .int .i64 (.ofNat 0), .int .i64 (.ofNat 0)]), (13, .cells false true 2 [.int .i64 (.ofNat 0), .int .i64 (.ofNat 0), .int .i64 (.ofNat 2), .int .i64 (.ofNat 1)]), (14, .cells false true 2 [.int .i64 (.ofNat 0), .int .i64 (.ofNat 0), .int .i64 (.ofNat 3), .int .i64 (.ofNat 0)]), (15, .cells false true 1 [.int .i64 (.ofNat 2)]), (16, .cells false true 1 [.int .i64 (.negSucc 0)]), (17, .cells false true 1 [.int .i64 (.negSucc 0)])]
theorem G5131_4_ok : MemoOK Tryz.prog 131 G5131_4 := memoRun_ok mixed q5G_ok (S := q5G) (by kernel_rfl) (n := 100000) (by kernel_rfl)
noncomputable def G5131_5 : Memo where
  n0 := 0
  args := [.str [37, 116, 111, 107, 101, 110, 32, 65, 32, 37, 37, 32, 115, 58, 32, 65, 59]]
  pat := []
  n1 := 18
  res := .tup [.agg [.slice 0 0 1 none, .str [], .int .i64 (.ofNat 0), .slice 1 0 1 none, .int .i64 (.ofNat 1), .int .i64 (.ofNat 1), .int .i64 (.ofNat 2), .int .i64 (.ofNat 0), .slice 2 0 3 none, .slice 3 0 1 none, .slice 4 0 1 none, .slice 5 0 2 none, .int .i64 (.ofNat 1), .int .i64 (.ofNat 1), .int .i64 (.ofNat 0), .int .i64 (.ofNat 0), .slice 6 0 3 none, .slice 7 0 3 none, .slice 8 0 3 none], .agg [.int .i64 (.ofNat 0), .int .i64 (.ofNat 0)]]
  out := [(0, .cells false true 3 [.str [65], .int .i64 (.ofNat 0), .int .i64 (.ofNat 0)]), (1, .cells false true 3 [.str [115], .slice 9 0 1 none, .str []]), (2, .cells false true 1 [.str [65], .str [], .str [115]]), (3, .cells false true 1 [.int .i64 (.ofNat 0)]), (4, .cells false true 1 [.int .i64 (.ofNat 0)]), (5, .cells false true 4 [.int .i64 (.negSucc 0), .slice 10 0 1 (some 1), .int .i64 (.ofNat 0), .int .i64 (.ofNat 0), .int .i64 (.ofNat 2), .slice 11 0 1 none, .int .i64 (.ofNat 0), .int .i64 (.ofNat 0)]), (6, .cells false true 1 [.int .i64 (.ofNat 0), .int .i64 (.ofNat 1), .int .i64 (.ofNat 2)]), (7, .cells false true 1 [.slice 12 0 2 none, .slice 13 0 2 none, .slice 14 0 2 none]), (8, .cells false true 1 [.slice 15 0 1 none, .slice 16 0 1 none, .slice 17 0 1 none]), (9, .cells false true 1 [.str [65]]), (10, .cells false false 1 [.int .i64 (.ofNat 2)]), (11, .cells false true 1 [.int .i64 (.ofNat 0)]), (12, .cells false true 2 [.int .i64 (.ofNat 1), .int .i64 (.ofNat 1), .int .i64 (.ofNat 0), .int .i64 (.ofNat 0)]), (13, .cells false true 2 [.int .i64 (.ofNat 0), .int .i64 (.ofNat 0), .int .i64 (.ofNat 2), .int .i64 (.ofNat 1)]), (14, .cells false true 2 [.int .i64 (.ofNat 0), .int .i64 (.ofNat 0), .int .i64 (.ofNat 3), .int .i64 (.ofNat 0)]), (15, .cells false true 1 [.int .i64 (.ofNat 2)]), (16, .cells false true 1 [.int .i64 (.negSucc 0)]), (17, .cells false true 1 [.int .i64 (.negSucc 0)])]
theorem G5131_5_ok : MemoOK Tryz.prog 131 G5131_5 := memoRun_ok mixed q5G_ok (S := q5G) (by kernel_rfl) (n := 100000) (by kernel_rfl)
end Go.Ev
end
section
namespace Go.Ev
open Go.Proofs
noncomputable def G5131 : List AV → AMem → OR := fun args m => memoTry G5131_0 args m (memoTry G5131_1 args m (memoTry G5131_2 args m (memoTry G5131_3 args m (memoTry G5131_4 args m (memoTry G5131_5 args m (.fail 3300))))))
theorem G5131_ok : SumOK Tryz.prog 131 G5131 := memoSum_ok G5131_0_ok (memoSum_ok G5131_1_ok (memoSum_ok G5131_2_ok (memoSum_ok G5131_3_ok (memoSum_ok G5131_4_ok (memoSum_ok G5131_5_ok (fun _ _ _ _ h => by cases h))))))
end Go.Ev
end
section
namespace Go.Ev
open Go.Proofs
noncomputable def q5Z : Sums := addS 91 M591 (addS 131 G5131 (addS 61 R561 (addS 120 K5120 (addS 119 S5119 (addS 44 L544 (addS 43 T543 (addS 90 A590 (addS 42 O542 ((sums5 Tryz.prog))))))))))
theorem q5Z_ok : SumsOK Tryz.prog q5Z := addS_ok M591_ok (addS_ok G5131_ok (addS_ok R561_ok (addS_ok K5120_ok (addS_ok S5119_ok (addS_ok L544_ok (addS_ok T543_ok (addS_ok A590_ok (addS_ok O542_ok (sums5_ok)))))))))
end Go.Ev
end
