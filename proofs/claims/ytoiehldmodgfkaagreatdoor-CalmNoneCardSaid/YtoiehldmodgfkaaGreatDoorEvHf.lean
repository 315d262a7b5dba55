/- The sums with those of automata and lookaheads. What table.Build comes to. What table.Build comes to. What table.Build comes to. What table.Build comes to. What table.Build comes to. The sums with those of tables and rows. What gate.Compile comes to. What gate.Compile comes to. What gate.Compile comes to. What a function comes to, noted and shown by runs. What a function comes to, noted and shown by runs. What a function comes to, noted and shown by runs. What a function comes to, noted and shown by runs. What a function comes to, noted and shown by runs. What a function comes to, noted and shown by runs. All notes. -/
import Derived.Test.YtoiehldmodgfkaaGreatDoorEvHd
import Derived.Test.YtoiehldmodgfkaaGreatDoorEvHc
import Derived.Test.YtoiehldmodgfkaaGreatDoorEvGc
import Derived.Test.YtoiehldmodgfkaaGreatDoorEvHa
import Derived.Test.YtoiehldmodgfkaaGreatDoorEvHe
section
namespace Go.Ev
open Go.Proofs
noncomputable def q6T : Sums := addS 269 M6269 (addS 268 A6268 ((sums6 Tryz.prog)))
theorem q6T_ok : SumsOK Tryz.prog q6T := addS_ok M6269_ok (addS_ok A6268_ok (sums6_ok))
end Go.Ev
end
section
namespace Go.Ev
open Go.Proofs
noncomputable def T6225_0 : Memo where
  n0 := 6
  args := [.agg [.int .i64 (.ofNat 1), .int .i64 (.ofNat 1), .int .i64 (.ofNat 2), .int .i64 (.ofNat 0), .slice 0 0 3 none, .slice 1 0 1 none, .slice 2 0 1 none, .slice 3 0 2 none]]
  pat := [(1, .cells true true 1 [.int .i64 (.ofNat 0)]), (2, .cells true true 1 [.int .i64 (.ofNat 0)]), (3, .cells true true 4 [.int .i64 (.negSucc 0), .slice 4 0 1 (some 1), .int .i64 (.ofNat 0), .int .i64 (.ofNat 0), .int .i64 (.ofNat 2), .slice 5 0 1 none, .int .i64 (.ofNat 0), .int .i64 (.ofNat 0)]), (4, .cells true true 1 [.int .i64 (.ofNat 2)]), (5, .cells true true 1 [.int .i64 (.ofNat 0)])]
  n1 := 15
  res := .tup [.ptr 6 0, .int .i64 (.ofNat 0)]
  out := [(6, .cells false true 1 [.slice 7 0 3 none, .slice 8 0 3 none, .int .i64 (.ofNat 1), .int .i64 (.ofNat 0), .int .i64 (.ofNat 0)]), (7, .cells false true 1 [.slice 9 0 2 (some 2), .slice 10 0 2 (some 2), .slice 11 0 2 (some 2)]), (8, .cells false true 1 [.slice 12 0 1 none, .slice 13 0 1 none, .slice 14 0 1 none]), (9, .cells false true 2 [.int .i64 (.ofNat 1), .int .i64 (.ofNat 1), .int .i64 (.ofNat 0), .int .i64 (.ofNat 0)]), (10, .cells false true 2 [.int .i64 (.ofNat 0), .int .i64 (.ofNat 0), .int .i64 (.ofNat 2), .int .i64 (.ofNat 1)]), (11, .cells false true 2 [.int .i64 (.ofNat 0), .int .i64 (.ofNat 0), .int .i64 (.ofNat 3), .int .i64 (.ofNat 0)]), (12, .cells false true 1 [.int .i64 (.ofNat 2)]), (13, .cells false true 1 [.int .i64 (.negSucc 0)]), (14, .cells false true 1 [.int .i64 (.negSucc 0)])]
theorem T6225_0_ok : MemoOK Tryz.prog 225 T6225_0 := memoRun_ok mixed q6T_ok (S := q6T) (by kernel_rfl) (n := 100000) (by kernel_rfl)
end Go.Ev
end
section
namespace Go.Ev
open Go.Proofs
noncomputable def T6225_1 : Memo where
  n0 := 8
  args := [.agg [.int .i64 (.ofNat 3), .int .i64 (.ofNat 1), .int .i64 (.ofNat 4), .int .i64 (.ofNat 0), .slice 0 0 5 none, .slice 1 0 3 none, .slice 2 0 3 none, .slice 3 0 4 none]]
  pat := [(1, .cells true true 1 [.int .i64 (.ofNat 0), .int .i64 (.ofNat 1), .int .i64 (.ofNat 2)]), (2, .cells true true 1 [.int .i64 (.ofNat 0), .int .i64 (.ofNat 1), .int .i64 (.ofNat 1)]), (3, .cells true true 4 [.int .i64 (.negSucc 0), .slice 4 0 1 (some 1), .int .i64 (.ofNat 0), .int .i64 (.ofNat 0), .int .i64 (.ofNat 4), .slice 5 0 3 none, .int .i64 (.ofNat 1), .int .i64 (.ofNat 1), .int .i64 (.ofNat 4), .slice 6 0 3 none, .int .i64 (.ofNat 2), .int .i64 (.ofNat 1), .int .i64 (.ofNat 4), .slice 7 0 1 none, .int .i64 (.ofNat 0), .int .i64 (.ofNat 0)]), (4, .cells true true 1 [.int .i64 (.ofNat 4)]), (5, .cells true true 1 [.int .i64 (.ofNat 4), .int .i64 (.ofNat 1), .int .i64 (.ofNat 4)]), (6, .cells true true 1 [.int .i64 (.ofNat 4), .int .i64 (.ofNat 2), .int .i64 (.ofNat 4)]), (7, .cells true true 1 [.int .i64 (.ofNat 0)])]
  n1 := 25
  res := .tup [.ptr 8 0, .int .i64 (.ofNat 0)]
  out := [(8, .cells false true 1 [.slice 9 0 7 none, .slice 10 0 7 none, .int .i64 (.ofNat 3), .int .i64 (.ofNat 0), .int .i64 (.ofNat 4)]), (9, .cells false true 1 [.slice 11 0 4 (some 4), .slice 12 0 4 (some 4), .slice 13 0 4 (some 4), .slice 14 0 4 (some 4), .slice 15 0 4 (some 4), .slice 16 0 4 (some 4), .slice 17 0 4 (some 4)]), (10, .cells false true 1 [.slice 18 0 1 none, .slice 19 0 1 none, .slice 20 0 1 none, .slice 21 0 1 none, .slice 22 0 1 none, .slice 23 0 1 none, .slice 24 0 1 none]), (11, .cells false true 2 [.int .i64 (.ofNat 1), .int .i64 (.ofNat 1), .int .i64 (.ofNat 0), .int .i64 (.ofNat 0), .int .i64 (.ofNat 0), .int .i64 (.ofNat 0), .int .i64 (.ofNat 0), .int .i64 (.ofNat 0)]), (12, .cells false true 2 [.int .i64 (.ofNat 0), .int .i64 (.ofNat 0), .int .i64 (.ofNat 2), .int .i64 (.ofNat 3), .int .i64 (.ofNat 2), .int .i64 (.ofNat 3), .int .i64 (.ofNat 2), .int .i64 (.ofNat 3)]), (13, .cells false true 2 [.int .i64 (.ofNat 0), .int .i64 (.ofNat 0), .int .i64 (.ofNat 1), .int .i64 (.ofNat 3), .int .i64 (.ofNat 1), .int .i64 (.ofNat 4), .int .i64 (.ofNat 3), .int .i64 (.ofNat 0)]), (14, .cells false true 2 [.int .i64 (.ofNat 1), .int .i64 (.ofNat 1), .int .i64 (.ofNat 0), .int .i64 (.ofNat 0), .int .i64 (.ofNat 0), .int .i64 (.ofNat 0), .int .i64 (.ofNat 0), .int .i64 (.ofNat 0)]), (15, .cells false true 2 [.int .i64 (.ofNat 1), .int .i64 (.ofNat 1), .int .i64 (.ofNat 0), .int .i64 (.ofNat 0), .int .i64 (.ofNat 0), .int .i64 (.ofNat 0), .int .i64 (.ofNat 0), .int .i64 (.ofNat 0)]), (16, .cells false true 2 [.int .i64 (.ofNat 0), .int .i64 (.ofNat 0), .int .i64 (.ofNat 2), .int .i64 (.ofNat 1), .int .i64 (.ofNat 1), .int .i64 (.ofNat 4), .int .i64 (.ofNat 2), .int .i64 (.ofNat 1)]), (17, .cells false true 2 [.int .i64 (.ofNat 0), .int .i64 (.ofNat 0), .int .i64 (.ofNat 2), .int .i64 (.ofNat 2), .int .i64 (.ofNat 2), .int .i64 (.ofNat 2), .int .i64 (.ofNat 2), .int .i64 (.ofNat 2)]), (18, .cells false true 1 [.int .i64 (.ofNat 2)]), (19, .cells false true 1 [.int .i64 (.negSucc 0)]), (20, .cells false true 1 [.int .i64 (.negSucc 0)]), (21, .cells false true 1 [.int .i64 (.ofNat 5)]), (22, .cells false true 1 [.int .i64 (.ofNat 6)]), (23, .cells false true 1 [.int .i64 (.negSucc 0)]), (24, .cells false true 1 [.int .i64 (.negSucc 0)])]
theorem T6225_1_ok : MemoOK Tryz.prog 225 T6225_1 := memoRun_ok mixed q6T_ok (S := q6T) (by kernel_rfl) (n := 100000) (by kernel_rfl)
end Go.Ev
end
section
namespace Go.Ev
open Go.Proofs
noncomputable def T6225_2 : Memo where
  n0 := 8
  args := [.agg [.int .i64 (.ofNat 3), .int .i64 (.ofNat 1), .int .i64 (.ofNat 4), .int .i64 (.ofNat 0), .slice 0 0 5 none, .slice 1 0 3 none, .slice 2 0 3 none, .slice 3 0 4 none]]
  pat := [(1, .cells true true 1 [.int .i64 (.ofNat 1), .int .i64 (.ofNat 2), .int .i64 (.ofNat 0)]), (2, .cells true true 1 [.int .i64 (.ofNat 1), .int .i64 (.ofNat 1), .int .i64 (.ofNat 0)]), (3, .cells true true 4 [.int .i64 (.negSucc 0), .slice 4 0 1 (some 1), .int .i64 (.ofNat 0), .int .i64 (.ofNat 0), .int .i64 (.ofNat 4), .slice 5 0 3 none, .int .i64 (.ofNat 1), .int .i64 (.ofNat 1), .int .i64 (.ofNat 4), .slice 6 0 3 none, .int .i64 (.ofNat 2), .int .i64 (.ofNat 1), .int .i64 (.ofNat 4), .slice 7 0 1 none, .int .i64 (.ofNat 0), .int .i64 (.ofNat 0)]), (4, .cells true true 1 [.int .i64 (.ofNat 4)]), (5, .cells true true 1 [.int .i64 (.ofNat 4), .int .i64 (.ofNat 0), .int .i64 (.ofNat 4)]), (6, .cells true true 1 [.int .i64 (.ofNat 4), .int .i64 (.ofNat 1), .int .i64 (.ofNat 4)]), (7, .cells true true 1 [.int .i64 (.ofNat 2)])]
  n1 := 25
  res := .tup [.ptr 8 0, .int .i64 (.ofNat 0)]
  out := [(8, .cells false true 1 [.slice 9 0 7 none, .slice 10 0 7 none, .int .i64 (.ofNat 3), .int .i64 (.ofNat 0), .int .i64 (.ofNat 4)]), (9, .cells false true 1 [.slice 11 0 4 (some 4), .slice 12 0 4 (some 4), .slice 13 0 4 (some 4), .slice 14 0 4 (some 4), .slice 15 0 4 (some 4), .slice 16 0 4 (some 4), .slice 17 0 4 (some 4)]), (10, .cells false true 1 [.slice 18 0 1 none, .slice 19 0 1 none, .slice 20 0 1 none, .slice 21 0 1 none, .slice 22 0 1 none, .slice 23 0 1 none, .slice 24 0 1 none]), (11, .cells false true 2 [.int .i64 (.ofNat 0), .int .i64 (.ofNat 0), .int .i64 (.ofNat 0), .int .i64 (.ofNat 0), .int .i64 (.ofNat 1), .int .i64 (.ofNat 1), .int .i64 (.ofNat 0), .int .i64 (.ofNat 0)]), (12, .cells false true 2 [.int .i64 (.ofNat 2), .int .i64 (.ofNat 3), .int .i64 (.ofNat 2), .int .i64 (.ofNat 3), .int .i64 (.ofNat 0), .int .i64 (.ofNat 0), .int .i64 (.ofNat 2), .int .i64 (.ofNat 3)]), (13, .cells false true 2 [.int .i64 (.ofNat 1), .int .i64 (.ofNat 3), .int .i64 (.ofNat 1), .int .i64 (.ofNat 4), .int .i64 (.ofNat 0), .int .i64 (.ofNat 0), .int .i64 (.ofNat 3), .int .i64 (.ofNat 0)]), (14, .cells false true 2 [.int .i64 (.ofNat 0), .int .i64 (.ofNat 0), .int .i64 (.ofNat 0), .int .i64 (.ofNat 0), .int .i64 (.ofNat 1), .int .i64 (.ofNat 1), .int .i64 (.ofNat 0), .int .i64 (.ofNat 0)]), (15, .cells false true 2 [.int .i64 (.ofNat 0), .int .i64 (.ofNat 0), .int .i64 (.ofNat 0), .int .i64 (.ofNat 0), .int .i64 (.ofNat 1), .int .i64 (.ofNat 1), .int .i64 (.ofNat 0), .int .i64 (.ofNat 0)]), (16, .cells false true 2 [.int .i64 (.ofNat 2), .int .i64 (.ofNat 1), .int .i64 (.ofNat 1), .int .i64 (.ofNat 4), .int .i64 (.ofNat 0), .int .i64 (.ofNat 0), .int .i64 (.ofNat 2), .int .i64 (.ofNat 1)]), (17, .cells false true 2 [.int .i64 (.ofNat 2), .int .i64 (.ofNat 2), .int .i64 (.ofNat 2), .int .i64 (.ofNat 2), .int .i64 (.ofNat 0), .int .i64 (.ofNat 0), .int .i64 (.ofNat 2), .int .i64 (.ofNat 2)]), (18, .cells false true 1 [.int .i64 (.ofNat 2)]), (19, .cells false true 1 [.int .i64 (.negSucc 0)]), (20, .cells false true 1 [.int .i64 (.negSucc 0)]), (21, .cells false true 1 [.int .i64 (.ofNat 5)]), (22, .cells false true 1 [.int .i64 (.ofNat 6)]), (23, .cells false true 1 [.int .i64 (.negSucc 0)]), (24, .cells false true 1 [.int .i64 (.negSucc 0)])]
theorem T6225_2_ok : MemoOK Tryz.prog 225 T6225_2 := memoRun_ok mixed q6T_ok (S := q6T) (by kernel_rfl) (n := 100000) (by kernel_rfl)
end Go.Ev
end
section
namespace Go.Ev
open Go.Proofs
noncomputable def T6225_3 : Memo where
  n0 := 7
  args := [.agg [.int .i64 (.ofNat 2), .int .i64 (.ofNat 1), .int .i64 (.ofNat 3), .int .i64 (.ofNat 0), .slice 0 0 4 none, .slice 1 0 2 none, .slice 2 0 2 none, .slice 3 0 3 none]]
  pat := [(1, .cells true true 1 [.int .i64 (.ofNat 0), .int .i64 (.ofNat 0)]), (2, .cells true true 1 [.int .i64 (.ofNat 0), .int .i64 (.ofNat 0)]), (3, .cells true true 4 [.int .i64 (.negSucc 0), .slice 4 0 1 (some 1), .int .i64 (.ofNat 0), .int .i64 (.ofNat 0), .int .i64 (.ofNat 3), .slice 5 0 3 none, .int .i64 (.ofNat 0), .int .i64 (.ofNat 0), .int .i64 (.ofNat 3), .slice 6 0 1 none, .int .i64 (.ofNat 0), .int .i64 (.ofNat 0)]), (4, .cells true true 1 [.int .i64 (.ofNat 3)]), (5, .cells true true 1 [.int .i64 (.ofNat 3), .int .i64 (.ofNat 1), .int .i64 (.ofNat 3)]), (6, .cells true true 1 [.int .i64 (.ofNat 0)])]
  n1 := 20
  res := .tup [.ptr 7 0, .int .i64 (.ofNat 0)]
  out := [(7, .cells false true 1 [.slice 8 0 5 none, .slice 9 0 5 none, .int .i64 (.ofNat 2), .int .i64 (.ofNat 1), .int .i64 (.ofNat 0)]), (8, .cells false true 1 [.slice 10 0 3 (some 3), .slice 11 0 3 (some 3), .slice 12 0 3 (some 3), .slice 13 0 3 (some 3), .slice 14 0 3 (some 3)]), (9, .cells false true 1 [.slice 15 0 1 none, .slice 16 0 1 none, .slice 17 0 1 none, .slice 18 0 1 none, .slice 19 0 1 none]), (10, .cells false true 2 [.int .i64 (.ofNat 1), .int .i64 (.ofNat 1), .int .i64 (.ofNat 0), .int .i64 (.ofNat 0), .int .i64 (.ofNat 0), .int .i64 (.ofNat 0)]), (11, .cells false true 2 [.int .i64 (.ofNat 0), .int .i64 (.ofNat 0), .int .i64 (.ofNat 2), .int .i64 (.ofNat 2), .int .i64 (.ofNat 2), .int .i64 (.ofNat 2)]), (12, .cells false true 2 [.int .i64 (.ofNat 0), .int .i64 (.ofNat 0), .int .i64 (.ofNat 1), .int .i64 (.ofNat 3), .int .i64 (.ofNat 3), .int .i64 (.ofNat 0)]), (13, .cells false true 2 [.int .i64 (.ofNat 1), .int .i64 (.ofNat 1), .int .i64 (.ofNat 0), .int .i64 (.ofNat 0), .int .i64 (.ofNat 0), .int .i64 (.ofNat 0)]), (14, .cells false true 2 [.int .i64 (.ofNat 0), .int .i64 (.ofNat 0), .int .i64 (.ofNat 1), .int .i64 (.ofNat 3), .int .i64 (.ofNat 2), .int .i64 (.ofNat 1)]), (15, .cells false true 1 [.int .i64 (.ofNat 2)]), (16, .cells false true 1 [.int .i64 (.negSucc 0)]), (17, .cells false true 1 [.int .i64 (.negSucc 0)]), (18, .cells false true 1 [.int .i64 (.ofNat 4)]), (19, .cells false true 1 [.int .i64 (.negSucc 0)])]
theorem T6225_3_ok : MemoOK Tryz.prog 225 T6225_3 := memoRun_ok mixed q6T_ok (S := q6T) (by kernel_rfl) (n := 100000) (by kernel_rfl)
end Go.Ev
end
section
namespace Go.Ev
open Go.Proofs
noncomputable def T6225 : List AV → AMem → OR := fun args m => memoTry T6225_0 args m (memoTry T6225_1 args m (memoTry T6225_2 args m (memoTry T6225_3 args m (.fail 3300))))
theorem T6225_ok : SumOK Tryz.prog 225 T6225 := memoSum_ok T6225_0_ok (memoSum_ok T6225_1_ok (memoSum_ok T6225_2_ok (memoSum_ok T6225_3_ok (fun _ _ _ _ h => by cases h))))
end Go.Ev
end
section
namespace Go.Ev
open Go.Proofs
noncomputable def q6G : Sums := addS 227 L6227 (addS 225 T6225 ((sums6 Tryz.prog)))
theorem q6G_ok : SumsOK Tryz.prog q6G := addS_ok L6227_ok (addS_ok T6225_ok (sums6_ok))
end Go.Ev
end
section
namespace Go.Ev
open Go.Proofs
noncomputable def G6159_0 : Memo where
  n0 := 0
  args := [.str [37, 116, 111, 107, 101, 110, 32, 65, 10, 37, 37, 10, 115, 32, 58, 32, 65, 32, 59, 10]]
  pat := []
  n1 := 18
  res := .tup [.agg [.slice 0 0 1 none, .str [], .int .i64 (.ofNat 0), .slice 1 0 1 none, .int .i64 (.ofNat 1), .int .i64 (.ofNat 1), .int .i64 (.ofNat 2), .int .i64 (.ofNat 0), .slice 2 0 3 none, .slice 3 0 1 none, .slice 4 0 1 none, .slice 5 0 2 none, .int .i64 (.ofNat 1), .int .i64 (.ofNat 1), .int .i64 (.ofNat 0), .int .i64 (.ofNat 0), .slice 6 0 3 none, .slice 7 0 3 none, .slice 8 0 3 none], .agg [.int .i64 (.ofNat 0), .int .i64 (.ofNat 0)]]
  out := [(0, .cells false true 3 [.str [65], .int .i64 (.ofNat 0), .int .i64 (.ofNat 0)]), (1, .cells false true 3 [.str [115], .slice 9 0 1 none, .str []]), (2, .cells false true 1 [.str [65], .str [], .str [115]]), (3, .cells false true 1 [.int .i64 (.ofNat 0)]), (4, .cells false true 1 [.int .i64 (.ofNat 0)]), (5, .cells false true 4 [.int .i64 (.negSucc 0), .slice 10 0 1 (some 1), .int .i64 (.ofNat 0), .int .i64 (.ofNat 0), .int .i64 (.ofNat 2), .slice 11 0 1 none, .int .i64 (.ofNat 0), .int .i64 (.ofNat 0)]), (6, .cells false true 1 [.int .i64 (.ofNat 0), .int .i64 (.ofNat 1), .int .i64 (.ofNat 2)]), (7, .cells false true 1 [.slice 12 0 2 none, .slice 13 0 2 none, .slice 14 0 2 none]), (8, .cells false true 1 [.slice 15 0 1 none, .slice 16 0 1 none, .slice 17 0 1 none]), (9, .cells false true 1 [.str [65]]), (10, .cells false false 1 [.int .i64 (.ofNat 2)]), (11, .cells false true 1 [.int .i64 (.ofNat 0)]), (12, .cells false true 2 [.int .i64 (.ofNat 1), .int .i64 (.ofNat 1), .int .i64 (.ofNat 0), .int .i64 (.ofNat 0)]), (13, .cells false true 2 [.int .i64 (.ofNat 0), .int .i64 (.ofNat 0), .int .i64 (.ofNat 2), .int .i64 (.ofNat 1)]), (14, .cells false true 2 [.int .i64 (.ofNat 0), .int .i64 (.ofNat 0), .int .i64 (.ofNat 3), .int .i64 (.ofNat 0)]), (15, .cells false true 1 [.int .i64 (.ofNat 2)]), (16, .cells false true 1 [.int .i64 (.negSucc 0)]), (17, .cells false true 1 [.int .i64 (.negSucc 0)])]
theorem G6159_0_ok : MemoOK Tryz.prog 159 G6159_0 := memoRun_ok mixed q6G_ok (S := q6G) (by kernel_rfl) (n := 100000) (by kernel_rfl)
noncomputable def G6159_1 : Memo where
  n0 := 0
  args := [.str [37, 116, 111, 107, 101, 110, 32, 65, 32, 37, 37, 32, 115, 32, 58, 32, 65, 32, 59]]
  pat := []
  n1 := 18
  res := .tup [.agg [.slice 0 0 1 none, .str [], .int .i64 (.ofNat 0), .slice 1 0 1 none, .int .i64 (.ofNat 1), .int .i64 (.ofNat 1), .int .i64 (.ofNat 2), .int .i64 (.ofNat 0), .slice 2 0 3 none, .slice 3 0 1 none, .slice 4 0 1 none, .slice 5 0 2 none, .int .i64 (.ofNat 1), .int .i64 (.ofNat 1), .int .i64 (.ofNat 0), .int .i64 (.ofNat 0), .slice 6 0 3 none, .slice 7 0 3 none, .slice 8 0 3 none], .agg [.int .i64 (.ofNat 0), .int .i64 (.ofNat 0)]]
  out := [(0, .cells false true 3 [.str [65], .int .i64 (.ofNat 0), .int .i64 (.ofNat 0)]), (1, .cells false true 3 [.str [115], .slice 9 0 1 none, .str []]), (2, .cells false true 1 [.str [65], .str [], .str [115]]), (3, .cells false true 1 [.int .i64 (.ofNat 0)]), (4, .cells false true 1 [.int .i64 (.ofNat 0)]), (5, .cells false true 4 [.int .i64 (.negSucc 0), .slice 10 0 1 (some 1), .int .i64 (.ofNat 0), .int .i64 (.ofNat 0), .int .i64 (.ofNat 2), .slice 11 0 1 none, .int .i64 (.ofNat 0), .int .i64 (.ofNat 0)]), (6, .cells false true 1 [.int .i64 (.ofNat 0), .int .i64 (.ofNat 1), .int .i64 (.ofNat 2)]), (7, .cells false true 1 [.slice 12 0 2 none, .slice 13 0 2 none, .slice 14 0 2 none]), (8, .cells false true 1 [.slice 15 0 1 none, .slice 16 0 1 none, .slice 17 0 1 none]), (9, .cells false true 1 [.str [65]]), (10, .cells false false 1 [.int .i64 (.ofNat 2)]), (11, .cells false true 1 [.int .i64 (.ofNat 0)]), (12, .cells false true 2 [.int .i64 (.ofNat 1), .int .i64 (.ofNat 1), .int .i64 (.ofNat 0), .int .i64 (.ofNat 0)]), (13, .cells false true 2 [.int .i64 (.ofNat 0), .int .i64 (.ofNat 0), .int .i64 (.ofNat 2), .int .i64 (.ofNat 1)]), (14, .cells false true 2 [.int .i64 (.ofNat 0), .int .i64 (.ofNat 0), .int .i64 (.ofNat 3), .int .i64 (.ofNat 0)]), (15, .cells false true 1 [.int .i64 (.ofNat 2)]), (16, .cells false true 1 [.int .i64 (.negSucc 0)]), (17, .cells false true 1 [.int .i64 (.negSucc 0)])]
theorem G6159_1_ok : MemoOK Tryz.prog 159 G6159_1 := memoRun_ok mixed q6G_ok (S := q6G) (by kernel_rfl) (n := 100000) (by kernel_rfl)
noncomputable def G6159_2 : Memo where
  n0 := 0
  args := [.str [37, 116, 111, 107, 101, 110, 32, 65, 32, 37, 37, 32, 115, 58, 32, 65, 59]]
  pat := []
  n1 := 18
  res := .tup [.agg [.slice 0 0 1 none, .str [], .int .i64 (.ofNat 0), .slice 1 0 1 none, .int .i64 (.ofNat 1), .int .i64 (.ofNat 1), .int .i64 (.ofNat 2), .int .i64 (.ofNat 0), .slice 2 0 3 none, .slice 3 0 1 none, .slice 4 0 1 none, .slice 5 0 2 none, .int .i64 (.ofNat 1), .int .i64 (.ofNat 1), .int .i64 (.ofNat 0), .int .i64 (.ofNat 0), .slice 6 0 3 none, .slice 7 0 3 none, .slice 8 0 3 none], .agg [.int .i64 (.ofNat 0), .int .i64 (.ofNat 0)]]
  out := [(0, .cells false true 3 [.str [65], .int .i64 (.ofNat 0), .int .i64 (.ofNat 0)]), (1, .cells false true 3 [.str [115], .slice 9 0 1 none, .str []]), (2, .cells false true 1 [.str [65], .str [], .str [115]]), (3, .cells false true 1 [.int .i64 (.ofNat 0)]), (4, .cells false true 1 [.int .i64 (.ofNat 0)]), (5, .cells false true 4 [.int .i64 (.negSucc 0), .slice 10 0 1 (some 1), .int .i64 (.ofNat 0), .int .i64 (.ofNat 0), .int .i64 (.ofNat 2), .slice 11 0 1 none, .int .i64 (.ofNat 0), .int .i64 (.ofNat 0)]), (6, .cells false true 1 [.int .i64 (.ofNat 0), .int .i64 (.ofNat 1), .int .i64 (.ofNat 2)]), (7, .cells false true 1 [.slice 12 0 2 none, .slice 13 0 2 none, .slice 14 0 2 none]), (8, .cells false true 1 [.slice 15 0 1 none, .slice 16 0 1 none, .slice 17 0 1 none]), (9, .cells false true 1 [.str [65]]), (10, .cells false false 1 [.int .i64 (.ofNat 2)]), (11, .cells false true 1 [.int .i64 (.ofNat 0)]), (12, .cells false true 2 [.int .i64 (.ofNat 1), .int .i64 (.ofNat 1), .int .i64 (.ofNat 0), .int .i64 (.ofNat 0)]), (13, .cells false true 2 [.int .i64 (.ofNat 0), .int .i64 (.ofNat 0), .int .i64 (.ofNat 2), .int .i64 (.ofNat 1)]), (14, .cells false true 2 [.int .i64 (.ofNat 0), .int .i64 (.ofNat 0), .int .i64 (.ofNat 3), .int .i64 (.ofNat 0)]), (15, .cells false true 1 [.int .i64 (.ofNat 2)]), (16, .cells false true 1 [.int .i64 (.negSucc 0)]), (17, .cells false true 1 [.int .i64 (.negSucc 0)])]
theorem G6159_2_ok : MemoOK Tryz.prog 159 G6159_2 := memoRun_ok mixed q6G_ok (S := q6G) (by kernel_rfl) (n := 100000) (by kernel_rfl)
noncomputable def G6159_3 : Memo where
  n0 := 0
  args := [.str [37, 108, 101, 102, 116, 32, 80, 32, 37, 108, 101, 102, 116, 32, 77, 32, 37, 116, 111, 107, 101, 110, 32, 78, 32, 37, 37, 32, 101, 58, 32, 101, 32, 80, 32, 101, 32, 124, 32, 101, 32, 77, 32, 101, 32, 124, 32, 78, 59]]
  pat := []
  n1 := 30
  res := .tup [.agg [.slice 0 0 3 none, .str [], .int .i64 (.ofNat 0), .slice 1 0 3 none, .int .i64 (.ofNat 3), .int .i64 (.ofNat 1), .int .i64 (.ofNat 4), .int .i64 (.ofNat 0), .slice 2 0 5 none, .slice 3 0 3 none, .slice 4 0 3 none, .slice 5 0 4 none, .int .i64 (.ofNat 3), .int .i64 (.ofNat 1), .int .i64 (.ofNat 0), .int .i64 (.ofNat 4), .slice 6 0 7 none, .slice 7 0 7 none, .slice 8 0 7 none], .agg [.int .i64 (.ofNat 0), .int .i64 (.ofNat 0)]]
  out := [(0, .cells false true 3 [.str [80], .int .i64 (.ofNat 1), .int .i64 (.ofNat 1), .str [77], .int .i64 (.ofNat 2), .int .i64 (.ofNat 1), .str [78], .int .i64 (.ofNat 0), .int .i64 (.ofNat 0)]), (1, .cells false true 3 [.str [101], .slice 9 0 3 none, .str [], .str [101], .slice 10 0 3 none, .str [], .str [101], .slice 11 0 1 none, .str []]), (2, .cells false true 1 [.str [80], .str [77], .str [78], .str [], .str [101]]), (3, .cells false true 1 [.int .i64 (.ofNat 1), .int .i64 (.ofNat 2), .int .i64 (.ofNat 0)]), (4, .cells false true 1 [.int .i64 (.ofNat 1), .int .i64 (.ofNat 1), .int .i64 (.ofNat 0)]), (5, .cells false true 4 [.int .i64 (.negSucc 0), .slice 12 0 1 (some 1), .int .i64 (.ofNat 0), .int .i64 (.ofNat 0), .int .i64 (.ofNat 4), .slice 13 0 3 none, .int .i64 (.ofNat 1), .int .i64 (.ofNat 1), .int .i64 (.ofNat 4), .slice 14 0 3 none, .int .i64 (.ofNat 2), .int .i64 (.ofNat 1), .int .i64 (.ofNat 4), .slice 15 0 1 none, .int .i64 (.ofNat 0), .int .i64 (.ofNat 0)]), (6, .cells false true 1 [.int .i64 (.ofNat 0), .int .i64 (.ofNat 1), .int .i64 (.ofNat 2), .int .i64 (.ofNat 3), .int .i64 (.ofNat 4), .int .i64 (.ofNat 5), .int .i64 (.ofNat 6)]), (7, .cells false true 1 [.slice 16 0 4 none, .slice 17 0 4 none, .slice 18 0 4 none, .slice 19 0 4 none, .slice 20 0 4 none, .slice 21 0 4 none, .slice 22 0 4 none]), (8, .cells false true 1 [.slice 23 0 1 none, .slice 24 0 1 none, .slice 25 0 1 none, .slice 26 0 1 none, .slice 27 0 1 none, .slice 28 0 1 none, .slice 29 0 1 none]), (9, .cells false true 1 [.str [101], .str [80], .str [101]]), (10, .cells false true 1 [.str [101], .str [77], .str [101]]), (11, .cells false true 1 [.str [78]]), (12, .cells false false 1 [.int .i64 (.ofNat 4)]), (13, .cells false true 1 [.int .i64 (.ofNat 4), .int .i64 (.ofNat 0), .int .i64 (.ofNat 4)]), (14, .cells false true 1 [.int .i64 (.ofNat 4), .int .i64 (.ofNat 1), .int .i64 (.ofNat 4)]), (15, .cells false true 1 [.int .i64 (.ofNat 2)]), (16, .cells false true 2 [.int .i64 (.ofNat 0), .int .i64 (.ofNat 0), .int .i64 (.ofNat 0), .int .i64 (.ofNat 0), .int .i64 (.ofNat 1), .int .i64 (.ofNat 1), .int .i64 (.ofNat 0), .int .i64 (.ofNat 0)]), (17, .cells false true 2 [.int .i64 (.ofNat 2), .int .i64 (.ofNat 3), .int .i64 (.ofNat 2), .int .i64 (.ofNat 3), .int .i64 (.ofNat 0), .int .i64 (.ofNat 0), .int .i64 (.ofNat 2), .int .i64 (.ofNat 3)]), (18, .cells false true 2 [.int .i64 (.ofNat 1), .int .i64 (.ofNat 3), .int .i64 (.ofNat 1), .int .i64 (.ofNat 4), .int .i64 (.ofNat 0), .int .i64 (.ofNat 0), .int .i64 (.ofNat 3), .int .i64 (.ofNat 0)]), (19, .cells false true 2 [.int .i64 (.ofNat 0), .int .i64 (.ofNat 0), .int .i64 (.ofNat 0), .int .i64 (.ofNat 0), .int .i64 (.ofNat 1), .int .i64 (.ofNat 1), .int .i64 (.ofNat 0), .int .i64 (.ofNat 0)]), (20, .cells false true 2 [.int .i64 (.ofNat 0), .int .i64 (.ofNat 0), .int .i64 (.ofNat 0), .int .i64 (.ofNat 0), .int .i64 (.ofNat 1), .int .i64 (.ofNat 1), .int .i64 (.ofNat 0), .int .i64 (.ofNat 0)]), (21, .cells false true 2 [.int .i64 (.ofNat 2), .int .i64 (.ofNat 1), .int .i64 (.ofNat 1), .int .i64 (.ofNat 4), .int .i64 (.ofNat 0), .int .i64 (.ofNat 0), .int .i64 (.ofNat 2), .int .i64 (.ofNat 1)]), (22, .cells false true 2 [.int .i64 (.ofNat 2), .int .i64 (.ofNat 2), .int .i64 (.ofNat 2), .int .i64 (.ofNat 2), .int .i64 (.ofNat 0), .int .i64 (.ofNat 0), .int .i64 (.ofNat 2), .int .i64 (.ofNat 2)]), (23, .cells false true 1 [.int .i64 (.ofNat 2)]), (24, .cells false true 1 [.int .i64 (.negSucc 0)]), (25, .cells false true 1 [.int .i64 (.negSucc 0)]), (26, .cells false true 1 [.int .i64 (.ofNat 5)]), (27, .cells false true 1 [.int .i64 (.ofNat 6)]), (28, .cells false true 1 [.int .i64 (.negSucc 0)]), (29, .cells false true 1 [.int .i64 (.negSucc 0)])]
theorem G6159_3_ok : MemoOK Tryz.prog 159 G6159_3 := memoRun_ok mixed q6G_ok (S := q6G) (by kernel_rfl) (n := 100000) (by kernel_rfl)
end Go.Ev
end
section
namespace Go.Ev
open Go.Proofs
noncomputable def G6159_4 : Memo where
  n0 := 0
  args := [.str [37, 116, 111, 107, 101, 110, 32, 78, 32, 80, 32, 37, 37, 32, 101, 58, 32, 101, 32, 80, 32, 101, 32, 124, 32, 78, 59]]
  pat := []
  n1 := 0
  res := .tup [.agg [.nils, .str [], .int .i64 (.ofNat 0), .nils, .int .i64 (.ofNat 0), .int .i64 (.ofNat 0), .int .i64 (.ofNat 0), .int .i64 (.ofNat 0), .nils, .nils, .nils, .nils, .int .i64 (.ofNat 0), .int .i64 (.ofNat 0), .int .i64 (.ofNat 0), .int .i64 (.ofNat 0), .nils, .nils, .nils], .agg [.int .i64 (.ofNat 9), .int .i64 (.ofNat 0)]]
  out := []
theorem G6159_4_ok : MemoOK Tryz.prog 159 G6159_4 := memoRun_ok mixed q6G_ok (S := q6G) (by kernel_rfl) (n := 100000) (by kernel_rfl)
noncomputable def G6159_5 : Memo where
  n0 := 0
  args := [.str [37, 116, 111, 107, 101, 110, 32, 78, 32, 37, 37, 32, 101, 58, 32, 78, 59]]
  pat := []
  n1 := 18
  res := .tup [.agg [.slice 0 0 1 none, .str [], .int .i64 (.ofNat 0), .slice 1 0 1 none, .int .i64 (.ofNat 1), .int .i64 (.ofNat 1), .int .i64 (.ofNat 2), .int .i64 (.ofNat 0), .slice 2 0 3 none, .slice 3 0 1 none, .slice 4 0 1 none, .slice 5 0 2 none, .int .i64 (.ofNat 1), .int .i64 (.ofNat 1), .int .i64 (.ofNat 0), .int .i64 (.ofNat 0), .slice 6 0 3 none, .slice 7 0 3 none, .slice 8 0 3 none], .agg [.int .i64 (.ofNat 0), .int .i64 (.ofNat 0)]]
  out := [(0, .cells false true 3 [.str [78], .int .i64 (.ofNat 0), .int .i64 (.ofNat 0)]), (1, .cells false true 3 [.str [101], .slice 9 0 1 none, .str []]), (2, .cells false true 1 [.str [78], .str [], .str [101]]), (3, .cells false true 1 [.int .i64 (.ofNat 0)]), (4, .cells false true 1 [.int .i64 (.ofNat 0)]), (5, .cells false true 4 [.int .i64 (.negSucc 0), .slice 10 0 1 (some 1), .int .i64 (.ofNat 0), .int .i64 (.ofNat 0), .int .i64 (.ofNat 2), .slice 11 0 1 none, .int .i64 (.ofNat 0), .int .i64 (.ofNat 0)]), (6, .cells false true 1 [.int .i64 (.ofNat 0), .int .i64 (.ofNat 1), .int .i64 (.ofNat 2)]), (7, .cells false true 1 [.slice 12 0 2 none, .slice 13 0 2 none, .slice 14 0 2 none]), (8, .cells false true 1 [.slice 15 0 1 none, .slice 16 0 1 none, .slice 17 0 1 none]), (9, .cells false true 1 [.str [78]]), (10, .cells false false 1 [.int .i64 (.ofNat 2)]), (11, .cells false true 1 [.int .i64 (.ofNat 0)]), (12, .cells false true 2 [.int .i64 (.ofNat 1), .int .i64 (.ofNat 1), .int .i64 (.ofNat 0), .int .i64 (.ofNat 0)]), (13, .cells false true 2 [.int .i64 (.ofNat 0), .int .i64 (.ofNat 0), .int .i64 (.ofNat 2), .int .i64 (.ofNat 1)]), (14, .cells false true 2 [.int .i64 (.ofNat 0), .int .i64 (.ofNat 0), .int .i64 (.ofNat 3), .int .i64 (.ofNat 0)]), (15, .cells false true 1 [.int .i64 (.ofNat 2)]), (16, .cells false true 1 [.int .i64 (.negSucc 0)]), (17, .cells false true 1 [.int .i64 (.negSucc 0)])]
theorem G6159_5_ok : MemoOK Tryz.prog 159 G6159_5 := memoRun_ok mixed q6G_ok (S := q6G) (by kernel_rfl) (n := 100000) (by kernel_rfl)
end Go.Ev
end
section
namespace Go.Ev
open Go.Proofs
noncomputable def G6159 : List AV → AMem → OR := fun args m => memoTry G6159_0 args m (memoTry G6159_1 args m (memoTry G6159_2 args m (memoTry G6159_3 args m (memoTry G6159_4 args m (memoTry G6159_5 args m (.fail 3300))))))
theorem G6159_ok : SumOK Tryz.prog 159 G6159 := memoSum_ok G6159_0_ok (memoSum_ok G6159_1_ok (memoSum_ok G6159_2_ok (memoSum_ok G6159_3_ok (memoSum_ok G6159_4_ok (memoSum_ok G6159_5_ok (fun _ _ _ _ h => by cases h))))))
end Go.Ev
end
section
namespace Go.Ev
open Go.Proofs
noncomputable def X6156_0 : Memo where
  n0 := 0
  args := [.agg [.int .i64 (.ofNat 0), .int .i64 (.ofNat 0), .str [49], .str [0, 0, 0, 0, 0, 0, 0, 0, 0, 0, 0, 0, 0, 0, 0, 0, 0, 0, 0, 0, 0]]]
  pat := []
  n1 := 1
  res := .slice 0 0 38 none
  out := [(0, .cells false true 1 [.int .u8 (.ofNat 3), .int .u8 (.ofNat 10), .int .u8 (.ofNat 19), .int .u8 (.ofNat 125), .int .u8 (.ofNat 252), .int .u8 (.ofNat 143), .int .u8 (.ofNat 0), .int .u8 (.ofNat 0), .int .u8 (.ofNat 2), .int .u8 (.ofNat 49), .int .u8 (.ofNat 42), .int .u8 (.ofNat 4), .int .u8 (.ofNat 42), .int .u8 (.ofNat 109), .int .u8 (.ofNat 112), .int .u8 (.ofNat 248), .int .u8 (.ofNat 148), .int .u8 (.ofNat 0), .int .u8 (.ofNat 0), .int .u8 (.ofNat 0), .int .u8 (.ofNat 0), .int .u8 (.ofNat 0), .int .u8 (.ofNat 0), .int .u8 (.ofNat 0), .int .u8 (.ofNat 0), .int .u8 (.ofNat 0), .int .u8 (.ofNat 0), .int .u8 (.ofNat 0), .int .u8 (.ofNat 0), .int .u8 (.ofNat 0), .int .u8 (.ofNat 0), .int .u8 (.ofNat 0), .int .u8 (.ofNat 0), .int .u8 (.ofNat 0), .int .u8 (.ofNat 0), .int .u8 (.ofNat 0), .int .u8 (.ofNat 0), .int .u8 (.ofNat 0)])]
theorem X6156_0_ok : MemoOK Tryz.prog 156 X6156_0 := memoRun_ok mixed sums6_ok (S := (sums6 Tryz.prog)) (by kernel_rfl) (n := 100000) (by kernel_rfl)
noncomputable def X6156_1 : Memo where
  n0 := 0
  args := [.agg [.int .i64 (.ofNat 0), .int .i64 (.ofNat 0), .str [49, 50, 51], .str [0, 0, 0, 0, 0, 0, 0, 0, 0, 0, 0, 0, 0, 0, 0, 0, 0, 0, 0, 0, 0]]]
  pat := []
  n1 := 1
  res := .slice 0 0 40 none
  out := [(0, .cells false true 1 [.int .u8 (.ofNat 3), .int .u8 (.ofNat 14), .int .u8 (.ofNat 5), .int .u8 (.ofNat 230), .int .u8 (.ofNat 205), .int .u8 (.ofNat 37), .int .u8 (.ofNat 0), .int .u8 (.ofNat 0), .int .u8 (.ofNat 6), .int .u8 (.ofNat 49), .int .u8 (.ofNat 50), .int .u8 (.ofNat 51), .int .u8 (.ofNat 42), .int .u8 (.ofNat 4), .int .u8 (.ofNat 42), .int .u8 (.ofNat 109), .int .u8 (.ofNat 112), .int .u8 (.ofNat 248), .int .u8 (.ofNat 148), .int .u8 (.ofNat 0), .int .u8 (.ofNat 0), .int .u8 (.ofNat 0), .int .u8 (.ofNat 0), .int .u8 (.ofNat 0), .int .u8 (.ofNat 0), .int .u8 (.ofNat 0), .int .u8 (.ofNat 0), .int .u8 (.ofNat 0), .int .u8 (.ofNat 0), .int .u8 (.ofNat 0), .int .u8 (.ofNat 0), .int .u8 (.ofNat 0), .int .u8 (.ofNat 0), .int .u8 (.ofNat 0), .int .u8 (.ofNat 0), .int .u8 (.ofNat 0), .int .u8 (.ofNat 0), .int .u8 (.ofNat 0), .int .u8 (.ofNat 0), .int .u8 (.ofNat 0)])]
theorem X6156_1_ok : MemoOK Tryz.prog 156 X6156_1 := memoRun_ok mixed sums6_ok (S := (sums6 Tryz.prog)) (by kernel_rfl) (n := 100000) (by kernel_rfl)
end Go.Ev
end
section
namespace Go.Ev
open Go.Proofs
noncomputable def X6156 : List AV → AMem → OR := fun args m => memoTry X6156_0 args m (memoTry X6156_1 args m (.fail 3300))
theorem X6156_ok : SumOK Tryz.prog 156 X6156 := memoSum_ok X6156_0_ok (memoSum_ok X6156_1_ok (fun _ _ _ _ h => by cases h))
end Go.Ev
end
section
namespace Go.Ev
open Go.Proofs
noncomputable def X6193_0 : Memo where
  n0 := 0
  args := [.agg [.bool true, .int .i64 (.ofNat 0), .int .i64 (.ofNat 0), .int .i64 (.ofNat 0), .int .i64 (.ofNat 0), .int .i64 (.ofNat 0), .str []]]
  pat := []
  n1 := 1
  res := .slice 0 0 8 none
  out := [(0, .cells false true 1 [.int .u8 (.ofNat 1), .int .u8 (.ofNat 4), .int .u8 (.ofNat 158), .int .u8 (.ofNat 241), .int .u8 (.ofNat 16), .int .u8 (.ofNat 165), .int .u8 (.ofNat 0), .int .u8 (.ofNat 0)])]
theorem X6193_0_ok : MemoOK Tryz.prog 193 X6193_0 := memoRun_ok mixed sums6_ok (S := (sums6 Tryz.prog)) (by kernel_rfl) (n := 100000) (by kernel_rfl)
noncomputable def X6193_1 : Memo where
  n0 := 0
  args := [.agg [.bool true, .int .i64 (.ofNat 1), .int .i64 (.ofNat 1), .int .i64 (.ofNat 0), .int .i64 (.ofNat 0), .int .i64 (.ofNat 0), .str []]]
  pat := []
  n1 := 1
  res := .slice 0 0 8 none
  out := [(0, .cells false true 1 [.int .u8 (.ofNat 1), .int .u8 (.ofNat 4), .int .u8 (.ofNat 66), .int .u8 (.ofNat 201), .int .u8 (.ofNat 19), .int .u8 (.ofNat 11), .int .u8 (.ofNat 2), .int .u8 (.ofNat 2)])]
theorem X6193_1_ok : MemoOK Tryz.prog 193 X6193_1 := memoRun_ok mixed sums6_ok (S := (sums6 Tryz.prog)) (by kernel_rfl) (n := 100000) (by kernel_rfl)
noncomputable def X6193_2 : Memo where
  n0 := 0
  args := [.agg [.bool false, .int .i64 (.ofNat 0), .int .i64 (.ofNat 0), .int .i64 (.ofNat 1), .int .i64 (.ofNat 1), .int .i64 (.ofNat 1), .str []]]
  pat := []
  n1 := 1
  res := .slice 0 0 10 none
  out := [(0, .cells false true 1 [.int .u8 (.ofNat 2), .int .u8 (.ofNat 8), .int .u8 (.ofNat 87), .int .u8 (.ofNat 193), .int .u8 (.ofNat 53), .int .u8 (.ofNat 14), .int .u8 (.ofNat 2), .int .u8 (.ofNat 2), .int .u8 (.ofNat 2), .int .u8 (.ofNat 0)])]
theorem X6193_2_ok : MemoOK Tryz.prog 193 X6193_2 := memoRun_ok mixed sums6_ok (S := (sums6 Tryz.prog)) (by kernel_rfl) (n := 100000) (by kernel_rfl)
end Go.Ev
end
section
namespace Go.Ev
open Go.Proofs
noncomputable def X6193_3 : Memo where
  n0 := 0
  args := [.agg [.bool false, .int .i64 (.ofNat 0), .int .i64 (.ofNat 0), .int .i64 (.ofNat 2), .int .i64 (.ofNat 1), .int .i64 (.ofNat 2), .str [2, 2, 0, 38, 37, 116, 111, 107, 101, 110, 32, 65, 32, 37, 37, 32, 115, 32, 58, 32, 65, 32, 59]]]
  pat := []
  n1 := 1
  res := .slice 0 0 33 none
  out := [(0, .cells false true 1 [.int .u8 (.ofNat 2), .int .u8 (.ofNat 54), .int .u8 (.ofNat 83), .int .u8 (.ofNat 154), .int .u8 (.ofNat 197), .int .u8 (.ofNat 25), .int .u8 (.ofNat 4), .int .u8 (.ofNat 2), .int .u8 (.ofNat 4), .int .u8 (.ofNat 46), .int .u8 (.ofNat 2), .int .u8 (.ofNat 2), .int .u8 (.ofNat 0), .int .u8 (.ofNat 38), .int .u8 (.ofNat 37), .int .u8 (.ofNat 116), .int .u8 (.ofNat 111), .int .u8 (.ofNat 107), .int .u8 (.ofNat 101), .int .u8 (.ofNat 110), .int .u8 (.ofNat 32), .int .u8 (.ofNat 65), .int .u8 (.ofNat 32), .int .u8 (.ofNat 37), .int .u8 (.ofNat 37), .int .u8 (.ofNat 32), .int .u8 (.ofNat 115), .int .u8 (.ofNat 32), .int .u8 (.ofNat 58), .int .u8 (.ofNat 32), .int .u8 (.ofNat 65), .int .u8 (.ofNat 32), .int .u8 (.ofNat 59)])]
theorem X6193_3_ok : MemoOK Tryz.prog 193 X6193_3 := memoRun_ok mixed sums6_ok (S := (sums6 Tryz.prog)) (by kernel_rfl) (n := 100000) (by kernel_rfl)
noncomputable def X6193_4 : Memo where
  n0 := 0
  args := [.agg [.bool false, .int .i64 (.ofNat 0), .int .i64 (.ofNat 0), .int .i64 (.ofNat 2), .int .i64 (.ofNat 1), .int .i64 (.ofNat 2), .str [2, 2, 0, 34, 37, 116, 111, 107, 101, 110, 32, 65, 32, 37, 37, 32, 115, 58, 32, 65, 59]]]
  pat := []
  n1 := 1
  res := .slice 0 0 31 none
  out := [(0, .cells false true 1 [.int .u8 (.ofNat 2), .int .u8 (.ofNat 50), .int .u8 (.ofNat 117), .int .u8 (.ofNat 189), .int .u8 (.ofNat 178), .int .u8 (.ofNat 119), .int .u8 (.ofNat 4), .int .u8 (.ofNat 2), .int .u8 (.ofNat 4), .int .u8 (.ofNat 42), .int .u8 (.ofNat 2), .int .u8 (.ofNat 2), .int .u8 (.ofNat 0), .int .u8 (.ofNat 34), .int .u8 (.ofNat 37), .int .u8 (.ofNat 116), .int .u8 (.ofNat 111), .int .u8 (.ofNat 107), .int .u8 (.ofNat 101), .int .u8 (.ofNat 110), .int .u8 (.ofNat 32), .int .u8 (.ofNat 65), .int .u8 (.ofNat 32), .int .u8 (.ofNat 37), .int .u8 (.ofNat 37), .int .u8 (.ofNat 32), .int .u8 (.ofNat 115), .int .u8 (.ofNat 58), .int .u8 (.ofNat 32), .int .u8 (.ofNat 65), .int .u8 (.ofNat 59)])]
theorem X6193_4_ok : MemoOK Tryz.prog 193 X6193_4 := memoRun_ok mixed sums6_ok (S := (sums6 Tryz.prog)) (by kernel_rfl) (n := 100000) (by kernel_rfl)
noncomputable def X6193_5 : Memo where
  n0 := 0
  args := [.agg [.bool true, .int .i64 (.ofNat 2), .int .i64 (.ofNat 1), .int .i64 (.ofNat 0), .int .i64 (.ofNat 0), .int .i64 (.ofNat 0), .str []]]
  pat := []
  n1 := 1
  res := .slice 0 0 8 none
  out := [(0, .cells false true 1 [.int .u8 (.ofNat 1), .int .u8 (.ofNat 4), .int .u8 (.ofNat 20), .int .u8 (.ofNat 147), .int .u8 (.ofNat 180), .int .u8 (.ofNat 141), .int .u8 (.ofNat 4), .int .u8 (.ofNat 2)])]
theorem X6193_5_ok : MemoOK Tryz.prog 193 X6193_5 := memoRun_ok mixed sums6_ok (S := (sums6 Tryz.prog)) (by kernel_rfl) (n := 100000) (by kernel_rfl)
end Go.Ev
end
section
namespace Go.Ev
open Go.Proofs
noncomputable def X6193_6 : Memo where
  n0 := 0
  args := [.agg [.bool false, .int .i64 (.ofNat 0), .int .i64 (.ofNat 0), .int .i64 (.ofNat 3), .int .i64 (.ofNat 2), .int .i64 (.ofNat 1), .str []]]
  pat := []
  n1 := 1
  res := .slice 0 0 10 none
  out := [(0, .cells false true 1 [.int .u8 (.ofNat 2), .int .u8 (.ofNat 8), .int .u8 (.ofNat 220), .int .u8 (.ofNat 46), .int .u8 (.ofNat 222), .int .u8 (.ofNat 235), .int .u8 (.ofNat 6), .int .u8 (.ofNat 4), .int .u8 (.ofNat 2), .int .u8 (.ofNat 0)])]
theorem X6193_6_ok : MemoOK Tryz.prog 193 X6193_6 := memoRun_ok mixed sums6_ok (S := (sums6 Tryz.prog)) (by kernel_rfl) (n := 100000) (by kernel_rfl)
end Go.Ev
end
section
namespace Go.Ev
open Go.Proofs
noncomputable def X6193 : List AV → AMem → OR := fun args m => memoTry X6193_0 args m (memoTry X6193_1 args m (memoTry X6193_2 args m (memoTry X6193_3 args m (memoTry X6193_4 args m (memoTry X6193_5 args m (memoTry X6193_6 args m (.fail 3300)))))))
theorem X6193_ok : SumOK Tryz.prog 193 X6193 := memoSum_ok X6193_0_ok (memoSum_ok X6193_1_ok (memoSum_ok X6193_2_ok (memoSum_ok X6193_3_ok (memoSum_ok X6193_4_ok (memoSum_ok X6193_5_ok (memoSum_ok X6193_6_ok (fun _ _ _ _ h => by cases h)))))))
end Go.Ev
end
section
namespace Go.Ev
open Go.Proofs
noncomputable def q6Z : Sums := addS 269 M6269 (addS 159 G6159 (addS 440 R6440 (addS 472 K6472 (addS 471 S6471 (addS 227 L6227 (addS 225 T6225 (addS 268 A6268 (addS 438 O6438 (addS 193 X6193 (addS 156 X6156 ((sums6 Tryz.prog))))))))))))
theorem q6Z_ok : SumsOK Tryz.prog q6Z := addS_ok M6269_ok (addS_ok G6159_ok (addS_ok R6440_ok (addS_ok K6472_ok (addS_ok S6471_ok (addS_ok L6227_ok (addS_ok T6225_ok (addS_ok A6268_ok (addS_ok O6438_ok (addS_ok X6193_ok (addS_ok X6156_ok (sums6_ok)))))))))))
end Go.Ev
end
