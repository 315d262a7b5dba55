/- What look.New comes to of the sums' automaton, whatever the orders of its maps. -/
import Derived.Test.YtkobbfimabpfeaaGreatDoorEvMemF3
namespace Go.Ev
open Go.Proofs
noncomputable def new10 : Memo where
  n0 := 18
  args := [.agg [.int .i64 (.ofNat 3), .int .i64 (.ofNat 1), .int .i64 (.ofNat 4), .int .i64 (.ofNat 0), .slice 0 0 5 none, .slice 1 0 3 none, .slice 2 0 3 none, .slice 3 0 4 none], .ptr 4 0]
  pat := [(3, .cells true true 4 [.int .i64 (.negSucc 0), .slice 5 0 1 (some 1), .int .i64 (.ofNat 0), .int .i64 (.ofNat 0), .int .i64 (.ofNat 4), .slice 6 0 3 none, .int .i64 (.ofNat 1), .int .i64 (.ofNat 1), .int .i64 (.ofNat 4), .slice 7 0 3 none, .int .i64 (.ofNat 2), .int .i64 (.ofNat 1), .int .i64 (.ofNat 4), .slice 8 0 1 none, .int .i64 (.ofNat 0), .int .i64 (.ofNat 0)]),
    (4, .cells true true 1 [.any, .any, .any, .any, .any, .any, .any, .any, .slice 9 0 7 none, .slice 10 0 7 none, .any]),
    (5, .cells true true 1 [.int .i64 (.ofNat 4)]),
    (6, .cells true true 1 [.int .i64 (.ofNat 4), .int .i64 (.ofNat 1), .int .i64 (.ofNat 4)]),
    (7, .cells true true 1 [.int .i64 (.ofNat 4), .int .i64 (.ofNat 2), .int .i64 (.ofNat 4)]),
    (8, .cells true true 1 [.int .i64 (.ofNat 0)]),
    (10, .cells true true 1 [.slice 11 0 5 (some 5), .slice 12 0 5 (some 5), .slice 13 0 5 (some 5), .slice 14 0 5 (some 5), .slice 15 0 5 (some 5), .slice 16 0 5 (some 5), .slice 17 0 5 (some 5)]),
    (11, .cells true true 1 [.int .i64 (.ofNat 1), .int .i64 (.negSucc 0), .int .i64 (.negSucc 0), .int .i64 (.negSucc 0), .int .i64 (.ofNat 2)]),
    (12, .cells true true 1 [.int .i64 (.negSucc 0), .int .i64 (.negSucc 0), .int .i64 (.negSucc 0), .int .i64 (.negSucc 0), .int .i64 (.negSucc 0)]),
    (13, .cells true true 1 [.int .i64 (.negSucc 0), .int .i64 (.ofNat 3), .int .i64 (.ofNat 4), .int .i64 (.negSucc 0), .int .i64 (.negSucc 0)]),
    (14, .cells true true 1 [.int .i64 (.ofNat 1), .int .i64 (.negSucc 0), .int .i64 (.negSucc 0), .int .i64 (.negSucc 0), .int .i64 (.ofNat 5)]),
    (15, .cells true true 1 [.int .i64 (.ofNat 1), .int .i64 (.negSucc 0), .int .i64 (.negSucc 0), .int .i64 (.negSucc 0), .int .i64 (.ofNat 6)]),
    (16, .cells true true 1 [.int .i64 (.negSucc 0), .int .i64 (.ofNat 3), .int .i64 (.ofNat 4), .int .i64 (.negSucc 0), .int .i64 (.negSucc 0)]),
    (17, .cells true true 1 [.int .i64 (.negSucc 0), .int .i64 (.ofNat 3), .int .i64 (.ofNat 4), .int .i64 (.negSucc 0), .int .i64 (.negSucc 0)])]
  n1 := 28
  res := .ptr 18 0
  out := [(18, .cells false false 1 [.any, .any, .any, .any, .any, .any, .any, .any, .any, .any, .any, .any, .any, .map 19]),
    (19, .map false 4 [⟨.agg [.int .i64 (.ofNat 5), .int .i64 (.ofNat 1)], .ptr 20 0, none⟩, ⟨.agg [.int .i64 (.ofNat 6), .int .i64 (.ofNat 2)], .ptr 21 0, none⟩, ⟨.agg [.int .i64 (.ofNat 1), .int .i64 (.ofNat 3)], .ptr 22 0, none⟩, ⟨.agg [.int .i64 (.ofNat 2), .int .i64 (.ofNat 0)], .ptr 23 0, none⟩]),
    (20, .cells false true 1 [.fn 41 [], .slice 24 0 3 none]),
    (21, .cells false true 1 [.fn 41 [], .slice 25 0 3 none]),
    (22, .cells false true 1 [.fn 41 [], .slice 26 0 3 none]),
    (23, .cells false true 1 [.fn 41 [], .slice 27 0 1 none]),
    (24, .cells false true 1 [.int .i64 (.ofNat 1), .int .i64 (.ofNat 2), .int .i64 (.ofNat 3)]),
    (25, .cells false true 1 [.int .i64 (.ofNat 1), .int .i64 (.ofNat 2), .int .i64 (.ofNat 3)]),
    (26, .cells false true 1 [.int .i64 (.ofNat 1), .int .i64 (.ofNat 2), .int .i64 (.ofNat 3)]),
    (27, .cells false true 1 [.int .i64 (.ofNat 3)])]
theorem new10_run : memoRunN Tryz.prog sums3UF (fun _ => false) 100000 1000000 10 new10 = true := by kernel_rfl
theorem new10_ok : MemoOK Tryz.prog 10 new10 := memoRunN_ok mixed sums3UF_ok new10_run
end Go.Ev
