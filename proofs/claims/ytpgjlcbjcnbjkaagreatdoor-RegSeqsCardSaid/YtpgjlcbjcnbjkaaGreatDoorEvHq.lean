/- The runs of reg's Apply, Told, Len in a memory of one Reg: its clients' numbers are held in variables. Runs of Apply: client 1. Runs of Apply: client 1. Runs of Apply: client 2. Runs of Apply: client 2. Runs of Apply: client 3. Runs of Apply: client 3. The runs of reg's New, Told, Len, and what the runs say of any world. What reg's New, Apply, Told, Len do in any world. -/
import Derived.Test.YtpgjlcbjcnbjkaaGreatDoorEvHf
import Derived.Test.YtpgjlcbjcnbjkaaGreatDoorEvArg
import Derived.Below
section
namespace Go.Ev
open Go.Proofs
/-- A Reg without versions. -/
noncomputable def regC (s1 e1 s2 e2 s3 e3 : Int) : List AV := [.nils, .nils, .int .i64 0, .int .i64 0, .int .i64 0, .int .i64 0, .int .i64 s1, .int .i64 e1, .int .i64 0, .int .i64 0, .int .i64 s2, .int .i64 e2, .int .i64 0, .int .i64 0, .int .i64 s3, .int .i64 e3, .int .i64 0, .int .i64 0, .int .i64 0, .int .i64 0, .int .i64 0, .int .i64 0, .int .i64 0, .int .i64 0, .int .i64 0, .int .i64 0]
noncomputable def regT (s1 e1 s2 e2 s3 e3 : Int) : T AV := (.node (some (.nils)) (.node (some (.nils)) (.node (some (.int .i64 0)) (.node (some (.int .i64 e1)) (.node (some (.int .i64 e3)) .leaf .leaf) (.node none (.node (some (.int .i64 0)) .leaf .leaf) .leaf)) (.node none (.node (some (.int .i64 e2)) .leaf .leaf) (.node none (.node (some (.int .i64 0)) .leaf .leaf) .leaf))) (.node none (.node (some (.int .i64 0)) (.node (some (.int .i64 0)) .leaf .leaf) (.node none (.node (some (.int .i64 0)) .leaf .leaf) .leaf)) (.node none (.node (some (.int .i64 0)) (.node (some (.int .i64 0)) .leaf .leaf) .leaf) (.node none (.node (some (.int .i64 0)) .leaf .leaf) .leaf)))) (.node none (.node (some (.int .i64 0)) (.node (some (.int .i64 s1)) (.node (some (.int .i64 s3)) .leaf .leaf) (.node none (.node (some (.int .i64 0)) .leaf .leaf) .leaf)) (.node none (.node (some (.int .i64 s2)) .leaf .leaf) (.node none (.node (some (.int .i64 0)) .leaf .leaf) .leaf))) (.node none (.node (some (.int .i64 0)) (.node (some (.int .i64 0)) .leaf .leaf) (.node none (.node (some (.int .i64 0)) .leaf .leaf) .leaf)) (.node none (.node (some (.int .i64 0)) (.node (some (.int .i64 0)) .leaf .leaf) .leaf) (.node none (.node (some (.int .i64 0)) .leaf .leaf) .leaf)))))
noncomputable def regM (s1 e1 s2 e2 s3 e3 : Int) : AMem := ⟨1, .node (some (.cells false true 1 26 (regT s1 e1 s2 e2 s3 e3))) .leaf .leaf⟩
/-- What a run comes to: its value, and what then lies in the Reg. -/
noncomputable def seen : OR → Option (AV × (Bool × Bool × Nat × Nat) × List AV)
  | .mk v m => match m.t.get 0 with
    | some (.cells ro sg E n c) => some (v, (ro, sg, E, n), (List.range 26).map fun i => (c.get i).getD .any)
    | _ => none
  | .fail _ => none
noncomputable def noS : Sums := fun _ => none
noncomputable def run31 (c q : Int) (m : AMem) := seen (call Tryz.prog noS 100000 31 [.ptr 0 0, .agg [.int .i64 c, .int .i64 q, .int .i64 9, .str [120]]] m)
noncomputable def put31 (l : List AV) (q s e : Int) (hi : List AV) : Option (AV × (Bool × Bool × Nat × Nat) × List AV) :=
  bif2 (Nat.blt q.toNat s.toNat) (some (.tup [.agg [.int .i64 0, .int .i64 0, .int .i64 0], .int .i64 12], (false, true, 1, 26), l))
    (bif2 (Nat.beq q.toNat s.toNat) (some (.tup [.agg [.int .i64 e, .int .i64 0, .int .i64 0], .int .i64 0], (false, true, 1, 26), l))
      (some (.tup [.agg [.int .i64 15, .int .i64 0, .int .i64 0], .int .i64 0], (false, true, 1, 26), hi)))
end Go.Ev
end
section
namespace Go.Ev
theorem ap1_1 : (fun e1 s2 e2 s3 e3 : Int => (List.range 21).map fun s => run31 1 (.ofNat 1) (regM (.ofNat s) e1 s2 e2 s3 e3)) = fun e1 s2 e2 s3 e3 : Int => (List.range 21).map fun s => put31 (regC (.ofNat s) e1 s2 e2 s3 e3) (.ofNat 1) (.ofNat s) e1 (regC (.ofNat 1) 15 s2 e2 s3 e3) := by kernel_rfl
theorem ap1_2 : (fun e1 s2 e2 s3 e3 : Int => (List.range 21).map fun s => run31 1 (.ofNat 2) (regM (.ofNat s) e1 s2 e2 s3 e3)) = fun e1 s2 e2 s3 e3 : Int => (List.range 21).map fun s => put31 (regC (.ofNat s) e1 s2 e2 s3 e3) (.ofNat 2) (.ofNat s) e1 (regC (.ofNat 2) 15 s2 e2 s3 e3) := by kernel_rfl
theorem ap1_3 : (fun e1 s2 e2 s3 e3 : Int => (List.range 21).map fun s => run31 1 (.ofNat 3) (regM (.ofNat s) e1 s2 e2 s3 e3)) = fun e1 s2 e2 s3 e3 : Int => (List.range 21).map fun s => put31 (regC (.ofNat s) e1 s2 e2 s3 e3) (.ofNat 3) (.ofNat s) e1 (regC (.ofNat 3) 15 s2 e2 s3 e3) := by kernel_rfl
theorem ap1_4 : (fun e1 s2 e2 s3 e3 : Int => (List.range 21).map fun s => run31 1 (.ofNat 4) (regM (.ofNat s) e1 s2 e2 s3 e3)) = fun e1 s2 e2 s3 e3 : Int => (List.range 21).map fun s => put31 (regC (.ofNat s) e1 s2 e2 s3 e3) (.ofNat 4) (.ofNat s) e1 (regC (.ofNat 4) 15 s2 e2 s3 e3) := by kernel_rfl
theorem ap1_5 : (fun e1 s2 e2 s3 e3 : Int => (List.range 21).map fun s => run31 1 (.ofNat 5) (regM (.ofNat s) e1 s2 e2 s3 e3)) = fun e1 s2 e2 s3 e3 : Int => (List.range 21).map fun s => put31 (regC (.ofNat s) e1 s2 e2 s3 e3) (.ofNat 5) (.ofNat s) e1 (regC (.ofNat 5) 15 s2 e2 s3 e3) := by kernel_rfl
theorem ap1_6 : (fun e1 s2 e2 s3 e3 : Int => (List.range 21).map fun s => run31 1 (.ofNat 6) (regM (.ofNat s) e1 s2 e2 s3 e3)) = fun e1 s2 e2 s3 e3 : Int => (List.range 21).map fun s => put31 (regC (.ofNat s) e1 s2 e2 s3 e3) (.ofNat 6) (.ofNat s) e1 (regC (.ofNat 6) 15 s2 e2 s3 e3) := by kernel_rfl
theorem ap1_7 : (fun e1 s2 e2 s3 e3 : Int => (List.range 21).map fun s => run31 1 (.ofNat 7) (regM (.ofNat s) e1 s2 e2 s3 e3)) = fun e1 s2 e2 s3 e3 : Int => (List.range 21).map fun s => put31 (regC (.ofNat s) e1 s2 e2 s3 e3) (.ofNat 7) (.ofNat s) e1 (regC (.ofNat 7) 15 s2 e2 s3 e3) := by kernel_rfl
theorem ap1_8 : (fun e1 s2 e2 s3 e3 : Int => (List.range 21).map fun s => run31 1 (.ofNat 8) (regM (.ofNat s) e1 s2 e2 s3 e3)) = fun e1 s2 e2 s3 e3 : Int => (List.range 21).map fun s => put31 (regC (.ofNat s) e1 s2 e2 s3 e3) (.ofNat 8) (.ofNat s) e1 (regC (.ofNat 8) 15 s2 e2 s3 e3) := by kernel_rfl
theorem ap1_9 : (fun e1 s2 e2 s3 e3 : Int => (List.range 21).map fun s => run31 1 (.ofNat 9) (regM (.ofNat s) e1 s2 e2 s3 e3)) = fun e1 s2 e2 s3 e3 : Int => (List.range 21).map fun s => put31 (regC (.ofNat s) e1 s2 e2 s3 e3) (.ofNat 9) (.ofNat s) e1 (regC (.ofNat 9) 15 s2 e2 s3 e3) := by kernel_rfl
theorem ap1_10 : (fun e1 s2 e2 s3 e3 : Int => (List.range 21).map fun s => run31 1 (.ofNat 10) (regM (.ofNat s) e1 s2 e2 s3 e3)) = fun e1 s2 e2 s3 e3 : Int => (List.range 21).map fun s => put31 (regC (.ofNat s) e1 s2 e2 s3 e3) (.ofNat 10) (.ofNat s) e1 (regC (.ofNat 10) 15 s2 e2 s3 e3) := by kernel_rfl
end Go.Ev
end
section
namespace Go.Ev
theorem ap1_11 : (fun e1 s2 e2 s3 e3 : Int => (List.range 21).map fun s => run31 1 (.ofNat 11) (regM (.ofNat s) e1 s2 e2 s3 e3)) = fun e1 s2 e2 s3 e3 : Int => (List.range 21).map fun s => put31 (regC (.ofNat s) e1 s2 e2 s3 e3) (.ofNat 11) (.ofNat s) e1 (regC (.ofNat 11) 15 s2 e2 s3 e3) := by kernel_rfl
theorem ap1_12 : (fun e1 s2 e2 s3 e3 : Int => (List.range 21).map fun s => run31 1 (.ofNat 12) (regM (.ofNat s) e1 s2 e2 s3 e3)) = fun e1 s2 e2 s3 e3 : Int => (List.range 21).map fun s => put31 (regC (.ofNat s) e1 s2 e2 s3 e3) (.ofNat 12) (.ofNat s) e1 (regC (.ofNat 12) 15 s2 e2 s3 e3) := by kernel_rfl
theorem ap1_13 : (fun e1 s2 e2 s3 e3 : Int => (List.range 21).map fun s => run31 1 (.ofNat 13) (regM (.ofNat s) e1 s2 e2 s3 e3)) = fun e1 s2 e2 s3 e3 : Int => (List.range 21).map fun s => put31 (regC (.ofNat s) e1 s2 e2 s3 e3) (.ofNat 13) (.ofNat s) e1 (regC (.ofNat 13) 15 s2 e2 s3 e3) := by kernel_rfl
theorem ap1_14 : (fun e1 s2 e2 s3 e3 : Int => (List.range 21).map fun s => run31 1 (.ofNat 14) (regM (.ofNat s) e1 s2 e2 s3 e3)) = fun e1 s2 e2 s3 e3 : Int => (List.range 21).map fun s => put31 (regC (.ofNat s) e1 s2 e2 s3 e3) (.ofNat 14) (.ofNat s) e1 (regC (.ofNat 14) 15 s2 e2 s3 e3) := by kernel_rfl
theorem ap1_15 : (fun e1 s2 e2 s3 e3 : Int => (List.range 21).map fun s => run31 1 (.ofNat 15) (regM (.ofNat s) e1 s2 e2 s3 e3)) = fun e1 s2 e2 s3 e3 : Int => (List.range 21).map fun s => put31 (regC (.ofNat s) e1 s2 e2 s3 e3) (.ofNat 15) (.ofNat s) e1 (regC (.ofNat 15) 15 s2 e2 s3 e3) := by kernel_rfl
theorem ap1_16 : (fun e1 s2 e2 s3 e3 : Int => (List.range 21).map fun s => run31 1 (.ofNat 16) (regM (.ofNat s) e1 s2 e2 s3 e3)) = fun e1 s2 e2 s3 e3 : Int => (List.range 21).map fun s => put31 (regC (.ofNat s) e1 s2 e2 s3 e3) (.ofNat 16) (.ofNat s) e1 (regC (.ofNat 16) 15 s2 e2 s3 e3) := by kernel_rfl
theorem ap1_17 : (fun e1 s2 e2 s3 e3 : Int => (List.range 21).map fun s => run31 1 (.ofNat 17) (regM (.ofNat s) e1 s2 e2 s3 e3)) = fun e1 s2 e2 s3 e3 : Int => (List.range 21).map fun s => put31 (regC (.ofNat s) e1 s2 e2 s3 e3) (.ofNat 17) (.ofNat s) e1 (regC (.ofNat 17) 15 s2 e2 s3 e3) := by kernel_rfl
theorem ap1_18 : (fun e1 s2 e2 s3 e3 : Int => (List.range 21).map fun s => run31 1 (.ofNat 18) (regM (.ofNat s) e1 s2 e2 s3 e3)) = fun e1 s2 e2 s3 e3 : Int => (List.range 21).map fun s => put31 (regC (.ofNat s) e1 s2 e2 s3 e3) (.ofNat 18) (.ofNat s) e1 (regC (.ofNat 18) 15 s2 e2 s3 e3) := by kernel_rfl
theorem ap1_19 : (fun e1 s2 e2 s3 e3 : Int => (List.range 21).map fun s => run31 1 (.ofNat 19) (regM (.ofNat s) e1 s2 e2 s3 e3)) = fun e1 s2 e2 s3 e3 : Int => (List.range 21).map fun s => put31 (regC (.ofNat s) e1 s2 e2 s3 e3) (.ofNat 19) (.ofNat s) e1 (regC (.ofNat 19) 15 s2 e2 s3 e3) := by kernel_rfl
theorem ap1_20 : (fun e1 s2 e2 s3 e3 : Int => (List.range 21).map fun s => run31 1 (.ofNat 20) (regM (.ofNat s) e1 s2 e2 s3 e3)) = fun e1 s2 e2 s3 e3 : Int => (List.range 21).map fun s => put31 (regC (.ofNat s) e1 s2 e2 s3 e3) (.ofNat 20) (.ofNat s) e1 (regC (.ofNat 20) 15 s2 e2 s3 e3) := by kernel_rfl
end Go.Ev
end
section
namespace Go.Ev
theorem ap2_1 : (fun s1 e1 e2 s3 e3 : Int => (List.range 21).map fun s => run31 2 (.ofNat 1) (regM s1 e1 (.ofNat s) e2 s3 e3)) = fun s1 e1 e2 s3 e3 : Int => (List.range 21).map fun s => put31 (regC s1 e1 (.ofNat s) e2 s3 e3) (.ofNat 1) (.ofNat s) e2 (regC s1 e1 (.ofNat 1) 15 s3 e3) := by kernel_rfl
theorem ap2_2 : (fun s1 e1 e2 s3 e3 : Int => (List.range 21).map fun s => run31 2 (.ofNat 2) (regM s1 e1 (.ofNat s) e2 s3 e3)) = fun s1 e1 e2 s3 e3 : Int => (List.range 21).map fun s => put31 (regC s1 e1 (.ofNat s) e2 s3 e3) (.ofNat 2) (.ofNat s) e2 (regC s1 e1 (.ofNat 2) 15 s3 e3) := by kernel_rfl
theorem ap2_3 : (fun s1 e1 e2 s3 e3 : Int => (List.range 21).map fun s => run31 2 (.ofNat 3) (regM s1 e1 (.ofNat s) e2 s3 e3)) = fun s1 e1 e2 s3 e3 : Int => (List.range 21).map fun s => put31 (regC s1 e1 (.ofNat s) e2 s3 e3) (.ofNat 3) (.ofNat s) e2 (regC s1 e1 (.ofNat 3) 15 s3 e3) := by kernel_rfl
theorem ap2_4 : (fun s1 e1 e2 s3 e3 : Int => (List.range 21).map fun s => run31 2 (.ofNat 4) (regM s1 e1 (.ofNat s) e2 s3 e3)) = fun s1 e1 e2 s3 e3 : Int => (List.range 21).map fun s => put31 (regC s1 e1 (.ofNat s) e2 s3 e3) (.ofNat 4) (.ofNat s) e2 (regC s1 e1 (.ofNat 4) 15 s3 e3) := by kernel_rfl
theorem ap2_5 : (fun s1 e1 e2 s3 e3 : Int => (List.range 21).map fun s => run31 2 (.ofNat 5) (regM s1 e1 (.ofNat s) e2 s3 e3)) = fun s1 e1 e2 s3 e3 : Int => (List.range 21).map fun s => put31 (regC s1 e1 (.ofNat s) e2 s3 e3) (.ofNat 5) (.ofNat s) e2 (regC s1 e1 (.ofNat 5) 15 s3 e3) := by kernel_rfl
theorem ap2_6 : (fun s1 e1 e2 s3 e3 : Int => (List.range 21).map fun s => run31 2 (.ofNat 6) (regM s1 e1 (.ofNat s) e2 s3 e3)) = fun s1 e1 e2 s3 e3 : Int => (List.range 21).map fun s => put31 (regC s1 e1 (.ofNat s) e2 s3 e3) (.ofNat 6) (.ofNat s) e2 (regC s1 e1 (.ofNat 6) 15 s3 e3) := by kernel_rfl
theorem ap2_7 : (fun s1 e1 e2 s3 e3 : Int => (List.range 21).map fun s => run31 2 (.ofNat 7) (regM s1 e1 (.ofNat s) e2 s3 e3)) = fun s1 e1 e2 s3 e3 : Int => (List.range 21).map fun s => put31 (regC s1 e1 (.ofNat s) e2 s3 e3) (.ofNat 7) (.ofNat s) e2 (regC s1 e1 (.ofNat 7) 15 s3 e3) := by kernel_rfl
theorem ap2_8 : (fun s1 e1 e2 s3 e3 : Int => (List.range 21).map fun s => run31 2 (.ofNat 8) (regM s1 e1 (.ofNat s) e2 s3 e3)) = fun s1 e1 e2 s3 e3 : Int => (List.range 21).map fun s => put31 (regC s1 e1 (.ofNat s) e2 s3 e3) (.ofNat 8) (.ofNat s) e2 (regC s1 e1 (.ofNat 8) 15 s3 e3) := by kernel_rfl
theorem ap2_9 : (fun s1 e1 e2 s3 e3 : Int => (List.range 21).map fun s => run31 2 (.ofNat 9) (regM s1 e1 (.ofNat s) e2 s3 e3)) = fun s1 e1 e2 s3 e3 : Int => (List.range 21).map fun s => put31 (regC s1 e1 (.ofNat s) e2 s3 e3) (.ofNat 9) (.ofNat s) e2 (regC s1 e1 (.ofNat 9) 15 s3 e3) := by kernel_rfl
theorem ap2_10 : (fun s1 e1 e2 s3 e3 : Int => (List.range 21).map fun s => run31 2 (.ofNat 10) (regM s1 e1 (.ofNat s) e2 s3 e3)) = fun s1 e1 e2 s3 e3 : Int => (List.range 21).map fun s => put31 (regC s1 e1 (.ofNat s) e2 s3 e3) (.ofNat 10) (.ofNat s) e2 (regC s1 e1 (.ofNat 10) 15 s3 e3) := by kernel_rfl
end Go.Ev
end
section
namespace Go.Ev
theorem ap2_11 : (fun s1 e1 e2 s3 e3 : Int => (List.range 21).map fun s => run31 2 (.ofNat 11) (regM s1 e1 (.ofNat s) e2 s3 e3)) = fun s1 e1 e2 s3 e3 : Int => (List.range 21).map fun s => put31 (regC s1 e1 (.ofNat s) e2 s3 e3) (.ofNat 11) (.ofNat s) e2 (regC s1 e1 (.ofNat 11) 15 s3 e3) := by kernel_rfl
theorem ap2_12 : (fun s1 e1 e2 s3 e3 : Int => (List.range 21).map fun s => run31 2 (.ofNat 12) (regM s1 e1 (.ofNat s) e2 s3 e3)) = fun s1 e1 e2 s3 e3 : Int => (List.range 21).map fun s => put31 (regC s1 e1 (.ofNat s) e2 s3 e3) (.ofNat 12) (.ofNat s) e2 (regC s1 e1 (.ofNat 12) 15 s3 e3) := by kernel_rfl
theorem ap2_13 : (fun s1 e1 e2 s3 e3 : Int => (List.range 21).map fun s => run31 2 (.ofNat 13) (regM s1 e1 (.ofNat s) e2 s3 e3)) = fun s1 e1 e2 s3 e3 : Int => (List.range 21).map fun s => put31 (regC s1 e1 (.ofNat s) e2 s3 e3) (.ofNat 13) (.ofNat s) e2 (regC s1 e1 (.ofNat 13) 15 s3 e3) := by kernel_rfl
theorem ap2_14 : (fun s1 e1 e2 s3 e3 : Int => (List.range 21).map fun s => run31 2 (.ofNat 14) (regM s1 e1 (.ofNat s) e2 s3 e3)) = fun s1 e1 e2 s3 e3 : Int => (List.range 21).map fun s => put31 (regC s1 e1 (.ofNat s) e2 s3 e3) (.ofNat 14) (.ofNat s) e2 (regC s1 e1 (.ofNat 14) 15 s3 e3) := by kernel_rfl
theorem ap2_15 : (fun s1 e1 e2 s3 e3 : Int => (List.range 21).map fun s => run31 2 (.ofNat 15) (regM s1 e1 (.ofNat s) e2 s3 e3)) = fun s1 e1 e2 s3 e3 : Int => (List.range 21).map fun s => put31 (regC s1 e1 (.ofNat s) e2 s3 e3) (.ofNat 15) (.ofNat s) e2 (regC s1 e1 (.ofNat 15) 15 s3 e3) := by kernel_rfl
theorem ap2_16 : (fun s1 e1 e2 s3 e3 : Int => (List.range 21).map fun s => run31 2 (.ofNat 16) (regM s1 e1 (.ofNat s) e2 s3 e3)) = fun s1 e1 e2 s3 e3 : Int => (List.range 21).map fun s => put31 (regC s1 e1 (.ofNat s) e2 s3 e3) (.ofNat 16) (.ofNat s) e2 (regC s1 e1 (.ofNat 16) 15 s3 e3) := by kernel_rfl
theorem ap2_17 : (fun s1 e1 e2 s3 e3 : Int => (List.range 21).map fun s => run31 2 (.ofNat 17) (regM s1 e1 (.ofNat s) e2 s3 e3)) = fun s1 e1 e2 s3 e3 : Int => (List.range 21).map fun s => put31 (regC s1 e1 (.ofNat s) e2 s3 e3) (.ofNat 17) (.ofNat s) e2 (regC s1 e1 (.ofNat 17) 15 s3 e3) := by kernel_rfl
theorem ap2_18 : (fun s1 e1 e2 s3 e3 : Int => (List.range 21).map fun s => run31 2 (.ofNat 18) (regM s1 e1 (.ofNat s) e2 s3 e3)) = fun s1 e1 e2 s3 e3 : Int => (List.range 21).map fun s => put31 (regC s1 e1 (.ofNat s) e2 s3 e3) (.ofNat 18) (.ofNat s) e2 (regC s1 e1 (.ofNat 18) 15 s3 e3) := by kernel_rfl
theorem ap2_19 : (fun s1 e1 e2 s3 e3 : Int => (List.range 21).map fun s => run31 2 (.ofNat 19) (regM s1 e1 (.ofNat s) e2 s3 e3)) = fun s1 e1 e2 s3 e3 : Int => (List.range 21).map fun s => put31 (regC s1 e1 (.ofNat s) e2 s3 e3) (.ofNat 19) (.ofNat s) e2 (regC s1 e1 (.ofNat 19) 15 s3 e3) := by kernel_rfl
theorem ap2_20 : (fun s1 e1 e2 s3 e3 : Int => (List.range 21).map fun s => run31 2 (.ofNat 20) (regM s1 e1 (.ofNat s) e2 s3 e3)) = fun s1 e1 e2 s3 e3 : Int => (List.range 21).map fun s => put31 (regC s1 e1 (.ofNat s) e2 s3 e3) (.ofNat 20) (.ofNat s) e2 (regC s1 e1 (.ofNat 20) 15 s3 e3) := by kernel_rfl
end Go.Ev
end
section
namespace Go.Ev
theorem ap3_1 : (fun s1 e1 s2 e2 e3 : Int => (List.range 21).map fun s => run31 3 (.ofNat 1) (regM s1 e1 s2 e2 (.ofNat s) e3)) = fun s1 e1 s2 e2 e3 : Int => (List.range 21).map fun s => put31 (regC s1 e1 s2 e2 (.ofNat s) e3) (.ofNat 1) (.ofNat s) e3 (regC s1 e1 s2 e2 (.ofNat 1) 15) := by kernel_rfl
theorem ap3_2 : (fun s1 e1 s2 e2 e3 : Int => (List.range 21).map fun s => run31 3 (.ofNat 2) (regM s1 e1 s2 e2 (.ofNat s) e3)) = fun s1 e1 s2 e2 e3 : Int => (List.range 21).map fun s => put31 (regC s1 e1 s2 e2 (.ofNat s) e3) (.ofNat 2) (.ofNat s) e3 (regC s1 e1 s2 e2 (.ofNat 2) 15) := by kernel_rfl
theorem ap3_3 : (fun s1 e1 s2 e2 e3 : Int => (List.range 21).map fun s => run31 3 (.ofNat 3) (regM s1 e1 s2 e2 (.ofNat s) e3)) = fun s1 e1 s2 e2 e3 : Int => (List.range 21).map fun s => put31 (regC s1 e1 s2 e2 (.ofNat s) e3) (.ofNat 3) (.ofNat s) e3 (regC s1 e1 s2 e2 (.ofNat 3) 15) := by kernel_rfl
theorem ap3_4 : (fun s1 e1 s2 e2 e3 : Int => (List.range 21).map fun s => run31 3 (.ofNat 4) (regM s1 e1 s2 e2 (.ofNat s) e3)) = fun s1 e1 s2 e2 e3 : Int => (List.range 21).map fun s => put31 (regC s1 e1 s2 e2 (.ofNat s) e3) (.ofNat 4) (.ofNat s) e3 (regC s1 e1 s2 e2 (.ofNat 4) 15) := by kernel_rfl
theorem ap3_5 : (fun s1 e1 s2 e2 e3 : Int => (List.range 21).map fun s => run31 3 (.ofNat 5) (regM s1 e1 s2 e2 (.ofNat s) e3)) = fun s1 e1 s2 e2 e3 : Int => (List.range 21).map fun s => put31 (regC s1 e1 s2 e2 (.ofNat s) e3) (.ofNat 5) (.ofNat s) e3 (regC s1 e1 s2 e2 (.ofNat 5) 15) := by kernel_rfl
theorem ap3_6 : (fun s1 e1 s2 e2 e3 : Int => (List.range 21).map fun s => run31 3 (.ofNat 6) (regM s1 e1 s2 e2 (.ofNat s) e3)) = fun s1 e1 s2 e2 e3 : Int => (List.range 21).map fun s => put31 (regC s1 e1 s2 e2 (.ofNat s) e3) (.ofNat 6) (.ofNat s) e3 (regC s1 e1 s2 e2 (.ofNat 6) 15) := by kernel_rfl
theorem ap3_7 : (fun s1 e1 s2 e2 e3 : Int => (List.range 21).map fun s => run31 3 (.ofNat 7) (regM s1 e1 s2 e2 (.ofNat s) e3)) = fun s1 e1 s2 e2 e3 : Int => (List.range 21).map fun s => put31 (regC s1 e1 s2 e2 (.ofNat s) e3) (.ofNat 7) (.ofNat s) e3 (regC s1 e1 s2 e2 (.ofNat 7) 15) := by kernel_rfl
theorem ap3_8 : (fun s1 e1 s2 e2 e3 : Int => (List.range 21).map fun s => run31 3 (.ofNat 8) (regM s1 e1 s2 e2 (.ofNat s) e3)) = fun s1 e1 s2 e2 e3 : Int => (List.range 21).map fun s => put31 (regC s1 e1 s2 e2 (.ofNat s) e3) (.ofNat 8) (.ofNat s) e3 (regC s1 e1 s2 e2 (.ofNat 8) 15) := by kernel_rfl
theorem ap3_9 : (fun s1 e1 s2 e2 e3 : Int => (List.range 21).map fun s => run31 3 (.ofNat 9) (regM s1 e1 s2 e2 (.ofNat s) e3)) = fun s1 e1 s2 e2 e3 : Int => (List.range 21).map fun s => put31 (regC s1 e1 s2 e2 (.ofNat s) e3) (.ofNat 9) (.ofNat s) e3 (regC s1 e1 s2 e2 (.ofNat 9) 15) := by kernel_rfl
theorem ap3_10 : (fun s1 e1 s2 e2 e3 : Int => (List.range 21).map fun s => run31 3 (.ofNat 10) (regM s1 e1 s2 e2 (.ofNat s) e3)) = fun s1 e1 s2 e2 e3 : Int => (List.range 21).map fun s => put31 (regC s1 e1 s2 e2 (.ofNat s) e3) (.ofNat 10) (.ofNat s) e3 (regC s1 e1 s2 e2 (.ofNat 10) 15) := by kernel_rfl
end Go.Ev
end
section
namespace Go.Ev
theorem ap3_11 : (fun s1 e1 s2 e2 e3 : Int => (List.range 21).map fun s => run31 3 (.ofNat 11) (regM s1 e1 s2 e2 (.ofNat s) e3)) = fun s1 e1 s2 e2 e3 : Int => (List.range 21).map fun s => put31 (regC s1 e1 s2 e2 (.ofNat s) e3) (.ofNat 11) (.ofNat s) e3 (regC s1 e1 s2 e2 (.ofNat 11) 15) := by kernel_rfl
theorem ap3_12 : (fun s1 e1 s2 e2 e3 : Int => (List.range 21).map fun s => run31 3 (.ofNat 12) (regM s1 e1 s2 e2 (.ofNat s) e3)) = fun s1 e1 s2 e2 e3 : Int => (List.range 21).map fun s => put31 (regC s1 e1 s2 e2 (.ofNat s) e3) (.ofNat 12) (.ofNat s) e3 (regC s1 e1 s2 e2 (.ofNat 12) 15) := by kernel_rfl
theorem ap3_13 : (fun s1 e1 s2 e2 e3 : Int => (List.range 21).map fun s => run31 3 (.ofNat 13) (regM s1 e1 s2 e2 (.ofNat s) e3)) = fun s1 e1 s2 e2 e3 : Int => (List.range 21).map fun s => put31 (regC s1 e1 s2 e2 (.ofNat s) e3) (.ofNat 13) (.ofNat s) e3 (regC s1 e1 s2 e2 (.ofNat 13) 15) := by kernel_rfl
theorem ap3_14 : (fun s1 e1 s2 e2 e3 : Int => (List.range 21).map fun s => run31 3 (.ofNat 14) (regM s1 e1 s2 e2 (.ofNat s) e3)) = fun s1 e1 s2 e2 e3 : Int => (List.range 21).map fun s => put31 (regC s1 e1 s2 e2 (.ofNat s) e3) (.ofNat 14) (.ofNat s) e3 (regC s1 e1 s2 e2 (.ofNat 14) 15) := by kernel_rfl
theorem ap3_15 : (fun s1 e1 s2 e2 e3 : Int => (List.range 21).map fun s => run31 3 (.ofNat 15) (regM s1 e1 s2 e2 (.ofNat s) e3)) = fun s1 e1 s2 e2 e3 : Int => (List.range 21).map fun s => put31 (regC s1 e1 s2 e2 (.ofNat s) e3) (.ofNat 15) (.ofNat s) e3 (regC s1 e1 s2 e2 (.ofNat 15) 15) := by kernel_rfl
theorem ap3_16 : (fun s1 e1 s2 e2 e3 : Int => (List.range 21).map fun s => run31 3 (.ofNat 16) (regM s1 e1 s2 e2 (.ofNat s) e3)) = fun s1 e1 s2 e2 e3 : Int => (List.range 21).map fun s => put31 (regC s1 e1 s2 e2 (.ofNat s) e3) (.ofNat 16) (.ofNat s) e3 (regC s1 e1 s2 e2 (.ofNat 16) 15) := by kernel_rfl
theorem ap3_17 : (fun s1 e1 s2 e2 e3 : Int => (List.range 21).map fun s => run31 3 (.ofNat 17) (regM s1 e1 s2 e2 (.ofNat s) e3)) = fun s1 e1 s2 e2 e3 : Int => (List.range 21).map fun s => put31 (regC s1 e1 s2 e2 (.ofNat s) e3) (.ofNat 17) (.ofNat s) e3 (regC s1 e1 s2 e2 (.ofNat 17) 15) := by kernel_rfl
theorem ap3_18 : (fun s1 e1 s2 e2 e3 : Int => (List.range 21).map fun s => run31 3 (.ofNat 18) (regM s1 e1 s2 e2 (.ofNat s) e3)) = fun s1 e1 s2 e2 e3 : Int => (List.range 21).map fun s => put31 (regC s1 e1 s2 e2 (.ofNat s) e3) (.ofNat 18) (.ofNat s) e3 (regC s1 e1 s2 e2 (.ofNat 18) 15) := by kernel_rfl
theorem ap3_19 : (fun s1 e1 s2 e2 e3 : Int => (List.range 21).map fun s => run31 3 (.ofNat 19) (regM s1 e1 s2 e2 (.ofNat s) e3)) = fun s1 e1 s2 e2 e3 : Int => (List.range 21).map fun s => put31 (regC s1 e1 s2 e2 (.ofNat s) e3) (.ofNat 19) (.ofNat s) e3 (regC s1 e1 s2 e2 (.ofNat 19) 15) := by kernel_rfl
theorem ap3_20 : (fun s1 e1 s2 e2 e3 : Int => (List.range 21).map fun s => run31 3 (.ofNat 20) (regM s1 e1 s2 e2 (.ofNat s) e3)) = fun s1 e1 s2 e2 e3 : Int => (List.range 21).map fun s => put31 (regC s1 e1 s2 e2 (.ofNat s) e3) (.ofNat 20) (.ofNat s) e3 (regC s1 e1 s2 e2 (.ofNat 20) 15) := by kernel_rfl
end Go.Ev
end
section
namespace Go.Ev
open Go.Proofs
noncomputable def run34 (c : Int) (m : AMem) := seen (call Tryz.prog noS 100000 34 [.ptr 0 0, .int .i64 c] m)
noncomputable def run33 (m : AMem) := seen (call Tryz.prog noS 100000 33 [.ptr 0 0] m)
noncomputable def run30 := (match call Tryz.prog noS 100000 30 [] ⟨0, .leaf⟩ with
  | .mk (.ptr b o) m => bif2 (Nat.beq b 0) (bif2 (Nat.beq o 0) (seen (.mk .nilp m)) none) none
  | _ => none)
theorem new30r : run30 = some (.nilp, (false, false, 1, 26), regC 0 0 0 0 0 0) := by kernel_rfl
theorem told1 : (fun s1 e1 s2 e2 s3 e3 : Int => run34 1 (regM s1 e1 s2 e2 s3 e3)) = fun s1 e1 s2 e2 s3 e3 : Int => some (.tup [.int .i64 s1, .agg [.int .i64 e1, .int .i64 0, .int .i64 0]], (false, true, 1, 26), regC s1 e1 s2 e2 s3 e3) := by kernel_rfl
theorem told2 : (fun s1 e1 s2 e2 s3 e3 : Int => run34 2 (regM s1 e1 s2 e2 s3 e3)) = fun s1 e1 s2 e2 s3 e3 : Int => some (.tup [.int .i64 s2, .agg [.int .i64 e2, .int .i64 0, .int .i64 0]], (false, true, 1, 26), regC s1 e1 s2 e2 s3 e3) := by kernel_rfl
theorem told3 : (fun s1 e1 s2 e2 s3 e3 : Int => run34 3 (regM s1 e1 s2 e2 s3 e3)) = fun s1 e1 s2 e2 s3 e3 : Int => some (.tup [.int .i64 s3, .agg [.int .i64 e3, .int .i64 0, .int .i64 0]], (false, true, 1, 26), regC s1 e1 s2 e2 s3 e3) := by kernel_rfl
theorem len33r : (fun s1 e1 s2 e2 s3 e3 : Int => run33 (regM s1 e1 s2 e2 s3 e3)) = fun s1 e1 s2 e2 s3 e3 : Int => some (.int .i64 0, (false, true, 1, 26), regC s1 e1 s2 e2 s3 e3) := by kernel_rfl

/-- A Reg's cells in a world. -/
noncomputable def RegAt (w : World) (g : Loc) (l : List AV) : Prop := ∃ cs elem fz, w.heap[g.blk]? = some (.cells cs elem fz) ∧ cs.size = g.csize ∧ g.E = 1 ∧ g.base + 26 ≤ cs.size ∧ (∀ i, i < cs.size → ¬ (fz.1 ≤ i ∧ i < fz.2)) ∧ ∀ i, i < 26 → ∃ v, cs[g.base + i]? = some v ∧ VR (fun _ => none) (l.getD i .any) v
noncomputable def flat : AV → Bool
  | .nils => true
  | .int _ _ => true
  | _ => false
theorem flat_vr {a : AV} (h : flat a = true) {ρ ρ' : Ren} {v : Value} (hv : VR ρ a v) : VR ρ' a v := by
  cases hv <;> first | exact .int _ _ | exact .nils | cases h
abbrev oneR (g : Loc) : Ren := fun b => match b with | 0 => some g | _ => none
theorem regC_flat (s1 e1 s2 e2 s3 e3 : Int) : ∀ i, i < 26 → flat ((regC s1 e1 s2 e2 s3 e3).getD i .any) = true := by
  intro i hi
  match i with
  | 0 => rfl
  | 1 => rfl
  | 2 => rfl
  | 3 => rfl
  | 4 => rfl
  | 5 => rfl
  | 6 => rfl
  | 7 => rfl
  | 8 => rfl
  | 9 => rfl
  | 10 => rfl
  | 11 => rfl
  | 12 => rfl
  | 13 => rfl
  | 14 => rfl
  | 15 => rfl
  | 16 => rfl
  | 17 => rfl
  | 18 => rfl
  | 19 => rfl
  | 20 => rfl
  | 21 => rfl
  | 22 => rfl
  | 23 => rfl
  | 24 => rfl
  | 25 => rfl
  | i + 26 => omega
theorem regT_get (s1 e1 s2 e2 s3 e3 : Int) : ∀ i, i < 26 → ((regT s1 e1 s2 e2 s3 e3).get i).getD .any = (regC s1 e1 s2 e2 s3 e3).getD i .any := by
  intro i hi
  match i with
  | 0 => rfl
  | 1 => rfl
  | 2 => rfl
  | 3 => rfl
  | 4 => rfl
  | 5 => rfl
  | 6 => rfl
  | 7 => rfl
  | 8 => rfl
  | 9 => rfl
  | 10 => rfl
  | 11 => rfl
  | 12 => rfl
  | 13 => rfl
  | 14 => rfl
  | 15 => rfl
  | 16 => rfl
  | 17 => rfl
  | 18 => rfl
  | 19 => rfl
  | 20 => rfl
  | 21 => rfl
  | 22 => rfl
  | 23 => rfl
  | 24 => rfl
  | 25 => rfl
  | i + 26 => omega
theorem noS_ok : SumsOK Tryz.prog noS := fun f s h => by cases h
theorem seen_inv {r : OR} {v : AV} {x : Bool × Bool × Nat × Nat} {l : List AV} (h : seen r = some (v, x, l)) :
    ∃ m c, r = .mk v m ∧ m.t.get 0 = some (.cells x.1 x.2.1 x.2.2.1 x.2.2.2 c) ∧ ∀ i, i < 26 → (c.get i).getD .any = l.getD i .any := by
  unfold seen at h
  split at h
  · rename_i v1 m
    split at h
    · rename_i ro sg E n c hb
      injection h with h
      injection h with h1 h2
      injection h2 with h2 h3
      subst h1; subst h2; subst h3
      refine ⟨m, c, rfl, hb, fun i hi => ?_⟩
      simp [List.getD, hi]
    · cases h
  · cases h
theorem RegAt.of {ρ : Ren} {w : World} {b : Nat} {g : Loc} {sg : Bool} {c : T AV} {l : List AV} (h : BR ρ w b (.cells false sg 1 26 c)) (hg : ρ b = some g) (hc : ∀ i, i < 26 → (c.get i).getD .any = l.getD i .any) (hf : ∀ i, i < 26 → flat (l.getD i .any) = true) : RegAt w g l := by
  obtain ⟨L, cs, elem, fz, h1, h2, h3, h4, h5, h6, h7, h8⟩ := h
  rw [hg] at h1; injection h1 with h1; subst h1
  refine ⟨cs, elem, fz, h2, h3, h4, h5, h7 rfl, fun i hi => ?_⟩
  obtain ⟨v, e, r⟩ := h6 i hi
  rw [hc i hi] at r
  exact ⟨v, e, flat_vr (hf i hi) r⟩
theorem RegAt.view {w : World} {g : Loc} {s1 e1 s2 e2 s3 e3 : Int} (h : RegAt w g (regC s1 e1 s2 e2 s3 e3)) : View (oneR g) (regM s1 e1 s2 e2 s3 e3) w := by
  obtain ⟨cs, elem, fz, h1, h2, h2a, h2b, h3, h4⟩ := h
  have hb : ∀ b x, (regM s1 e1 s2 e2 s3 e3).t.get b = some x → b = 0 ∧ x = .cells false true 1 26 (regT s1 e1 s2 e2 s3 e3) := by
    intro b x e
    match b with
    | 0 => injection e with e; exact ⟨rfl, e.symm⟩
    | b + 1 =>
      exfalso
      have : (regM s1 e1 s2 e2 s3 e3).t.get (b + 1) = none := by
        show Nat.rec (motive := fun _ => Option Blk) _ _ (Nat.mod (b + 1) 2) = none
        cases Nat.mod (b + 1) 2 <;> rfl
      rw [this] at e; cases e
  refine ⟨⟨fun b x e => ?_, fun b b' x x' L L' e e' hne _ _ _ => absurd ((hb b x e).1.trans (hb b' x' e').1.symm) hne⟩, fun b x e => ?_⟩
  · obtain ⟨rfl, rfl⟩ := hb b x e
    refine ⟨g, cs, elem, fz, rfl, h1, h2, h2a, h2b, fun i hi => ?_, fun _ => h3, fun hh => by cases hh⟩
    obtain ⟨v, e, r⟩ := h4 i hi
    rw [regT_get _ _ _ _ _ _ i hi]
    exact ⟨v, e, flat_vr (regC_flat _ _ _ _ _ _ i hi) r⟩
  · rw [(hb b x e).1]; exact Nat.zero_lt_one
/-- What lies in other blocks stays. -/
structure Apart (w w' : World) (g : Nat) : Prop where
  os : w'.os = w.os
  tape : w'.tape = w.tape
  output : w'.output = w.output
  size : w.heap.size ≤ w'.heap.size
  keeps : ∀ k, k < w.heap.size → k ≠ g → w'.heap[k]? = w.heap[k]?
theorem run_reg {f : FuncId} {args : List AV} {v : AV} {s1 e1 s2 e2 s3 e3 : Int} {s1y e1y s2y e2y s3y e3y : Int}
    (h : seen (call Tryz.prog noS 100000 f args (regM s1 e1 s2 e2 s3 e3)) = some (v, (false, true, 1, 26), regC s1y e1y s2y e2y s3y e3y)) (hen : (codeOf Tryz.prog f).isSome = true)
    {w : World} {g : Loc} (H : RegAt w g (regC s1 e1 s2 e2 s3 e3)) (cs : Array Value) (hv : VRs (oneR g) args cs.toList) :
    Calls Tryz.prog f cs w fun e w' => ∃ vc ρ', e = .returned vc ∧ VR ρ' v vc ∧ RegAt w' g (regC s1y e1y s2y e2y s3y e3y) ∧ Apart w w' g.blk := by
  obtain ⟨m1, c, e, hb, hc⟩ := seen_inv h
  have V := H.view
  have fr : Fresh (oneR g) 1 m1.next := fun b h1 _ => by
    match b with
    | 0 => omega
    | b + 1 => rfl
  rcases call_sound mixed noS_ok 100000 f args (regM s1 e1 s2 e2 s3 e3) _ _ e (oneR g) w cs V hv fr with ⟨_, hcall⟩ | ⟨ρ', w', vc, hr, _, _⟩
  · refine hcall.mono fun e w' ⟨vc, ρ', he, hs, hv⟩ => ?_
    refine ⟨vc, ρ', he, hv, ?_, ?_⟩
    · refine RegAt.of (b := 0) (hs.sim.blk 0 _ hb) ?_ hc (regC_flat _ _ _ _ _ _)
      rw [hs.ren 0 (by show ¬ (1 ≤ 0 ∧ _); omega)]; rfl
    · refine ⟨hs.os, hs.tape, hs.output, hs.size, fun k hk hne => hs.keeps k hk fun b x L h1 _ h3 => ?_⟩
      match b with
      | 0 => injection h3 with h3; subst h3; exact fun hh => hne hh.symm
      | b + 1 => cases h3
  · exfalso
    obtain ⟨fc, hfc⟩ := Option.isSome_iff_exists.1 hen
    rw [codeOf_enter (by rw [hfc]; rfl)] at hr
    cases hr
end Go.Ev
end
section
namespace Go.Ev
open Go.Proofs
theorem apAll1 (q s : Nat) (h1 : 1 ≤ q) (h2 : q ≤ 20) (h3 : s ≤ 20) (e1 s2 e2 s3 e3 : Int) : run31 1 (.ofNat q) (regM (.ofNat s) e1 s2 e2 s3 e3) = put31 (regC (.ofNat s) e1 s2 e2 s3 e3) (.ofNat q) (.ofNat s) e1 (regC (.ofNat q) 15 s2 e2 s3 e3) := by
  have hs : s ∈ List.range 21 := List.mem_range.2 (by omega)
  match q with
  | 0 => omega
  | 1 => exact List.map_inj_left.1 (congrFun (congrFun (congrFun (congrFun (congrFun (ap1_1) e1) s2) e2) s3) e3) s hs
  | 2 => exact List.map_inj_left.1 (congrFun (congrFun (congrFun (congrFun (congrFun (ap1_2) e1) s2) e2) s3) e3) s hs
  | 3 => exact List.map_inj_left.1 (congrFun (congrFun (congrFun (congrFun (congrFun (ap1_3) e1) s2) e2) s3) e3) s hs
  | 4 => exact List.map_inj_left.1 (congrFun (congrFun (congrFun (congrFun (congrFun (ap1_4) e1) s2) e2) s3) e3) s hs
  | 5 => exact List.map_inj_left.1 (congrFun (congrFun (congrFun (congrFun (congrFun (ap1_5) e1) s2) e2) s3) e3) s hs
  | 6 => exact List.map_inj_left.1 (congrFun (congrFun (congrFun (congrFun (congrFun (ap1_6) e1) s2) e2) s3) e3) s hs
  | 7 => exact List.map_inj_left.1 (congrFun (congrFun (congrFun (congrFun (congrFun (ap1_7) e1) s2) e2) s3) e3) s hs
  | 8 => exact List.map_inj_left.1 (congrFun (congrFun (congrFun (congrFun (congrFun (ap1_8) e1) s2) e2) s3) e3) s hs
  | 9 => exact List.map_inj_left.1 (congrFun (congrFun (congrFun (congrFun (congrFun (ap1_9) e1) s2) e2) s3) e3) s hs
  | 10 => exact List.map_inj_left.1 (congrFun (congrFun (congrFun (congrFun (congrFun (ap1_10) e1) s2) e2) s3) e3) s hs
  | 11 => exact List.map_inj_left.1 (congrFun (congrFun (congrFun (congrFun (congrFun (ap1_11) e1) s2) e2) s3) e3) s hs
  | 12 => exact List.map_inj_left.1 (congrFun (congrFun (congrFun (congrFun (congrFun (ap1_12) e1) s2) e2) s3) e3) s hs
  | 13 => exact List.map_inj_left.1 (congrFun (congrFun (congrFun (congrFun (congrFun (ap1_13) e1) s2) e2) s3) e3) s hs
  | 14 => exact List.map_inj_left.1 (congrFun (congrFun (congrFun (congrFun (congrFun (ap1_14) e1) s2) e2) s3) e3) s hs
  | 15 => exact List.map_inj_left.1 (congrFun (congrFun (congrFun (congrFun (congrFun (ap1_15) e1) s2) e2) s3) e3) s hs
  | 16 => exact List.map_inj_left.1 (congrFun (congrFun (congrFun (congrFun (congrFun (ap1_16) e1) s2) e2) s3) e3) s hs
  | 17 => exact List.map_inj_left.1 (congrFun (congrFun (congrFun (congrFun (congrFun (ap1_17) e1) s2) e2) s3) e3) s hs
  | 18 => exact List.map_inj_left.1 (congrFun (congrFun (congrFun (congrFun (congrFun (ap1_18) e1) s2) e2) s3) e3) s hs
  | 19 => exact List.map_inj_left.1 (congrFun (congrFun (congrFun (congrFun (congrFun (ap1_19) e1) s2) e2) s3) e3) s hs
  | 20 => exact List.map_inj_left.1 (congrFun (congrFun (congrFun (congrFun (congrFun (ap1_20) e1) s2) e2) s3) e3) s hs
  | q + 21 => omega
theorem apAll2 (q s : Nat) (h1 : 1 ≤ q) (h2 : q ≤ 20) (h3 : s ≤ 20) (s1 e1 e2 s3 e3 : Int) : run31 2 (.ofNat q) (regM s1 e1 (.ofNat s) e2 s3 e3) = put31 (regC s1 e1 (.ofNat s) e2 s3 e3) (.ofNat q) (.ofNat s) e2 (regC s1 e1 (.ofNat q) 15 s3 e3) := by
  have hs : s ∈ List.range 21 := List.mem_range.2 (by omega)
  match q with
  | 0 => omega
  | 1 => exact List.map_inj_left.1 (congrFun (congrFun (congrFun (congrFun (congrFun (ap2_1) s1) e1) e2) s3) e3) s hs
  | 2 => exact List.map_inj_left.1 (congrFun (congrFun (congrFun (congrFun (congrFun (ap2_2) s1) e1) e2) s3) e3) s hs
  | 3 => exact List.map_inj_left.1 (congrFun (congrFun (congrFun (congrFun (congrFun (ap2_3) s1) e1) e2) s3) e3) s hs
  | 4 => exact List.map_inj_left.1 (congrFun (congrFun (congrFun (congrFun (congrFun (ap2_4) s1) e1) e2) s3) e3) s hs
  | 5 => exact List.map_inj_left.1 (congrFun (congrFun (congrFun (congrFun (congrFun (ap2_5) s1) e1) e2) s3) e3) s hs
  | 6 => exact List.map_inj_left.1 (congrFun (congrFun (congrFun (congrFun (congrFun (ap2_6) s1) e1) e2) s3) e3) s hs
  | 7 => exact List.map_inj_left.1 (congrFun (congrFun (congrFun (congrFun (congrFun (ap2_7) s1) e1) e2) s3) e3) s hs
  | 8 => exact List.map_inj_left.1 (congrFun (congrFun (congrFun (congrFun (congrFun (ap2_8) s1) e1) e2) s3) e3) s hs
  | 9 => exact List.map_inj_left.1 (congrFun (congrFun (congrFun (congrFun (congrFun (ap2_9) s1) e1) e2) s3) e3) s hs
  | 10 => exact List.map_inj_left.1 (congrFun (congrFun (congrFun (congrFun (congrFun (ap2_10) s1) e1) e2) s3) e3) s hs
  | 11 => exact List.map_inj_left.1 (congrFun (congrFun (congrFun (congrFun (congrFun (ap2_11) s1) e1) e2) s3) e3) s hs
  | 12 => exact List.map_inj_left.1 (congrFun (congrFun (congrFun (congrFun (congrFun (ap2_12) s1) e1) e2) s3) e3) s hs
  | 13 => exact List.map_inj_left.1 (congrFun (congrFun (congrFun (congrFun (congrFun (ap2_13) s1) e1) e2) s3) e3) s hs
  | 14 => exact List.map_inj_left.1 (congrFun (congrFun (congrFun (congrFun (congrFun (ap2_14) s1) e1) e2) s3) e3) s hs
  | 15 => exact List.map_inj_left.1 (congrFun (congrFun (congrFun (congrFun (congrFun (ap2_15) s1) e1) e2) s3) e3) s hs
  | 16 => exact List.map_inj_left.1 (congrFun (congrFun (congrFun (congrFun (congrFun (ap2_16) s1) e1) e2) s3) e3) s hs
  | 17 => exact List.map_inj_left.1 (congrFun (congrFun (congrFun (congrFun (congrFun (ap2_17) s1) e1) e2) s3) e3) s hs
  | 18 => exact List.map_inj_left.1 (congrFun (congrFun (congrFun (congrFun (congrFun (ap2_18) s1) e1) e2) s3) e3) s hs
  | 19 => exact List.map_inj_left.1 (congrFun (congrFun (congrFun (congrFun (congrFun (ap2_19) s1) e1) e2) s3) e3) s hs
  | 20 => exact List.map_inj_left.1 (congrFun (congrFun (congrFun (congrFun (congrFun (ap2_20) s1) e1) e2) s3) e3) s hs
  | q + 21 => omega
theorem apAll3 (q s : Nat) (h1 : 1 ≤ q) (h2 : q ≤ 20) (h3 : s ≤ 20) (s1 e1 s2 e2 e3 : Int) : run31 3 (.ofNat q) (regM s1 e1 s2 e2 (.ofNat s) e3) = put31 (regC s1 e1 s2 e2 (.ofNat s) e3) (.ofNat q) (.ofNat s) e3 (regC s1 e1 s2 e2 (.ofNat q) 15) := by
  have hs : s ∈ List.range 21 := List.mem_range.2 (by omega)
  match q with
  | 0 => omega
  | 1 => exact List.map_inj_left.1 (congrFun (congrFun (congrFun (congrFun (congrFun (ap3_1) s1) e1) s2) e2) e3) s hs
  | 2 => exact List.map_inj_left.1 (congrFun (congrFun (congrFun (congrFun (congrFun (ap3_2) s1) e1) s2) e2) e3) s hs
  | 3 => exact List.map_inj_left.1 (congrFun (congrFun (congrFun (congrFun (congrFun (ap3_3) s1) e1) s2) e2) e3) s hs
  | 4 => exact List.map_inj_left.1 (congrFun (congrFun (congrFun (congrFun (congrFun (ap3_4) s1) e1) s2) e2) e3) s hs
  | 5 => exact List.map_inj_left.1 (congrFun (congrFun (congrFun (congrFun (congrFun (ap3_5) s1) e1) s2) e2) e3) s hs
  | 6 => exact List.map_inj_left.1 (congrFun (congrFun (congrFun (congrFun (congrFun (ap3_6) s1) e1) s2) e2) e3) s hs
  | 7 => exact List.map_inj_left.1 (congrFun (congrFun (congrFun (congrFun (congrFun (ap3_7) s1) e1) s2) e2) e3) s hs
  | 8 => exact List.map_inj_left.1 (congrFun (congrFun (congrFun (congrFun (congrFun (ap3_8) s1) e1) s2) e2) e3) s hs
  | 9 => exact List.map_inj_left.1 (congrFun (congrFun (congrFun (congrFun (congrFun (ap3_9) s1) e1) s2) e2) e3) s hs
  | 10 => exact List.map_inj_left.1 (congrFun (congrFun (congrFun (congrFun (congrFun (ap3_10) s1) e1) s2) e2) e3) s hs
  | 11 => exact List.map_inj_left.1 (congrFun (congrFun (congrFun (congrFun (congrFun (ap3_11) s1) e1) s2) e2) e3) s hs
  | 12 => exact List.map_inj_left.1 (congrFun (congrFun (congrFun (congrFun (congrFun (ap3_12) s1) e1) s2) e2) e3) s hs
  | 13 => exact List.map_inj_left.1 (congrFun (congrFun (congrFun (congrFun (congrFun (ap3_13) s1) e1) s2) e2) e3) s hs
  | 14 => exact List.map_inj_left.1 (congrFun (congrFun (congrFun (congrFun (congrFun (ap3_14) s1) e1) s2) e2) e3) s hs
  | 15 => exact List.map_inj_left.1 (congrFun (congrFun (congrFun (congrFun (congrFun (ap3_15) s1) e1) s2) e2) e3) s hs
  | 16 => exact List.map_inj_left.1 (congrFun (congrFun (congrFun (congrFun (congrFun (ap3_16) s1) e1) s2) e2) e3) s hs
  | 17 => exact List.map_inj_left.1 (congrFun (congrFun (congrFun (congrFun (congrFun (ap3_17) s1) e1) s2) e2) e3) s hs
  | 18 => exact List.map_inj_left.1 (congrFun (congrFun (congrFun (congrFun (congrFun (ap3_18) s1) e1) s2) e2) e3) s hs
  | 19 => exact List.map_inj_left.1 (congrFun (congrFun (congrFun (congrFun (congrFun (ap3_19) s1) e1) s2) e2) e3) s hs
  | 20 => exact List.map_inj_left.1 (congrFun (congrFun (congrFun (congrFun (congrFun (ap3_20) s1) e1) s2) e2) e3) s hs
  | q + 21 => omega

theorem put31_lt {l hi : List AV} {q s : Nat} {e : Int} (h : q < s) : put31 l (.ofNat q) (.ofNat s) e hi = some (.tup [.agg [.int .i64 0, .int .i64 0, .int .i64 0], .int .i64 12], (false, true, 1, 26), l) := by
  have : Nat.blt q s = true := by simpa [Nat.blt_eq] using h
  show bif2 (Nat.blt q s) _ _ = _
  rw [this]; rfl
theorem put31_eq {l hi : List AV} {s : Nat} {e : Int} : put31 l (.ofNat s) (.ofNat s) e hi = some (.tup [.agg [.int .i64 e, .int .i64 0, .int .i64 0], .int .i64 0], (false, true, 1, 26), l) := by
  have h1 : Nat.blt s s = false := by
    cases h : Nat.blt s s
    · rfl
    · rw [Nat.blt_eq] at h; omega
  have h2 : Nat.beq s s = true := Nat.beq_refl s
  show bif2 (Nat.blt s s) _ (bif2 (Nat.beq s s) _ _) = _
  rw [h1, h2]; rfl
theorem put31_gt {l hi : List AV} {q s : Nat} {e : Int} (h : s < q) : put31 l (.ofNat q) (.ofNat s) e hi = some (.tup [.agg [.int .i64 15, .int .i64 0, .int .i64 0], .int .i64 0], (false, true, 1, 26), hi) := by
  have h1 : Nat.blt q s = false := by
    cases h1 : Nat.blt q s
    · rfl
    · rw [Nat.blt_eq] at h1; omega
  have h2 : Nat.beq q s = false := by
    cases h2 : Nat.beq q s
    · rfl
    · have := Nat.eq_of_beq_eq_true h2; omega
  show bif2 (Nat.blt q s) _ (bif2 (Nat.beq q s) _ _) = _
  rw [h1, h2]; rfl
/-- What a client was told that was told of a number. -/
noncomputable def er (s : Int) : Int := if s = 0 then 0 else 15
/-- The c-th of three. -/
noncomputable def sel (c a b d : Int) : Int := if c = 1 then a else if c = 2 then b else d
noncomputable def up1 (c q x k : Int) : Int := if c = k then q else x
abbrev atL (g : Loc) : Value := .pointer (some ⟨g.blk, g.base + 0, none⟩)
structure RegS (w : World) (g : Loc) (a b d : Int) : Prop where
  cells : RegAt w g (regC a (er a) b (er b) d (er d))
  a0 : 0 ≤ a
  a1 : a ≤ 20
  b0 : 0 ≤ b
  b1 : b ≤ 20
  d0 : 0 ≤ d
  d1 : d ≤ 20
theorem vr_int {ρ : Ren} {k : IntKind} {n : Int} {v : Value} (h : VR ρ (.int k n) v) : v = .int k n := by cases h; rfl
theorem vrs2 {ρ : Ren} {a b : AV} : ∀ {l : List Value}, VRs ρ [a, b] l → ∃ x y, l = [x, y] ∧ VR ρ a x ∧ VR ρ b y
  | _, .cons _ _ _ _ h1 (.cons _ _ _ _ h2 .nil) => ⟨_, _, rfl, h1, h2⟩
theorem vrs3 {ρ : Ren} {a b c : AV} : ∀ {l : List Value}, VRs ρ [a, b, c] l → ∃ x y z, l = [x, y, z] ∧ VR ρ a x ∧ VR ρ b y ∧ VR ρ c z
  | _, .cons _ _ _ _ h1 (.cons _ _ _ _ h2 (.cons _ _ _ _ h3 .nil)) => ⟨_, _, _, rfl, h1, h2, h3⟩
theorem vr_reply {ρ : Ren} {x y z : Int} {v : Value} (h : VR ρ (.agg [.int .i64 x, .int .i64 y, .int .i64 z]) v) : v = .agg #[.int .i64 x, .int .i64 y, .int .i64 z] := by
  cases h with
  | agg l cs h =>
    obtain ⟨a, b, c, e, h1, h2, h3⟩ := vrs3 h
    cases vr_int h1; cases vr_int h2; cases vr_int h3
    congr 1; exact Array.toList_inj.1 e
theorem vr_pair {ρ : Ren} {x y : AV} {v : Value} (h : VR ρ (.tup [x, y]) v) : ∃ a b, v = .tuple #[a, b] ∧ VR ρ x a ∧ VR ρ y b := by
  cases h with
  | tup l cs h =>
    obtain ⟨a, b, e, h1, h2⟩ := vrs2 h
    exact ⟨a, b, by congr 1; exact Array.toList_inj.1 e, h1, h2⟩
abbrev rep (e : Int) : Value := .agg #[.int .i64 e, .int .i64 0, .int .i64 0]
abbrev cmdV (c q : Int) : Value := .agg #[.int .i64 c, .int .i64 q, .int .i64 9, .string ⟨#[120]⟩]
theorem cmd_vr (ρ : Ren) (c q : Int) : VR ρ (.agg [.int .i64 c, .int .i64 q, .int .i64 9, .str [120]]) (cmdV c q) :=
  .agg _ _ (.cons _ _ _ _ (.int _ _) (.cons _ _ _ _ (.int _ _) (.cons _ _ _ _ (.int _ _) (.cons _ _ _ _ (.str _ _ rfl) .nil))))
theorem ptr_vr (g : Loc) : VR (oneR g) (.ptr 0 0) (atL g) := .ptr 0 0 g rfl
theorem told34 {w : World} {g : Loc} {a b d k : Int} (hk : k = 1 ∨ k = 2 ∨ k = 3) (H : RegS w g a b d) : Calls Tryz.prog 34 #[atL g, .int .i64 k] w fun e w' =>
    e = .returned (.tuple #[.int .i64 (sel k a b d), rep (er (sel k a b d))]) ∧ RegS w' g a b d ∧ Apart w w' g.blk := by
  have hv : VRs (oneR g) [.ptr 0 0, .int .i64 k] (#[atL g, .int .i64 k] : Array Value).toList := .cons _ _ _ _ (ptr_vr g) (.cons _ _ _ _ (.int _ _) .nil)
  have key : ∀ x y : Int, seen (call Tryz.prog noS 100000 34 [.ptr 0 0, .int .i64 k] (regM a (er a) b (er b) d (er d))) = some (.tup [.int .i64 x, .agg [.int .i64 y, .int .i64 0, .int .i64 0]], (false, true, 1, 26), regC a (er a) b (er b) d (er d)) →
      Calls Tryz.prog 34 #[atL g, .int .i64 k] w fun e w' => e = .returned (.tuple #[.int .i64 x, rep y]) ∧ RegS w' g a b d ∧ Apart w w' g.blk := by
    intro x y h
    refine (run_reg h (by kernel_rfl) H.cells _ hv).mono fun e w' ⟨vc, ρ', he, hvc, hr, hk⟩ => ?_
    obtain ⟨p, q, e1, h1, h2⟩ := vr_pair hvc
    cases vr_int h1; cases vr_reply h2
    exact ⟨by rw [he, e1], ⟨hr, H.a0, H.a1, H.b0, H.b1, H.d0, H.d1⟩, hk⟩
  rcases hk with rfl | rfl | rfl
  · exact key _ _ (congrFun (congrFun (congrFun (congrFun (congrFun (congrFun told1 a) (er a)) b) (er b)) d) (er d))
  · exact key _ _ (congrFun (congrFun (congrFun (congrFun (congrFun (congrFun told2 a) (er a)) b) (er b)) d) (er d))
  · exact key _ _ (congrFun (congrFun (congrFun (congrFun (congrFun (congrFun told3 a) (er a)) b) (er b)) d) (er d))
theorem len33 {w : World} {g : Loc} {a b d : Int} (H : RegS w g a b d) : Calls Tryz.prog 33 #[atL g] w fun e w' =>
    e = .returned (.int .i64 0) ∧ RegS w' g a b d ∧ Apart w w' g.blk := by
  refine (run_reg (congrFun (congrFun (congrFun (congrFun (congrFun (congrFun len33r a) (er a)) b) (er b)) d) (er d)) (by kernel_rfl) H.cells _ (.cons _ _ _ _ (ptr_vr g) .nil)).mono fun e w' ⟨vc, ρ', he, hvc, hr, hk⟩ => ?_
  cases vr_int hvc
  exact ⟨he, ⟨hr, H.a0, H.a1, H.b0, H.b1, H.d0, H.d1⟩, hk⟩
theorem er_same {s : Nat} (h : 1 ≤ s) : er (.ofNat s) = 15 := by
  unfold er
  have : ¬ ((Int.ofNat s) = 0) := by intro h0; have : (s : Int) = 0 := h0; omega
  rw [if_neg this]
theorem apply31 {w : World} {g : Loc} {a b d c q : Int} (hc : c = 1 ∨ c = 2 ∨ c = 3) (q1 : 1 ≤ q) (q2 : q ≤ 20) (H : RegS w g a b d) : Calls Tryz.prog 31 #[atL g, cmdV c q] w fun e w' =>
    (if q < sel c a b d then e = .returned (.tuple #[rep 0, .int .i64 12]) ∧ RegS w' g a b d else e = .returned (.tuple #[rep 15, .int .i64 0]) ∧ RegS w' g (up1 c q a 1) (up1 c q b 2) (up1 c q d 3)) ∧ Apart w w' g.blk := by
  have hv : VRs (oneR g) [.ptr 0 0, .agg [.int .i64 c, .int .i64 q, .int .i64 9, .str [120]]] (#[atL g, cmdV c q] : Array Value).toList := .cons _ _ _ _ (ptr_vr g) (.cons _ _ _ _ (cmd_vr _ _ _) .nil)
  have key : ∀ (y z a' b' d' : Int), seen (call Tryz.prog noS 100000 31 [.ptr 0 0, .agg [.int .i64 c, .int .i64 q, .int .i64 9, .str [120]]] (regM a (er a) b (er b) d (er d))) = some (.tup [.agg [.int .i64 y, .int .i64 0, .int .i64 0], .int .i64 z], (false, true, 1, 26), regC a' (er a') b' (er b') d' (er d')) →
      (0 ≤ a' ∧ a' ≤ 20) ∧ (0 ≤ b' ∧ b' ≤ 20) ∧ (0 ≤ d' ∧ d' ≤ 20) →
      Calls Tryz.prog 31 #[atL g, cmdV c q] w fun e w' => (e = .returned (.tuple #[rep y, .int .i64 z]) ∧ RegS w' g a' b' d') ∧ Apart w w' g.blk := by
    intro y z a' b' d' h hb
    refine (run_reg h (by kernel_rfl) H.cells _ hv).mono fun e w' ⟨vc, ρ', he, hvc, hr, hk⟩ => ?_
    obtain ⟨p, q, e1, h1, h2⟩ := vr_pair hvc
    cases vr_reply h1; cases vr_int h2
    exact ⟨⟨by rw [he, e1], ⟨hr, hb.1.1, hb.1.2, hb.2.1.1, hb.2.1.2, hb.2.2.1, hb.2.2.2⟩⟩, hk⟩
  obtain ⟨a0, a1, b0, b1, d0, d1⟩ := (⟨H.a0, H.a1, H.b0, H.b1, H.d0, H.d1⟩ : _ ∧ _ ∧ _ ∧ _ ∧ _ ∧ _)
  obtain ⟨n, rfl⟩ := Int.eq_ofNat_of_zero_le (by omega : 0 ≤ q)
  have n1 : 1 ≤ n := by omega
  have n2 : n ≤ 20 := by omega
  rcases hc with rfl | rfl | rfl
  · obtain ⟨s, rfl⟩ := Int.eq_ofNat_of_zero_le a0
    have s2 : s ≤ 20 := by omega
    have r := apAll1 n s n1 n2 s2 (er (Int.ofNat s)) b (er b) d (er d)
    show Calls _ _ _ _ fun e w' => (if (n : Int) < (s : Int) then _ else _) ∧ _
    by_cases h : n < s
    · simp only [show (n : Int) < (s : Int) by omega, if_true]
      exact key _ _ _ _ _ (r.trans (put31_lt h)) (by omega)
    · simp only [show ¬ ((n : Int) < (s : Int)) by omega, if_false]
      refine key 15 0 _ _ _ ?_ (by simp only [up1]; omega)
      rcases Nat.lt_or_ge s n with h1 | h1
      · refine (r.trans (put31_gt h1)).trans ?_
        have e1 : er (n : Int) = 15 := er_same n1
        simp [up1, e1]
      · have hns : n = s := by omega
        subst hns
        refine (r.trans put31_eq).trans ?_
        have e1 : er (n : Int) = 15 := er_same n1
        simp [up1, e1]
  · obtain ⟨s, rfl⟩ := Int.eq_ofNat_of_zero_le b0
    have s2 : s ≤ 20 := by omega
    have r := apAll2 n s n1 n2 s2 a (er a) (er (Int.ofNat s)) d (er d)
    show Calls _ _ _ _ fun e w' => (if (n : Int) < (s : Int) then _ else _) ∧ _
    by_cases h : n < s
    · simp only [show (n : Int) < (s : Int) by omega, if_true]
      exact key _ _ _ _ _ (r.trans (put31_lt h)) (by omega)
    · simp only [show ¬ ((n : Int) < (s : Int)) by omega, if_false]
      refine key 15 0 _ _ _ ?_ (by simp only [up1]; omega)
      rcases Nat.lt_or_ge s n with h1 | h1
      · refine (r.trans (put31_gt h1)).trans ?_
        have e1 : er (n : Int) = 15 := er_same n1
        simp [up1, e1]
      · have hns : n = s := by omega
        subst hns
        refine (r.trans put31_eq).trans ?_
        have e1 : er (n : Int) = 15 := er_same n1
        simp [up1, e1]
  · obtain ⟨s, rfl⟩ := Int.eq_ofNat_of_zero_le d0
    have s2 : s ≤ 20 := by omega
    have r := apAll3 n s n1 n2 s2 a (er a) b (er b) (er (Int.ofNat s))
    show Calls _ _ _ _ fun e w' => (if (n : Int) < (s : Int) then _ else _) ∧ _
    by_cases h : n < s
    · simp only [show (n : Int) < (s : Int) by omega, if_true]
      exact key _ _ _ _ _ (r.trans (put31_lt h)) (by omega)
    · simp only [show ¬ ((n : Int) < (s : Int)) by omega, if_false]
      refine key 15 0 _ _ _ ?_ (by simp only [up1]; omega)
      rcases Nat.lt_or_ge s n with h1 | h1
      · refine (r.trans (put31_gt h1)).trans ?_
        have e1 : er (n : Int) = 15 := er_same n1
        simp [up1, e1]
      · have hns : n = s := by omega
        subst hns
        refine (r.trans put31_eq).trans ?_
        have e1 : er (n : Int) = 15 := er_same n1
        simp [up1, e1]
theorem new30 (w : World) : Calls Tryz.prog 30 #[] w fun e w' => ∃ g, e = .returned (atL g) ∧ w.heap.size ≤ g.blk ∧ g.blk < w'.heap.size ∧ RegS w' g 0 0 0 ∧ RowKit.Below w.heap.size w w' := by
  have h := new30r
  unfold run30 at h
  split at h
  · rename_i b o m hcall
    cases hb : Nat.beq b 0 with
    | false => rw [hb] at h; cases h
    | true =>
      cases ho : Nat.beq o 0 with
      | false => rw [hb, ho] at h; cases h
      | true =>
        rw [hb, ho] at h
        cases Nat.eq_of_beq_eq_true hb
        cases Nat.eq_of_beq_eq_true ho
        obtain ⟨m1, c, e, hb, hc⟩ := seen_inv (r := .mk .nilp m) h
        injection e with _ e
        subst e
        rcases call_sound mixed noS_ok 100000 30 [] ⟨0, .leaf⟩ _ _ hcall (fun _ => none) w #[] (View.leaf _ _ _) .nil (fun _ _ _ => rfl) with ⟨_, hcall⟩ | ⟨ρ', w', vc, hr, _, _⟩
        · refine hcall.mono fun e w' ⟨vc, ρ', he, hs, hv⟩ => ?_
          have hbr := hs.sim.blk 0 _ hb
          cases hv with
          | ptr b off L hL =>
            have hblk := hbr.loc
            obtain ⟨L1, e1, hlt⟩ := hblk
            rw [hL] at e1; injection e1 with e1; subst e1
            have hsz : w.heap.size ≤ L.blk := by
              rcases hs.img 0 _ L hb rfl hL with h | ⟨b0, x0, L0, e, _⟩
              · exact h
              · cases e
            exact ⟨L, he, hsz, hlt, ⟨RegAt.of hbr hL hc (regC_flat _ _ _ _ _ _), by omega, by omega, by omega, by omega, by omega, by omega⟩, hs.os, hs.tape, hs.output, hs.size, fun k hk => hs.keeps k hk fun b x L h => by cases h⟩
        · exfalso
          rw [codeOf_enter (by kernel_rfl)] at hr
          cases hr
  · cases h
end Go.Ev
end
