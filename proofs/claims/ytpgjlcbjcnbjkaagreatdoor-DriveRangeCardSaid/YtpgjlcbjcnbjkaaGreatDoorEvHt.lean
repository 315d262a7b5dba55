/- DriveRange: the runs in which x is not asked for. DriveRange: all runs. The walk of DriveRange. -/
import Derived.Test.YtpgjlcbjcnbjkaaGreatDoorEvHs
import Derived.Test.YtpgjlcbjcnbjkaaGreatDoorEvDr5x50
import Derived.Test.YtpgjlcbjcnbjkaaGreatDoorEvDr5x46
import Derived.Test.YtpgjlcbjcnbjkaaGreatDoorEvDr5x60
import Derived.Test.YtpgjlcbjcnbjkaaGreatDoorEvDr5x59
import Derived.Test.YtpgjlcbjcnbjkaaGreatDoorEvDr5x57
import Derived.Test.YtpgjlcbjcnbjkaaGreatDoorEvDr5x42
import Derived.Test.YtpgjlcbjcnbjkaaGreatDoorEvDr5x56
import Derived.Test.YtpgjlcbjcnbjkaaGreatDoorEvDr5x55
import Derived.Test.YtpgjlcbjcnbjkaaGreatDoorEvDr5x53
import Derived.Test.YtpgjlcbjcnbjkaaGreatDoorEvDr5x52
import Derived.Test.YtpgjlcbjcnbjkaaGreatDoorEvDr5x51
import Derived.Test.YtpgjlcbjcnbjkaaGreatDoorEvDr5x38
import Derived.Test.YtpgjlcbjcnbjkaaGreatDoorEvDr5x49
import Derived.Test.YtpgjlcbjcnbjkaaGreatDoorEvDr5x48
import Derived.Test.YtpgjlcbjcnbjkaaGreatDoorEvDr5x47
import Derived.Test.YtpgjlcbjcnbjkaaGreatDoorEvDr5x34
import Derived.Test.YtpgjlcbjcnbjkaaGreatDoorEvDr5x45
import Derived.Test.YtpgjlcbjcnbjkaaGreatDoorEvDr5x44
import Derived.Test.YtpgjlcbjcnbjkaaGreatDoorEvDr5x43
import Derived.Test.YtpgjlcbjcnbjkaaGreatDoorEvDr5x41
import Derived.Test.YtpgjlcbjcnbjkaaGreatDoorEvDr5x30
import Derived.Test.YtpgjlcbjcnbjkaaGreatDoorEvDr5x40
import Derived.Test.YtpgjlcbjcnbjkaaGreatDoorEvDr5x39
import Derived.Test.YtpgjlcbjcnbjkaaGreatDoorEvDr5x37
import Derived.Test.YtpgjlcbjcnbjkaaGreatDoorEvDr5x36
import Derived.Test.YtpgjlcbjcnbjkaaGreatDoorEvDr5x35
import Derived.Test.YtpgjlcbjcnbjkaaGreatDoorEvDr5x26
import Derived.Test.YtpgjlcbjcnbjkaaGreatDoorEvDr5x33
import Derived.Test.YtpgjlcbjcnbjkaaGreatDoorEvDr5x32
import Derived.Test.YtpgjlcbjcnbjkaaGreatDoorEvDr5x31
import Derived.Test.YtpgjlcbjcnbjkaaGreatDoorEvDr5x22
import Derived.Test.YtpgjlcbjcnbjkaaGreatDoorEvDr5x29
import Derived.Test.YtpgjlcbjcnbjkaaGreatDoorEvDr5x28
import Derived.Test.YtpgjlcbjcnbjkaaGreatDoorEvDr5x54
import Derived.Test.YtpgjlcbjcnbjkaaGreatDoorEvDr5x54r
import Derived.Test.YtpgjlcbjcnbjkaaGreatDoorEvDr5x58
import Derived.Test.YtpgjlcbjcnbjkaaGreatDoorEvDr5x58r
import Derived.Test.YtpgjlcbjcnbjkaaGreatDoorEvHh
import Derived.WalkKit
section
namespace Go.Ev
open Go.Proofs
theorem dr0 : (fun (x : Int) => okTrue (call Tryz.prog (addB [16] q5Z) 100000 4 [.int .i64 (.ofNat 0), .int .i64 x] ⟨0, .leaf⟩)) = fun _ => true := by kernel_rfl
theorem dr61 : (fun (x : Int) => okTrue (call Tryz.prog (addB [16] q5Z) 100000 4 [.int .i64 (.ofNat 61), .int .i64 x] ⟨0, .leaf⟩)) = fun _ => true := by kernel_rfl
theorem dr62 : (fun (x : Int) => okTrue (call Tryz.prog (addB [16] q5Z) 100000 4 [.int .i64 (.ofNat 62), .int .i64 x] ⟨0, .leaf⟩)) = fun _ => true := by kernel_rfl
theorem dr63 : (fun (x : Int) => okTrue (call Tryz.prog (addB [16] q5Z) 100000 4 [.int .i64 (.ofNat 63), .int .i64 x] ⟨0, .leaf⟩)) = fun _ => true := by kernel_rfl
theorem dr64 : (fun (x : Int) => okTrue (call Tryz.prog (addB [16] q5Z) 100000 4 [.int .i64 (.ofNat 64), .int .i64 x] ⟨0, .leaf⟩)) = fun _ => true := by kernel_rfl
theorem dr65 : (fun (x : Int) => okTrue (call Tryz.prog (addB [16] q5Z) 100000 4 [.int .i64 (.ofNat 65), .int .i64 x] ⟨0, .leaf⟩)) = fun _ => true := by kernel_rfl
theorem dr66 : (fun (x : Int) => okTrue (call Tryz.prog (addB [16] q5Z) 100000 4 [.int .i64 (.ofNat 66), .int .i64 x] ⟨0, .leaf⟩)) = fun _ => true := by kernel_rfl
theorem dr67 : (fun (x : Int) => okTrue (call Tryz.prog (addB [16] q5Z) 100000 4 [.int .i64 (.ofNat 67), .int .i64 x] ⟨0, .leaf⟩)) = fun _ => true := by kernel_rfl
theorem dr68 : (fun (x : Int) => okTrue (call Tryz.prog (addB [16] q5Z) 100000 4 [.int .i64 (.ofNat 68), .int .i64 x] ⟨0, .leaf⟩)) = fun _ => true := by kernel_rfl
theorem dr69 : (fun (x : Int) => okTrue (call Tryz.prog (addB [16] q5Z) 100000 4 [.int .i64 (.ofNat 69), .int .i64 x] ⟨0, .leaf⟩)) = fun _ => true := by kernel_rfl
theorem dr70 : (fun (x : Int) => okTrue (call Tryz.prog (addB [16] q5Z) 100000 4 [.int .i64 (.ofNat 70), .int .i64 x] ⟨0, .leaf⟩)) = fun _ => true := by kernel_rfl
theorem drNeg : (fun (k : Nat) (x : Int) => okTrue (call Tryz.prog (addB [16] q5Z) 100000 4 [.int .i64 (.negSucc k), .int .i64 x] ⟨0, .leaf⟩)) = fun _ _ => true := by kernel_rfl
theorem drHigh : (fun (k : Nat) (x : Int) => okTrue (call Tryz.prog (addB [16] q5Z) 100000 4 [.int .i64 (.ofNat (k + 71)), .int .i64 x] ⟨0, .leaf⟩)) = fun _ _ => true := by kernel_rfl
theorem drOut (n : Int) (hn : ¬ (1 ≤ n ∧ n ≤ 60)) (x : Int) : okTrue (call Tryz.prog (addB [16] q5Z) 100000 4 [.int .i64 (n), .int .i64 x] ⟨0, .leaf⟩) = true := by
  match n, hn with
  | .negSucc k, _ => exact congrFun (congrFun drNeg k) x
  | .ofNat 0, _ => exact congrFun dr0 x
  | .ofNat 1, hn => exact absurd ⟨by decide, by decide⟩ hn
  | .ofNat 2, hn => exact absurd ⟨by decide, by decide⟩ hn
  | .ofNat 3, hn => exact absurd ⟨by decide, by decide⟩ hn
  | .ofNat 4, hn => exact absurd ⟨by decide, by decide⟩ hn
  | .ofNat 5, hn => exact absurd ⟨by decide, by decide⟩ hn
  | .ofNat 6, hn => exact absurd ⟨by decide, by decide⟩ hn
  | .ofNat 7, hn => exact absurd ⟨by decide, by decide⟩ hn
  | .ofNat 8, hn => exact absurd ⟨by decide, by decide⟩ hn
  | .ofNat 9, hn => exact absurd ⟨by decide, by decide⟩ hn
  | .ofNat 10, hn => exact absurd ⟨by decide, by decide⟩ hn
  | .ofNat 11, hn => exact absurd ⟨by decide, by decide⟩ hn
  | .ofNat 12, hn => exact absurd ⟨by decide, by decide⟩ hn
  | .ofNat 13, hn => exact absurd ⟨by decide, by decide⟩ hn
  | .ofNat 14, hn => exact absurd ⟨by decide, by decide⟩ hn
  | .ofNat 15, hn => exact absurd ⟨by decide, by decide⟩ hn
  | .ofNat 16, hn => exact absurd ⟨by decide, by decide⟩ hn
  | .ofNat 17, hn => exact absurd ⟨by decide, by decide⟩ hn
  | .ofNat 18, hn => exact absurd ⟨by decide, by decide⟩ hn
  | .ofNat 19, hn => exact absurd ⟨by decide, by decide⟩ hn
  | .ofNat 20, hn => exact absurd ⟨by decide, by decide⟩ hn
  | .ofNat 21, hn => exact absurd ⟨by decide, by decide⟩ hn
  | .ofNat 22, hn => exact absurd ⟨by decide, by decide⟩ hn
  | .ofNat 23, hn => exact absurd ⟨by decide, by decide⟩ hn
  | .ofNat 24, hn => exact absurd ⟨by decide, by decide⟩ hn
  | .ofNat 25, hn => exact absurd ⟨by decide, by decide⟩ hn
  | .ofNat 26, hn => exact absurd ⟨by decide, by decide⟩ hn
  | .ofNat 27, hn => exact absurd ⟨by decide, by decide⟩ hn
  | .ofNat 28, hn => exact absurd ⟨by decide, by decide⟩ hn
  | .ofNat 29, hn => exact absurd ⟨by decide, by decide⟩ hn
  | .ofNat 30, hn => exact absurd ⟨by decide, by decide⟩ hn
  | .ofNat 31, hn => exact absurd ⟨by decide, by decide⟩ hn
  | .ofNat 32, hn => exact absurd ⟨by decide, by decide⟩ hn
  | .ofNat 33, hn => exact absurd ⟨by decide, by decide⟩ hn
  | .ofNat 34, hn => exact absurd ⟨by decide, by decide⟩ hn
  | .ofNat 35, hn => exact absurd ⟨by decide, by decide⟩ hn
  | .ofNat 36, hn => exact absurd ⟨by decide, by decide⟩ hn
  | .ofNat 37, hn => exact absurd ⟨by decide, by decide⟩ hn
  | .ofNat 38, hn => exact absurd ⟨by decide, by decide⟩ hn
  | .ofNat 39, hn => exact absurd ⟨by decide, by decide⟩ hn
  | .ofNat 40, hn => exact absurd ⟨by decide, by decide⟩ hn
  | .ofNat 41, hn => exact absurd ⟨by decide, by decide⟩ hn
  | .ofNat 42, hn => exact absurd ⟨by decide, by decide⟩ hn
  | .ofNat 43, hn => exact absurd ⟨by decide, by decide⟩ hn
  | .ofNat 44, hn => exact absurd ⟨by decide, by decide⟩ hn
  | .ofNat 45, hn => exact absurd ⟨by decide, by decide⟩ hn
  | .ofNat 46, hn => exact absurd ⟨by decide, by decide⟩ hn
  | .ofNat 47, hn => exact absurd ⟨by decide, by decide⟩ hn
  | .ofNat 48, hn => exact absurd ⟨by decide, by decide⟩ hn
  | .ofNat 49, hn => exact absurd ⟨by decide, by decide⟩ hn
  | .ofNat 50, hn => exact absurd ⟨by decide, by decide⟩ hn
  | .ofNat 51, hn => exact absurd ⟨by decide, by decide⟩ hn
  | .ofNat 52, hn => exact absurd ⟨by decide, by decide⟩ hn
  | .ofNat 53, hn => exact absurd ⟨by decide, by decide⟩ hn
  | .ofNat 54, hn => exact absurd ⟨by decide, by decide⟩ hn
  | .ofNat 55, hn => exact absurd ⟨by decide, by decide⟩ hn
  | .ofNat 56, hn => exact absurd ⟨by decide, by decide⟩ hn
  | .ofNat 57, hn => exact absurd ⟨by decide, by decide⟩ hn
  | .ofNat 58, hn => exact absurd ⟨by decide, by decide⟩ hn
  | .ofNat 59, hn => exact absurd ⟨by decide, by decide⟩ hn
  | .ofNat 60, hn => exact absurd ⟨by decide, by decide⟩ hn
  | .ofNat 61, _ => exact congrFun dr61 x
  | .ofNat 62, _ => exact congrFun dr62 x
  | .ofNat 63, _ => exact congrFun dr63 x
  | .ofNat 64, _ => exact congrFun dr64 x
  | .ofNat 65, _ => exact congrFun dr65 x
  | .ofNat 66, _ => exact congrFun dr66 x
  | .ofNat 67, _ => exact congrFun dr67 x
  | .ofNat 68, _ => exact congrFun dr68 x
  | .ofNat 69, _ => exact congrFun dr69 x
  | .ofNat 70, _ => exact congrFun dr70 x
  | .ofNat (k + 71), _ => exact congrFun (congrFun drHigh k) x
end Go.Ev
end
section
namespace Go.Ev
open Go.Proofs
theorem drAll (n : Nat) (hn : 1 ≤ n ∧ n ≤ 60) : DrOK n := by
  match n, hn with
  | 0, hn => exact absurd hn.1 (by decide)
  | 1, _ => exact dr1
  | 2, _ => exact dr2
  | 3, _ => exact dr3
  | 4, _ => exact dr4
  | 5, _ => exact dr5
  | 6, _ => exact dr6
  | 7, _ => exact dr7
  | 8, _ => exact dr8
  | 9, _ => exact dr9
  | 10, _ => exact dr10
  | 11, _ => exact dr11
  | 12, _ => exact dr12
  | 13, _ => exact dr13
  | 14, _ => exact dr14
  | 15, _ => exact dr15
  | 16, _ => exact dr16
  | 17, _ => exact dr17
  | 18, _ => exact dr18
  | 19, _ => exact dr19
  | 20, _ => exact dr20
  | 21, _ => exact dr21
  | 22, _ => exact dr22
  | 23, _ => exact dr23
  | 24, _ => exact dr24
  | 25, _ => exact dr25
  | 26, _ => exact dr26
  | 27, _ => exact dr27
  | 28, _ => exact dr28
  | 29, _ => exact dr29
  | 30, _ => exact dr30
  | 31, _ => exact dr31
  | 32, _ => exact dr32
  | 33, _ => exact dr33
  | 34, _ => exact dr34
  | 35, _ => exact dr35
  | 36, _ => exact dr36
  | 37, _ => exact dr37
  | 38, _ => exact dr38
  | 39, _ => exact dr39
  | 40, _ => exact dr40
  | 41, _ => exact dr41
  | 42, _ => exact dr42
  | 43, _ => exact dr43
  | 44, _ => exact dr44
  | 45, _ => exact dr45
  | 46, _ => exact dr46
  | 47, _ => exact dr47
  | 48, _ => exact dr48
  | 49, _ => exact dr49
  | 50, _ => exact dr50
  | 51, _ => exact dr51
  | 52, _ => exact dr52
  | 53, _ => exact dr53
  | 54, _ => exact dr54
  | 55, _ => exact dr55
  | 56, _ => exact dr56
  | 57, _ => exact dr57
  | 58, _ => exact dr58
  | 59, _ => exact dr59
  | 60, _ => exact dr60
  | k + 61, hn => exact absurd hn.2 (by omega)
end Go.Ev
end
section
namespace Go.Ev
open Go.Proofs Go.RowKit
theorem carve0 {P : Program} {C : Code} {Q : Exit → Act → World → Prop} {a : Act} {w : World} (h : ∀ R, R = C → Code.wp P R Q a w) : Code.wp P C Q a w := h C rfl
theorem oneDr : ∀ f, f ∈ ([16] : List Nat) → SumOK Tryz.prog f begunSum := fun f hf => by
  simp only [List.mem_cons, List.not_mem_nil, or_false] at hf
  subst hf; exact begun16
theorem resDr (a : Array Value) (w : World) (h : a.getD 4 undef = .bool true) : (results Tryz.f4 a).run Tryz.prog w = .ok (.bool true) w := by
  rw [Array.getD_eq_getD_getElem?] at h
  simp [results, Tryz.f4, h]
theorem lateDr_inv {S : Sums} {k : Nat} {R : Code} {t : T AV} {m : AMem} {x : Int} (h : lateDr S k R t m = (some (.int .i64 x), true)) :
    t.get 1 = some (.int .i64 x) ∧ ∀ y : Int, (y = .ofNat 0 ∨ y = .ofNat 1 ∨ y = .ofNat 2 ∨ y = .ofNat (k + 3) ∨ y = .negSucc k) → restRun Tryz.prog S 137 4 1 R t m y = true := by
  unfold lateDr at h
  injection h with h1 h2
  simp only [Bool.and_eq_true] at h2
  obtain ⟨⟨⟨⟨a, b⟩, c⟩, d⟩, e⟩ := h2
  refine ⟨h1, fun y hy => ?_⟩
  rcases hy with rfl | rfl | rfl | rfl | rfl <;> assumption
theorem qSDr_ok {e d : Memo} (he : MemoOK Tryz.prog 19 e) (hd : MemoOK Tryz.prog 21 d) : SumsOK Tryz.prog (qSDr e d) :=
  addB_ok oneDr (addS_ok (memoSum_ok hd fun _ _ _ _ h => by cases h) (qPDr_ok he))
theorem five (x : Int) : ∃ k : Nat, x = .ofNat 0 ∨ x = .ofNat 1 ∨ x = .ofNat 2 ∨ x = .ofNat (k + 3) ∨ x = .negSucc k := by
  match x with
  | .ofNat 0 => exact ⟨0, .inl rfl⟩
  | .ofNat 1 => exact ⟨0, .inr (.inl rfl)⟩
  | .ofNat 2 => exact ⟨0, .inr (.inr (.inl rfl))⟩
  | .ofNat (k + 3) => exact ⟨k, .inr (.inr (.inr (.inl rfl)))⟩
  | .negSucc k => exact ⟨k, .inr (.inr (.inr (.inr rfl)))⟩
set_option maxHeartbeats 4000000 in
theorem driveMid (n : Nat) (hn : 1 ≤ n ∧ n ≤ 60) (x : Int) (w : World) : Calls Tryz.prog 4 #[.int .i64 (.ofNat n), .int .i64 x] w fun e w' => e = .returned (.bool true) ∧ Below w.heap.size w w' := by
  obtain ⟨k, hk⟩ := five x
  obtain ⟨e, d, he, hd, hrun⟩ := drAll n hn
  have hS := qSDr_ok he hd
  have h := hrun x k
  go_enter Tryz.func4, Tryz.ntmps4
  refine carve0 fun R hR => ?_
  have hR : R = codeDr := hR.trans (by kernel_rfl)
  subst hR
  refine startRun_ok mixed hS (by intro e; cases e) h (by rfl) ?_ ?_
  · refine .cons _ _ _ _ (.int _ _) (.cons _ _ _ _ (.int _ _) ?_)
    repeat (first | exact .nil | refine .cons _ _ _ _ (.any _) ?_)
  · intro R ρ t m a w' s hT hd hρ h
    obtain ⟨hv, hr⟩ := lateDr_inv h
    exact restRun_ok mixed hS (hr x hk) hv s hT hρ hd resDr (Below.refl _ _)
theorem driveEnd (n : Int) (hn : ¬ (1 ≤ n ∧ n ≤ 60)) (x : Int) (w : World) : Calls Tryz.prog 4 #[.int .i64 n, .int .i64 x] w fun e w' => e = .returned (.bool true) ∧ Below w.heap.size w w' := by
  obtain ⟨m1, e⟩ := okTrue_inv (drOut n hn x)
  exact (run_args mixed (addB_ok oneDr q5Z_ok) (by kernel_rfl) e w #[.int .i64 n, .int .i64 x] (.cons _ _ _ _ (.int _ _) (.cons _ _ _ _ (.int _ _) .nil))).mono fun e w' ⟨he, ρ, s⟩ => ⟨he, s.os, s.tape, s.output, s.size, fun k hk => s.keeps k hk fun b x L h => by cases h⟩
theorem drive4 (n x : Int) (w : World) : Calls Tryz.prog 4 #[.int .i64 n, .int .i64 x] w fun e w' => e = .returned (.bool true) ∧ Below w.heap.size w w' := by
  by_cases h : 1 ≤ n ∧ n ≤ 60
  · obtain ⟨m, rfl⟩ := Int.eq_ofNat_of_zero_le (by omega : 0 ≤ n)
    exact driveMid m (by omega) x w
  · exact driveEnd n h x w
end Go.Ev
end
