/- The walk of WorldSend: by hand up to the number of servers, by the evaluator from there. -/
import Derived.Test.YtmedlbbifcfomaaGreatDoorEvHo
import Derived.Test.YtmedlbbifcfomaaGreatDoorEvLa
import Derived.Test.YtmedlbbifcfomaaGreatDoorEvLb
import Derived.Test.YtmedlbbifcfomaaGreatDoorEvLc
import Derived.Test.YtmedlbbifcfomaaGreatDoorEvLd
import Derived.Test.YtmedlbbifcfomaaGreatDoorEvLe
import Derived.Test.YtmedlbbifcfomaaGreatDoorEvLf
import Derived.WalkKit
namespace Go.Ev
open Go.Proofs Go.RowKit
theorem wrap_little {y : Int} (h1 : -9223372036854775808 ≤ y) (h2 : y ≤ 9223372036854775807) : wrap64 y = y := by
  unfold wrap64
  omega
theorem wrap_six (y : Int) : wrap64 (2 + (wrap64 (y.tmod 6 + 6)).tmod 6) = 2 ∨ wrap64 (2 + (wrap64 (y.tmod 6 + 6)).tmod 6) = 3 ∨ wrap64 (2 + (wrap64 (y.tmod 6 + 6)).tmod 6) = 4 ∨
    wrap64 (2 + (wrap64 (y.tmod 6 + 6)).tmod 6) = 5 ∨ wrap64 (2 + (wrap64 (y.tmod 6 + 6)).tmod 6) = 6 ∨ wrap64 (2 + (wrap64 (y.tmod 6 + 6)).tmod 6) = 7 := by
  have h1 : -6 < y.tmod 6 := Int.lt_tmod_of_pos y (by decide)
  have h2 : y.tmod 6 < 6 := Int.tmod_lt_of_pos y (by decide)
  rw [wrap_little (y := y.tmod 6 + 6) (by omega) (by omega)]
  have hz : 0 < y.tmod 6 + 6 := by omega
  generalize y.tmod 6 + 6 = z at hz ⊢
  have h3 : z.tmod 6 < 6 := Int.tmod_lt_of_pos z (by decide)
  have h4 : 0 ≤ z.tmod 6 := Int.tmod_nonneg 6 (by omega)
  rw [wrap_little (by omega) (by omega)]
  omega
theorem oneSend : ∀ f, f ∈ ([22] : List Nat) → SumOK Tryz.prog f begunSum := fun f hf => by
  simp only [List.mem_cons, List.not_mem_nil, or_false] at hf
  subst hf; exact begun22
theorem begun22_runs (w : World) : Calls Tryz.prog 22 #[] w fun e w' => e = .returned (.bool true) ∧ Below w.heap.size w w' := by
  obtain ⟨m1, e⟩ := okTrue_inv run22
  refine (run_closed mixed (addB_ok all22 q8Z_ok) (by kernel_rfl) e w).mono fun e w' ⟨he, ρ, s⟩ => ⟨he, s.os, s.tape, s.output, s.size, fun k hk => s.keeps k hk fun b x L h => by cases h⟩
theorem sendAll (v : Int) (hv : v = 2 ∨ v = 3 ∨ v = 4 ∨ v = 5 ∨ v = 6 ∨ v = 7) (s d : Bool) : okMid 6 (midRun Tryz.prog (addB [22] q8Z) 78 rest6 (frame6 v s d)) = true := by
  rcases hv with rfl | rfl | rfl | rfl | rfl | rfl <;> cases s <;> cases d
  · exact send2_false_false
  · exact send2_false_true
  · exact send2_true_false
  · exact send2_true_true
  · exact send3_false_false
  · exact send3_false_true
  · exact send3_true_false
  · exact send3_true_true
  · exact send4_false_false
  · exact send4_false_true
  · exact send4_true_false
  · exact send4_true_true
  · exact send5_false_false
  · exact send5_false_true
  · exact send5_true_false
  · exact send5_true_true
  · exact send6_false_false
  · exact send6_false_true
  · exact send6_true_false
  · exact send6_true_true
  · exact send7_false_false
  · exact send7_false_true
  · exact send7_true_false
  · exact send7_true_true
theorem res6 (a : Array Value) (w : World) (h : a.getD 6 undef = .bool true) : (results Tryz.f6 a).run Tryz.prog w = .ok (.bool true) w := by
  rw [Array.getD_eq_getD_getElem?] at h
  simp [results, Tryz.f6, h]
set_option maxHeartbeats 4000000 in
theorem send6 (n : Int) (s d : Bool) (w : World) : Calls Tryz.prog 6 #[.int .i64 n, .bool s, .bool d] w fun e w' => e = .returned (.bool true) ∧ Below w.heap.size w w' := by
  go_enter Tryz.func6, Tryz.ntmps6
  refine carve4 fun R hR => ?_
  have hR : R = rest6 := hR.trans (by kernel_rfl)
  dsimp only [withTail4]
  go_wp2_with (first
    | (go_at_call 22; ((with_reducible refine (begun22_runs _).mono ?_); rintro e w1 ⟨rfl, hb⟩)))
  subst hR
  have hv := wrap_six n
  generalize wrap64 (2 + (wrap64 (n.tmod 6 + 6)).tmod 6) = v at hv ⊢
  refine mid_ok mixed (addB_ok oneSend q8Z_ok) (sendAll v hv s d) (by rfl) ?_ res6 hb
  refine .cons _ _ _ _ (.int _ _) (.cons _ _ _ _ (.bool _) (.cons _ _ _ _ (.bool _) ?_))
  repeat (first | exact .nil | refine .cons _ _ _ _ (.any _) ?_)
end Go.Ev
