/- The walk of NodePack: by hand up to the number of commands, by the evaluator from there. -/
import Derived.Test.YtmedlbbifcfomaaGreatDoorEvHo
import Derived.Test.YtmedlbbifcfomaaGreatDoorEvMa
import Derived.Test.YtmedlbbifcfomaaGreatDoorEvMb
import Derived.Test.YtmedlbbifcfomaaGreatDoorEvMc
import Derived.Test.YtmedlbbifcfomaaGreatDoorEvMd
import Derived.Test.YtmedlbbifcfomaaGreatDoorEvMe
import Derived.Test.YtmedlbbifcfomaaGreatDoorEvMf
import Derived.Test.YtmedlbbifcfomaaGreatDoorEvMg
import Derived.WalkKit
namespace Go.Ev
open Go.Proofs Go.RowKit
theorem wrapNpk {y : Int} (h1 : -9223372036854775808 ≤ y) (h2 : y ≤ 9223372036854775807) : wrap64 y = y := by
  unfold wrap64
  omega
theorem npk_eight (y : Int) : 1 ≤ wrap64 (1 + (wrap64 (y.tmod 8 + 8)).tmod 8) ∧ wrap64 (1 + (wrap64 (y.tmod 8 + 8)).tmod 8) ≤ 8 := by
  have h1 : -8 < y.tmod 8 := Int.lt_tmod_of_pos y (by decide)
  have h2 : y.tmod 8 < 8 := Int.tmod_lt_of_pos y (by decide)
  rw [wrapNpk (y := y.tmod 8 + 8) (by omega) (by omega)]
  have hz : 0 < y.tmod 8 + 8 := by omega
  generalize y.tmod 8 + 8 = z at hz ⊢
  have h3 : z.tmod 8 < 8 := Int.tmod_lt_of_pos z (by decide)
  have h4 : 0 ≤ z.tmod 8 := Int.tmod_nonneg 8 (by omega)
  rw [wrapNpk (by omega) (by omega)]
  omega
theorem oneNpk : ∀ f, f ∈ ([8] : List Nat) → SumOK Tryz.prog f begunSum := fun f hf => by
  simp only [List.mem_cons, List.not_mem_nil, or_false] at hf
  subst hf; exact begun8
theorem begun8_runs (w : World) : Calls Tryz.prog 8 #[] w fun e w' => e = .returned (.bool true) ∧ Below w.heap.size w w' := by
  obtain ⟨m1, e⟩ := okTrue_inv run8
  refine (run_closed mixed (addB_ok all8 q8Z_ok) (by kernel_rfl) e w).mono fun e w' ⟨he, ρ, s⟩ => ⟨he, s.os, s.tape, s.output, s.size, fun k hk => s.keeps k hk fun b x L h => by cases h⟩
theorem npkAll (v : Int) (h1 : 1 ≤ v) (h2 : v ≤ 8) : okMid 4 (midRun Tryz.prog (addB [8] q8W) 130 restNpk (frameNpk v)) = true := by
  have : v = 1 ∨ v = 2 ∨ v = 3 ∨ v = 4 ∨ v = 5 ∨ v = 6 ∨ v = 7 ∨ v = 8 := by omega
  rcases this with rfl | rfl | rfl | rfl | rfl | rfl | rfl | rfl
  · exact npk1
  · exact npk2
  · exact npk3
  · exact npk4
  · exact npk5
  · exact npk6
  · exact npk7
  · exact npk8
theorem resNpk (a : Array Value) (w : World) (h : a.getD 4 undef = .bool true) : (results Tryz.f3 a).run Tryz.prog w = .ok (.bool true) w := by
  rw [Array.getD_eq_getD_getElem?] at h
  simp [results, Tryz.f3, h]
set_option maxHeartbeats 4000000 in
theorem pack3 (n : Int) (s : Bool) (w : World) : Calls Tryz.prog 3 #[.int .i64 n, .bool s] w fun e w' => e = .returned (.bool true) ∧ Below w.heap.size w w' := by
  go_enter Tryz.func3, Tryz.ntmps3
  refine carve4 fun R hR => ?_
  have hR : R = restNpk := hR.trans (by kernel_rfl)
  dsimp only [withTail4]
  go_wp2_with (first
    | (go_at_call 8; ((with_reducible refine (begun8_runs _).mono ?_); rintro e w1 ⟨rfl, hb⟩)))
  subst hR
  have hv := npk_eight n
  generalize wrap64 (1 + (wrap64 (n.tmod 8 + 8)).tmod 8) = v at hv ⊢
  refine mid_ok mixed (addB_ok oneNpk q8W_ok) (npkAll v hv.1 hv.2) (by rfl) ?_ resNpk hb
  refine .cons _ _ _ _ (.int _ _) ?_
  repeat (first | exact .nil | refine .cons _ _ _ _ (.any _) ?_)
end Go.Ev
