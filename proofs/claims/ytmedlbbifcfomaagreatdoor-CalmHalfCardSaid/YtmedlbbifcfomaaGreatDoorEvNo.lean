/- The walk of CalmHalf: by hand up to both numbers, by the evaluator from there. -/
import Derived.Test.YtmedlbbifcfomaaGreatDoorEvHo
import Derived.Test.YtmedlbbifcfomaaGreatDoorEvNa
import Derived.Test.YtmedlbbifcfomaaGreatDoorEvNb
import Derived.Test.YtmedlbbifcfomaaGreatDoorEvNc
import Derived.Test.YtmedlbbifcfomaaGreatDoorEvNd
import Derived.Test.YtmedlbbifcfomaaGreatDoorEvNe
import Derived.Test.YtmedlbbifcfomaaGreatDoorEvNf
import Derived.Test.YtmedlbbifcfomaaGreatDoorEvNg
import Derived.Test.YtmedlbbifcfomaaGreatDoorEvNh
import Derived.Test.YtmedlbbifcfomaaGreatDoorEvNi
import Derived.Test.YtmedlbbifcfomaaGreatDoorEvNj
import Derived.Test.YtmedlbbifcfomaaGreatDoorEvNk
import Derived.Test.YtmedlbbifcfomaaGreatDoorEvNl
import Derived.Test.YtmedlbbifcfomaaGreatDoorEvNm
import Derived.WalkKit
namespace Go.Ev
open Go.Proofs Go.RowKit
theorem wrapHlf {y : Int} (h1 : -9223372036854775808 ≤ y) (h2 : y ≤ 9223372036854775807) : wrap64 y = y := by
  unfold wrap64
  omega
theorem hlf_four (n : Int) : wrap64 (2 + (wrap64 (n.tmod 4 + 4)).tmod 4) = 2 ∨ wrap64 (2 + (wrap64 (n.tmod 4 + 4)).tmod 4) = 3 ∨ wrap64 (2 + (wrap64 (n.tmod 4 + 4)).tmod 4) = 4 ∨ wrap64 (2 + (wrap64 (n.tmod 4 + 4)).tmod 4) = 5 := by
  have h1 : -4 < n.tmod 4 := Int.lt_tmod_of_pos n (by decide)
  have h2 : n.tmod 4 < 4 := Int.tmod_lt_of_pos n (by decide)
  rw [wrapHlf (y := n.tmod 4 + 4) (by omega) (by omega)]
  have hz : 0 < n.tmod 4 + 4 := by omega
  generalize n.tmod 4 + 4 = z at hz ⊢
  have h3 : z.tmod 4 < 4 := Int.tmod_lt_of_pos z (by decide)
  have h4 : 0 ≤ z.tmod 4 := Int.tmod_nonneg 4 (by omega)
  rw [wrapHlf (by omega) (by omega)]
  omega
theorem hlf_down (m v : Int) (h1 : 2 ≤ v) (h2 : v ≤ 5) : 0 ≤ (wrap64 (m.tmod v + v)).tmod v ∧ (wrap64 (m.tmod v + v)).tmod v < v := by
  have h3 : -v < m.tmod v := Int.lt_tmod_of_pos m (by omega)
  have h4 : m.tmod v < v := Int.tmod_lt_of_pos m (by omega)
  rw [wrapHlf (y := m.tmod v + v) (by omega) (by omega)]
  exact ⟨Int.tmod_nonneg v (by omega), Int.tmod_lt_of_pos _ (by omega)⟩
theorem oneHlf : ∀ f, f ∈ ([37] : List Nat) → SumOK Tryz.prog f begunSum := fun f hf => by
  simp only [List.mem_cons, List.not_mem_nil, or_false] at hf
  subst hf; exact begun37
theorem begun37_runs (w : World) : Calls Tryz.prog 37 #[] w fun e w' => e = .returned (.bool true) ∧ Below w.heap.size w w' := by
  obtain ⟨m1, e⟩ := okTrue_inv run37
  refine (run_closed mixed (addB_ok all37 q8Z_ok) (by kernel_rfl) e w).mono fun e w' ⟨he, ρ, s⟩ => ⟨he, s.os, s.tape, s.output, s.size, fun k hk => s.keeps k hk fun b x L h => by cases h⟩
theorem hlfAll2 (d : Int) (h1 : 0 ≤ d) (h2 : d < 2) : okMid 4 (midRun Tryz.prog (addB [37] q8W) 64 restHlf (frameHlf 2 d)) = true := by
  have : d = 0 ∨ d = 1 := by omega
  rcases this with rfl | rfl
  · exact hlf2_0
  · exact hlf2_1
theorem hlfAll3 (d : Int) (h1 : 0 ≤ d) (h2 : d < 3) : okMid 4 (midRun Tryz.prog (addB [37] q8W) 64 restHlf (frameHlf 3 d)) = true := by
  have : d = 0 ∨ d = 1 ∨ d = 2 := by omega
  rcases this with rfl | rfl | rfl
  · exact hlf3_0
  · exact hlf3_1
  · exact hlf3_2
theorem hlfAll4 (d : Int) (h1 : 0 ≤ d) (h2 : d < 4) : ∃ S, SumsOK Tryz.prog S ∧ okMid 4 (midRun Tryz.prog S 64 restHlf (frameHlf 4 d)) = true := by
  have : d = 0 ∨ d = 1 ∨ d = 2 ∨ d = 3 := by omega
  rcases this with rfl | rfl | rfl | rfl
  · exact ⟨_, addB_ok oneHlf q8W_ok, hlf4_0⟩
  · exact ⟨_, addB_ok oneHlf q8W_ok, hlf4_1⟩
  · exact ⟨_, addB_ok oneHlf q8J_ok, hlf4_2⟩
  · exact ⟨_, addB_ok oneHlf q8W_ok, hlf4_3⟩
theorem hlfAll5 (d : Int) (h1 : 0 ≤ d) (h2 : d < 5) : ∃ S, SumsOK Tryz.prog S ∧ okMid 4 (midRun Tryz.prog S 64 restHlf (frameHlf 5 d)) = true := by
  have : d = 0 ∨ d = 1 ∨ d = 2 ∨ d = 3 ∨ d = 4 := by omega
  rcases this with rfl | rfl | rfl | rfl | rfl
  · exact ⟨_, addB_ok oneHlf q8W_ok, hlf5_0⟩
  · exact ⟨_, addB_ok oneHlf q8W_ok, hlf5_1⟩
  · exact ⟨_, addB_ok oneHlf q8W_ok, hlf5_2⟩
  · exact ⟨_, addB_ok oneHlf q8V_ok, hlf5_3⟩
  · exact ⟨_, addB_ok oneHlf q8W_ok, hlf5_4⟩
theorem resHlf (a : Array Value) (w : World) (h : a.getD 4 undef = .bool true) : (results Tryz.f7 a).run Tryz.prog w = .ok (.bool true) w := by
  rw [Array.getD_eq_getD_getElem?] at h
  simp [results, Tryz.f7, h]
set_option maxHeartbeats 4000000 in
theorem half7 (n m : Int) (w : World) : Calls Tryz.prog 7 #[.int .i64 n, .int .i64 m] w fun e w' => e = .returned (.bool true) ∧ Below w.heap.size w w' := by
  go_enter Tryz.func7, Tryz.ntmps7
  refine carve4 fun R hR => ?_
  dsimp only [withTail4]
  go_wp2_with (first
    | (go_at_call 37; ((with_reducible refine (begun37_runs _).mono ?_); rintro e w1 ⟨rfl, hb⟩)))
  have hv := hlf_four n
  generalize wrap64 (2 + (wrap64 (n.tmod 4 + 4)).tmod 4) = v at hv ⊢
  subst hR
  dsimp only [tail4]
  rcases hv with rfl | rfl | rfl | rfl
  · refine carve1 fun R hR => ?_
    have hR : R = restHlf := hR.trans (by kernel_rfl)
    dsimp only [withTail1]
    go_wp2
    subst hR
    have hd := hlf_down m 2 (by omega) (by omega)
    generalize (wrap64 (m.tmod 2 + 2)).tmod 2 = d at hd ⊢
    refine mid_ok mixed (addB_ok oneHlf q8W_ok) (hlfAll2 d hd.1 hd.2) (by rfl) ?_ resHlf hb
    refine .cons _ _ _ _ (.int _ _) (.cons _ _ _ _ (.int _ _) ?_)
    repeat (first | exact .nil | refine .cons _ _ _ _ (.any _) ?_)
  · refine carve1 fun R hR => ?_
    have hR : R = restHlf := hR.trans (by kernel_rfl)
    dsimp only [withTail1]
    go_wp2
    subst hR
    have hd := hlf_down m 3 (by omega) (by omega)
    generalize (wrap64 (m.tmod 3 + 3)).tmod 3 = d at hd ⊢
    refine mid_ok mixed (addB_ok oneHlf q8W_ok) (hlfAll3 d hd.1 hd.2) (by rfl) ?_ resHlf hb
    refine .cons _ _ _ _ (.int _ _) (.cons _ _ _ _ (.int _ _) ?_)
    repeat (first | exact .nil | refine .cons _ _ _ _ (.any _) ?_)
  · refine carve1 fun R hR => ?_
    have hR : R = restHlf := hR.trans (by kernel_rfl)
    dsimp only [withTail1]
    go_wp2
    subst hR
    have hd := hlf_down m 4 (by omega) (by omega)
    generalize (wrap64 (m.tmod 4 + 4)).tmod 4 = d at hd ⊢
    obtain ⟨S, hS, hrun⟩ := hlfAll4 d hd.1 hd.2
    refine mid_ok mixed hS hrun (by rfl) ?_ resHlf hb
    refine .cons _ _ _ _ (.int _ _) (.cons _ _ _ _ (.int _ _) ?_)
    repeat (first | exact .nil | refine .cons _ _ _ _ (.any _) ?_)
  · refine carve1 fun R hR => ?_
    have hR : R = restHlf := hR.trans (by kernel_rfl)
    dsimp only [withTail1]
    go_wp2
    subst hR
    have hd := hlf_down m 5 (by omega) (by omega)
    generalize (wrap64 (m.tmod 5 + 5)).tmod 5 = d at hd ⊢
    obtain ⟨S, hS, hrun⟩ := hlfAll5 d hd.1 hd.2
    refine mid_ok mixed hS hrun (by rfl) ?_ resHlf hb
    refine .cons _ _ _ _ (.int _ _) (.cons _ _ _ _ (.int _ _) ?_)
    repeat (first | exact .nil | refine .cons _ _ _ _ (.any _) ?_)
end Go.Ev
