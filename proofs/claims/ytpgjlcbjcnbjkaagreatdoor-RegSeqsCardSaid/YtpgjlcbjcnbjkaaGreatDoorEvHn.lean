/- What the functions of commands and numbers come to: walks written by a program, of these functions alone. The walk of a text's reading, what its number is being known. The walks of the reader: a number, a text. Numbers as bytes: what is put is read again. Plain laws, no program in sight. What is put is read again. Plain laws. A command out of bytes: the reader's walks in one, and the walk of Decode. The walk of Decode. Commands as bytes: what is encoded is decoded; what is decoded is encoded just so. Plain laws. -/
import Derived.Test.YtpgjlcbjcnbjkaaGreatDoorEvHm
import Derived.Test.YtpgjlcbjcnbjkaaGreatDoorProg
import Derived.Below
import Derived.Deep.Draws
import Derived.Deep.AppendLies
import Derived.Maps.AppendAt
import Derived.OwnWalk
import Derived.Laws.BytesArg
import Derived.Laws.MakeOwn
import Derived.Laws.OwnMore
import Derived.Deep.OwnRows
import Derived.Tactics
import Derived.Lib.ConvBytes
import Derived.Laws.Slices
import Derived.WalkKit
import Derived.KernelRfl
import Derived.RowKit3
import Derived.Deep.LoopGhost
import Derived.Deep.QuietTactic
import Derived.BigQuiet
import Derived.WideLaws
import Derived.Deep.DeepCutAuto
import Derived.Deep.CutBlock
import Derived.Deep.RegionHeld3
import Derived.Laws.Rows
import Derived.Lib.AppendStr
import Derived.ArgAppend
import Derived.Laws.IdiomCopy
import Derived.OrdersHeld
import Derived.Laws.BitsLemmas
import Derived.RowKit
import Derived.Lib.EndianBits
import Derived.Lib.Strings
section
namespace Go.Proofs.YtpgjlcbjcnbjkaaGreatDoor.RP
open Go.RowKit Go.Proofs.YtpgjlcbjcnbjkaaGreatDoorW.PrintWords Go.Proofs.YtpgjlcbjcnbjkaaGreatDoorW.PrintLast Go.Proofs.YtpgjlcbjcnbjkaaGreatDoorW.PrintMore
attribute [local go_sem] max2_int min2_int max_two min_two max_three min_three max_four min_four
set_option linter.unusedVariables false
set_option linter.unusedSimpArgs false
noncomputable def errW : Option Int → Value
  | none => .nilIface
  | some c => .iface 386 (.int .i64 c)
theorem errW_none : errW none = .nilIface := rfl
theorem errW_some (c : Int) : errW (some c) = .iface 386 (.int .i64 c) := rfl
theorem info5 : (Tryz.prog.info? 5).map (fun i => (i.zero, i.size, i.bytes)) = some (some (.int .u8 0), 1, 1) := by kernel_rfl
/-! ### reg_client: function 74 -/
noncomputable def reg_client.f (a0 : Int) : Option (Bool) := if a0 ≥ 1 then (some (decide (a0 ≤ 5))) else (some false)
set_option maxHeartbeats 8000000 in
set_option maxRecDepth 100000 in
theorem reg_client.calls (a0 : Int) (r : Bool) (w : World) (h : reg_client.f a0 = some r) :
    Calls Tryz.prog 74 #[.int .i64 a0] w fun e w' => e = .returned (.bool r) ∧ Drawn0 w w' := by
  have H : (if a0 ≥ 1 then (some (decide (a0 ≤ 5))) else (some false)) = some r := h
  clear h
  by_cases c2 : a0 ≥ 1
  · rw [if_pos c2] at H
    have c2b0 : decide (1 ≤ a0) = true := decide_eq_true c2
    clear c2
    obtain rfl := Option.some.inj H
    go_enter Tryz.func74, Tryz.ntmps74
    go_wp2
    go_ret
    exact ⟨by first | rfl | (simp; done) | (simp [*]; done), by repeat (first | exact Drawn0.refl _ | apply Drawn0.step)⟩
  · rw [if_neg c2] at H
    have c2b0 : decide (1 ≤ a0) = false := decide_eq_false c2
    clear c2
    obtain rfl := Option.some.inj H
    go_enter Tryz.func74, Tryz.ntmps74
    go_wp2
    go_ret
    exact ⟨by first | rfl | (simp; done) | (simp [*]; done), by repeat (first | exact Drawn0.refl _ | apply Drawn0.step)⟩
/-! ### reg_May: function 27 -/
noncomputable def reg_May.f (a0_0 : Int) (a0_1 : Int) (a0_2 : Int) (a0_3 : ByteArray) : Option (Bool) := (reg_client.f a0_0).bind fun t102 => (if t102 = true then (if a0_1 ≥ 1 then (if a0_1 ≤ 1099511627776 then (if a0_2 ≥ 0 then (if a0_2 ≤ 30 then (some (decide ((a0_3.size : Int) ≤ 2200))) else (some false)) else (some false)) else (some false)) else (some false)) else (some false))
set_option maxHeartbeats 8000000 in
set_option maxRecDepth 100000 in
theorem reg_May.calls (a0_0 : Int) (a0_1 : Int) (a0_2 : Int) (a0_3 : ByteArray) (r : Bool) (w : World) (h : reg_May.f a0_0 a0_1 a0_2 a0_3 = some r) :
    Calls Tryz.prog 27 #[.agg #[.int .i64 a0_0, .int .i64 a0_1, .int .i64 a0_2, .string a0_3]] w fun e w' => e = .returned (.bool r) ∧ Below w.heap.size w w' := by
  have hu55 := Tryz.underlying55
  have HB := Aside0.mk (Below.refl w.heap.size w)
  have H : ((reg_client.f a0_0).bind fun t102 => (if t102 = true then (if a0_1 ≥ 1 then (if a0_1 ≤ 1099511627776 then (if a0_2 ≥ 0 then (if a0_2 ≤ 30 then (some (decide ((a0_3.size : Int) ≤ 2200))) else (some false)) else (some false)) else (some false)) else (some false)) else (some false))) = some r := h
  clear h
  replace H := Option.bind_eq_some_iff.mp H
  obtain ⟨t102, A20, H⟩ := H
  replace H : (if t102 = true then (if a0_1 ≥ 1 then (if a0_1 ≤ 1099511627776 then (if a0_2 ≥ 0 then (if a0_2 ≤ 30 then (some (decide ((a0_3.size : Int) ≤ 2200))) else (some false)) else (some false)) else (some false)) else (some false)) else (some false)) = some r := H
  have A2 := Aside0.mk A20
  clear A20
  by_cases c3 : t102 = true
  · subst c3
    have H1 : (if a0_1 ≥ 1 then (if a0_1 ≤ 1099511627776 then (if a0_2 ≥ 0 then (if a0_2 ≤ 30 then (some (decide ((a0_3.size : Int) ≤ 2200))) else (some false)) else (some false)) else (some false)) else (some false)) = some r := by rw [if_pos rfl] at H; exact H
    clear H
    have H := H1
    clear H1
    by_cases c4 : a0_1 ≥ 1
    · rw [if_pos c4] at H
      have c4b0 : decide (1 ≤ a0_1) = true := decide_eq_true c4
      clear c4
      by_cases c5 : a0_1 ≤ 1099511627776
      · rw [if_pos c5] at H
        have c5b0 : decide (a0_1 ≤ 1099511627776) = true := decide_eq_true c5
        clear c5
        by_cases c6 : a0_2 ≥ 0
        · rw [if_pos c6] at H
          have c6b0 : decide (0 ≤ a0_2) = true := decide_eq_true c6
          clear c6
          by_cases c7 : a0_2 ≤ 30
          · rw [if_pos c7] at H
            have c7b0 : decide (a0_2 ≤ 30) = true := decide_eq_true c7
            clear c7
            obtain rfl := Option.some.inj H
            go_enter Tryz.func27, Tryz.ntmps27
            go_wp2_with (first | ((with_reducible refine gate_dst (N := 1) rfl ?_); (try (refine gate_guard (by rfl) ?_; dsimp only)); refine box_event ?hg (N := 1) ?hd (cs := #[.int .i64 a0_0, .int .i64 a0_1, .int .i64 a0_2, .string a0_3]) (t := 55) ?hr ?_; (case hd => rfl); (case hg => rfl); (case hr => first | (go_simp; done) | (go_simp; rfl)); intro gb101 hg w8 hbox hb; have n0_ := Aside0.mk (below_step (by repeat (first | (with_reducible first | exact HB.out | apply below_alloc | apply pw_below_drewN | apply below_drew1) | exact HB.out)) hb); have n1_ := Aside0.mk (hbox); have n2_ := Aside0.mk ((by rw [hg]; exact (below_size (by repeat (first | (with_reducible first | exact HB.out | apply below_alloc | apply pw_below_drewN | apply below_drew1) | exact HB.out))) : w.heap.size ≤ gb101)); have n3_ := Aside0.mk ((by rw [hg]; exact (below_size (by repeat (first | (with_reducible first | exact HB.out | apply below_alloc | apply pw_below_drewN | apply below_drew1) | exact HB.out))) : w.heap.size ≤ gb101)); clear HB; have HB := n0_; have BK101 := n1_; have GW101 := n2_; have GE101 := n3_; clear n0_ n1_ n2_ n3_; clear hb hbox hg; have hcz9_0 : w8.cell? ⟨gb101, 0, none⟩ = some (.int .i64 a0_0) := (blk_cell BK101.out 0).trans rfl; have hcz9_1 : w8.cell? ⟨gb101, 1, none⟩ = some (.int .i64 a0_1) := (blk_cell BK101.out 1).trans rfl; have hcz9_2 : w8.cell? ⟨gb101, 2, none⟩ = some (.int .i64 a0_2) := (blk_cell BK101.out 2).trans rfl; have hcz9_3 : w8.cell? ⟨gb101, 3, none⟩ = some (.string a0_3) := (blk_cell BK101.out 3).trans rfl; have hfz9_0 := blk_frozen BK101.out 0; have hfz9_1 := blk_frozen BK101.out 1; have hfz9_2 := blk_frozen BK101.out 2; have hfz9_3 := blk_frozen BK101.out 3) | ((with_reducible refine gate_callee (f := 74) rfl ?_); refine goesL_ (some 5) rfl rfl Tryz.func74 (by kernel_rfl) rfl #[.int .i64 a0_0] rfl (by (try simp only [List.map_toArray, List.map_cons, List.map_nil]); first | done | rfl | (simp only [List.length_drop, List.length_take]; rfl)) ?_; (with_reducible refine (reg_client.calls a0_0 true _ A2.out).mono ?_); rintro e w' ⟨rfl, ⟨nd, rfl⟩⟩; refine ⟨_, rfl, ?_⟩))
            go_ret
            exact ⟨by first | rfl | (simp [errW_none, errW_some] <;> rfl) | (simp [*, errW_none, errW_some] <;> rfl), by repeat (first | (with_reducible first | exact HB.out | apply below_alloc | apply pw_below_drewN | apply below_drew1 | refine below_set ?_ GE101.out) | exact HB.out)⟩
          · rw [if_neg c7] at H
            have c7b0 : decide (a0_2 ≤ 30) = false := decide_eq_false c7
            clear c7
            obtain rfl := Option.some.inj H
            go_enter Tryz.func27, Tryz.ntmps27
            go_wp2_with (first | ((with_reducible refine gate_dst (N := 1) rfl ?_); (try (refine gate_guard (by rfl) ?_; dsimp only)); refine box_event ?hg (N := 1) ?hd (cs := #[.int .i64 a0_0, .int .i64 a0_1, .int .i64 a0_2, .string a0_3]) (t := 55) ?hr ?_; (case hd => rfl); (case hg => rfl); (case hr => first | (go_simp; done) | (go_simp; rfl)); intro gb101 hg w10 hbox hb; have n0_ := Aside0.mk (below_step (by repeat (first | (with_reducible first | exact HB.out | apply below_alloc | apply pw_below_drewN | apply below_drew1) | exact HB.out)) hb); have n1_ := Aside0.mk (hbox); have n2_ := Aside0.mk ((by rw [hg]; exact (below_size (by repeat (first | (with_reducible first | exact HB.out | apply below_alloc | apply pw_below_drewN | apply below_drew1) | exact HB.out))) : w.heap.size ≤ gb101)); have n3_ := Aside0.mk ((by rw [hg]; exact (below_size (by repeat (first | (with_reducible first | exact HB.out | apply below_alloc | apply pw_below_drewN | apply below_drew1) | exact HB.out))) : w.heap.size ≤ gb101)); clear HB; have HB := n0_; have BK101 := n1_; have GW101 := n2_; have GE101 := n3_; clear n0_ n1_ n2_ n3_; clear hb hbox hg; have hcz11_0 : w10.cell? ⟨gb101, 0, none⟩ = some (.int .i64 a0_0) := (blk_cell BK101.out 0).trans rfl; have hcz11_1 : w10.cell? ⟨gb101, 1, none⟩ = some (.int .i64 a0_1) := (blk_cell BK101.out 1).trans rfl; have hcz11_2 : w10.cell? ⟨gb101, 2, none⟩ = some (.int .i64 a0_2) := (blk_cell BK101.out 2).trans rfl; have hcz11_3 : w10.cell? ⟨gb101, 3, none⟩ = some (.string a0_3) := (blk_cell BK101.out 3).trans rfl; have hfz11_0 := blk_frozen BK101.out 0; have hfz11_1 := blk_frozen BK101.out 1; have hfz11_2 := blk_frozen BK101.out 2; have hfz11_3 := blk_frozen BK101.out 3) | ((with_reducible refine gate_callee (f := 74) rfl ?_); refine goesL_ (some 5) rfl rfl Tryz.func74 (by kernel_rfl) rfl #[.int .i64 a0_0] rfl (by (try simp only [List.map_toArray, List.map_cons, List.map_nil]); first | done | rfl | (simp only [List.length_drop, List.length_take]; rfl)) ?_; (with_reducible refine (reg_client.calls a0_0 true _ A2.out).mono ?_); rintro e w' ⟨rfl, ⟨nd, rfl⟩⟩; refine ⟨_, rfl, ?_⟩))
            go_ret
            exact ⟨by first | rfl | (simp [errW_none, errW_some] <;> rfl) | (simp [*, errW_none, errW_some] <;> rfl), by repeat (first | (with_reducible first | exact HB.out | apply below_alloc | apply pw_below_drewN | apply below_drew1 | refine below_set ?_ GE101.out) | exact HB.out)⟩
        · rw [if_neg c6] at H
          have c6b0 : decide (0 ≤ a0_2) = false := decide_eq_false c6
          clear c6
          obtain rfl := Option.some.inj H
          go_enter Tryz.func27, Tryz.ntmps27
          go_wp2_with (first | ((with_reducible refine gate_dst (N := 1) rfl ?_); (try (refine gate_guard (by rfl) ?_; dsimp only)); refine box_event ?hg (N := 1) ?hd (cs := #[.int .i64 a0_0, .int .i64 a0_1, .int .i64 a0_2, .string a0_3]) (t := 55) ?hr ?_; (case hd => rfl); (case hg => rfl); (case hr => first | (go_simp; done) | (go_simp; rfl)); intro gb101 hg w12 hbox hb; have n0_ := Aside0.mk (below_step (by repeat (first | (with_reducible first | exact HB.out | apply below_alloc | apply pw_below_drewN | apply below_drew1) | exact HB.out)) hb); have n1_ := Aside0.mk (hbox); have n2_ := Aside0.mk ((by rw [hg]; exact (below_size (by repeat (first | (with_reducible first | exact HB.out | apply below_alloc | apply pw_below_drewN | apply below_drew1) | exact HB.out))) : w.heap.size ≤ gb101)); have n3_ := Aside0.mk ((by rw [hg]; exact (below_size (by repeat (first | (with_reducible first | exact HB.out | apply below_alloc | apply pw_below_drewN | apply below_drew1) | exact HB.out))) : w.heap.size ≤ gb101)); clear HB; have HB := n0_; have BK101 := n1_; have GW101 := n2_; have GE101 := n3_; clear n0_ n1_ n2_ n3_; clear hb hbox hg; have hcz13_0 : w12.cell? ⟨gb101, 0, none⟩ = some (.int .i64 a0_0) := (blk_cell BK101.out 0).trans rfl; have hcz13_1 : w12.cell? ⟨gb101, 1, none⟩ = some (.int .i64 a0_1) := (blk_cell BK101.out 1).trans rfl; have hcz13_2 : w12.cell? ⟨gb101, 2, none⟩ = some (.int .i64 a0_2) := (blk_cell BK101.out 2).trans rfl; have hcz13_3 : w12.cell? ⟨gb101, 3, none⟩ = some (.string a0_3) := (blk_cell BK101.out 3).trans rfl; have hfz13_0 := blk_frozen BK101.out 0; have hfz13_1 := blk_frozen BK101.out 1; have hfz13_2 := blk_frozen BK101.out 2; have hfz13_3 := blk_frozen BK101.out 3) | ((with_reducible refine gate_callee (f := 74) rfl ?_); refine goesL_ (some 5) rfl rfl Tryz.func74 (by kernel_rfl) rfl #[.int .i64 a0_0] rfl (by (try simp only [List.map_toArray, List.map_cons, List.map_nil]); first | done | rfl | (simp only [List.length_drop, List.length_take]; rfl)) ?_; (with_reducible refine (reg_client.calls a0_0 true _ A2.out).mono ?_); rintro e w' ⟨rfl, ⟨nd, rfl⟩⟩; refine ⟨_, rfl, ?_⟩))
          go_ret
          exact ⟨by first | rfl | (simp [errW_none, errW_some] <;> rfl) | (simp [*, errW_none, errW_some] <;> rfl), by repeat (first | (with_reducible first | exact HB.out | apply below_alloc | apply pw_below_drewN | apply below_drew1 | refine below_set ?_ GE101.out) | exact HB.out)⟩
      · rw [if_neg c5] at H
        have c5b0 : decide (a0_1 ≤ 1099511627776) = false := decide_eq_false c5
        clear c5
        obtain rfl := Option.some.inj H
        go_enter Tryz.func27, Tryz.ntmps27
        go_wp2_with (first | ((with_reducible refine gate_dst (N := 1) rfl ?_); (try (refine gate_guard (by rfl) ?_; dsimp only)); refine box_event ?hg (N := 1) ?hd (cs := #[.int .i64 a0_0, .int .i64 a0_1, .int .i64 a0_2, .string a0_3]) (t := 55) ?hr ?_; (case hd => rfl); (case hg => rfl); (case hr => first | (go_simp; done) | (go_simp; rfl)); intro gb101 hg w14 hbox hb; have n0_ := Aside0.mk (below_step (by repeat (first | (with_reducible first | exact HB.out | apply below_alloc | apply pw_below_drewN | apply below_drew1) | exact HB.out)) hb); have n1_ := Aside0.mk (hbox); have n2_ := Aside0.mk ((by rw [hg]; exact (below_size (by repeat (first | (with_reducible first | exact HB.out | apply below_alloc | apply pw_below_drewN | apply below_drew1) | exact HB.out))) : w.heap.size ≤ gb101)); have n3_ := Aside0.mk ((by rw [hg]; exact (below_size (by repeat (first | (with_reducible first | exact HB.out | apply below_alloc | apply pw_below_drewN | apply below_drew1) | exact HB.out))) : w.heap.size ≤ gb101)); clear HB; have HB := n0_; have BK101 := n1_; have GW101 := n2_; have GE101 := n3_; clear n0_ n1_ n2_ n3_; clear hb hbox hg; have hcz15_0 : w14.cell? ⟨gb101, 0, none⟩ = some (.int .i64 a0_0) := (blk_cell BK101.out 0).trans rfl; have hcz15_1 : w14.cell? ⟨gb101, 1, none⟩ = some (.int .i64 a0_1) := (blk_cell BK101.out 1).trans rfl; have hcz15_2 : w14.cell? ⟨gb101, 2, none⟩ = some (.int .i64 a0_2) := (blk_cell BK101.out 2).trans rfl; have hcz15_3 : w14.cell? ⟨gb101, 3, none⟩ = some (.string a0_3) := (blk_cell BK101.out 3).trans rfl; have hfz15_0 := blk_frozen BK101.out 0; have hfz15_1 := blk_frozen BK101.out 1; have hfz15_2 := blk_frozen BK101.out 2; have hfz15_3 := blk_frozen BK101.out 3) | ((with_reducible refine gate_callee (f := 74) rfl ?_); refine goesL_ (some 5) rfl rfl Tryz.func74 (by kernel_rfl) rfl #[.int .i64 a0_0] rfl (by (try simp only [List.map_toArray, List.map_cons, List.map_nil]); first | done | rfl | (simp only [List.length_drop, List.length_take]; rfl)) ?_; (with_reducible refine (reg_client.calls a0_0 true _ A2.out).mono ?_); rintro e w' ⟨rfl, ⟨nd, rfl⟩⟩; refine ⟨_, rfl, ?_⟩))
        go_ret
        exact ⟨by first | rfl | (simp [errW_none, errW_some] <;> rfl) | (simp [*, errW_none, errW_some] <;> rfl), by repeat (first | (with_reducible first | exact HB.out | apply below_alloc | apply pw_below_drewN | apply below_drew1 | refine below_set ?_ GE101.out) | exact HB.out)⟩
    · rw [if_neg c4] at H
      have c4b0 : decide (1 ≤ a0_1) = false := decide_eq_false c4
      clear c4
      obtain rfl := Option.some.inj H
      go_enter Tryz.func27, Tryz.ntmps27
      go_wp2_with (first | ((with_reducible refine gate_dst (N := 1) rfl ?_); (try (refine gate_guard (by rfl) ?_; dsimp only)); refine box_event ?hg (N := 1) ?hd (cs := #[.int .i64 a0_0, .int .i64 a0_1, .int .i64 a0_2, .string a0_3]) (t := 55) ?hr ?_; (case hd => rfl); (case hg => rfl); (case hr => first | (go_simp; done) | (go_simp; rfl)); intro gb101 hg w16 hbox hb; have n0_ := Aside0.mk (below_step (by repeat (first | (with_reducible first | exact HB.out | apply below_alloc | apply pw_below_drewN | apply below_drew1) | exact HB.out)) hb); have n1_ := Aside0.mk (hbox); have n2_ := Aside0.mk ((by rw [hg]; exact (below_size (by repeat (first | (with_reducible first | exact HB.out | apply below_alloc | apply pw_below_drewN | apply below_drew1) | exact HB.out))) : w.heap.size ≤ gb101)); have n3_ := Aside0.mk ((by rw [hg]; exact (below_size (by repeat (first | (with_reducible first | exact HB.out | apply below_alloc | apply pw_below_drewN | apply below_drew1) | exact HB.out))) : w.heap.size ≤ gb101)); clear HB; have HB := n0_; have BK101 := n1_; have GW101 := n2_; have GE101 := n3_; clear n0_ n1_ n2_ n3_; clear hb hbox hg; have hcz17_0 : w16.cell? ⟨gb101, 0, none⟩ = some (.int .i64 a0_0) := (blk_cell BK101.out 0).trans rfl; have hcz17_1 : w16.cell? ⟨gb101, 1, none⟩ = some (.int .i64 a0_1) := (blk_cell BK101.out 1).trans rfl; have hcz17_2 : w16.cell? ⟨gb101, 2, none⟩ = some (.int .i64 a0_2) := (blk_cell BK101.out 2).trans rfl; have hcz17_3 : w16.cell? ⟨gb101, 3, none⟩ = some (.string a0_3) := (blk_cell BK101.out 3).trans rfl; have hfz17_0 := blk_frozen BK101.out 0; have hfz17_1 := blk_frozen BK101.out 1; have hfz17_2 := blk_frozen BK101.out 2; have hfz17_3 := blk_frozen BK101.out 3) | ((with_reducible refine gate_callee (f := 74) rfl ?_); refine goesL_ (some 5) rfl rfl Tryz.func74 (by kernel_rfl) rfl #[.int .i64 a0_0] rfl (by (try simp only [List.map_toArray, List.map_cons, List.map_nil]); first | done | rfl | (simp only [List.length_drop, List.length_take]; rfl)) ?_; (with_reducible refine (reg_client.calls a0_0 true _ A2.out).mono ?_); rintro e w' ⟨rfl, ⟨nd, rfl⟩⟩; refine ⟨_, rfl, ?_⟩))
      go_ret
      exact ⟨by first | rfl | (simp [errW_none, errW_some] <;> rfl) | (simp [*, errW_none, errW_some] <;> rfl), by repeat (first | (with_reducible first | exact HB.out | apply below_alloc | apply pw_below_drewN | apply below_drew1 | refine below_set ?_ GE101.out) | exact HB.out)⟩
  · replace c3 := Bool.eq_false_iff.mpr c3
    subst c3
    have H1 : (some false) = some r := by rw [if_neg (show ¬ (false = true) by decide)] at H; exact H
    clear H
    have H := H1
    clear H1
    obtain rfl := Option.some.inj H
    go_enter Tryz.func27, Tryz.ntmps27
    go_wp2_with (first | ((with_reducible refine gate_dst (N := 1) rfl ?_); (try (refine gate_guard (by rfl) ?_; dsimp only)); refine box_event ?hg (N := 1) ?hd (cs := #[.int .i64 a0_0, .int .i64 a0_1, .int .i64 a0_2, .string a0_3]) (t := 55) ?hr ?_; (case hd => rfl); (case hg => rfl); (case hr => first | (go_simp; done) | (go_simp; rfl)); intro gb101 hg w18 hbox hb; have n0_ := Aside0.mk (below_step (by repeat (first | (with_reducible first | exact HB.out | apply below_alloc | apply pw_below_drewN | apply below_drew1) | exact HB.out)) hb); have n1_ := Aside0.mk (hbox); have n2_ := Aside0.mk ((by rw [hg]; exact (below_size (by repeat (first | (with_reducible first | exact HB.out | apply below_alloc | apply pw_below_drewN | apply below_drew1) | exact HB.out))) : w.heap.size ≤ gb101)); have n3_ := Aside0.mk ((by rw [hg]; exact (below_size (by repeat (first | (with_reducible first | exact HB.out | apply below_alloc | apply pw_below_drewN | apply below_drew1) | exact HB.out))) : w.heap.size ≤ gb101)); clear HB; have HB := n0_; have BK101 := n1_; have GW101 := n2_; have GE101 := n3_; clear n0_ n1_ n2_ n3_; clear hb hbox hg; have hcz19_0 : w18.cell? ⟨gb101, 0, none⟩ = some (.int .i64 a0_0) := (blk_cell BK101.out 0).trans rfl; have hcz19_1 : w18.cell? ⟨gb101, 1, none⟩ = some (.int .i64 a0_1) := (blk_cell BK101.out 1).trans rfl; have hcz19_2 : w18.cell? ⟨gb101, 2, none⟩ = some (.int .i64 a0_2) := (blk_cell BK101.out 2).trans rfl; have hcz19_3 : w18.cell? ⟨gb101, 3, none⟩ = some (.string a0_3) := (blk_cell BK101.out 3).trans rfl; have hfz19_0 := blk_frozen BK101.out 0; have hfz19_1 := blk_frozen BK101.out 1; have hfz19_2 := blk_frozen BK101.out 2; have hfz19_3 := blk_frozen BK101.out 3) | ((with_reducible refine gate_callee (f := 74) rfl ?_); refine goesL_ (some 5) rfl rfl Tryz.func74 (by kernel_rfl) rfl #[.int .i64 a0_0] rfl (by (try simp only [List.map_toArray, List.map_cons, List.map_nil]); first | done | rfl | (simp only [List.length_drop, List.length_take]; rfl)) ?_; (with_reducible refine (reg_client.calls a0_0 false _ A2.out).mono ?_); rintro e w' ⟨rfl, ⟨nd, rfl⟩⟩; refine ⟨_, rfl, ?_⟩))
    go_ret
    exact ⟨by first | rfl | (simp [errW_none, errW_some] <;> rfl) | (simp [*, errW_none, errW_some] <;> rfl), by repeat (first | (with_reducible first | exact HB.out | apply below_alloc | apply pw_below_drewN | apply below_drew1 | refine below_set ?_ GE101.out) | exact HB.out)⟩
/-! ### num_Put: function 51 -/
mutual
noncomputable def num_Put.j0 : Nat → List Int → Int → Option (List Int)
  | 0, _, _ => none
  | k + 1, x0, x5 => num_Put.l0 k x0 x5
noncomputable def num_Put.l0 : Nat → List Int → Int → Option (List Int)
  | 0, _, _ => none
  | k + 1, x0, x5 => if x5 > 127 then (if x0.length < 140737488355328 then (num_Put.l0 k (x0 ++ [Go.bits .or .u8 ((x5) % 256) 128]) (x5 / 128)) else (none)) else (if x0.length < 140737488355328 then (some (x0 ++ [(x5) % 256])) else (none))
end
noncomputable def num_Put.f (k : Nat) (l0 : List Int) (a1 : Int) : Option (List Int) := if a1 < 0 then (num_Put.j0 k l0 (Go.bits .xor .u64 18446744073709551615 (IntKind.u64.wrap ((IntKind.u64.wrap (a1)) * 2)))) else (num_Put.j0 k l0 (IntKind.u64.wrap ((IntKind.u64.wrap (a1)) * 2)))
theorem num_Put.mono_l : ∀ k, (∀ y0 y1, LeO (num_Put.j0 k y0 y1) (num_Put.j0 (k + 1) y0 y1)) ∧ (∀ y0 y1, LeO (num_Put.l0 k y0 y1) (num_Put.l0 (k + 1) y0 y1))
  | 0 => ⟨fun _ _ r h => by simp [num_Put.j0] at h, fun _ _ r h => by simp [num_Put.l0] at h⟩
  | k + 1 => by
    obtain ⟨ih0, ih1⟩ := num_Put.mono_l k
    refine ⟨?_, ?_⟩
    · intro y0 y1
      unfold num_Put.j0
      repeat' first
      | (with_reducible exact ih0 _ _)
      | (with_reducible exact ih1 _ _)
      | (with_reducible exact LeO.refl _)
      | (with_reducible exact LeO.none _)
      | (with_reducible refine LeO.ite ?_ ?_)
      | (with_reducible refine LeO.bind ?_ (fun _ => ?_))
      | exact ih0 _ _
      | exact ih1 _ _
      | exact LeO.none _
      | refine LeO.ite ?_ ?_
      | refine LeO.bind ?_ (fun _ => ?_)
    · intro y0 y1
      unfold num_Put.l0
      repeat' first
      | (with_reducible exact ih0 _ _)
      | (with_reducible exact ih1 _ _)
      | (with_reducible exact LeO.refl _)
      | (with_reducible exact LeO.none _)
      | (with_reducible refine LeO.ite ?_ ?_)
      | (with_reducible refine LeO.bind ?_ (fun _ => ?_))
      | exact ih0 _ _
      | exact ih1 _ _
      | exact LeO.none _
      | refine LeO.ite ?_ ?_
      | refine LeO.bind ?_ (fun _ => ?_)
theorem num_Put.mono : ∀ a0 a1 k, LeO (num_Put.f k a0 a1) (num_Put.f (k + 1) a0 a1) := by
  intro a0 a1 k
  obtain ⟨ih0, ih1⟩ := num_Put.mono_l k
  unfold num_Put.f
  repeat' first
      | (with_reducible exact ih0 _ _)
      | (with_reducible exact ih1 _ _)
      | (with_reducible exact LeO.refl _)
      | (with_reducible exact LeO.none _)
      | (with_reducible refine LeO.ite ?_ ?_)
      | (with_reducible refine LeO.bind ?_ (fun _ => ?_))
      | exact ih0 _ _
      | exact ih1 _ _
      | exact LeO.none _
      | refine LeO.ite ?_ ?_
      | refine LeO.bind ?_ (fun _ => ?_)
set_option maxHeartbeats 8000000 in
set_option maxRecDepth 100000 in
theorem num_Put.calls (k : Nat) (P0_ : Nat → Prop) (u9000_ : Value) (l0 : List Int) (a1 : Int) (r : List Int) (w0 w : World) (hB : Below w0.heap.size w0 w) (ho0 : Kd.R (Kd.int .u8) 5 w w0.heap.size P0_ u9000_ l0) (h : num_Put.f k l0 a1 = some r) :
    Calls Tryz.prog 51 #[u9000_, .int .i64 a1] w fun e w' => ∃ v0_ : Value, e = .returned (v0_) ∧ Kd.R (Kd.int .u8) 5 w' w0.heap.size (fun k_ => (P0_ k_ ∨ w.heap.size ≤ k_)) v0_ r ∧ Below w0.heap.size w0 w' ∧ Kept w w' (fun k_ => P0_ k_) := by
  have HO0 := Aside0.mk (show Kd.R (Kd.int .u8) 5 w w0.heap.size (fun k_ => (P0_ k_ ∨ w.heap.size ≤ k_)) u9000_ l0 from Kd.R_mono ho0 (fun k_ hk => (.inl hk)))
  have HK := Aside0.mk (Kept.refl w (fun k_ => P0_ k_))
  have HW0 := Aside0.mk hB.size
  have HB := Aside0.mk hB
  clear hB
  have H : (if a1 < 0 then (num_Put.j0 k l0 (Go.bits .xor .u64 18446744073709551615 (IntKind.u64.wrap ((IntKind.u64.wrap (a1)) * 2)))) else (num_Put.j0 k l0 (IntKind.u64.wrap ((IntKind.u64.wrap (a1)) * 2)))) = some r := h
  clear h
  have HC3 := Aside0.mk H
  clear H
  go_enter Tryz.func51, Tryz.ntmps51
  go_upto_if 10 with (fail)
  go_cut [5] (fun v5 wc => ∃ (kq : Nat) (x5_2 : Int), v5 = .int .u64 x5_2 ∧ Aside0 (num_Put.j0 kq l0 x5_2 = some r) ∧ Aside0 (kq ≤ k) ∧ Aside0 (Kd.R (Kd.int .u8) 5 wc w0.heap.size (fun k_ => (P0_ k_ ∨ w.heap.size ≤ k_)) u9000_ l0) ∧ Aside0 (Kept w wc (fun k_ => P0_ k_)) ∧ Aside0 (Below w0.heap.size w0 wc))
  case first =>
    have H := HC3.out
    clear HC3
    by_cases c4 : a1 < 0
    · rw [if_pos c4] at H
      have c4b0 : decide (a1 < 0) = true := decide_eq_true c4
      clear c4
      (first | rw [c4b0] | (simp only [i64_w, i32_w]; rw [c4b0]) | skip)
      have H' := Aside0.mk H
      clear H
      go_wp2
      go_meet
      case rel => exact ⟨_, (Go.bits .xor .u64 18446744073709551615 (IntKind.u64.wrap ((IntKind.u64.wrap (a1)) * 2))), (by first | rfl | (simp; done) | (simp [*]; done)), H', ⟨by first | omega | exact Nat.le_refl _⟩, ⟨by (with_reducible repeat (first | apply Kd.R_alloc | apply Kd.R_drewN | apply Kd.R_drew)); exact HO0.out⟩, ⟨by repeat (first | (with_reducible first | exact HK.out | apply Kept.alloc | apply Kept.drewN | apply Kept.drew) | exact HK.out)⟩, ⟨by repeat (first | (with_reducible first | exact HB.out | apply below_alloc | apply pw_below_drewN | apply below_drew1) | exact HB.out)⟩⟩
    · rw [if_neg c4] at H
      have c4b0 : decide (a1 < 0) = false := decide_eq_false c4
      clear c4
      (first | rw [c4b0] | (simp only [i64_w, i32_w]; rw [c4b0]) | skip)
      have H' := Aside0.mk H
      clear H
      go_wp2
      go_meet
      case rel => exact ⟨_, (IntKind.u64.wrap ((IntKind.u64.wrap (a1)) * 2)), (by first | rfl | (simp; done) | (simp [*]; done)), H', ⟨by first | omega | exact Nat.le_refl _⟩, ⟨by (with_reducible repeat (first | apply Kd.R_alloc | apply Kd.R_drewN | apply Kd.R_drew)); exact HO0.out⟩, ⟨by repeat (first | (with_reducible first | exact HK.out | apply Kept.alloc | apply Kept.drewN | apply Kept.drew) | exact HK.out)⟩, ⟨by repeat (first | (with_reducible first | exact HB.out | apply below_alloc | apply pw_below_drewN | apply below_drew1) | exact HB.out)⟩⟩
  case rest =>
    clear HC3
    try clear p2
    try clear c4
    try clear c4b0
    obtain ⟨kq, x5_2, rfl, HA, HJ2, HO_0, HK, HB⟩ := hcut
    cases kq with
    | zero => exact absurd HA.out (by simp [num_Put.j0])
    | succ kj2 =>
      have H := HA.out
      clear HA
      simp only [num_Put.j0] at H
      have H' := Aside0.mk H
      clear H
      go_wp2
      go_loopg [0, 5] kj2 (fun kq v0 v5 w' => ∃ (x0_2 : List Int) (x5_2 : Int), v5 = .int .u64 x5_2 ∧ Aside0 (num_Put.l0 kq x0_2 x5_2 = some r) ∧ Aside0 (kq ≤ kj2) ∧ Aside0 (Kd.R (Kd.int .u8) 5 w' w0.heap.size (fun k_ => (P0_ k_ ∨ w.heap.size ≤ k_)) v0 x0_2) ∧ Aside0 (Kept w w' (fun k_ => P0_ k_)) ∧ Aside0 (Below w0.heap.size w0 w'))
      case atStart => exact ⟨(l0), (x5_2), (by first | rfl | (simp; done) | (simp [*]; done)), H', ⟨Nat.le_refl _⟩, ⟨by (with_reducible repeat (first | apply Kd.R_alloc | apply Kd.R_drewN | apply Kd.R_drew)); exact HO_0.out⟩, ⟨by repeat (first | (with_reducible first | exact HK.out | apply Kept.alloc | apply Kept.drewN | apply Kept.drew) | exact HK.out)⟩, ⟨by repeat (first | (with_reducible first | exact HB.out | apply below_alloc | apply pw_below_drewN | apply below_drew1) | exact HB.out)⟩⟩
      case round =>
        clear H'
        try clear p2
        try clear c4
        try clear c4b0
        try clear p2
        obtain ⟨x0_2, x5_2, rfl, HA, HK2, HO_0, HK, HB⟩ := hrel
        cases gk with
        | zero => exact absurd HA.out (by simp [num_Put.l0])
        | succ k2 =>
          have H := HA.out
          clear HA
          simp only [num_Put.l0] at H
          by_cases c5 : x5_2 > 127
          · rw [if_pos c5] at H
            have c5b0 : decide (127 < x5_2) = true := decide_eq_true c5
            clear c5
            by_cases c6 : x0_2.length < 140737488355328
            · rw [if_pos c6] at H
              have LMc6 := Aside0.mk c6
              clear c6
              obtain ⟨y103, hy103⟩ : ∃ y_ : List Int, y_ = (x0_2 ++ [Go.bits .or .u8 ((x5_2) % 256) 128]) := ⟨_, rfl⟩
              replace H : (num_Put.l0 k2 y103 (x5_2 / 128)) = some r := by first | (rw [hy103]; with_reducible exact H) | (have H2_ := (Option.bind_some _ _).symm.trans H; rw [hy103]; with_reducible exact H2_) | (have H2_ := (Option.bind_some _ _).symm.trans H; with_reducible exact H2_) | with_reducible exact H | (rw [hy103]; exact H) | exact H
              have Ny103 := Aside0.mk hy103
              clear hy103
              have H' := Aside0.mk H
              clear H
              go_wp2_with (first | ((with_reducible refine gate_builtin (b := .append) (xs := #[.tmp 15, .tmp 19]) rfl ?_); at_builtin; refine Kd.R_append (Kd.int .u8) (w0 := w0) w0.heap.size rfl (.tmp 15) (.tmp 19) 22 5 (.int .u8 0) 1 rfl Tryz.underlying22 info5 rfl (by decide) (by omega) u0 x0_2 (Go.bits .or .u8 ((x5_2) % 256) 128) [.int .u8 (Go.bits .or .u8 ((x5_2) % 256) 128)] (fun k_ => (P0_ k_ ∨ w.heap.size ≤ k_)) (fun _ => False) rfl rfl ?aP (fun _ hk => hk.elim) ?aF ?aO ?aB ?aS ?aL ?_; (case aP => exact rfl); (case aB => exact (by repeat (first | (with_reducible first | exact HB.out | apply below_alloc | apply pw_below_drewN | apply below_drew1) | exact HB.out))); (case aF => exact (fun k_ hk => (.inr (Nat.le_trans (by first | exact HK.out.1 | exact (show Kept w _ (fun k_ => P0_ k_) from by repeat (first | (with_reducible first | exact HK.out | apply Kept.alloc | apply Kept.drewN | apply Kept.drew) | exact HK.out)).1) hk)))); (case aO => exact (by (with_reducible repeat (first | apply Kd.R_alloc | apply Kd.R_drewN | apply Kd.R_drew)); exact HO_0.out)); (case aS => exact (below_size (by repeat (first | (with_reducible first | exact HB.out | apply below_alloc | apply pw_below_drewN | apply below_drew1) | exact HB.out)))); (case aL => have := LMc6.out; omega); intro v104 w7 ho hb hg hat; rw [← Ny103.out] at ho; have n0_ := Aside0.mk (hb); have n1_ := Aside0.mk (Kept.of_grown (S := (fun k_ => P0_ k_)) hg (by repeat (first | (with_reducible first | exact HK.out | apply Kept.alloc | apply Kept.drewN | apply Kept.drew) | exact HK.out)) (fun k_ e_ => (HO_0.out.1 k_ e_))); have n2_ := Aside0.mk (ho); clear HB; clear HK; clear HO_0; have HB := n0_; have HK := n1_; have HO105 := n2_; clear n0_ n1_ n2_; clear ho hb hg hat))
              go_roundg k2
              case measure => have := HJ2.out; have := HK2.out; omega
              case rel => exact ⟨(y103), (x5_2 / 128), (by first | rfl | (simp; done) | (simp [*]; done)), H', ⟨by have := HJ2.out; have := HK2.out; omega⟩, ⟨by (with_reducible repeat (first | apply Kd.R_alloc | apply Kd.R_drewN | apply Kd.R_drew)); exact HO105.out⟩, ⟨by repeat (first | (with_reducible first | exact HK.out | apply Kept.alloc | apply Kept.drewN | apply Kept.drew) | exact HK.out)⟩, ⟨by repeat (first | (with_reducible first | exact HB.out | apply below_alloc | apply pw_below_drewN | apply below_drew1) | exact HB.out)⟩⟩
            · rw [if_neg c6] at H
              exact absurd H (by simp)
          · rw [if_neg c5] at H
            have c5b0 : decide (127 < x5_2) = false := decide_eq_false c5
            clear c5
            by_cases c8 : x0_2.length < 140737488355328
            · rw [if_pos c8] at H
              have LMc8 := Aside0.mk c8
              clear c8
              obtain ⟨y106, hy106⟩ : ∃ y_ : List Int, y_ = (x0_2 ++ [(x5_2) % 256]) := ⟨_, rfl⟩
              replace H : (some y106) = some r := by first | (rw [hy106]; with_reducible exact H) | (have H2_ := (Option.bind_some _ _).symm.trans H; rw [hy106]; with_reducible exact H2_) | (have H2_ := (Option.bind_some _ _).symm.trans H; with_reducible exact H2_) | with_reducible exact H | (rw [hy106]; exact H) | exact H
              have Ny106 := Aside0.mk hy106
              clear hy106
              obtain rfl := Option.some.inj H
              go_wp2_with (first | ((with_reducible refine gate_builtin (b := .append) (xs := #[.tmp 23, .tmp 26]) rfl ?_); at_builtin; refine Kd.R_append (Kd.int .u8) (w0 := w0) w0.heap.size rfl (.tmp 23) (.tmp 26) 22 5 (.int .u8 0) 1 rfl Tryz.underlying22 info5 rfl (by decide) (by omega) u0 x0_2 ((x5_2) % 256) [.int .u8 ((x5_2) % 256)] (fun k_ => (P0_ k_ ∨ w.heap.size ≤ k_)) (fun _ => False) rfl rfl ?aP (fun _ hk => hk.elim) ?aF ?aO ?aB ?aS ?aL ?_; (case aP => exact rfl); (case aB => exact (by repeat (first | (with_reducible first | exact HB.out | apply below_alloc | apply pw_below_drewN | apply below_drew1) | exact HB.out))); (case aF => exact (fun k_ hk => (.inr (Nat.le_trans (by first | exact HK.out.1 | exact (show Kept w _ (fun k_ => P0_ k_) from by repeat (first | (with_reducible first | exact HK.out | apply Kept.alloc | apply Kept.drewN | apply Kept.drew) | exact HK.out)).1) hk)))); (case aO => exact (by (with_reducible repeat (first | apply Kd.R_alloc | apply Kd.R_drewN | apply Kd.R_drew)); exact HO_0.out)); (case aS => exact (below_size (by repeat (first | (with_reducible first | exact HB.out | apply below_alloc | apply pw_below_drewN | apply below_drew1) | exact HB.out)))); (case aL => have := LMc8.out; omega); intro v107 w9 ho hb hg hat; rw [← Ny106.out] at ho; have n0_ := Aside0.mk (hb); have n1_ := Aside0.mk (Kept.of_grown (S := (fun k_ => P0_ k_)) hg (by repeat (first | (with_reducible first | exact HK.out | apply Kept.alloc | apply Kept.drewN | apply Kept.drew) | exact HK.out)) (fun k_ e_ => (HO_0.out.1 k_ e_))); have n2_ := Aside0.mk (ho); clear HB; clear HK; clear HO_0; have HB := n0_; have HK := n1_; have HO108 := n2_; clear n0_ n1_ n2_; clear ho hb hg hat))
              go_ret
              exact ⟨_, by first | rfl | (simp [errW_none, errW_some] <;> rfl) | (simp [*, errW_none, errW_some] <;> rfl), by (with_reducible repeat (first | apply Kd.R_alloc | apply Kd.R_drewN | apply Kd.R_drew)); exact HO108.out, by repeat (first | (with_reducible first | exact HB.out | apply below_alloc | apply pw_below_drewN | apply below_drew1) | exact HB.out), by repeat (first | (with_reducible first | exact HK.out | apply Kept.alloc | apply Kept.drewN | apply Kept.drew) | exact HK.out)⟩
            · rw [if_neg c8] at H
              exact absurd H (by simp)
/-! ### num_PutText: function 71 -/
noncomputable def num_PutText.f (k : Nat) (l0 : List Int) (a1 : ByteArray) : Option (List Int) := (num_Put.f k l0 (a1.size : Int)).bind fun t109 => (if t109.length + a1.size < 140737488355328 then (some (t109 ++ bytesOf a1)) else (none))
theorem num_PutText.mono : ∀ a0 a1 k, LeO (num_PutText.f k a0 a1) (num_PutText.f (k + 1) a0 a1) := by
  intro a0 a1 k
  unfold num_PutText.f
  repeat' first
      | (with_reducible exact num_Put.mono _ _ _)
      | (with_reducible exact LeO.refl _)
      | (with_reducible exact LeO.none _)
      | (with_reducible refine LeO.ite ?_ ?_)
      | (with_reducible refine LeO.bind ?_ (fun _ => ?_))
      | exact num_Put.mono _ _ _
      | exact LeO.none _
      | refine LeO.ite ?_ ?_
      | refine LeO.bind ?_ (fun _ => ?_)
set_option maxHeartbeats 8000000 in
set_option maxRecDepth 100000 in
theorem num_PutText.calls (k : Nat) (P0_ : Nat → Prop) (u9000_ : Value) (l0 : List Int) (a1 : ByteArray) (r : List Int) (w0 w : World) (hB : Below w0.heap.size w0 w) (ho0 : Kd.R (Kd.int .u8) 5 w w0.heap.size P0_ u9000_ l0) (h : num_PutText.f k l0 a1 = some r) :
    Calls Tryz.prog 71 #[u9000_, .string a1] w fun e w' => ∃ v0_ : Value, e = .returned (v0_) ∧ Kd.R (Kd.int .u8) 5 w' w0.heap.size (fun _ => True) v0_ r ∧ Below w0.heap.size w0 w' ∧ Kept w w' (fun k_ => P0_ k_) := by
  have HO0 := Aside0.mk (show Kd.R (Kd.int .u8) 5 w w0.heap.size (fun k_ => (P0_ k_ ∨ w.heap.size ≤ k_)) u9000_ l0 from Kd.R_mono ho0 (fun k_ hk => (.inl hk)))
  have HK := Aside0.mk (Kept.refl w (fun k_ => P0_ k_))
  have HW0 := Aside0.mk hB.size
  have HB := Aside0.mk hB
  clear hB
  have H : ((num_Put.f k l0 (a1.size : Int)).bind fun t109 => (if t109.length + a1.size < 140737488355328 then (some (t109 ++ bytesOf a1)) else (none))) = some r := h
  clear h
  replace H := Option.bind_eq_some_iff.mp H
  obtain ⟨t109, A30, H⟩ := H
  replace H : (if t109.length + a1.size < 140737488355328 then (some (t109 ++ bytesOf a1)) else (none)) = some r := H
  have A3 := Aside0.mk A30
  clear A30
  by_cases c4 : t109.length + a1.size < 140737488355328
  · rw [if_pos c4] at H
    have LMc4 := Aside0.mk c4
    clear c4
    obtain ⟨y112, hy112⟩ : ∃ y_ : List Int, y_ = (t109 ++ bytesOf a1) := ⟨_, rfl⟩
    replace H : (some y112) = some r := by first | (rw [hy112]; with_reducible exact H) | (have H2_ := (Option.bind_some _ _).symm.trans H; rw [hy112]; with_reducible exact H2_) | (have H2_ := (Option.bind_some _ _).symm.trans H; with_reducible exact H2_) | with_reducible exact H | (rw [hy112]; exact H) | exact H
    have Ny112 := Aside0.mk hy112
    clear hy112
    obtain rfl := Option.some.inj H
    obtain ⟨Ao5, co5, eo5⟩ := Kd.R_slice HO0.out
    subst eo5
    go_enter Tryz.func71, Tryz.ntmps71
    go_wp2_with (first | ((with_reducible refine gate_callee (f := 51) rfl ?_); refine goesL_ (some 8) rfl rfl Tryz.func51 (by kernel_rfl) rfl #[.slice Ao5 l0.length co5, .int .i64 (a1.size : Int)] rfl (by (try simp only [List.map_toArray, List.map_cons, List.map_nil]); first | done | rfl | (simp only [List.length_drop, List.length_take]; rfl)) ?_; (with_reducible refine (num_Put.calls k (fun k_ => some k_ = (.slice Ao5 l0.length co5 : Value).ownBlock) (.slice Ao5 l0.length co5) l0 (a1.size : Int) t109 w0 _ ?side1 ?side2 A3.out).mono ?_); (case side1 => repeat (first | (with_reducible first | exact HB.out | apply below_alloc | apply pw_below_drewN | apply below_drew1) | exact HB.out)); (case side2 => exact Kd.R_tight rfl HO0.out); rintro e w6 ⟨v110, rfl, ho0, hb, hkp⟩; refine ⟨_, rfl, ?_⟩; have n0_ := Aside0.mk (Kd.R_mono (ok' := fun k_ => (P0_ k_ ∨ w.heap.size ≤ k_)) ho0 (fun k_ hk_ => Or.elim hk_ (fun hs_ => (HO0.out.1 k_ (hs_).symm)) (fun hn_ => (.inr (Nat.le_trans (by first | exact HK.out.1 | exact (show Kept w _ (fun k_ => P0_ k_) from by repeat (first | (with_reducible first | exact HK.out | apply Kept.alloc | apply Kept.drewN | apply Kept.drew) | exact HK.out)).1) hn_))))); have n1_ := Aside0.mk (Kept.then_ (S := (fun k_ => P0_ k_)) (by repeat (first | (with_reducible first | exact HK.out | apply Kept.alloc | apply Kept.drewN | apply Kept.drew) | exact HK.out)) hkp (fun k_ hs_ => (fun e_ => (HO0.out.1 k_ e_.symm)) hs_)); have n2_ := Aside0.mk (hb); clear HK; clear HB; clear HO0; have HO111 := n0_; have HK := n1_; have HB := n2_; clear n0_ n1_ n2_; (try clear hb); (try clear hkp); (try clear ho0)) | (at_builtin; refine print_append_str (w0 := w0) w0.heap.size rfl (.tmp 8) _ 22 9 5 rfl Tryz.underlying22 Tryz.underlying9 info5 v110 t109 a1 rfl rfl ?aO ?aB ?aS ?aL ?_; (case aB => exact (by repeat (first | (with_reducible first | exact HB.out | apply below_alloc | apply pw_below_drewN | apply below_drew1) | exact HB.out))); (case aO => exact (Kd.own_of_R (by (with_reducible repeat (first | apply Kd.R_alloc | apply Kd.R_drewN | apply Kd.R_drew)); exact HO111.out))); (case aS => exact (below_size (by repeat (first | (with_reducible first | exact HB.out | apply below_alloc | apply pw_below_drewN | apply below_drew1) | exact HB.out)))); (case aL => have := LMc4.out; omega); intro v113 w7 ho0 hb hg; have ho := Kd.R_of_own (h1 := fun _ => rfl) (ok := fun _ => True) ho0 (fun _ _ => trivial); clear ho0; have hat := True.intro; rw [← Ny112.out] at ho; change Kd.R (Kd.int .u8) 5 w7 w0.heap.size (fun _ => True) v113 y112 at ho; have n0_ := Aside0.mk (hb); have n1_ := Aside0.mk (Kept.of_grown (S := (fun k_ => P0_ k_)) hg (by repeat (first | (with_reducible first | exact HK.out | apply Kept.alloc | apply Kept.drewN | apply Kept.drew) | exact HK.out)) (fun k_ e_ => (HO111.out.1 k_ e_))); have n2_ := Aside0.mk (ho); clear HB; clear HK; clear HO111; have HB := n0_; have HK := n1_; have HO114 := n2_; clear n0_ n1_ n2_; clear ho hb hg hat))
    go_ret
    exact ⟨_, by first | rfl | (simp [errW_none, errW_some] <;> rfl) | (simp [*, errW_none, errW_some] <;> rfl), by (with_reducible repeat (first | apply Kd.R_alloc | apply Kd.R_drewN | apply Kd.R_drew)); exact HO114.out, by repeat (first | (with_reducible first | exact HB.out | apply below_alloc | apply pw_below_drewN | apply below_drew1) | exact HB.out), by repeat (first | (with_reducible first | exact HK.out | apply Kept.alloc | apply Kept.drewN | apply Kept.drew) | exact HK.out)⟩
  · rw [if_neg c4] at H
    exact absurd H (by simp)
/-! ### reg_Encode: function 25 -/
noncomputable def reg_Encode.f (k : Nat) (a0_0 : Int) (a0_1 : Int) (a0_2 : Int) (a0_3 : ByteArray) : Option (ByteArray) := (reg_May.f a0_0 a0_1 a0_2 a0_3).bind fun t116 => (if t116 = true then ((num_Put.f k ([] : List Int) a0_0).bind fun t117 => ((num_Put.f k t117 a0_1).bind fun t120 => ((num_Put.f k t120 a0_2).bind fun t123 => ((num_PutText.f k t123 a0_3).bind fun t126 => (some (strOfNums t126)))))) else (some (⟨#[]⟩ : ByteArray)))
theorem reg_Encode.mono : ∀ a0 a1 a2 a3 k, LeO (reg_Encode.f k a0 a1 a2 a3) (reg_Encode.f (k + 1) a0 a1 a2 a3) := by
  intro a0 a1 a2 a3 k
  unfold reg_Encode.f
  repeat' first
      | (with_reducible exact num_Put.mono _ _ _)
      | (with_reducible exact num_PutText.mono _ _ _)
      | (with_reducible exact LeO.refl _)
      | (with_reducible exact LeO.none _)
      | (with_reducible refine LeO.ite ?_ ?_)
      | (with_reducible refine LeO.bind ?_ (fun _ => ?_))
      | exact num_Put.mono _ _ _
      | exact num_PutText.mono _ _ _
      | exact LeO.none _
      | refine LeO.ite ?_ ?_
      | refine LeO.bind ?_ (fun _ => ?_)
noncomputable def reg_Encode.T3 : Bool × List (List Nat × List Nat) := (true, [([], []), ([0], [0]), ([1], [1]), ([], []), ([3], [3]), ([2, 4, 2], [2, 4]), ([], []), ([6], [6]), ([5, 7, 5], [5, 7]), ([8, 8, 0, 1, 2, 3, 4, 5, 6, 7, 8], [8])])
noncomputable def reg_Encode.B3 : List Nat := [0, 1, 3, 0, 8, 31, 0, 64, 255, 511]
theorem reg_Encode.tab3 : rtab .any (opsOf Tryz.f25 3) = reg_Encode.T3 := by kernel_rfl
theorem reg_Encode.bits3 : waitsOk reg_Encode.T3.2 reg_Encode.B3 = true := by kernel_rfl
set_option maxHeartbeats 8000000 in
set_option maxRecDepth 100000 in
theorem reg_Encode.calls (k : Nat) (a0_0 : Int) (a0_1 : Int) (a0_2 : Int) (a0_3 : ByteArray) (r : ByteArray) (w : World) (h : reg_Encode.f k a0_0 a0_1 a0_2 a0_3 = some r) :
    Calls Tryz.prog 25 #[.agg #[.int .i64 a0_0, .int .i64 a0_1, .int .i64 a0_2, .string a0_3]] w fun e w' => e = .returned (.string r) ∧ Below w.heap.size w w' := by
  have hu55 := Tryz.underlying55
  have HB := Aside0.mk (Below.refl w.heap.size w)
  have H : ((reg_May.f a0_0 a0_1 a0_2 a0_3).bind fun t116 => (if t116 = true then ((num_Put.f k ([] : List Int) a0_0).bind fun t117 => ((num_Put.f k t117 a0_1).bind fun t120 => ((num_Put.f k t120 a0_2).bind fun t123 => ((num_PutText.f k t123 a0_3).bind fun t126 => (some (strOfNums t126)))))) else (some (⟨#[]⟩ : ByteArray)))) = some r := h
  clear h
  replace H := Option.bind_eq_some_iff.mp H
  obtain ⟨t116, A20, H⟩ := H
  replace H : (if t116 = true then ((num_Put.f k ([] : List Int) a0_0).bind fun t117 => ((num_Put.f k t117 a0_1).bind fun t120 => ((num_Put.f k t120 a0_2).bind fun t123 => ((num_PutText.f k t123 a0_3).bind fun t126 => (some (strOfNums t126)))))) else (some (⟨#[]⟩ : ByteArray))) = some r := H
  have A2 := Aside0.mk A20
  clear A20
  by_cases c3 : t116 = true
  · subst c3
    have H1 : ((num_Put.f k ([] : List Int) a0_0).bind fun t117 => ((num_Put.f k t117 a0_1).bind fun t120 => ((num_Put.f k t120 a0_2).bind fun t123 => ((num_PutText.f k t123 a0_3).bind fun t126 => (some (strOfNums t126)))))) = some r := by rw [if_pos rfl] at H; exact H
    clear H
    have H := H1
    clear H1
    replace H := Option.bind_eq_some_iff.mp H
    obtain ⟨t117, A40, H⟩ := H
    replace H : ((num_Put.f k t117 a0_1).bind fun t120 => ((num_Put.f k t120 a0_2).bind fun t123 => ((num_PutText.f k t123 a0_3).bind fun t126 => (some (strOfNums t126))))) = some r := H
    have A4 := Aside0.mk A40
    clear A40
    replace H := Option.bind_eq_some_iff.mp H
    obtain ⟨t120, A50, H⟩ := H
    replace H : ((num_Put.f k t120 a0_2).bind fun t123 => ((num_PutText.f k t123 a0_3).bind fun t126 => (some (strOfNums t126)))) = some r := H
    have A5 := Aside0.mk A50
    clear A50
    replace H := Option.bind_eq_some_iff.mp H
    obtain ⟨t123, A60, H⟩ := H
    replace H : ((num_PutText.f k t123 a0_3).bind fun t126 => (some (strOfNums t126))) = some r := H
    have A6 := Aside0.mk A60
    clear A60
    replace H := Option.bind_eq_some_iff.mp H
    obtain ⟨t126, A70, H⟩ := H
    replace H : (some (strOfNums t126)) = some r := H
    have A7 := Aside0.mk A70
    clear A70
    obtain rfl := Option.some.inj H
    go_enter Tryz.func25, Tryz.ntmps25
    try go_wp2_with (first | ((with_reducible refine gate_dst (N := 1) rfl ?_); refine box_event ?hg (N := 1) ?hd (cs := #[.int .i64 a0_0, .int .i64 a0_1, .int .i64 a0_2, .string a0_3]) (t := 55) ?hr ?_; (case hd => rfl); (case hg => rfl); (case hr => first | (go_simp; done) | (go_simp; rfl)); intro gb115 hg w8 hbox hb; have n0_ := Aside0.mk (below_step (by repeat (first | (with_reducible first | exact HB.out | apply below_alloc | apply pw_below_drewN | apply below_drew1) | exact HB.out)) hb); have n1_ := Aside0.mk (hbox); have n2_ := Aside0.mk ((by rw [hg]; exact (below_size (by repeat (first | (with_reducible first | exact HB.out | apply below_alloc | apply pw_below_drewN | apply below_drew1) | exact HB.out))) : w.heap.size ≤ gb115)); have n3_ := Aside0.mk ((by rw [hg]; exact (below_size (by repeat (first | (with_reducible first | exact HB.out | apply below_alloc | apply pw_below_drewN | apply below_drew1) | exact HB.out))) : w.heap.size ≤ gb115)); clear HB; have HB := n0_; have BK115 := n1_; have GW115 := n2_; have GE115 := n3_; clear n0_ n1_ n2_ n3_; clear hb hbox hg; have hcz9_0 : w8.cell? ⟨gb115, 0, none⟩ = some (.int .i64 a0_0) := (blk_cell BK115.out 0).trans rfl; have hcz9_1 : w8.cell? ⟨gb115, 1, none⟩ = some (.int .i64 a0_1) := (blk_cell BK115.out 1).trans rfl; have hcz9_2 : w8.cell? ⟨gb115, 2, none⟩ = some (.int .i64 a0_2) := (blk_cell BK115.out 2).trans rfl; have hcz9_3 : w8.cell? ⟨gb115, 3, none⟩ = some (.string a0_3) := (blk_cell BK115.out 3).trans rfl; have hfz9_0 := blk_frozen BK115.out 0; have hfz9_1 := blk_frozen BK115.out 1; have hfz9_2 := blk_frozen BK115.out 2; have hfz9_3 := blk_frozen BK115.out 3) | ((with_reducible refine gate_callee (f := 27) rfl ?_); refine goesL_ (some 5) rfl rfl Tryz.func27 (by kernel_rfl) rfl #[.agg #[.int .i64 a0_0, .int .i64 a0_1, .int .i64 a0_2, .string a0_3]] rfl (by (try simp only [List.map_toArray, List.map_cons, List.map_nil]); first | done | rfl | (simp only [List.length_drop, List.length_take]; rfl)) ?_; (with_reducible refine (reg_May.calls a0_0 a0_1 a0_2 a0_3 true _ A2.out).mono ?_); rintro e w10 ⟨rfl, hb⟩; refine ⟨_, rfl, ?_⟩; have n0_ := Aside0.mk (blk_below (g := gb115) (o := .cells #[.int .i64 a0_0, .int .i64 a0_1, .int .i64 a0_2, .string a0_3] 55 (0, 0)) (by (with_reducible repeat (first | refine blk_drewN ?_ _ | refine blk_drew ?_ | refine blk_alloc ?_ _)); exact BK115.out) hb); have n1_ := Aside0.mk (below_step (by repeat (first | (with_reducible first | exact HB.out | apply below_alloc | apply pw_below_drewN | apply below_drew1 | refine below_set ?_ GE115.out) | exact HB.out)) hb); clear BK115; clear HB; have BK115 := n0_; have HB := n1_; clear n0_ n1_; (try clear hb); (try clear hb2); (try clear hk); (try clear hi)))
    have n0_ := Aside0.mk (blk_drew BK115.out)
    have n1_ := Aside0.mk (below_drew1 HB.out)
    clear BK115
    clear HB
    have BK115 := n0_
    have HB := n1_
    clear n0_ n1_
    refine start_ (n := 10) (S := fun w' => w'.cell? ⟨gb115, 0, none⟩ = some (.int .i64 a0_0) ∧ w'.cell? ⟨gb115, 1, none⟩ = some (.int .i64 a0_1) ∧ w'.cell? ⟨gb115, 2, none⟩ = some (.int .i64 a0_2) ∧ w'.cell? ⟨gb115, 3, none⟩ = some (.string a0_3)) (ds := []) #[false, false, false, false, false, false, false, false, false, false] (by kernel_rfl) rfl rfl ⟨(blk_cell BK115.out 0).trans rfl, (blk_cell BK115.out 1).trans rfl, (blk_cell BK115.out 2).trans rfl, (blk_cell BK115.out 3).trans rfl⟩ (fun hHeld => ?_); refine with_tabW reg_Encode.tab3 reg_Encode.bits3 (fun HT_ HW_ => ?_)
    generalize w10.drew = w11 at BK115 HB hHeld ⊢
    refine pure_ (i := 0) (N := some 7) (v := ?_) (a' := ?_) #[true, false, false, false, false, false, false, false, false, false] rfl rfl (any_of HT_.out (by kernel_rfl)) (fun _ _ _ h => h) (Or.inl ⟨by rfl, ?_⟩) ?_ ?_
    rotate_left
    · intro w'
      go_simp
      with_reducible rfl
    rotate_left
    · simp only [Act.put, List.setIfInBounds_toArray, List.set_cons_zero, List.set_cons_succ, i64_w, i32_w]
      rfl
    refine pure_ (i := 3) (N := some 10) (v := ?_) (a' := ?_) #[true, false, false, true, false, false, false, false, false, false] rfl rfl (any_of HT_.out (by kernel_rfl)) (fun _ _ _ h => h) (Or.inl ⟨by rfl, ?_⟩) ?_ ?_
    rotate_left
    · intro w'
      go_simp
      with_reducible rfl
    rotate_left
    · simp only [Act.put, List.setIfInBounds_toArray, List.set_cons_zero, List.set_cons_succ, i64_w, i32_w]
      rfl
    refine pure_ (i := 6) (N := some 13) (v := ?_) (a' := ?_) #[true, false, false, true, false, false, true, false, false, false] rfl rfl (any_of HT_.out (by kernel_rfl)) (fun _ _ _ h => h) (Or.inl ⟨by rfl, ?_⟩) ?_ ?_
    rotate_left
    · intro w'
      go_simp
      with_reducible rfl
    rotate_left
    · simp only [Act.put, List.setIfInBounds_toArray, List.set_cons_zero, List.set_cons_succ, i64_w, i32_w]
      rfl
    refine take_ (i := 1) (N := some 8) (v := ?_) (a' := ?_) #[true, true, false, true, false, false, true, false, false, false] rfl rfl (take_ofW HT_.out HW_.out (by kernel_rfl)) (fun _ _ _ h => h) (Or.inl ⟨by rfl, ?_⟩) hHeld ?_ ?_
    rotate_left
    · rintro w' ⟨s0, s1, s2, s3⟩
      go_simp
      with_reducible rfl
    rotate_left
    · simp only [Act.put, List.setIfInBounds_toArray, List.set_cons_zero, List.set_cons_succ, i64_w, i32_w]
      rfl
    refine take_ (i := 4) (N := some 11) (v := ?_) (a' := ?_) #[true, true, false, true, true, false, true, false, false, false] rfl rfl (take_ofW HT_.out HW_.out (by kernel_rfl)) (fun _ _ _ h => h) (Or.inl ⟨by rfl, ?_⟩) hHeld ?_ ?_
    rotate_left
    · rintro w' ⟨s0, s1, s2, s3⟩
      go_simp
      with_reducible rfl
    rotate_left
    · simp only [Act.put, List.setIfInBounds_toArray, List.set_cons_zero, List.set_cons_succ, i64_w, i32_w]
      rfl
    refine take_ (i := 7) (N := some 14) (v := ?_) (a' := ?_) #[true, true, false, true, true, false, true, true, false, false] rfl rfl (take_ofW HT_.out HW_.out (by kernel_rfl)) (fun _ _ _ h => h) (Or.inl ⟨by rfl, ?_⟩) hHeld ?_ ?_
    rotate_left
    · rintro w' ⟨s0, s1, s2, s3⟩
      go_simp
      with_reducible rfl
    rotate_left
    · simp only [Act.put, List.setIfInBounds_toArray, List.set_cons_zero, List.set_cons_succ, i64_w, i32_w]
      rfl
    refine one_ (i := 2) (N := some 9) #[true, true, true, true, true, false, true, true, false, false] rfl rfl (one_of HT_.out (by kernel_rfl)) (by decide) (fun K hK => ?_)
    refine goes_ Tryz.func51 (by kernel_rfl) rfl #[.slice none 0 0, .int .i64 a0_0] (by rfl) rfl rfl (by (try simp only [List.map_toArray, List.map_cons, List.map_nil]); first | done | rfl | (simp only [List.length_drop, List.length_take]; rfl)) ?_
    refine (num_Put.calls k (fun k_ => some k_ = (.slice none 0 0 : Value).ownBlock) (.slice none 0 0) ([] : List Int) a0_0 t117 w _ ?side1 ?side2 A4.out).mono ?_
    (case side1 => repeat (first | (with_reducible first | exact HB.out | apply below_alloc | apply pw_below_drewN | apply below_drew1 | refine below_set ?_ GE115.out) | exact HB.out))
    (case side2 => exact Kd.R_nil _ _ _ _ _)
    rintro e w12 ⟨v118, rfl, ho0, hb, hkp⟩
    refine ⟨_, rfl, ?_⟩
    have n0_ := Aside0.mk (blk_kept (by (with_reducible repeat (first | refine blk_drewN ?_ _ | refine blk_drew ?_ | refine blk_alloc ?_ _)); exact BK115.out) hkp (fun hs_ => (fun e_ => by simp [Value.ownBlock] at e_) hs_))
    have n1_ := Aside0.mk (Kd.R_mono (ok' := fun k_ => True) ho0 (fun k_ hk_ => trivial))
    have n2_ := Aside0.mk (hb)
    clear BK115
    clear HB
    have BK115 := n0_
    have HO119 := n1_
    have HB := n2_
    clear n0_ n1_ n2_
    (try clear hb)
    (try clear hkp)
    (try clear ho0)
    obtain ⟨Ao13, co13, eo13⟩ := Kd.R_slice HO119.out
    (first | subst eo13 | (injection eo13 with f1_ f2_ f3_; have f4_ := f1_.symm; have f5_ := f3_.symm; clear f1_ f2_ f3_; subst f4_; subst f5_))
    refine hK.out _ _ ⟨(blk_cell BK115.out 0).trans rfl, (blk_cell BK115.out 1).trans rfl, (blk_cell BK115.out 2).trans rfl, (blk_cell BK115.out 3).trans rfl⟩ (fun hHeld => ?_)
    clear hK K
    refine norm_ (a' := ?_) ?_ ?_
    rotate_left
    · show Act.put _ (some 9) _ = _
      simp only [Act.put, List.setIfInBounds_toArray, List.set_cons_zero, List.set_cons_succ, i64_w, i32_w]
      rfl
    refine one_ (i := 5) (N := some 12) #[true, true, true, true, true, true, true, true, false, false] rfl rfl (one_of HT_.out (by kernel_rfl)) (by decide) (fun K hK => ?_)
    refine goes_ Tryz.func51 (by kernel_rfl) rfl #[.slice Ao13 t117.length co13, .int .i64 a0_1] (by rfl) rfl rfl (by (try simp only [List.map_toArray, List.map_cons, List.map_nil]); first | done | rfl | (simp only [List.length_drop, List.length_take]; rfl)) ?_
    with_reducible refine (num_Put.calls k (fun k_ => some k_ = (.slice Ao13 t117.length co13 : Value).ownBlock) (.slice Ao13 t117.length co13) t117 a0_1 t120 w _ ?side1 ?side2 A5.out).mono ?_
    (case side1 => repeat (first | (with_reducible first | exact HB.out | apply below_alloc | apply pw_below_drewN | apply below_drew1 | refine below_set ?_ GE115.out) | exact HB.out))
    (case side2 => exact Kd.R_tight rfl HO119.out)
    rintro e w14 ⟨v121, rfl, ho0, hb, hkp⟩
    refine ⟨_, rfl, ?_⟩
    have n0_ := Aside0.mk (blk_kept (by (with_reducible repeat (first | refine blk_drewN ?_ _ | refine blk_drew ?_ | refine blk_alloc ?_ _)); exact BK115.out) hkp (fun hs_ => (fun e_ => (Kd.R_ne HO119.out BK115.out (by decide)) e_) hs_))
    have n1_ := Aside0.mk (Kd.R_mono (ok' := fun k_ => True) ho0 (fun k_ hk_ => trivial))
    have n2_ := Aside0.mk (hb)
    clear BK115
    clear HB
    clear HO119
    have BK115 := n0_
    have HO122 := n1_
    have HB := n2_
    clear n0_ n1_ n2_
    (try clear hb)
    (try clear hkp)
    (try clear ho0)
    obtain ⟨Ao15, co15, eo15⟩ := Kd.R_slice HO122.out
    (first | subst eo15 | (injection eo15 with f1_ f2_ f3_; have f4_ := f1_.symm; have f5_ := f3_.symm; clear f1_ f2_ f3_; subst f4_; subst f5_))
    refine hK.out _ _ ⟨(blk_cell BK115.out 0).trans rfl, (blk_cell BK115.out 1).trans rfl, (blk_cell BK115.out 2).trans rfl, (blk_cell BK115.out 3).trans rfl⟩ (fun hHeld => ?_)
    clear hK K
    refine norm_ (a' := ?_) ?_ ?_
    rotate_left
    · show Act.put _ (some 12) _ = _
      simp only [Act.put, List.setIfInBounds_toArray, List.set_cons_zero, List.set_cons_succ, i64_w, i32_w]
      rfl
    refine one_ (i := 8) (N := some 15) #[true, true, true, true, true, true, true, true, true, false] rfl rfl (one_of HT_.out (by kernel_rfl)) (by decide) (fun K hK => ?_)
    refine goes_ Tryz.func51 (by kernel_rfl) rfl #[.slice Ao15 t120.length co15, .int .i64 a0_2] (by rfl) rfl rfl (by (try simp only [List.map_toArray, List.map_cons, List.map_nil]); first | done | rfl | (simp only [List.length_drop, List.length_take]; rfl)) ?_
    with_reducible refine (num_Put.calls k (fun k_ => some k_ = (.slice Ao15 t120.length co15 : Value).ownBlock) (.slice Ao15 t120.length co15) t120 a0_2 t123 w _ ?side1 ?side2 A6.out).mono ?_
    (case side1 => repeat (first | (with_reducible first | exact HB.out | apply below_alloc | apply pw_below_drewN | apply below_drew1 | refine below_set ?_ GE115.out) | exact HB.out))
    (case side2 => exact Kd.R_tight rfl HO122.out)
    rintro e w16 ⟨v124, rfl, ho0, hb, hkp⟩
    refine ⟨_, rfl, ?_⟩
    have n0_ := Aside0.mk (blk_kept (by (with_reducible repeat (first | refine blk_drewN ?_ _ | refine blk_drew ?_ | refine blk_alloc ?_ _)); exact BK115.out) hkp (fun hs_ => (fun e_ => (Kd.R_ne HO122.out BK115.out (by decide)) e_) hs_))
    have n1_ := Aside0.mk (Kd.R_mono (ok' := fun k_ => True) ho0 (fun k_ hk_ => trivial))
    have n2_ := Aside0.mk (hb)
    clear BK115
    clear HB
    clear HO122
    have BK115 := n0_
    have HO125 := n1_
    have HB := n2_
    clear n0_ n1_ n2_
    (try clear hb)
    (try clear hkp)
    (try clear ho0)
    refine hK.out _ _ ⟨(blk_cell BK115.out 0).trans rfl, (blk_cell BK115.out 1).trans rfl, (blk_cell BK115.out 2).trans rfl, (blk_cell BK115.out 3).trans rfl⟩ (fun hHeld => ?_)
    clear hK K
    refine norm_ (a' := ?_) ?_ ?_
    rotate_left
    · show Act.put _ (some 15) _ = _
      simp only [Act.put, List.setIfInBounds_toArray, List.set_cons_zero, List.set_cons_succ, i64_w, i32_w]
      rfl
    refine pure_ (i := 9) (N := some 3) (v := ?_) (a' := ?_) #[true, true, true, true, true, true, true, true, true, true] rfl rfl (any_of HT_.out (by kernel_rfl)) (fun _ _ _ h => h) (Or.inl ⟨by rfl, ?_⟩) ?_ ?_
    rotate_left
    · intro w'
      go_simp
      with_reducible rfl
    rotate_left
    · simp only [Act.put, List.setIfInBounds_toArray, List.set_cons_zero, List.set_cons_succ, i64_w, i32_w]
      rfl
    refine done_ (done_of HT_.out (by kernel_rfl)) ?_
    have hcz17_0 : w16.cell? ⟨gb115, 0, none⟩ = some (.int .i64 a0_0) := (blk_cell BK115.out 0).trans rfl
    have hcz17_1 : w16.cell? ⟨gb115, 1, none⟩ = some (.int .i64 a0_1) := (blk_cell BK115.out 1).trans rfl
    have hcz17_2 : w16.cell? ⟨gb115, 2, none⟩ = some (.int .i64 a0_2) := (blk_cell BK115.out 2).trans rfl
    have hcz17_3 : w16.cell? ⟨gb115, 3, none⟩ = some (.string a0_3) := (blk_cell BK115.out 3).trans rfl
    have hfz17_0 := blk_frozen BK115.out 0
    have hfz17_1 := blk_frozen BK115.out 1
    have hfz17_2 := blk_frozen BK115.out 2
    have hfz17_3 := blk_frozen BK115.out 3
    obtain ⟨Ao18, co18, eo18⟩ := Kd.R_slice HO125.out
    subst eo18
    try go_wp2_with (first | ((with_reducible refine gate_callee (f := 71) rfl ?_); refine goesL_ (some 19) rfl rfl Tryz.func71 (by kernel_rfl) rfl #[.slice Ao18 t123.length co18, .string a0_3] rfl (by (try simp only [List.map_toArray, List.map_cons, List.map_nil]); first | done | rfl | (simp only [List.length_drop, List.length_take]; rfl)) ?_; (with_reducible refine (num_PutText.calls k (fun k_ => some k_ = (.slice Ao18 t123.length co18 : Value).ownBlock) (.slice Ao18 t123.length co18) t123 a0_3 t126 w _ ?side1 ?side2 A7.out).mono ?_); (case side1 => repeat (first | (with_reducible first | exact HB.out | apply below_alloc | apply pw_below_drewN | apply below_drew1 | refine below_set ?_ GE115.out) | exact HB.out)); (case side2 => exact Kd.R_tight rfl HO125.out); rintro e w19 ⟨v127, rfl, ho0, hb, hkp⟩; refine ⟨_, rfl, ?_⟩; have n0_ := Aside0.mk (blk_kept (by (with_reducible repeat (first | refine blk_drewN ?_ _ | refine blk_drew ?_ | refine blk_alloc ?_ _)); exact BK115.out) hkp (fun hs_ => (fun e_ => (Kd.R_ne HO125.out BK115.out (by decide)) e_) hs_)); have n1_ := Aside0.mk (Kd.R_mono (ok' := fun k_ => True) ho0 (fun k_ hk_ => trivial)); have n2_ := Aside0.mk (hb); clear BK115; clear HB; clear HO125; have BK115 := n0_; have HO128 := n1_; have HB := n2_; clear n0_ n1_ n2_; (try clear hb); (try clear hkp); (try clear ho0); have hcv20 := own_string (P := Tryz.prog) Tryz.underlying22 Tryz.underlying5 Tryz.underlying9 (Kd.own_of_R HO128.out)))
    go_ret
    exact ⟨by first | rfl | (simp [errW_none, errW_some] <;> rfl) | (simp [*, errW_none, errW_some] <;> rfl), by repeat (first | (with_reducible first | exact HB.out | apply below_alloc | apply pw_below_drewN | apply below_drew1 | refine below_set ?_ GE115.out) | exact HB.out)⟩
  · replace c3 := Bool.eq_false_iff.mpr c3
    subst c3
    have H1 : (some (⟨#[]⟩ : ByteArray)) = some r := by rw [if_neg (show ¬ (false = true) by decide)] at H; exact H
    clear H
    have H := H1
    clear H1
    obtain rfl := Option.some.inj H
    go_enter Tryz.func25, Tryz.ntmps25
    go_wp2_with (first | ((with_reducible refine gate_dst (N := 1) rfl ?_); refine box_event ?hg (N := 1) ?hd (cs := #[.int .i64 a0_0, .int .i64 a0_1, .int .i64 a0_2, .string a0_3]) (t := 55) ?hr ?_; (case hd => rfl); (case hg => rfl); (case hr => first | (go_simp; done) | (go_simp; rfl)); intro gb115 hg w21 hbox hb; have n0_ := Aside0.mk (below_step (by repeat (first | (with_reducible first | exact HB.out | apply below_alloc | apply pw_below_drewN | apply below_drew1) | exact HB.out)) hb); have n1_ := Aside0.mk (hbox); have n2_ := Aside0.mk ((by rw [hg]; exact (below_size (by repeat (first | (with_reducible first | exact HB.out | apply below_alloc | apply pw_below_drewN | apply below_drew1) | exact HB.out))) : w.heap.size ≤ gb115)); have n3_ := Aside0.mk ((by rw [hg]; exact (below_size (by repeat (first | (with_reducible first | exact HB.out | apply below_alloc | apply pw_below_drewN | apply below_drew1) | exact HB.out))) : w.heap.size ≤ gb115)); clear HB; have HB := n0_; have BK115 := n1_; have GW115 := n2_; have GE115 := n3_; clear n0_ n1_ n2_ n3_; clear hb hbox hg; have hcz22_0 : w21.cell? ⟨gb115, 0, none⟩ = some (.int .i64 a0_0) := (blk_cell BK115.out 0).trans rfl; have hcz22_1 : w21.cell? ⟨gb115, 1, none⟩ = some (.int .i64 a0_1) := (blk_cell BK115.out 1).trans rfl; have hcz22_2 : w21.cell? ⟨gb115, 2, none⟩ = some (.int .i64 a0_2) := (blk_cell BK115.out 2).trans rfl; have hcz22_3 : w21.cell? ⟨gb115, 3, none⟩ = some (.string a0_3) := (blk_cell BK115.out 3).trans rfl; have hfz22_0 := blk_frozen BK115.out 0; have hfz22_1 := blk_frozen BK115.out 1; have hfz22_2 := blk_frozen BK115.out 2; have hfz22_3 := blk_frozen BK115.out 3) | ((with_reducible refine gate_callee (f := 27) rfl ?_); refine goesL_ (some 5) rfl rfl Tryz.func27 (by kernel_rfl) rfl #[.agg #[.int .i64 a0_0, .int .i64 a0_1, .int .i64 a0_2, .string a0_3]] rfl (by (try simp only [List.map_toArray, List.map_cons, List.map_nil]); first | done | rfl | (simp only [List.length_drop, List.length_take]; rfl)) ?_; (with_reducible refine (reg_May.calls a0_0 a0_1 a0_2 a0_3 false _ A2.out).mono ?_); rintro e w23 ⟨rfl, hb⟩; refine ⟨_, rfl, ?_⟩; have n0_ := Aside0.mk (blk_below (g := gb115) (o := .cells #[.int .i64 a0_0, .int .i64 a0_1, .int .i64 a0_2, .string a0_3] 55 (0, 0)) (by (with_reducible repeat (first | refine blk_drewN ?_ _ | refine blk_drew ?_ | refine blk_alloc ?_ _)); exact BK115.out) hb); have n1_ := Aside0.mk (below_step (by repeat (first | (with_reducible first | exact HB.out | apply below_alloc | apply pw_below_drewN | apply below_drew1 | refine below_set ?_ GE115.out) | exact HB.out)) hb); clear BK115; clear HB; have BK115 := n0_; have HB := n1_; clear n0_ n1_; (try clear hb); (try clear hb2); (try clear hk); (try clear hi)))
    go_ret
    exact ⟨by first | rfl | (simp [errW_none, errW_some] <;> rfl) | (simp [*, errW_none, errW_some] <;> rfl), by repeat (first | (with_reducible first | exact HB.out | apply below_alloc | apply pw_below_drewN | apply below_drew1 | refine below_set ?_ GE115.out) | exact HB.out)⟩
/-! ### num_Get: function 134 -/
mutual
noncomputable def num_Get.l0 : Nat → Int → List Int → Int → Int → Option (Int × Int × Int)
  | 0, _, _, _, _ => none
  | k + 1, x5, x9, x10, x11 => if x11 < x10 then (if 0 ≤ x11 then (if x11 < (x9.length : Int) then (if x11 = 9 then (num_Get.j1 k x5 x11 (rd x9 x11) x9 x10 x11 (decide ((rd x9 x11) > 1))) else (num_Get.j1 k x5 x11 (rd x9 x11) x9 x10 x11 false)) else (none)) else (none)) else (some (0, 0, 2))
noncomputable def num_Get.j1 : Nat → Int → Int → Int → List Int → Int → Int → Bool → Option (Int × Int × Int)
  | 0, _, _, _, _, _, _, _ => none
  | k + 1, x5, x6, x7, x9, x10, x11, x21 => if x21 = true then (some (0, 0, 1)) else (if 0 ≤ (wrap64 (7 * x6)) then (if x7 > 127 then (num_Get.l0 k (Go.bits .or .u64 x5 (shl .u64 (IntKind.u64.wrap (Go.bits .and .u8 x7 127)) (wrap64 (7 * x6)))) x9 x10 (wrap64 (x11 + 1))) else (if x6 > 0 then (num_Get.j2 k (Go.bits .or .u64 x5 (shl .u64 (IntKind.u64.wrap (Go.bits .and .u8 x7 127)) (wrap64 (7 * x6)))) x6 (x7 == 0)) else (num_Get.j2 k (Go.bits .or .u64 x5 (shl .u64 (IntKind.u64.wrap (Go.bits .and .u8 x7 127)) (wrap64 (7 * x6)))) x6 false))) else (none))
noncomputable def num_Get.j2 : Nat → Int → Int → Bool → Option (Int × Int × Int)
  | 0, _, _, _ => none
  | k + 1, x5, x6, x37 => if x37 = true then (some (0, 0, 1)) else (if (Go.bits .and .u64 x5 1) = 1 then (some (Go.bits .xor .i64 (-1) (wrap64 (x5 / 2)), wrap64 (x6 + 1), 0)) else (some (wrap64 (x5 / 2), wrap64 (x6 + 1), 0)))
end
noncomputable def num_Get.f (k : Nat) (l0 : List Int) : Option (Int × Int × Int) := num_Get.l0 k 0 l0 (l0.length : Int) 0
theorem num_Get.mono_l : ∀ k, (∀ y0 y1 y2 y3, LeO (num_Get.l0 k y0 y1 y2 y3) (num_Get.l0 (k + 1) y0 y1 y2 y3)) ∧ (∀ y0 y1 y2 y3 y4 y5 y6, LeO (num_Get.j1 k y0 y1 y2 y3 y4 y5 y6) (num_Get.j1 (k + 1) y0 y1 y2 y3 y4 y5 y6)) ∧ (∀ y0 y1 y2, LeO (num_Get.j2 k y0 y1 y2) (num_Get.j2 (k + 1) y0 y1 y2))
  | 0 => ⟨fun _ _ _ _ r h => by simp [num_Get.l0] at h, fun _ _ _ _ _ _ _ r h => by simp [num_Get.j1] at h, fun _ _ _ r h => by simp [num_Get.j2] at h⟩
  | k + 1 => by
    obtain ⟨ih0, ih1, ih2⟩ := num_Get.mono_l k
    refine ⟨?_, ?_, ?_⟩
    · intro y0 y1 y2 y3
      unfold num_Get.l0
      repeat' first
      | (with_reducible exact ih0 _ _ _ _)
      | (with_reducible exact ih1 _ _ _ _ _ _ _)
      | (with_reducible exact ih2 _ _ _)
      | (with_reducible exact LeO.refl _)
      | (with_reducible exact LeO.none _)
      | (with_reducible refine LeO.ite ?_ ?_)
      | (with_reducible refine LeO.bind ?_ (fun _ => ?_))
      | exact ih0 _ _ _ _
      | exact ih1 _ _ _ _ _ _ _
      | exact ih2 _ _ _
      | exact LeO.none _
      | refine LeO.ite ?_ ?_
      | refine LeO.bind ?_ (fun _ => ?_)
    · intro y0 y1 y2 y3 y4 y5 y6
      unfold num_Get.j1
      repeat' first
      | (with_reducible exact ih0 _ _ _ _)
      | (with_reducible exact ih1 _ _ _ _ _ _ _)
      | (with_reducible exact ih2 _ _ _)
      | (with_reducible exact LeO.refl _)
      | (with_reducible exact LeO.none _)
      | (with_reducible refine LeO.ite ?_ ?_)
      | (with_reducible refine LeO.bind ?_ (fun _ => ?_))
      | exact ih0 _ _ _ _
      | exact ih1 _ _ _ _ _ _ _
      | exact ih2 _ _ _
      | exact LeO.none _
      | refine LeO.ite ?_ ?_
      | refine LeO.bind ?_ (fun _ => ?_)
    · intro y0 y1 y2
      unfold num_Get.j2
      repeat' first
      | (with_reducible exact ih0 _ _ _ _)
      | (with_reducible exact ih1 _ _ _ _ _ _ _)
      | (with_reducible exact ih2 _ _ _)
      | (with_reducible exact LeO.refl _)
      | (with_reducible exact LeO.none _)
      | (with_reducible refine LeO.ite ?_ ?_)
      | (with_reducible refine LeO.bind ?_ (fun _ => ?_))
      | exact ih0 _ _ _ _
      | exact ih1 _ _ _ _ _ _ _
      | exact ih2 _ _ _
      | exact LeO.none _
      | refine LeO.ite ?_ ?_
      | refine LeO.bind ?_ (fun _ => ?_)
theorem num_Get.mono : ∀ a0 k, LeO (num_Get.f k a0) (num_Get.f (k + 1) a0) := by
  intro a0 k
  obtain ⟨ih0, ih1, ih2⟩ := num_Get.mono_l k
  unfold num_Get.f
  repeat' first
      | (with_reducible exact ih0 _ _ _ _)
      | (with_reducible exact ih1 _ _ _ _ _ _ _)
      | (with_reducible exact ih2 _ _ _)
      | (with_reducible exact LeO.refl _)
      | (with_reducible exact LeO.none _)
      | (with_reducible refine LeO.ite ?_ ?_)
      | (with_reducible refine LeO.bind ?_ (fun _ => ?_))
      | exact ih0 _ _ _ _
      | exact ih1 _ _ _ _ _ _ _
      | exact ih2 _ _ _
      | exact LeO.none _
      | refine LeO.ite ?_ ?_
      | refine LeO.bind ?_ (fun _ => ?_)
set_option maxHeartbeats 8000000 in
set_option maxRecDepth 100000 in
theorem num_Get.calls (k : Nat) (A0 : Option Addr) (c0 : Nat) (l0 : List Int) (r1 : Int) (r2 : Int) (r3 : Int) (w : World) (hr0 : Kd.C (Kd.int .u8) w A0 l0.length l0) (hc0 : l0.length ≤ c0) (h : num_Get.f k l0 = some (r1, r2, r3)) :
    Calls Tryz.prog 134 #[.slice A0 l0.length c0] w fun e w' => e = .returned (.tuple #[.int .i64 r1, .int .i64 r2, .int .i64 r3]) ∧ Drawn0 w w' := by
  have HR0 := Aside0.mk hr0
  have HC0 := Aside0.mk hc0
  clear hr0 hc0
  have H : (num_Get.l0 k 0 l0 (l0.length : Int) 0) = some (r1, r2, r3) := h
  clear h
  have H' := Aside0.mk H
  clear H
  go_enter Tryz.func134, Tryz.ntmps134
  go_wp2
  go_loopg [5, 11] k (fun kq v5 v11 w' => ∃ (x5_1 : Int) (x11_1 : Int), v5 = .int .u64 x5_1 ∧ v11 = .int .i64 x11_1 ∧ Aside0 (num_Get.l0 kq x5_1 l0 (l0.length : Int) x11_1 = some (r1, r2, r3)) ∧ Aside0 (kq ≤ k) ∧ Drawn0 w w')
  case atStart => exact ⟨(0), (0), (by first | rfl | (simp; done) | (simp [*]; done)), (by first | rfl | (simp; done) | (simp [*]; done)), H', ⟨Nat.le_refl _⟩, by repeat (first | exact Drawn0.refl _ | apply Drawn0.step)⟩
  case round =>
    clear H'
    try clear c1
    obtain ⟨x5_1, x11_1, rfl, rfl, HA, HK1, ⟨m1, rfl⟩⟩ := hrel
    cases gk with
    | zero => exact absurd HA.out (by simp [num_Get.l0])
    | succ k1 =>
      have H := HA.out
      clear HA
      simp only [num_Get.l0] at H
      by_cases c2 : x11_1 < (l0.length : Int)
      · rw [if_pos c2] at H
        have c2b0 : decide (x11_1 < (l0.length : Int)) = true := decide_eq_true c2
        clear c2
        by_cases c3 : 0 ≤ x11_1
        · rw [if_pos c3] at H
          have c3b0 : decide (0 ≤ x11_1) = true := decide_eq_true c3
          clear c3
          by_cases c4 : x11_1 < (l0.length : Int)
          · rw [if_pos c4] at H
            have c4b0 : decide (x11_1 < (l0.length : Int)) = true := decide_eq_true c4
            clear c4
            have HC5 := Aside0.mk H
            clear H
            have p129 : 0 ≤ (x11_1 : Int) := of_decide_eq_true (by first | (with_reducible assumption) | assumption)
            have q129 : x11_1 < (l0.length : Int) := of_decide_eq_true (by first | (with_reducible assumption) | assumption)
            obtain ⟨ad129, e129, hx129_0⟩ := Kd.at_int HR0.out x11_1 p129 q129
            cases e129
            replace p129 := eq_true p129
            replace q129 := eq_true q129
            go_upto_region 5 with (fail)
            go_cut [21] (fun v21 wc => ∃ (kq : Nat) (x21_4 : Bool), v21 = .bool x21_4 ∧ Aside0 (num_Get.j1 kq x5_1 x11_1 (rd l0 x11_1) l0 (l0.length : Int) x11_1 x21_4 = some (r1, r2, r3)) ∧ Aside0 (kq ≤ k1) ∧ Drawn0 w wc)
            case first =>
              have H := HC5.out
              clear HC5
              by_cases c6 : x11_1 = 9
              · rw [if_pos c6] at H
                have c6b0 : (x11_1 == 9) = true := beq_iff_eq.mpr c6
                have c6b1 : (x11_1 != 9) = false := bne_eq_false_iff_eq.mpr c6
                clear c6
                (first | rw [c6b0] | (simp only [i64_w, i32_w]; rw [c6b0]) | skip)
                have H' := Aside0.mk H
                clear H
                go_wp2
                go_meet
                case rel => exact ⟨_, (decide ((rd l0 x11_1) > 1)), (by first | rfl | (simp; done) | (simp [*]; done)), H', ⟨by have := HK1.out; first | omega | exact Nat.le_refl _⟩, by repeat (first | exact Drawn0.refl _ | apply Drawn0.step)⟩
              · rw [if_neg c6] at H
                have c6b0 : (x11_1 == 9) = false := beq_eq_false_iff_ne.mpr c6
                have c6b1 : (x11_1 != 9) = true := bne_iff_ne.mpr c6
                (first | rw [c6b0] | (simp only [i64_w, i32_w]; rw [c6b0]) | skip)
                have H' := Aside0.mk H
                clear H
                go_wp2
                go_meet
                case rel => exact ⟨_, (false), (by first | rfl | (simp; done) | (simp [*]; done)), H', ⟨by have := HK1.out; first | omega | exact Nat.le_refl _⟩, by repeat (first | exact Drawn0.refl _ | apply Drawn0.step)⟩
            case rest =>
              clear HC5
              try clear c1
              try clear p1
              try clear q1
              try clear hx1
              try clear c2
              try clear c2b0
              try clear p2
              try clear c3
              try clear c3b0
              try clear c4
              try clear c4b0
              try clear c6
              try clear c6b0
              try clear c6b1
              try clear hx129_0
              try clear p129
              try clear q129
              obtain ⟨kq, x21_4, rfl, HA, HJ4, ⟨mc4, rfl⟩⟩ := hcut
              cases kq with
              | zero => exact absurd HA.out (by simp [num_Get.j1])
              | succ kj4 =>
                have H := HA.out
                clear HA
                simp only [num_Get.j1] at H
                by_cases c7 : x21_4 = true
                · subst c7
                  have H1 : (some (0, 0, 1)) = some (r1, r2, r3) := by rw [if_pos rfl] at H; exact H
                  clear H
                  have H := H1
                  clear H1
                  simp only [Option.some.injEq, Prod.mk.injEq] at H
                  obtain ⟨rfl, rfl, rfl⟩ := H
                  go_wp2
                  go_ret3
                  exact ⟨by first | rfl | (simp; done) | (simp [*]; done), by repeat (first | exact Drawn0.refl _ | apply Drawn0.step)⟩
                · replace c7 := Bool.eq_false_iff.mpr c7
                  subst c7
                  have H1 : (if 0 ≤ (wrap64 (7 * x11_1)) then (if (rd l0 x11_1) > 127 then (num_Get.l0 kj4 (Go.bits .or .u64 x5_1 (shl .u64 (IntKind.u64.wrap (Go.bits .and .u8 (rd l0 x11_1) 127)) (wrap64 (7 * x11_1)))) l0 (l0.length : Int) (wrap64 (x11_1 + 1))) else (if x11_1 > 0 then (num_Get.j2 kj4 (Go.bits .or .u64 x5_1 (shl .u64 (IntKind.u64.wrap (Go.bits .and .u8 (rd l0 x11_1) 127)) (wrap64 (7 * x11_1)))) x11_1 ((rd l0 x11_1) == 0)) else (num_Get.j2 kj4 (Go.bits .or .u64 x5_1 (shl .u64 (IntKind.u64.wrap (Go.bits .and .u8 (rd l0 x11_1) 127)) (wrap64 (7 * x11_1)))) x11_1 false))) else (none)) = some (r1, r2, r3) := by rw [if_neg (show ¬ (false = true) by decide)] at H; exact H
                  clear H
                  have H := H1
                  clear H1
                  obtain ⟨ji8, hji8⟩ : ∃ j_ : Int, (wrap64 (7 * x11_1)) = j_ := ⟨_, rfl⟩
                  replace H : (if 0 ≤ (ji8) then (if (rd l0 x11_1) > 127 then (num_Get.l0 kj4 (Go.bits .or .u64 x5_1 (shl .u64 (IntKind.u64.wrap (Go.bits .and .u8 (rd l0 x11_1) 127)) (ji8))) l0 (l0.length : Int) (wrap64 (x11_1 + 1))) else (if x11_1 > 0 then (num_Get.j2 kj4 (Go.bits .or .u64 x5_1 (shl .u64 (IntKind.u64.wrap (Go.bits .and .u8 (rd l0 x11_1) 127)) (ji8))) x11_1 ((rd l0 x11_1) == 0)) else (num_Get.j2 kj4 (Go.bits .or .u64 x5_1 (shl .u64 (IntKind.u64.wrap (Go.bits .and .u8 (rd l0 x11_1) 127)) (ji8))) x11_1 false))) else (none)) = some (r1, r2, r3) := by first | (rw [hji8] at H; exact H) | (simp only [hji8] at H ⊢; exact H)
                  have hji8w : (IntKind.i64.wrap (7 * x11_1)) = ji8 := (i64_w _).trans hji8
                  by_cases c9 : 0 ≤ (ji8)
                  · rw [if_pos c9] at H
                    have c9b0 := eq_true c9
                    have c9b1 : decide (0 ≤ (ji8)) = true := decide_eq_true c9
                    clear c9
                    obtain ⟨ji10, hji10⟩ : ∃ j_ : Int, (shl .u64 (IntKind.u64.wrap (Go.bits .and .u8 (rd l0 x11_1) 127)) (ji8)) = j_ := ⟨_, rfl⟩
                    replace H : (if (rd l0 x11_1) > 127 then (num_Get.l0 kj4 (Go.bits .or .u64 x5_1 (ji10)) l0 (l0.length : Int) (wrap64 (x11_1 + 1))) else (if x11_1 > 0 then (num_Get.j2 kj4 (Go.bits .or .u64 x5_1 (ji10)) x11_1 ((rd l0 x11_1) == 0)) else (num_Get.j2 kj4 (Go.bits .or .u64 x5_1 (ji10)) x11_1 false))) = some (r1, r2, r3) := by first | (rw [hji10] at H; exact H) | (simp only [hji10] at H ⊢; exact H)
                    have hji10_ : (IntKind.u64.wrap ((IntKind.u64.wrap (Go.bits .and .u8 (rd l0 x11_1) 127)) * 2 ^ min (ji8).toNat 64)) = ji10 := hji10
                    have hji10z : (ji8) ≤ 64 → (IntKind.u64.wrap ((IntKind.u64.wrap (Go.bits .and .u8 (rd l0 x11_1) 127)) * 2 ^ (ji8).toNat)) = ji10 := shl_small hji10
                    by_cases c11 : (rd l0 x11_1) > 127
                    · rw [if_pos c11] at H
                      have c11b0 : decide (127 < (rd l0 x11_1)) = true := decide_eq_true c11
                      clear c11
                      have H' := Aside0.mk H
                      clear H
                      go_wp2
                      go_roundg kj4
                      case measure => have := HK1.out; have := HJ4.out; omega
                      case rel => exact ⟨(Go.bits .or .u64 x5_1 (ji10)), (wrap64 (x11_1 + 1)), (by first | rfl | (simp; done) | (simp only [← hji10] <;> (first | rfl | simp)) | (simp [*]; done)), (by first | rfl | (simp; done) | (simp [*]; done)), H', ⟨by have := HK1.out; have := HJ4.out; omega⟩, by repeat (first | exact Drawn0.refl _ | apply Drawn0.step)⟩
                    · rw [if_neg c11] at H
                      have c11b0 : decide (127 < (rd l0 x11_1)) = false := decide_eq_false c11
                      clear c11
                      have HC12 := Aside0.mk H
                      clear H
                      go_upto_region 9 with (fail)
                      go_cut [37] (fun v37 wc => ∃ (kq : Nat) (x37_11 : Bool), v37 = .bool x37_11 ∧ Aside0 (num_Get.j2 kq (Go.bits .or .u64 x5_1 (ji10)) x11_1 x37_11 = some (r1, r2, r3)) ∧ Aside0 (kq ≤ kj4) ∧ Drawn0 w wc)
                      case first =>
                        have H := HC12.out
                        clear HC12
                        by_cases c13 : x11_1 > 0
                        · rw [if_pos c13] at H
                          have c13b0 : decide (0 < x11_1) = true := decide_eq_true c13
                          clear c13
                          (first | rw [c13b0] | (simp only [i64_w, i32_w]; rw [c13b0]) | skip)
                          have H' := Aside0.mk H
                          clear H
                          go_wp2
                          go_meet
                          case rel => exact ⟨_, (((rd l0 x11_1) == 0)), (by first | rfl | (simp; done) | (simp [*]; done)), H', ⟨by have := HK1.out; have := HJ4.out; first | omega | exact Nat.le_refl _⟩, by repeat (first | exact Drawn0.refl _ | apply Drawn0.step)⟩
                        · rw [if_neg c13] at H
                          have c13b0 : decide (0 < x11_1) = false := decide_eq_false c13
                          clear c13
                          (first | rw [c13b0] | (simp only [i64_w, i32_w]; rw [c13b0]) | skip)
                          have H' := Aside0.mk H
                          clear H
                          go_wp2
                          go_meet
                          case rel => exact ⟨_, (false), (by first | rfl | (simp; done) | (simp [*]; done)), H', ⟨by have := HK1.out; have := HJ4.out; first | omega | exact Nat.le_refl _⟩, by repeat (first | exact Drawn0.refl _ | apply Drawn0.step)⟩
                      case rest =>
                        clear HC12
                        try clear c1
                        try clear p1
                        try clear q1
                        try clear hx1
                        try clear c2
                        try clear c2b0
                        try clear p2
                        try clear c3
                        try clear c3b0
                        try clear c4
                        try clear c4b0
                        try clear c6
                        try clear c6b0
                        try clear c6b1
                        try clear p6
                        try clear c7
                        try clear c9
                        try clear c9b0
                        try clear c9b1
                        try clear c11
                        try clear c11b0
                        try clear p12
                        try clear q12
                        try clear hx12
                        try clear c13
                        try clear c13b0
                        try clear hx129_0
                        try clear p1
                        try clear p129
                        try clear p2
                        try clear q1
                        try clear q129
                        obtain ⟨kq, x37_11, rfl, HA, HJ11, ⟨mc11, rfl⟩⟩ := hcut
                        cases kq with
                        | zero => exact absurd HA.out (by simp [num_Get.j2])
                        | succ kj11 =>
                          have H := HA.out
                          clear HA
                          simp only [num_Get.j2] at H
                          by_cases c14 : x37_11 = true
                          · subst c14
                            have H1 : (some (0, 0, 1)) = some (r1, r2, r3) := by rw [if_pos rfl] at H; exact H
                            clear H
                            have H := H1
                            clear H1
                            simp only [Option.some.injEq, Prod.mk.injEq] at H
                            obtain ⟨rfl, rfl, rfl⟩ := H
                            go_wp2
                            go_ret3
                            exact ⟨by first | rfl | (simp; done) | (simp only [← hji8, ← hji10] <;> (first | rfl | simp)) | (simp [*]; done), by repeat (first | exact Drawn0.refl _ | apply Drawn0.step)⟩
                          · replace c14 := Bool.eq_false_iff.mpr c14
                            subst c14
                            have H1 : (if (Go.bits .and .u64 (Go.bits .or .u64 x5_1 (ji10)) 1) = 1 then (some (Go.bits .xor .i64 (-1) (wrap64 ((Go.bits .or .u64 x5_1 (ji10)) / 2)), wrap64 (x11_1 + 1), 0)) else (some (wrap64 ((Go.bits .or .u64 x5_1 (ji10)) / 2), wrap64 (x11_1 + 1), 0))) = some (r1, r2, r3) := by rw [if_neg (show ¬ (false = true) by decide)] at H; exact H
                            clear H
                            have H := H1
                            clear H1
                            by_cases c15 : (Go.bits .and .u64 (Go.bits .or .u64 x5_1 (ji10)) 1) = 1
                            · rw [if_pos c15] at H
                              have c15b0 : ((Go.bits .and .u64 (Go.bits .or .u64 x5_1 (ji10)) 1) == 1) = true := beq_iff_eq.mpr c15
                              have c15b1 : ((Go.bits .and .u64 (Go.bits .or .u64 x5_1 (ji10)) 1) != 1) = false := bne_eq_false_iff_eq.mpr c15
                              clear c15
                              simp only [Option.some.injEq, Prod.mk.injEq] at H
                              obtain ⟨rfl, rfl, rfl⟩ := H
                              go_wp2
                              go_ret3
                              exact ⟨by first | rfl | (simp; done) | (simp only [← hji8, ← hji10] <;> (first | rfl | simp)) | (simp [*]; done), by repeat (first | exact Drawn0.refl _ | apply Drawn0.step)⟩
                            · rw [if_neg c15] at H
                              have c15b0 : ((Go.bits .and .u64 (Go.bits .or .u64 x5_1 (ji10)) 1) == 1) = false := beq_eq_false_iff_ne.mpr c15
                              have c15b1 : ((Go.bits .and .u64 (Go.bits .or .u64 x5_1 (ji10)) 1) != 1) = true := bne_iff_ne.mpr c15
                              simp only [Option.some.injEq, Prod.mk.injEq] at H
                              obtain ⟨rfl, rfl, rfl⟩ := H
                              go_wp2
                              go_ret3
                              exact ⟨by first | rfl | (simp; done) | (simp only [← hji8, ← hji10] <;> (first | rfl | simp)) | (simp [*]; done), by repeat (first | exact Drawn0.refl _ | apply Drawn0.step)⟩
                  · rw [if_neg c9] at H
                    exact absurd H (by simp)
          · rw [if_neg c4] at H
            exact absurd H (by simp)
        · rw [if_neg c3] at H
          exact absurd H (by simp)
      · rw [if_neg c2] at H
        have c2b0 : decide (x11_1 < (l0.length : Int)) = false := decide_eq_false c2
        clear c2
        simp only [Option.some.injEq, Prod.mk.injEq] at H
        obtain ⟨rfl, rfl, rfl⟩ := H
        go_wp2
        go_ret3
        exact ⟨by first | rfl | (simp; done) | (simp [*]; done), by repeat (first | exact Drawn0.refl _ | apply Drawn0.step)⟩
/-! ### num_GetText: function 135 -/
noncomputable def num_GetText.j0 : Nat → List Int → Int → Int → Bool → Option (ByteArray × Int × Int)
  | 0, _, _, _, _ => none
  | k + 1, x0, x5, x6, x18 => if x18 = true then (some ((⟨#[]⟩ : ByteArray), 0, 1)) else (if x5 > (wrap64 ((x0.length : Int) - x6)) then (some ((⟨#[]⟩ : ByteArray), 0, 2)) else (if 0 ≤ x6 then (if x6 ≤ (wrap64 (x6 + x5)) then (if (wrap64 (x6 + x5)) ≤ (x0.length : Int) then (some (strOfNums ((x0.take ((wrap64 (x6 + x5)) : Int).toNat).drop (x6 : Int).toNat), wrap64 (x6 + x5), 0)) else (none)) else (none)) else (none)))
noncomputable def num_GetText.f (k : Nat) (l0 : List Int) : Option (ByteArray × Int × Int) := (num_Get.f k l0).bind fun bt133 => (if bt133.2.2 = 0 then (if bt133.1 < 0 then (num_GetText.j0 k l0 bt133.1 bt133.2.1 true) else (num_GetText.j0 k l0 bt133.1 bt133.2.1 (decide (bt133.1 > 1048576)))) else (some ((⟨#[]⟩ : ByteArray), 0, bt133.2.2)))
theorem num_GetText.mono_l : ∀ k, (∀ y0 y1 y2 y3, LeO (num_GetText.j0 k y0 y1 y2 y3) (num_GetText.j0 (k + 1) y0 y1 y2 y3))
  | 0 => fun _ _ _ _ r h => by simp [num_GetText.j0] at h
  | k + 1 => by
    have ih0 := num_GetText.mono_l k
    · intro y0 y1 y2 y3
      unfold num_GetText.j0
      repeat' first
      | (with_reducible exact ih0 _ _ _ _)
      | (with_reducible exact num_Get.mono _ _)
      | (with_reducible exact LeO.refl _)
      | (with_reducible exact LeO.none _)
      | (with_reducible refine LeO.ite ?_ ?_)
      | (with_reducible refine LeO.bind ?_ (fun _ => ?_))
      | exact ih0 _ _ _ _
      | exact num_Get.mono _ _
      | exact LeO.none _
      | refine LeO.ite ?_ ?_
      | refine LeO.bind ?_ (fun _ => ?_)
theorem num_GetText.mono : ∀ a0 k, LeO (num_GetText.f k a0) (num_GetText.f (k + 1) a0) := by
  intro a0 k
  have ih0 := num_GetText.mono_l k
  unfold num_GetText.f
  repeat' first
      | (with_reducible exact ih0 _ _ _ _)
      | (with_reducible exact num_Get.mono _ _)
      | (with_reducible exact LeO.refl _)
      | (with_reducible exact LeO.none _)
      | (with_reducible refine LeO.ite ?_ ?_)
      | (with_reducible refine LeO.bind ?_ (fun _ => ?_))
      | exact ih0 _ _ _ _
      | exact num_Get.mono _ _
      | exact LeO.none _
      | refine LeO.ite ?_ ?_
      | refine LeO.bind ?_ (fun _ => ?_)
/-! ### donatusref27_EqCmd: function 29 -/
noncomputable def donatusref27_EqCmd.f (a0_0 : Int) (a0_1 : Int) (a0_2 : Int) (a0_3 : ByteArray) (a1_0 : Int) (a1_1 : Int) (a1_2 : Int) (a1_3 : ByteArray) : Option (Bool) := if a0_0 = a1_0 then (if a0_1 = a1_1 then (if a0_2 = a1_2 then (some (a0_3.toList == a1_3.toList)) else (some false)) else (some false)) else (some false)
set_option maxHeartbeats 8000000 in
set_option maxRecDepth 100000 in
theorem donatusref27_EqCmd.calls (a0_0 : Int) (a0_1 : Int) (a0_2 : Int) (a0_3 : ByteArray) (a1_0 : Int) (a1_1 : Int) (a1_2 : Int) (a1_3 : ByteArray) (r : Bool) (w : World) (h : donatusref27_EqCmd.f a0_0 a0_1 a0_2 a0_3 a1_0 a1_1 a1_2 a1_3 = some r) :
    Calls Tryz.prog 29 #[.agg #[.int .i64 a0_0, .int .i64 a0_1, .int .i64 a0_2, .string a0_3], .agg #[.int .i64 a1_0, .int .i64 a1_1, .int .i64 a1_2, .string a1_3]] w fun e w' => e = .returned (.bool r) ∧ Below w.heap.size w w' := by
  have hu55 := Tryz.underlying55
  have HB := Aside0.mk (Below.refl w.heap.size w)
  have H : (if a0_0 = a1_0 then (if a0_1 = a1_1 then (if a0_2 = a1_2 then (some (a0_3.toList == a1_3.toList)) else (some false)) else (some false)) else (some false)) = some r := h
  clear h
  by_cases c3 : a0_0 = a1_0
  · rw [if_pos c3] at H
    have c3b0 : (a0_0 == a1_0) = true := beq_iff_eq.mpr c3
    have c3b1 : (a0_0 != a1_0) = false := bne_eq_false_iff_eq.mpr c3
    clear c3
    by_cases c4 : a0_1 = a1_1
    · rw [if_pos c4] at H
      have c4b0 : (a0_1 == a1_1) = true := beq_iff_eq.mpr c4
      have c4b1 : (a0_1 != a1_1) = false := bne_eq_false_iff_eq.mpr c4
      clear c4
      by_cases c5 : a0_2 = a1_2
      · rw [if_pos c5] at H
        have c5b0 : (a0_2 == a1_2) = true := beq_iff_eq.mpr c5
        have c5b1 : (a0_2 != a1_2) = false := bne_eq_false_iff_eq.mpr c5
        clear c5
        obtain rfl := Option.some.inj H
        go_enter Tryz.func29, Tryz.ntmps29
        go_wp2_with (first | ((with_reducible refine gate_dst (N := 2) rfl ?_); refine box_event ?hg (N := 2) ?hd (cs := #[.int .i64 a0_0, .int .i64 a0_1, .int .i64 a0_2, .string a0_3]) (t := 55) ?hr ?_; (case hd => rfl); (case hg => rfl); (case hr => first | (go_simp; done) | (go_simp; rfl)); intro gb141 hg w6 hbox hb; have n0_ := Aside0.mk (below_step (by repeat (first | (with_reducible first | exact HB.out | apply below_alloc | apply pw_below_drewN | apply below_drew1) | exact HB.out)) hb); have n1_ := Aside0.mk (hbox); have n2_ := Aside0.mk ((by rw [hg]; exact (below_size (by repeat (first | (with_reducible first | exact HB.out | apply below_alloc | apply pw_below_drewN | apply below_drew1) | exact HB.out))) : w.heap.size ≤ gb141)); have n3_ := Aside0.mk ((by rw [hg]; exact (below_size (by repeat (first | (with_reducible first | exact HB.out | apply below_alloc | apply pw_below_drewN | apply below_drew1) | exact HB.out))) : w.heap.size ≤ gb141)); clear HB; have HB := n0_; have BK141 := n1_; have GW141 := n2_; have GE141 := n3_; clear n0_ n1_ n2_ n3_; clear hb hbox hg) | ((with_reducible refine gate_dst (N := 3) rfl ?_); refine box_event ?hg (N := 3) ?hd (cs := #[.int .i64 a1_0, .int .i64 a1_1, .int .i64 a1_2, .string a1_3]) (t := 55) ?hr ?_; (case hd => rfl); (case hg => rfl); (case hr => first | (go_simp; done) | (go_simp; rfl)); intro gb142 hg w7 hbox hb; have n0_ := Aside0.mk (blk_below (g := gb141) (o := .cells #[.int .i64 a0_0, .int .i64 a0_1, .int .i64 a0_2, .string a0_3] 55 (0, 0)) (by (with_reducible repeat (first | refine blk_drewN ?_ _ | refine blk_drew ?_ | refine blk_alloc ?_ _)); exact BK141.out) hb); have n1_ := Aside0.mk (below_step (by repeat (first | (with_reducible first | exact HB.out | apply below_alloc | apply pw_below_drewN | apply below_drew1 | refine below_set ?_ GE141.out) | exact HB.out)) hb); have n2_ := Aside0.mk (hbox); have n3_ := Aside0.mk ((by rw [hg]; exact (below_size (by repeat (first | (with_reducible first | exact HB.out | apply below_alloc | apply pw_below_drewN | apply below_drew1 | refine below_set ?_ GE141.out) | exact HB.out))) : w.heap.size ≤ gb142)); have n4_ := Aside0.mk ((by rw [hg]; exact (below_size (by repeat (first | (with_reducible first | exact HB.out | apply below_alloc | apply pw_below_drewN | apply below_drew1 | refine below_set ?_ GE141.out) | exact HB.out))) : w.heap.size ≤ gb142)); have n5_ := Aside0.mk ((by rw [hg]; exact Nat.ne_of_lt (blk_lt (g := gb141) (o := .cells #[.int .i64 a0_0, .int .i64 a0_1, .int .i64 a0_2, .string a0_3] 55 (0, 0)) (by (with_reducible repeat (first | refine blk_drewN ?_ _ | refine blk_drew ?_ | refine blk_alloc ?_ _)); exact BK141.out)) : gb141 ≠ gb142)); have n6_ := Aside0.mk ((by rw [hg]; exact Nat.ne_of_gt (blk_lt (g := gb141) (o := .cells #[.int .i64 a0_0, .int .i64 a0_1, .int .i64 a0_2, .string a0_3] 55 (0, 0)) (by (with_reducible repeat (first | refine blk_drewN ?_ _ | refine blk_drew ?_ | refine blk_alloc ?_ _)); exact BK141.out)) : gb142 ≠ gb141)); clear BK141; clear HB; have BK141 := n0_; have HB := n1_; have BK142 := n2_; have GW142 := n3_; have GE142 := n4_; have NB141_142 := n5_; have NB142_141 := n6_; clear n0_ n1_ n2_ n3_ n4_ n5_ n6_; clear hb hbox hg; have hnb8 := NB141_142.out; have hnc8 := NB142_141.out; have hcz9_0 : w7.cell? ⟨gb141, 0, none⟩ = some (.int .i64 a0_0) := (blk_cell BK141.out 0).trans rfl; have hcz9_1 : w7.cell? ⟨gb141, 1, none⟩ = some (.int .i64 a0_1) := (blk_cell BK141.out 1).trans rfl; have hcz9_2 : w7.cell? ⟨gb141, 2, none⟩ = some (.int .i64 a0_2) := (blk_cell BK141.out 2).trans rfl; have hcz9_3 : w7.cell? ⟨gb141, 3, none⟩ = some (.string a0_3) := (blk_cell BK141.out 3).trans rfl; have hfz9_0 := blk_frozen BK141.out 0; have hfz9_1 := blk_frozen BK141.out 1; have hfz9_2 := blk_frozen BK141.out 2; have hfz9_3 := blk_frozen BK141.out 3; have hcz10_0 : w7.cell? ⟨gb142, 0, none⟩ = some (.int .i64 a1_0) := (blk_cell BK142.out 0).trans rfl; have hcz10_1 : w7.cell? ⟨gb142, 1, none⟩ = some (.int .i64 a1_1) := (blk_cell BK142.out 1).trans rfl; have hcz10_2 : w7.cell? ⟨gb142, 2, none⟩ = some (.int .i64 a1_2) := (blk_cell BK142.out 2).trans rfl; have hcz10_3 : w7.cell? ⟨gb142, 3, none⟩ = some (.string a1_3) := (blk_cell BK142.out 3).trans rfl; have hfz10_0 := blk_frozen BK142.out 0; have hfz10_1 := blk_frozen BK142.out 1; have hfz10_2 := blk_frozen BK142.out 2; have hfz10_3 := blk_frozen BK142.out 3))
        go_ret
        exact ⟨by first | rfl | (simp [errW_none, errW_some] <;> rfl) | (simp [*, errW_none, errW_some] <;> rfl), by repeat (first | (with_reducible first | exact HB.out | apply below_alloc | apply pw_below_drewN | apply below_drew1 | refine below_set ?_ GE141.out | refine below_set ?_ GE142.out) | exact HB.out)⟩
      · rw [if_neg c5] at H
        have c5b0 : (a0_2 == a1_2) = false := beq_eq_false_iff_ne.mpr c5
        have c5b1 : (a0_2 != a1_2) = true := bne_iff_ne.mpr c5
        obtain rfl := Option.some.inj H
        go_enter Tryz.func29, Tryz.ntmps29
        go_wp2_with (first | ((with_reducible refine gate_dst (N := 2) rfl ?_); refine box_event ?hg (N := 2) ?hd (cs := #[.int .i64 a0_0, .int .i64 a0_1, .int .i64 a0_2, .string a0_3]) (t := 55) ?hr ?_; (case hd => rfl); (case hg => rfl); (case hr => first | (go_simp; done) | (go_simp; rfl)); intro gb141 hg w11 hbox hb; have n0_ := Aside0.mk (below_step (by repeat (first | (with_reducible first | exact HB.out | apply below_alloc | apply pw_below_drewN | apply below_drew1) | exact HB.out)) hb); have n1_ := Aside0.mk (hbox); have n2_ := Aside0.mk ((by rw [hg]; exact (below_size (by repeat (first | (with_reducible first | exact HB.out | apply below_alloc | apply pw_below_drewN | apply below_drew1) | exact HB.out))) : w.heap.size ≤ gb141)); have n3_ := Aside0.mk ((by rw [hg]; exact (below_size (by repeat (first | (with_reducible first | exact HB.out | apply below_alloc | apply pw_below_drewN | apply below_drew1) | exact HB.out))) : w.heap.size ≤ gb141)); clear HB; have HB := n0_; have BK141 := n1_; have GW141 := n2_; have GE141 := n3_; clear n0_ n1_ n2_ n3_; clear hb hbox hg) | ((with_reducible refine gate_dst (N := 3) rfl ?_); refine box_event ?hg (N := 3) ?hd (cs := #[.int .i64 a1_0, .int .i64 a1_1, .int .i64 a1_2, .string a1_3]) (t := 55) ?hr ?_; (case hd => rfl); (case hg => rfl); (case hr => first | (go_simp; done) | (go_simp; rfl)); intro gb142 hg w12 hbox hb; have n0_ := Aside0.mk (blk_below (g := gb141) (o := .cells #[.int .i64 a0_0, .int .i64 a0_1, .int .i64 a0_2, .string a0_3] 55 (0, 0)) (by (with_reducible repeat (first | refine blk_drewN ?_ _ | refine blk_drew ?_ | refine blk_alloc ?_ _)); exact BK141.out) hb); have n1_ := Aside0.mk (below_step (by repeat (first | (with_reducible first | exact HB.out | apply below_alloc | apply pw_below_drewN | apply below_drew1 | refine below_set ?_ GE141.out) | exact HB.out)) hb); have n2_ := Aside0.mk (hbox); have n3_ := Aside0.mk ((by rw [hg]; exact (below_size (by repeat (first | (with_reducible first | exact HB.out | apply below_alloc | apply pw_below_drewN | apply below_drew1 | refine below_set ?_ GE141.out) | exact HB.out))) : w.heap.size ≤ gb142)); have n4_ := Aside0.mk ((by rw [hg]; exact (below_size (by repeat (first | (with_reducible first | exact HB.out | apply below_alloc | apply pw_below_drewN | apply below_drew1 | refine below_set ?_ GE141.out) | exact HB.out))) : w.heap.size ≤ gb142)); have n5_ := Aside0.mk ((by rw [hg]; exact Nat.ne_of_lt (blk_lt (g := gb141) (o := .cells #[.int .i64 a0_0, .int .i64 a0_1, .int .i64 a0_2, .string a0_3] 55 (0, 0)) (by (with_reducible repeat (first | refine blk_drewN ?_ _ | refine blk_drew ?_ | refine blk_alloc ?_ _)); exact BK141.out)) : gb141 ≠ gb142)); have n6_ := Aside0.mk ((by rw [hg]; exact Nat.ne_of_gt (blk_lt (g := gb141) (o := .cells #[.int .i64 a0_0, .int .i64 a0_1, .int .i64 a0_2, .string a0_3] 55 (0, 0)) (by (with_reducible repeat (first | refine blk_drewN ?_ _ | refine blk_drew ?_ | refine blk_alloc ?_ _)); exact BK141.out)) : gb142 ≠ gb141)); clear BK141; clear HB; have BK141 := n0_; have HB := n1_; have BK142 := n2_; have GW142 := n3_; have GE142 := n4_; have NB141_142 := n5_; have NB142_141 := n6_; clear n0_ n1_ n2_ n3_ n4_ n5_ n6_; clear hb hbox hg; have hnb13 := NB141_142.out; have hnc13 := NB142_141.out; have hcz14_0 : w12.cell? ⟨gb141, 0, none⟩ = some (.int .i64 a0_0) := (blk_cell BK141.out 0).trans rfl; have hcz14_1 : w12.cell? ⟨gb141, 1, none⟩ = some (.int .i64 a0_1) := (blk_cell BK141.out 1).trans rfl; have hcz14_2 : w12.cell? ⟨gb141, 2, none⟩ = some (.int .i64 a0_2) := (blk_cell BK141.out 2).trans rfl; have hcz14_3 : w12.cell? ⟨gb141, 3, none⟩ = some (.string a0_3) := (blk_cell BK141.out 3).trans rfl; have hfz14_0 := blk_frozen BK141.out 0; have hfz14_1 := blk_frozen BK141.out 1; have hfz14_2 := blk_frozen BK141.out 2; have hfz14_3 := blk_frozen BK141.out 3; have hcz15_0 : w12.cell? ⟨gb142, 0, none⟩ = some (.int .i64 a1_0) := (blk_cell BK142.out 0).trans rfl; have hcz15_1 : w12.cell? ⟨gb142, 1, none⟩ = some (.int .i64 a1_1) := (blk_cell BK142.out 1).trans rfl; have hcz15_2 : w12.cell? ⟨gb142, 2, none⟩ = some (.int .i64 a1_2) := (blk_cell BK142.out 2).trans rfl; have hcz15_3 : w12.cell? ⟨gb142, 3, none⟩ = some (.string a1_3) := (blk_cell BK142.out 3).trans rfl; have hfz15_0 := blk_frozen BK142.out 0; have hfz15_1 := blk_frozen BK142.out 1; have hfz15_2 := blk_frozen BK142.out 2; have hfz15_3 := blk_frozen BK142.out 3))
        go_ret
        exact ⟨by first | rfl | (simp [errW_none, errW_some] <;> rfl) | (simp [*, errW_none, errW_some] <;> rfl), by repeat (first | (with_reducible first | exact HB.out | apply below_alloc | apply pw_below_drewN | apply below_drew1 | refine below_set ?_ GE141.out | refine below_set ?_ GE142.out) | exact HB.out)⟩
    · rw [if_neg c4] at H
      have c4b0 : (a0_1 == a1_1) = false := beq_eq_false_iff_ne.mpr c4
      have c4b1 : (a0_1 != a1_1) = true := bne_iff_ne.mpr c4
      obtain rfl := Option.some.inj H
      go_enter Tryz.func29, Tryz.ntmps29
      go_wp2_with (first | ((with_reducible refine gate_dst (N := 2) rfl ?_); refine box_event ?hg (N := 2) ?hd (cs := #[.int .i64 a0_0, .int .i64 a0_1, .int .i64 a0_2, .string a0_3]) (t := 55) ?hr ?_; (case hd => rfl); (case hg => rfl); (case hr => first | (go_simp; done) | (go_simp; rfl)); intro gb141 hg w16 hbox hb; have n0_ := Aside0.mk (below_step (by repeat (first | (with_reducible first | exact HB.out | apply below_alloc | apply pw_below_drewN | apply below_drew1) | exact HB.out)) hb); have n1_ := Aside0.mk (hbox); have n2_ := Aside0.mk ((by rw [hg]; exact (below_size (by repeat (first | (with_reducible first | exact HB.out | apply below_alloc | apply pw_below_drewN | apply below_drew1) | exact HB.out))) : w.heap.size ≤ gb141)); have n3_ := Aside0.mk ((by rw [hg]; exact (below_size (by repeat (first | (with_reducible first | exact HB.out | apply below_alloc | apply pw_below_drewN | apply below_drew1) | exact HB.out))) : w.heap.size ≤ gb141)); clear HB; have HB := n0_; have BK141 := n1_; have GW141 := n2_; have GE141 := n3_; clear n0_ n1_ n2_ n3_; clear hb hbox hg) | ((with_reducible refine gate_dst (N := 3) rfl ?_); refine box_event ?hg (N := 3) ?hd (cs := #[.int .i64 a1_0, .int .i64 a1_1, .int .i64 a1_2, .string a1_3]) (t := 55) ?hr ?_; (case hd => rfl); (case hg => rfl); (case hr => first | (go_simp; done) | (go_simp; rfl)); intro gb142 hg w17 hbox hb; have n0_ := Aside0.mk (blk_below (g := gb141) (o := .cells #[.int .i64 a0_0, .int .i64 a0_1, .int .i64 a0_2, .string a0_3] 55 (0, 0)) (by (with_reducible repeat (first | refine blk_drewN ?_ _ | refine blk_drew ?_ | refine blk_alloc ?_ _)); exact BK141.out) hb); have n1_ := Aside0.mk (below_step (by repeat (first | (with_reducible first | exact HB.out | apply below_alloc | apply pw_below_drewN | apply below_drew1 | refine below_set ?_ GE141.out) | exact HB.out)) hb); have n2_ := Aside0.mk (hbox); have n3_ := Aside0.mk ((by rw [hg]; exact (below_size (by repeat (first | (with_reducible first | exact HB.out | apply below_alloc | apply pw_below_drewN | apply below_drew1 | refine below_set ?_ GE141.out) | exact HB.out))) : w.heap.size ≤ gb142)); have n4_ := Aside0.mk ((by rw [hg]; exact (below_size (by repeat (first | (with_reducible first | exact HB.out | apply below_alloc | apply pw_below_drewN | apply below_drew1 | refine below_set ?_ GE141.out) | exact HB.out))) : w.heap.size ≤ gb142)); have n5_ := Aside0.mk ((by rw [hg]; exact Nat.ne_of_lt (blk_lt (g := gb141) (o := .cells #[.int .i64 a0_0, .int .i64 a0_1, .int .i64 a0_2, .string a0_3] 55 (0, 0)) (by (with_reducible repeat (first | refine blk_drewN ?_ _ | refine blk_drew ?_ | refine blk_alloc ?_ _)); exact BK141.out)) : gb141 ≠ gb142)); have n6_ := Aside0.mk ((by rw [hg]; exact Nat.ne_of_gt (blk_lt (g := gb141) (o := .cells #[.int .i64 a0_0, .int .i64 a0_1, .int .i64 a0_2, .string a0_3] 55 (0, 0)) (by (with_reducible repeat (first | refine blk_drewN ?_ _ | refine blk_drew ?_ | refine blk_alloc ?_ _)); exact BK141.out)) : gb142 ≠ gb141)); clear BK141; clear HB; have BK141 := n0_; have HB := n1_; have BK142 := n2_; have GW142 := n3_; have GE142 := n4_; have NB141_142 := n5_; have NB142_141 := n6_; clear n0_ n1_ n2_ n3_ n4_ n5_ n6_; clear hb hbox hg; have hnb18 := NB141_142.out; have hnc18 := NB142_141.out; have hcz19_0 : w17.cell? ⟨gb141, 0, none⟩ = some (.int .i64 a0_0) := (blk_cell BK141.out 0).trans rfl; have hcz19_1 : w17.cell? ⟨gb141, 1, none⟩ = some (.int .i64 a0_1) := (blk_cell BK141.out 1).trans rfl; have hcz19_2 : w17.cell? ⟨gb141, 2, none⟩ = some (.int .i64 a0_2) := (blk_cell BK141.out 2).trans rfl; have hcz19_3 : w17.cell? ⟨gb141, 3, none⟩ = some (.string a0_3) := (blk_cell BK141.out 3).trans rfl; have hfz19_0 := blk_frozen BK141.out 0; have hfz19_1 := blk_frozen BK141.out 1; have hfz19_2 := blk_frozen BK141.out 2; have hfz19_3 := blk_frozen BK141.out 3; have hcz20_0 : w17.cell? ⟨gb142, 0, none⟩ = some (.int .i64 a1_0) := (blk_cell BK142.out 0).trans rfl; have hcz20_1 : w17.cell? ⟨gb142, 1, none⟩ = some (.int .i64 a1_1) := (blk_cell BK142.out 1).trans rfl; have hcz20_2 : w17.cell? ⟨gb142, 2, none⟩ = some (.int .i64 a1_2) := (blk_cell BK142.out 2).trans rfl; have hcz20_3 : w17.cell? ⟨gb142, 3, none⟩ = some (.string a1_3) := (blk_cell BK142.out 3).trans rfl; have hfz20_0 := blk_frozen BK142.out 0; have hfz20_1 := blk_frozen BK142.out 1; have hfz20_2 := blk_frozen BK142.out 2; have hfz20_3 := blk_frozen BK142.out 3))
      go_ret
      exact ⟨by first | rfl | (simp [errW_none, errW_some] <;> rfl) | (simp [*, errW_none, errW_some] <;> rfl), by repeat (first | (with_reducible first | exact HB.out | apply below_alloc | apply pw_below_drewN | apply below_drew1 | refine below_set ?_ GE141.out | refine below_set ?_ GE142.out) | exact HB.out)⟩
  · rw [if_neg c3] at H
    have c3b0 : (a0_0 == a1_0) = false := beq_eq_false_iff_ne.mpr c3
    have c3b1 : (a0_0 != a1_0) = true := bne_iff_ne.mpr c3
    obtain rfl := Option.some.inj H
    go_enter Tryz.func29, Tryz.ntmps29
    go_wp2_with (first | ((with_reducible refine gate_dst (N := 2) rfl ?_); refine box_event ?hg (N := 2) ?hd (cs := #[.int .i64 a0_0, .int .i64 a0_1, .int .i64 a0_2, .string a0_3]) (t := 55) ?hr ?_; (case hd => rfl); (case hg => rfl); (case hr => first | (go_simp; done) | (go_simp; rfl)); intro gb141 hg w21 hbox hb; have n0_ := Aside0.mk (below_step (by repeat (first | (with_reducible first | exact HB.out | apply below_alloc | apply pw_below_drewN | apply below_drew1) | exact HB.out)) hb); have n1_ := Aside0.mk (hbox); have n2_ := Aside0.mk ((by rw [hg]; exact (below_size (by repeat (first | (with_reducible first | exact HB.out | apply below_alloc | apply pw_below_drewN | apply below_drew1) | exact HB.out))) : w.heap.size ≤ gb141)); have n3_ := Aside0.mk ((by rw [hg]; exact (below_size (by repeat (first | (with_reducible first | exact HB.out | apply below_alloc | apply pw_below_drewN | apply below_drew1) | exact HB.out))) : w.heap.size ≤ gb141)); clear HB; have HB := n0_; have BK141 := n1_; have GW141 := n2_; have GE141 := n3_; clear n0_ n1_ n2_ n3_; clear hb hbox hg) | ((with_reducible refine gate_dst (N := 3) rfl ?_); refine box_event ?hg (N := 3) ?hd (cs := #[.int .i64 a1_0, .int .i64 a1_1, .int .i64 a1_2, .string a1_3]) (t := 55) ?hr ?_; (case hd => rfl); (case hg => rfl); (case hr => first | (go_simp; done) | (go_simp; rfl)); intro gb142 hg w22 hbox hb; have n0_ := Aside0.mk (blk_below (g := gb141) (o := .cells #[.int .i64 a0_0, .int .i64 a0_1, .int .i64 a0_2, .string a0_3] 55 (0, 0)) (by (with_reducible repeat (first | refine blk_drewN ?_ _ | refine blk_drew ?_ | refine blk_alloc ?_ _)); exact BK141.out) hb); have n1_ := Aside0.mk (below_step (by repeat (first | (with_reducible first | exact HB.out | apply below_alloc | apply pw_below_drewN | apply below_drew1 | refine below_set ?_ GE141.out) | exact HB.out)) hb); have n2_ := Aside0.mk (hbox); have n3_ := Aside0.mk ((by rw [hg]; exact (below_size (by repeat (first | (with_reducible first | exact HB.out | apply below_alloc | apply pw_below_drewN | apply below_drew1 | refine below_set ?_ GE141.out) | exact HB.out))) : w.heap.size ≤ gb142)); have n4_ := Aside0.mk ((by rw [hg]; exact (below_size (by repeat (first | (with_reducible first | exact HB.out | apply below_alloc | apply pw_below_drewN | apply below_drew1 | refine below_set ?_ GE141.out) | exact HB.out))) : w.heap.size ≤ gb142)); have n5_ := Aside0.mk ((by rw [hg]; exact Nat.ne_of_lt (blk_lt (g := gb141) (o := .cells #[.int .i64 a0_0, .int .i64 a0_1, .int .i64 a0_2, .string a0_3] 55 (0, 0)) (by (with_reducible repeat (first | refine blk_drewN ?_ _ | refine blk_drew ?_ | refine blk_alloc ?_ _)); exact BK141.out)) : gb141 ≠ gb142)); have n6_ := Aside0.mk ((by rw [hg]; exact Nat.ne_of_gt (blk_lt (g := gb141) (o := .cells #[.int .i64 a0_0, .int .i64 a0_1, .int .i64 a0_2, .string a0_3] 55 (0, 0)) (by (with_reducible repeat (first | refine blk_drewN ?_ _ | refine blk_drew ?_ | refine blk_alloc ?_ _)); exact BK141.out)) : gb142 ≠ gb141)); clear BK141; clear HB; have BK141 := n0_; have HB := n1_; have BK142 := n2_; have GW142 := n3_; have GE142 := n4_; have NB141_142 := n5_; have NB142_141 := n6_; clear n0_ n1_ n2_ n3_ n4_ n5_ n6_; clear hb hbox hg; have hnb23 := NB141_142.out; have hnc23 := NB142_141.out; have hcz24_0 : w22.cell? ⟨gb141, 0, none⟩ = some (.int .i64 a0_0) := (blk_cell BK141.out 0).trans rfl; have hcz24_1 : w22.cell? ⟨gb141, 1, none⟩ = some (.int .i64 a0_1) := (blk_cell BK141.out 1).trans rfl; have hcz24_2 : w22.cell? ⟨gb141, 2, none⟩ = some (.int .i64 a0_2) := (blk_cell BK141.out 2).trans rfl; have hcz24_3 : w22.cell? ⟨gb141, 3, none⟩ = some (.string a0_3) := (blk_cell BK141.out 3).trans rfl; have hfz24_0 := blk_frozen BK141.out 0; have hfz24_1 := blk_frozen BK141.out 1; have hfz24_2 := blk_frozen BK141.out 2; have hfz24_3 := blk_frozen BK141.out 3; have hcz25_0 : w22.cell? ⟨gb142, 0, none⟩ = some (.int .i64 a1_0) := (blk_cell BK142.out 0).trans rfl; have hcz25_1 : w22.cell? ⟨gb142, 1, none⟩ = some (.int .i64 a1_1) := (blk_cell BK142.out 1).trans rfl; have hcz25_2 : w22.cell? ⟨gb142, 2, none⟩ = some (.int .i64 a1_2) := (blk_cell BK142.out 2).trans rfl; have hcz25_3 : w22.cell? ⟨gb142, 3, none⟩ = some (.string a1_3) := (blk_cell BK142.out 3).trans rfl; have hfz25_0 := blk_frozen BK142.out 0; have hfz25_1 := blk_frozen BK142.out 1; have hfz25_2 := blk_frozen BK142.out 2; have hfz25_3 := blk_frozen BK142.out 3))
    go_ret
    exact ⟨by first | rfl | (simp [errW_none, errW_some] <;> rfl) | (simp [*, errW_none, errW_some] <;> rfl), by repeat (first | (with_reducible first | exact HB.out | apply below_alloc | apply pw_below_drewN | apply below_drew1 | refine below_set ?_ GE141.out | refine below_set ?_ GE142.out) | exact HB.out)⟩
/-! ### donatuslaw1_Cut: function 24 -/
noncomputable def donatuslaw1_Cut.f (a0 : ByteArray) (a1 : Int) : Option (ByteArray) := if (a0.size : Int) > a1 then (if 0 ≤ a1 then (if a1 ≤ (a0.size : Int) then (some (a0.extract 0 (a1 : Int).toNat)) else (none)) else (none)) else (some a0)
set_option maxHeartbeats 8000000 in
set_option maxRecDepth 100000 in
theorem donatuslaw1_Cut.calls (a0 : ByteArray) (a1 : Int) (r : ByteArray) (w : World) (h : donatuslaw1_Cut.f a0 a1 = some r) :
    Calls Tryz.prog 24 #[.string a0, .int .i64 a1] w fun e w' => e = .returned (.string r) ∧ Drawn0 w w' := by
  have H : (if (a0.size : Int) > a1 then (if 0 ≤ a1 then (if a1 ≤ (a0.size : Int) then (some (a0.extract 0 (a1 : Int).toNat)) else (none)) else (none)) else (some a0)) = some r := h
  clear h
  by_cases c3 : (a0.size : Int) > a1
  · rw [if_pos c3] at H
    have c3b0 : decide (a1 < (a0.size : Int)) = true := decide_eq_true c3
    clear c3
    by_cases c4 : 0 ≤ a1
    · rw [if_pos c4] at H
      have c4b0 := eq_true c4
      have c4b1 : decide (0 ≤ a1) = true := decide_eq_true c4
      clear c4
      by_cases c5 : a1 ≤ (a0.size : Int)
      · rw [if_pos c5] at H
        have c5b0 := eq_true c5
        have c5b1 : decide (a1 ≤ (a0.size : Int)) = true := decide_eq_true c5
        clear c5
        obtain rfl := Option.some.inj H
        go_enter Tryz.func24, Tryz.ntmps24
        go_wp2
        go_ret
        exact ⟨by first | rfl | (simp; done) | (simp [*]; done), by repeat (first | exact Drawn0.refl _ | apply Drawn0.step)⟩
      · rw [if_neg c5] at H
        exact absurd H (by simp)
    · rw [if_neg c4] at H
      exact absurd H (by simp)
  · rw [if_neg c3] at H
    have c3b0 : decide (a1 < (a0.size : Int)) = false := decide_eq_false c3
    clear c3
    obtain rfl := Option.some.inj H
    go_enter Tryz.func24, Tryz.ntmps24
    go_wp2
    go_ret
    exact ⟨by first | rfl | (simp; done) | (simp [*]; done), by repeat (first | exact Drawn0.refl _ | apply Drawn0.step)⟩
/-! ### donatusref27_MayCmd: function 28 -/
noncomputable def donatusref27_MayCmd.f (a0_0 : Int) (a0_1 : Int) (a0_2 : Int) (a0_3 : ByteArray) : Option (Bool) := if a0_0 ≥ 1 then (if a0_0 ≤ 5 then (if a0_1 ≥ 1 then (if a0_1 ≤ 1099511627776 then (if a0_2 ≥ 0 then (if a0_2 ≤ 30 then (some (decide ((a0_3.size : Int) ≤ 2200))) else (some false)) else (some false)) else (some false)) else (some false)) else (some false)) else (some false)
set_option maxHeartbeats 8000000 in
set_option maxRecDepth 100000 in
theorem donatusref27_MayCmd.calls (a0_0 : Int) (a0_1 : Int) (a0_2 : Int) (a0_3 : ByteArray) (r : Bool) (w : World) (h : donatusref27_MayCmd.f a0_0 a0_1 a0_2 a0_3 = some r) :
    Calls Tryz.prog 28 #[.agg #[.int .i64 a0_0, .int .i64 a0_1, .int .i64 a0_2, .string a0_3]] w fun e w' => e = .returned (.bool r) ∧ Below w.heap.size w w' := by
  have hu55 := Tryz.underlying55
  have HB := Aside0.mk (Below.refl w.heap.size w)
  have H : (if a0_0 ≥ 1 then (if a0_0 ≤ 5 then (if a0_1 ≥ 1 then (if a0_1 ≤ 1099511627776 then (if a0_2 ≥ 0 then (if a0_2 ≤ 30 then (some (decide ((a0_3.size : Int) ≤ 2200))) else (some false)) else (some false)) else (some false)) else (some false)) else (some false)) else (some false)) = some r := h
  clear h
  by_cases c2 : a0_0 ≥ 1
  · rw [if_pos c2] at H
    have c2b0 : decide (1 ≤ a0_0) = true := decide_eq_true c2
    clear c2
    by_cases c3 : a0_0 ≤ 5
    · rw [if_pos c3] at H
      have c3b0 : decide (a0_0 ≤ 5) = true := decide_eq_true c3
      clear c3
      by_cases c4 : a0_1 ≥ 1
      · rw [if_pos c4] at H
        have c4b0 : decide (1 ≤ a0_1) = true := decide_eq_true c4
        clear c4
        by_cases c5 : a0_1 ≤ 1099511627776
        · rw [if_pos c5] at H
          have c5b0 : decide (a0_1 ≤ 1099511627776) = true := decide_eq_true c5
          clear c5
          by_cases c6 : a0_2 ≥ 0
          · rw [if_pos c6] at H
            have c6b0 : decide (0 ≤ a0_2) = true := decide_eq_true c6
            clear c6
            by_cases c7 : a0_2 ≤ 30
            · rw [if_pos c7] at H
              have c7b0 : decide (a0_2 ≤ 30) = true := decide_eq_true c7
              clear c7
              obtain rfl := Option.some.inj H
              go_enter Tryz.func28, Tryz.ntmps28
              go_wp2_with (first | ((with_reducible refine gate_dst (N := 1) rfl ?_); (try (refine gate_guard (by rfl) ?_; dsimp only)); refine box_event ?hg (N := 1) ?hd (cs := #[.int .i64 a0_0, .int .i64 a0_1, .int .i64 a0_2, .string a0_3]) (t := 55) ?hr ?_; (case hd => rfl); (case hg => rfl); (case hr => first | (go_simp; done) | (go_simp; rfl)); intro gb766 hg w8 hbox hb; have n0_ := Aside0.mk (below_step (by repeat (first | (with_reducible first | exact HB.out | apply below_alloc | apply pw_below_drewN | apply below_drew1) | exact HB.out)) hb); have n1_ := Aside0.mk (hbox); have n2_ := Aside0.mk ((by rw [hg]; exact (below_size (by repeat (first | (with_reducible first | exact HB.out | apply below_alloc | apply pw_below_drewN | apply below_drew1) | exact HB.out))) : w.heap.size ≤ gb766)); have n3_ := Aside0.mk ((by rw [hg]; exact (below_size (by repeat (first | (with_reducible first | exact HB.out | apply below_alloc | apply pw_below_drewN | apply below_drew1) | exact HB.out))) : w.heap.size ≤ gb766)); clear HB; have HB := n0_; have BK766 := n1_; have GW766 := n2_; have GE766 := n3_; clear n0_ n1_ n2_ n3_; clear hb hbox hg; have hcz9_0 : w8.cell? ⟨gb766, 0, none⟩ = some (.int .i64 a0_0) := (blk_cell BK766.out 0).trans rfl; have hcz9_1 : w8.cell? ⟨gb766, 1, none⟩ = some (.int .i64 a0_1) := (blk_cell BK766.out 1).trans rfl; have hcz9_2 : w8.cell? ⟨gb766, 2, none⟩ = some (.int .i64 a0_2) := (blk_cell BK766.out 2).trans rfl; have hcz9_3 : w8.cell? ⟨gb766, 3, none⟩ = some (.string a0_3) := (blk_cell BK766.out 3).trans rfl; have hfz9_0 := blk_frozen BK766.out 0; have hfz9_1 := blk_frozen BK766.out 1; have hfz9_2 := blk_frozen BK766.out 2; have hfz9_3 := blk_frozen BK766.out 3))
              go_ret
              exact ⟨by first | rfl | (simp [errW_none, errW_some] <;> rfl) | (simp [*, errW_none, errW_some] <;> rfl), by repeat (first | (with_reducible first | exact HB.out | apply below_alloc | apply pw_below_drewN | apply below_drew1 | refine below_set ?_ GE766.out) | exact HB.out)⟩
            · rw [if_neg c7] at H
              have c7b0 : decide (a0_2 ≤ 30) = false := decide_eq_false c7
              clear c7
              obtain rfl := Option.some.inj H
              go_enter Tryz.func28, Tryz.ntmps28
              go_wp2_with (first | ((with_reducible refine gate_dst (N := 1) rfl ?_); (try (refine gate_guard (by rfl) ?_; dsimp only)); refine box_event ?hg (N := 1) ?hd (cs := #[.int .i64 a0_0, .int .i64 a0_1, .int .i64 a0_2, .string a0_3]) (t := 55) ?hr ?_; (case hd => rfl); (case hg => rfl); (case hr => first | (go_simp; done) | (go_simp; rfl)); intro gb766 hg w10 hbox hb; have n0_ := Aside0.mk (below_step (by repeat (first | (with_reducible first | exact HB.out | apply below_alloc | apply pw_below_drewN | apply below_drew1) | exact HB.out)) hb); have n1_ := Aside0.mk (hbox); have n2_ := Aside0.mk ((by rw [hg]; exact (below_size (by repeat (first | (with_reducible first | exact HB.out | apply below_alloc | apply pw_below_drewN | apply below_drew1) | exact HB.out))) : w.heap.size ≤ gb766)); have n3_ := Aside0.mk ((by rw [hg]; exact (below_size (by repeat (first | (with_reducible first | exact HB.out | apply below_alloc | apply pw_below_drewN | apply below_drew1) | exact HB.out))) : w.heap.size ≤ gb766)); clear HB; have HB := n0_; have BK766 := n1_; have GW766 := n2_; have GE766 := n3_; clear n0_ n1_ n2_ n3_; clear hb hbox hg; have hcz11_0 : w10.cell? ⟨gb766, 0, none⟩ = some (.int .i64 a0_0) := (blk_cell BK766.out 0).trans rfl; have hcz11_1 : w10.cell? ⟨gb766, 1, none⟩ = some (.int .i64 a0_1) := (blk_cell BK766.out 1).trans rfl; have hcz11_2 : w10.cell? ⟨gb766, 2, none⟩ = some (.int .i64 a0_2) := (blk_cell BK766.out 2).trans rfl; have hcz11_3 : w10.cell? ⟨gb766, 3, none⟩ = some (.string a0_3) := (blk_cell BK766.out 3).trans rfl; have hfz11_0 := blk_frozen BK766.out 0; have hfz11_1 := blk_frozen BK766.out 1; have hfz11_2 := blk_frozen BK766.out 2; have hfz11_3 := blk_frozen BK766.out 3))
              go_ret
              exact ⟨by first | rfl | (simp [errW_none, errW_some] <;> rfl) | (simp [*, errW_none, errW_some] <;> rfl), by repeat (first | (with_reducible first | exact HB.out | apply below_alloc | apply pw_below_drewN | apply below_drew1 | refine below_set ?_ GE766.out) | exact HB.out)⟩
          · rw [if_neg c6] at H
            have c6b0 : decide (0 ≤ a0_2) = false := decide_eq_false c6
            clear c6
            obtain rfl := Option.some.inj H
            go_enter Tryz.func28, Tryz.ntmps28
            go_wp2_with (first | ((with_reducible refine gate_dst (N := 1) rfl ?_); (try (refine gate_guard (by rfl) ?_; dsimp only)); refine box_event ?hg (N := 1) ?hd (cs := #[.int .i64 a0_0, .int .i64 a0_1, .int .i64 a0_2, .string a0_3]) (t := 55) ?hr ?_; (case hd => rfl); (case hg => rfl); (case hr => first | (go_simp; done) | (go_simp; rfl)); intro gb766 hg w12 hbox hb; have n0_ := Aside0.mk (below_step (by repeat (first | (with_reducible first | exact HB.out | apply below_alloc | apply pw_below_drewN | apply below_drew1) | exact HB.out)) hb); have n1_ := Aside0.mk (hbox); have n2_ := Aside0.mk ((by rw [hg]; exact (below_size (by repeat (first | (with_reducible first | exact HB.out | apply below_alloc | apply pw_below_drewN | apply below_drew1) | exact HB.out))) : w.heap.size ≤ gb766)); have n3_ := Aside0.mk ((by rw [hg]; exact (below_size (by repeat (first | (with_reducible first | exact HB.out | apply below_alloc | apply pw_below_drewN | apply below_drew1) | exact HB.out))) : w.heap.size ≤ gb766)); clear HB; have HB := n0_; have BK766 := n1_; have GW766 := n2_; have GE766 := n3_; clear n0_ n1_ n2_ n3_; clear hb hbox hg; have hcz13_0 : w12.cell? ⟨gb766, 0, none⟩ = some (.int .i64 a0_0) := (blk_cell BK766.out 0).trans rfl; have hcz13_1 : w12.cell? ⟨gb766, 1, none⟩ = some (.int .i64 a0_1) := (blk_cell BK766.out 1).trans rfl; have hcz13_2 : w12.cell? ⟨gb766, 2, none⟩ = some (.int .i64 a0_2) := (blk_cell BK766.out 2).trans rfl; have hcz13_3 : w12.cell? ⟨gb766, 3, none⟩ = some (.string a0_3) := (blk_cell BK766.out 3).trans rfl; have hfz13_0 := blk_frozen BK766.out 0; have hfz13_1 := blk_frozen BK766.out 1; have hfz13_2 := blk_frozen BK766.out 2; have hfz13_3 := blk_frozen BK766.out 3))
            go_ret
            exact ⟨by first | rfl | (simp [errW_none, errW_some] <;> rfl) | (simp [*, errW_none, errW_some] <;> rfl), by repeat (first | (with_reducible first | exact HB.out | apply below_alloc | apply pw_below_drewN | apply below_drew1 | refine below_set ?_ GE766.out) | exact HB.out)⟩
        · rw [if_neg c5] at H
          have c5b0 : decide (a0_1 ≤ 1099511627776) = false := decide_eq_false c5
          clear c5
          obtain rfl := Option.some.inj H
          go_enter Tryz.func28, Tryz.ntmps28
          go_wp2_with (first | ((with_reducible refine gate_dst (N := 1) rfl ?_); (try (refine gate_guard (by rfl) ?_; dsimp only)); refine box_event ?hg (N := 1) ?hd (cs := #[.int .i64 a0_0, .int .i64 a0_1, .int .i64 a0_2, .string a0_3]) (t := 55) ?hr ?_; (case hd => rfl); (case hg => rfl); (case hr => first | (go_simp; done) | (go_simp; rfl)); intro gb766 hg w14 hbox hb; have n0_ := Aside0.mk (below_step (by repeat (first | (with_reducible first | exact HB.out | apply below_alloc | apply pw_below_drewN | apply below_drew1) | exact HB.out)) hb); have n1_ := Aside0.mk (hbox); have n2_ := Aside0.mk ((by rw [hg]; exact (below_size (by repeat (first | (with_reducible first | exact HB.out | apply below_alloc | apply pw_below_drewN | apply below_drew1) | exact HB.out))) : w.heap.size ≤ gb766)); have n3_ := Aside0.mk ((by rw [hg]; exact (below_size (by repeat (first | (with_reducible first | exact HB.out | apply below_alloc | apply pw_below_drewN | apply below_drew1) | exact HB.out))) : w.heap.size ≤ gb766)); clear HB; have HB := n0_; have BK766 := n1_; have GW766 := n2_; have GE766 := n3_; clear n0_ n1_ n2_ n3_; clear hb hbox hg; have hcz15_0 : w14.cell? ⟨gb766, 0, none⟩ = some (.int .i64 a0_0) := (blk_cell BK766.out 0).trans rfl; have hcz15_1 : w14.cell? ⟨gb766, 1, none⟩ = some (.int .i64 a0_1) := (blk_cell BK766.out 1).trans rfl; have hcz15_2 : w14.cell? ⟨gb766, 2, none⟩ = some (.int .i64 a0_2) := (blk_cell BK766.out 2).trans rfl; have hcz15_3 : w14.cell? ⟨gb766, 3, none⟩ = some (.string a0_3) := (blk_cell BK766.out 3).trans rfl; have hfz15_0 := blk_frozen BK766.out 0; have hfz15_1 := blk_frozen BK766.out 1; have hfz15_2 := blk_frozen BK766.out 2; have hfz15_3 := blk_frozen BK766.out 3))
          go_ret
          exact ⟨by first | rfl | (simp [errW_none, errW_some] <;> rfl) | (simp [*, errW_none, errW_some] <;> rfl), by repeat (first | (with_reducible first | exact HB.out | apply below_alloc | apply pw_below_drewN | apply below_drew1 | refine below_set ?_ GE766.out) | exact HB.out)⟩
      · rw [if_neg c4] at H
        have c4b0 : decide (1 ≤ a0_1) = false := decide_eq_false c4
        clear c4
        obtain rfl := Option.some.inj H
        go_enter Tryz.func28, Tryz.ntmps28
        go_wp2_with (first | ((with_reducible refine gate_dst (N := 1) rfl ?_); (try (refine gate_guard (by rfl) ?_; dsimp only)); refine box_event ?hg (N := 1) ?hd (cs := #[.int .i64 a0_0, .int .i64 a0_1, .int .i64 a0_2, .string a0_3]) (t := 55) ?hr ?_; (case hd => rfl); (case hg => rfl); (case hr => first | (go_simp; done) | (go_simp; rfl)); intro gb766 hg w16 hbox hb; have n0_ := Aside0.mk (below_step (by repeat (first | (with_reducible first | exact HB.out | apply below_alloc | apply pw_below_drewN | apply below_drew1) | exact HB.out)) hb); have n1_ := Aside0.mk (hbox); have n2_ := Aside0.mk ((by rw [hg]; exact (below_size (by repeat (first | (with_reducible first | exact HB.out | apply below_alloc | apply pw_below_drewN | apply below_drew1) | exact HB.out))) : w.heap.size ≤ gb766)); have n3_ := Aside0.mk ((by rw [hg]; exact (below_size (by repeat (first | (with_reducible first | exact HB.out | apply below_alloc | apply pw_below_drewN | apply below_drew1) | exact HB.out))) : w.heap.size ≤ gb766)); clear HB; have HB := n0_; have BK766 := n1_; have GW766 := n2_; have GE766 := n3_; clear n0_ n1_ n2_ n3_; clear hb hbox hg; have hcz17_0 : w16.cell? ⟨gb766, 0, none⟩ = some (.int .i64 a0_0) := (blk_cell BK766.out 0).trans rfl; have hcz17_1 : w16.cell? ⟨gb766, 1, none⟩ = some (.int .i64 a0_1) := (blk_cell BK766.out 1).trans rfl; have hcz17_2 : w16.cell? ⟨gb766, 2, none⟩ = some (.int .i64 a0_2) := (blk_cell BK766.out 2).trans rfl; have hcz17_3 : w16.cell? ⟨gb766, 3, none⟩ = some (.string a0_3) := (blk_cell BK766.out 3).trans rfl; have hfz17_0 := blk_frozen BK766.out 0; have hfz17_1 := blk_frozen BK766.out 1; have hfz17_2 := blk_frozen BK766.out 2; have hfz17_3 := blk_frozen BK766.out 3))
        go_ret
        exact ⟨by first | rfl | (simp [errW_none, errW_some] <;> rfl) | (simp [*, errW_none, errW_some] <;> rfl), by repeat (first | (with_reducible first | exact HB.out | apply below_alloc | apply pw_below_drewN | apply below_drew1 | refine below_set ?_ GE766.out) | exact HB.out)⟩
    · rw [if_neg c3] at H
      have c3b0 : decide (a0_0 ≤ 5) = false := decide_eq_false c3
      clear c3
      obtain rfl := Option.some.inj H
      go_enter Tryz.func28, Tryz.ntmps28
      go_wp2_with (first | ((with_reducible refine gate_dst (N := 1) rfl ?_); (try (refine gate_guard (by rfl) ?_; dsimp only)); refine box_event ?hg (N := 1) ?hd (cs := #[.int .i64 a0_0, .int .i64 a0_1, .int .i64 a0_2, .string a0_3]) (t := 55) ?hr ?_; (case hd => rfl); (case hg => rfl); (case hr => first | (go_simp; done) | (go_simp; rfl)); intro gb766 hg w18 hbox hb; have n0_ := Aside0.mk (below_step (by repeat (first | (with_reducible first | exact HB.out | apply below_alloc | apply pw_below_drewN | apply below_drew1) | exact HB.out)) hb); have n1_ := Aside0.mk (hbox); have n2_ := Aside0.mk ((by rw [hg]; exact (below_size (by repeat (first | (with_reducible first | exact HB.out | apply below_alloc | apply pw_below_drewN | apply below_drew1) | exact HB.out))) : w.heap.size ≤ gb766)); have n3_ := Aside0.mk ((by rw [hg]; exact (below_size (by repeat (first | (with_reducible first | exact HB.out | apply below_alloc | apply pw_below_drewN | apply below_drew1) | exact HB.out))) : w.heap.size ≤ gb766)); clear HB; have HB := n0_; have BK766 := n1_; have GW766 := n2_; have GE766 := n3_; clear n0_ n1_ n2_ n3_; clear hb hbox hg; have hcz19_0 : w18.cell? ⟨gb766, 0, none⟩ = some (.int .i64 a0_0) := (blk_cell BK766.out 0).trans rfl; have hcz19_1 : w18.cell? ⟨gb766, 1, none⟩ = some (.int .i64 a0_1) := (blk_cell BK766.out 1).trans rfl; have hcz19_2 : w18.cell? ⟨gb766, 2, none⟩ = some (.int .i64 a0_2) := (blk_cell BK766.out 2).trans rfl; have hcz19_3 : w18.cell? ⟨gb766, 3, none⟩ = some (.string a0_3) := (blk_cell BK766.out 3).trans rfl; have hfz19_0 := blk_frozen BK766.out 0; have hfz19_1 := blk_frozen BK766.out 1; have hfz19_2 := blk_frozen BK766.out 2; have hfz19_3 := blk_frozen BK766.out 3))
      go_ret
      exact ⟨by first | rfl | (simp [errW_none, errW_some] <;> rfl) | (simp [*, errW_none, errW_some] <;> rfl), by repeat (first | (with_reducible first | exact HB.out | apply below_alloc | apply pw_below_drewN | apply below_drew1 | refine below_set ?_ GE766.out) | exact HB.out)⟩
  · rw [if_neg c2] at H
    have c2b0 : decide (1 ≤ a0_0) = false := decide_eq_false c2
    clear c2
    obtain rfl := Option.some.inj H
    go_enter Tryz.func28, Tryz.ntmps28
    go_wp2_with (first | ((with_reducible refine gate_dst (N := 1) rfl ?_); (try (refine gate_guard (by rfl) ?_; dsimp only)); refine box_event ?hg (N := 1) ?hd (cs := #[.int .i64 a0_0, .int .i64 a0_1, .int .i64 a0_2, .string a0_3]) (t := 55) ?hr ?_; (case hd => rfl); (case hg => rfl); (case hr => first | (go_simp; done) | (go_simp; rfl)); intro gb766 hg w20 hbox hb; have n0_ := Aside0.mk (below_step (by repeat (first | (with_reducible first | exact HB.out | apply below_alloc | apply pw_below_drewN | apply below_drew1) | exact HB.out)) hb); have n1_ := Aside0.mk (hbox); have n2_ := Aside0.mk ((by rw [hg]; exact (below_size (by repeat (first | (with_reducible first | exact HB.out | apply below_alloc | apply pw_below_drewN | apply below_drew1) | exact HB.out))) : w.heap.size ≤ gb766)); have n3_ := Aside0.mk ((by rw [hg]; exact (below_size (by repeat (first | (with_reducible first | exact HB.out | apply below_alloc | apply pw_below_drewN | apply below_drew1) | exact HB.out))) : w.heap.size ≤ gb766)); clear HB; have HB := n0_; have BK766 := n1_; have GW766 := n2_; have GE766 := n3_; clear n0_ n1_ n2_ n3_; clear hb hbox hg; have hcz21_0 : w20.cell? ⟨gb766, 0, none⟩ = some (.int .i64 a0_0) := (blk_cell BK766.out 0).trans rfl; have hcz21_1 : w20.cell? ⟨gb766, 1, none⟩ = some (.int .i64 a0_1) := (blk_cell BK766.out 1).trans rfl; have hcz21_2 : w20.cell? ⟨gb766, 2, none⟩ = some (.int .i64 a0_2) := (blk_cell BK766.out 2).trans rfl; have hcz21_3 : w20.cell? ⟨gb766, 3, none⟩ = some (.string a0_3) := (blk_cell BK766.out 3).trans rfl; have hfz21_0 := blk_frozen BK766.out 0; have hfz21_1 := blk_frozen BK766.out 1; have hfz21_2 := blk_frozen BK766.out 2; have hfz21_3 := blk_frozen BK766.out 3))
    go_ret
    exact ⟨by first | rfl | (simp [errW_none, errW_some] <;> rfl) | (simp [*, errW_none, errW_some] <;> rfl), by repeat (first | (with_reducible first | exact HB.out | apply below_alloc | apply pw_below_drewN | apply below_drew1 | refine below_set ?_ GE766.out) | exact HB.out)⟩
end Go.Proofs.YtpgjlcbjcnbjkaaGreatDoor.RP
end
section
namespace Go.Proofs.YtpgjlcbjcnbjkaaGreatDoor.RP
open Go.RowKit Go.Proofs.YtpgjlcbjcnbjkaaGreatDoorW.PrintWords Go.Proofs.YtpgjlcbjcnbjkaaGreatDoorW.PrintLast Go.Proofs.YtpgjlcbjcnbjkaaGreatDoorW.PrintMore
set_option linter.unusedVariables false

/-- What a text's reading comes to, its number's reading being known. -/
noncomputable def textOf (l : List Int) (n kk err : Int) : ByteArray × Int × Int :=
  if err = 0 then (if n < 0 then (⟨#[]⟩, 0, 1) else if n > 1048576 then (⟨#[]⟩, 0, 1) else if n > (l.length : Int) - kk then (⟨#[]⟩, 0, 2) else (strOfNums ((l.take (kk + n).toNat).drop kk.toNat), kk + n, 0)) else (⟨#[]⟩, 0, err)

set_option maxHeartbeats 8000000 in
set_option maxRecDepth 100000 in
theorem text135 (k : Nat) (A : Option Addr) (c : Nat) (l : List Int) (n kk err : Int) (w : World) (hr : Kd.C (Kd.int .u8) w A l.length l) (hc : l.length ≤ c) (h : num_Get.f k l = some (n, kk, err)) (hb : err = 0 → 0 ≤ kk ∧ kk ≤ l.length) :
    Calls Tryz.prog 135 #[.slice A l.length c] w fun e w' => e = .returned (.tuple #[.string (textOf l n kk err).1, .int .i64 (textOf l n kk err).2.1, .int .i64 (textOf l n kk err).2.2]) ∧ Drawn0 w w' := by
  have hm := Kd.C_max hr
  have HR := Aside0.mk hr
  have HC := Aside0.mk hc
  have HG := Aside0.mk h
  clear hr hc h
  unfold textOf
  by_cases e0 : err = 0
  · subst e0
    obtain ⟨h0, h1⟩ := hb rfl
    clear hb
    by_cases n0 : n < 0
    · simp only [if_true, if_pos n0]
      have b0 := decide_eq_true n0
      go_enter Tryz.func135, Tryz.ntmps135
      go_wp2_with (go_at_call 134; refine (num_Get.calls k _ _ _ _ _ _ _ HR.out HC.out HG.out).mono ?_; rintro e w' ⟨rfl, ⟨m, rfl⟩⟩)
      go_ret3
      exact ⟨rfl, ⟨⟨_, rfl⟩⟩⟩
    · by_cases n1 : n > 1048576
      · simp only [if_true, if_neg n0, if_pos n1]
        have b0 := decide_eq_false n0
        have b1 : decide (1048576 < n) = true := decide_eq_true n1
        go_enter Tryz.func135, Tryz.ntmps135
        go_wp2_with (go_at_call 134; refine (num_Get.calls k _ _ _ _ _ _ _ HR.out HC.out HG.out).mono ?_; rintro e w' ⟨rfl, ⟨m, rfl⟩⟩)
        go_ret3
        exact ⟨rfl, ⟨⟨_, rfl⟩⟩⟩
      · by_cases n2 : n > (l.length : Int) - kk
        · simp only [if_true, if_neg n0, if_neg n1, if_pos n2]
          have p0 : 0 ≤ n := by omega
          have p1 : n ≤ 1048576 := by omega
          have b0 := decide_eq_false n0
          have b1 : decide (1048576 < n) = false := decide_eq_false n1
          have b2 : decide ((l.length : Int) - kk < n) = true := decide_eq_true n2
          go_enter Tryz.func135, Tryz.ntmps135
          go_wp2_with (go_at_call 134; refine (num_Get.calls k _ _ _ _ _ _ _ HR.out HC.out HG.out).mono ?_; rintro e w' ⟨rfl, ⟨m, rfl⟩⟩)
          go_ret3
          exact ⟨rfl, ⟨⟨_, rfl⟩⟩⟩
        · simp only [if_true, if_neg n0, if_neg n1, if_neg n2]
          have p0 : 0 ≤ n := by omega
          have p1 : n ≤ 1048576 := by omega
          have p2 : kk + n ≤ (l.length : Int) := by omega
          have b0 := decide_eq_false n0
          have b1 : decide (1048576 < n) = false := decide_eq_false n1
          have b2 : decide ((l.length : Int) - kk < n) = false := decide_eq_false n2
          obtain ⟨i0, hi0, _, hsz, _⟩ := info_parts (show (Tryz.prog.info? 5).map (fun i => (i.zero, i.size, i.bytes)) = some (some (.int .u8 0), 1, 1) by kernel_rfl)
          obtain ⟨A1, hcut, hA1, hC1⟩ := print_mid_of (P := Tryz.prog) (Value.int .u8) 0 22 5 .i64 .i64 Tryz.underlying22 hi0 hsz A c l kk (kk + n) h0 (by omega) p2 HC.out
          have HR1 : Kd.C (Kd.int .u8) w A1 _ _ := Kd.C_of_reads (h1 := fun _ => rfl) (hA1 _ (Kd.reads_of_C HR.out))
          clear hA1 hC1 hi0 hsz
          generalize (l.take (kk + n).toNat).drop kk.toNat = ys at *
          go_enter Tryz.func135, Tryz.ntmps135
          go_wp2_with (go_at_call 134; refine (num_Get.calls k _ _ _ _ _ _ _ HR.out HC.out HG.out).mono ?_; rintro e w' ⟨rfl, ⟨m, rfl⟩⟩; have hcw := Kd.C_string (P := Tryz.prog) (c := c - kk.toNat) Tryz.underlying22 Tryz.underlying5 Tryz.underlying9 (Kd.C_drewN HR1 m))
          go_ret3
          exact ⟨rfl, ⟨⟨_, rfl⟩⟩⟩
  · simp only [if_neg e0]
    clear hb
    have b0 : (err == 0) = false := by simpa using e0
    have b1 : (err != 0) = true := by simpa using e0
    clear e0
    go_enter Tryz.func135, Tryz.ntmps135
    go_wp2_with (go_at_call 134; refine (num_Get.calls k _ _ _ _ _ _ _ HR.out HC.out HG.out).mono ?_; rintro e w' ⟨rfl, ⟨m, rfl⟩⟩)
    go_ret3
    exact ⟨rfl, ⟨⟨_, rfl⟩⟩⟩
end Go.Proofs.YtpgjlcbjcnbjkaaGreatDoor.RP
end
section
namespace Go.Proofs.YtpgjlcbjcnbjkaaGreatDoor.RP
open Go.RowKit Go.Proofs.YtpgjlcbjcnbjkaaGreatDoorW.PrintWords Go.Proofs.YtpgjlcbjcnbjkaaGreatDoorW.PrintLast Go.Proofs.YtpgjlcbjcnbjkaaGreatDoorW.PrintMore
set_option linter.unusedVariables false

abbrev By (w : World) (A : Option Addr) (l : List Int) : Prop := Kd.C (Kd.int .u8) w A l.length l
/-- A reader at block g, of bytes L that came from A: what it has left, whether it is bad. -/
structure Rd (w : World) (g : Nat) (A : Option Addr) (L l : List Int) (bad : Bool) : Prop where
  out : ∃ A1 c, w.heap[g]? = some (.cells #[.slice A1 l.length c, .bool bad] 132 (0, 0)) ∧ l.length ≤ c ∧ ∀ W, By W A L → By W A1 l
theorem Rd.kept {w w' : World} {g g' : Nat} {A : Option Addr} {L l : List Int} {bad : Bool} (h : Rd w g A L l bad) (hk : KeepBut w w' g' none) (hne : g ≠ g') : Rd w' g A L l bad := by
  obtain ⟨A1, c, h1, h2, h3⟩ := h.out
  exact ⟨A1, c, hk.blk h1 hne (by simp), h2, h3⟩
theorem Rd.below {w w' : World} {g : Nat} {A : Option Addr} {L l : List Int} {bad : Bool} (h : Rd w g A L l bad) (hb : Below w.heap.size w w') : Rd w' g A L l bad := by
  obtain ⟨A1, c, h1, h2, h3⟩ := h.out
  exact ⟨A1, c, blk_below h1 hb, h2, h3⟩

set_option maxHeartbeats 8000000 in
set_option maxRecDepth 100000 in
theorem num72_ok (k : Nat) (g : Nat) (A : Option Addr) (L l : List Int) (n kk : Int) (w0 w : World) (hB : Below w0.heap.size w0 w) (hg : w0.heap.size ≤ g) (R : Rd w g A L l false) (C0 : By w A L)
    (h : num_Get.f k l = some (n, kk, 0)) (h0 : 0 ≤ kk) (h1 : kk ≤ l.length) :
    Calls Tryz.prog 72 #[.pointer (some ⟨g, 0, none⟩)] w fun e w' => e = .returned (.int .i64 n) ∧ Rd w' g A L (l.drop kk.toNat) false ∧ Below w0.heap.size w0 w' ∧ KeepBut w w' g none := by
  obtain ⟨A1, c, hblk, hc, hF⟩ := R.out
  obtain ⟨i0, hi0, _, hsz, _⟩ := info_parts info5
  obtain ⟨A2, hcut, hA2, hc2⟩ := print_cut_int (P := Tryz.prog) (k := .u8) 22 5 Tryz.underlying22 hi0 hsz A1 c l kk h0 h1 hc
  have hF2 : ∀ W, By W A L → By W A2 (l.drop kk.toNat) := fun W hW => Kd.C_of_reads (enc := Value.int .u8) (d := (0 : Int)) (h1 := fun _ => rfl) (hA2 W (Kd.reads_of_C (enc := Value.int .u8) (d := (0 : Int)) (h1 := fun _ => rfl) (hF W hW)))
  have HG := Aside0.mk h
  have HR := Aside0.mk (hF w C0)
  have HC := Aside0.mk hc
  have HF2 := Aside0.mk hF2
  have HC2 := Aside0.mk hc2
  have HB := Aside0.mk hB
  have HBK := Aside0.mk hblk
  have q0 : w.cell? ⟨g, 0, none⟩ = some (.slice A1 l.length c) := (blk_cell hblk 0).trans rfl
  have q1 : w.cell? ⟨g, 1, none⟩ = some (.bool false) := (blk_cell hblk 1).trans rfl
  have f0 := blk_frozen hblk 0
  have f1 := blk_frozen hblk 1
  clear h hF hc hA2 hF2 hc2 R C0 hB hi0 hsz hblk
  have hu132 := Tryz.underlying132
  generalize l.drop kk.toNat = l2 at *
  go_enter Tryz.func72, Tryz.ntmps72
  go_wp2_with (go_at_call 134; refine (num_Get.calls k _ _ _ _ _ _ _ HR.out HC.out HG.out).mono ?_; rintro e w' ⟨rfl, ⟨m, rfl⟩⟩)
  go_ret
  exact ⟨rfl, ⟨A2, c - kk.toNat, blk_put (blk_put (blk_drewN HBK.out m) 1 _ rfl) 0 _ rfl, HC2.out, HF2.out⟩, below_set (below_set (pw_below_drewN HB.out m) hg) hg, ((keep_drewN (KeepBut.refl w g none) m).set_ 1 _).set_ 0 _⟩

set_option maxHeartbeats 8000000 in
set_option maxRecDepth 100000 in
theorem num72_bad (k : Nat) (g : Nat) (A : Option Addr) (L l : List Int) (n kk err : Int) (bad : Bool) (w0 w : World) (hB : Below w0.heap.size w0 w) (hg : w0.heap.size ≤ g) (R : Rd w g A L l bad) (C0 : By w A L)
    (h : num_Get.f k l = some (n, kk, err)) (hb : bad = true ∨ err ≠ 0) :
    Calls Tryz.prog 72 #[.pointer (some ⟨g, 0, none⟩)] w fun e w' => e = .returned (.int .i64 0) ∧ Rd w' g A L l true ∧ Below w0.heap.size w0 w' ∧ KeepBut w w' g none := by
  obtain ⟨A1, c, hblk, hc, hF⟩ := R.out
  have HG := Aside0.mk h
  have HR := Aside0.mk (hF w C0)
  have HC := Aside0.mk hc
  have HF := Aside0.mk hF
  have HB := Aside0.mk hB
  have HBK := Aside0.mk hblk
  have q0 : w.cell? ⟨g, 0, none⟩ = some (.slice A1 l.length c) := (blk_cell hblk 0).trans rfl
  have q1 : w.cell? ⟨g, 1, none⟩ = some (.bool bad) := (blk_cell hblk 1).trans rfl
  have f0 := blk_frozen hblk 0
  have f1 := blk_frozen hblk 1
  clear h hF hc R C0 hB hblk
  have hu132 := Tryz.underlying132
  cases bad with
  | true =>
    clear hb
    go_enter Tryz.func72, Tryz.ntmps72
    go_wp2_with (go_at_call 134; refine (num_Get.calls k _ _ _ _ _ _ _ HR.out HC.out HG.out).mono ?_; rintro e w' ⟨rfl, ⟨m, rfl⟩⟩)
    go_ret
    exact ⟨rfl, ⟨A1, c, blk_put (blk_drewN HBK.out m) 1 _ rfl, HC.out, HF.out⟩, below_set (pw_below_drewN HB.out m) hg, (keep_drewN (KeepBut.refl w g none) m).set_ 1 _⟩
  | false =>
    have e0 : err ≠ 0 := hb.resolve_left (by decide)
    have b0 : (err == 0) = false := by simpa using e0
    have b1 : (err != 0) = true := by simpa using e0
    clear hb e0
    go_enter Tryz.func72, Tryz.ntmps72
    go_wp2_with (go_at_call 134; refine (num_Get.calls k _ _ _ _ _ _ _ HR.out HC.out HG.out).mono ?_; rintro e w' ⟨rfl, ⟨m, rfl⟩⟩)
    go_ret
    exact ⟨rfl, ⟨A1, c, blk_put (blk_drewN HBK.out m) 1 _ rfl, HC.out, HF.out⟩, below_set (pw_below_drewN HB.out m) hg, (keep_drewN (KeepBut.refl w g none) m).set_ 1 _⟩

set_option maxHeartbeats 8000000 in
set_option maxRecDepth 100000 in
theorem text73_ok (g : Nat) (A : Option Addr) (L l : List Int) (s : ByteArray) (kk : Int) (w0 w : World) (hB : Below w0.heap.size w0 w) (hg : w0.heap.size ≤ g) (R : Rd w g A L l false) (C0 : By w A L)
    (HT : Hid (∀ (A1 : Option Addr) (c : Nat) (W : World), By W A1 l → l.length ≤ c → Calls Tryz.prog 135 #[.slice A1 l.length c] W fun e w' => e = .returned (.tuple #[.string s, .int .i64 kk, .int .i64 0]) ∧ Drawn0 W w')) (h0 : 0 ≤ kk) (h1 : kk ≤ l.length) :
    Calls Tryz.prog 73 #[.pointer (some ⟨g, 0, none⟩)] w fun e w' => e = .returned (.string s) ∧ Rd w' g A L (l.drop kk.toNat) false ∧ Below w0.heap.size w0 w' ∧ KeepBut w w' g none := by
  obtain ⟨A1, c, hblk, hc, hF⟩ := R.out
  obtain ⟨i0, hi0, _, hsz, _⟩ := info_parts info5
  obtain ⟨A2, hcut, hA2, hc2⟩ := print_cut_int (P := Tryz.prog) (k := .u8) 22 5 Tryz.underlying22 hi0 hsz A1 c l kk h0 h1 hc
  have hF2 : ∀ W, By W A L → By W A2 (l.drop kk.toNat) := fun W hW => Kd.C_of_reads (enc := Value.int .u8) (d := (0 : Int)) (h1 := fun _ => rfl) (hA2 W (Kd.reads_of_C (enc := Value.int .u8) (d := (0 : Int)) (h1 := fun _ => rfl) (hF W hW)))
  have HR := Aside0.mk (hF w C0)
  have HC := Aside0.mk hc
  have HF2 := Aside0.mk hF2
  have HC2 := Aside0.mk hc2
  have HB := Aside0.mk hB
  have HBK := Aside0.mk hblk
  have q0 : w.cell? ⟨g, 0, none⟩ = some (.slice A1 l.length c) := (blk_cell hblk 0).trans rfl
  have q1 : w.cell? ⟨g, 1, none⟩ = some (.bool false) := (blk_cell hblk 1).trans rfl
  have f0 := blk_frozen hblk 0
  have f1 := blk_frozen hblk 1
  clear hF hc hA2 hF2 hc2 R C0 hB hi0 hsz hblk
  have hu132 := Tryz.underlying132
  generalize l.drop kk.toNat = l2 at *
  go_enter Tryz.func73, Tryz.ntmps73
  go_wp2_with (go_at_call 135; refine (HT _ _ _ HR.out HC.out).mono ?_; rintro e w' ⟨rfl, ⟨m, rfl⟩⟩)
  go_ret
  exact ⟨rfl, ⟨A2, c - kk.toNat, blk_put (blk_put (blk_drewN HBK.out m) 1 _ rfl) 0 _ rfl, HC2.out, HF2.out⟩, below_set (below_set (pw_below_drewN HB.out m) hg) hg, ((keep_drewN (KeepBut.refl w g none) m).set_ 1 _).set_ 0 _⟩

set_option maxHeartbeats 8000000 in
set_option maxRecDepth 100000 in
theorem text73_bad (g : Nat) (A : Option Addr) (L l : List Int) (s : ByteArray) (kk err : Int) (bad : Bool) (w0 w : World) (hB : Below w0.heap.size w0 w) (hg : w0.heap.size ≤ g) (R : Rd w g A L l bad) (C0 : By w A L)
    (HT : Hid (∀ (A1 : Option Addr) (c : Nat) (W : World), By W A1 l → l.length ≤ c → Calls Tryz.prog 135 #[.slice A1 l.length c] W fun e w' => e = .returned (.tuple #[.string s, .int .i64 kk, .int .i64 err]) ∧ Drawn0 W w')) (hb : bad = true ∨ err ≠ 0) :
    Calls Tryz.prog 73 #[.pointer (some ⟨g, 0, none⟩)] w fun e w' => e = .returned (.string ⟨#[]⟩) ∧ Rd w' g A L l true ∧ Below w0.heap.size w0 w' ∧ KeepBut w w' g none := by
  obtain ⟨A1, c, hblk, hc, hF⟩ := R.out
  have HR := Aside0.mk (hF w C0)
  have HC := Aside0.mk hc
  have HF := Aside0.mk hF
  have HB := Aside0.mk hB
  have HBK := Aside0.mk hblk
  have q0 : w.cell? ⟨g, 0, none⟩ = some (.slice A1 l.length c) := (blk_cell hblk 0).trans rfl
  have q1 : w.cell? ⟨g, 1, none⟩ = some (.bool bad) := (blk_cell hblk 1).trans rfl
  have f0 := blk_frozen hblk 0
  have f1 := blk_frozen hblk 1
  clear hF hc R C0 hB hblk
  have hu132 := Tryz.underlying132
  cases bad with
  | true =>
    clear hb
    go_enter Tryz.func73, Tryz.ntmps73
    go_wp2_with (go_at_call 135; refine (HT _ _ _ HR.out HC.out).mono ?_; rintro e w' ⟨rfl, ⟨m, rfl⟩⟩)
    go_ret
    exact ⟨rfl, ⟨A1, c, blk_put (blk_drewN HBK.out m) 1 _ rfl, HC.out, HF.out⟩, below_set (pw_below_drewN HB.out m) hg, (keep_drewN (KeepBut.refl w g none) m).set_ 1 _⟩
  | false =>
    have e0 : err ≠ 0 := hb.resolve_left (by decide)
    have b0 : (err == 0) = false := by simpa using e0
    have b1 : (err != 0) = true := by simpa using e0
    clear hb e0
    go_enter Tryz.func73, Tryz.ntmps73
    go_wp2_with (go_at_call 135; refine (HT _ _ _ HR.out HC.out).mono ?_; rintro e w' ⟨rfl, ⟨m, rfl⟩⟩)
    go_ret
    exact ⟨rfl, ⟨A1, c, blk_put (blk_drewN HBK.out m) 1 _ rfl, HC.out, HF.out⟩, below_set (pw_below_drewN HB.out m) hg, (keep_drewN (KeepBut.refl w g none) m).set_ 1 _⟩
end Go.Proofs.YtpgjlcbjcnbjkaaGreatDoor.RP
end
section
namespace Go.Proofs.YtpgjlcbjcnbjkaaGreatDoor.RP
open Go.RowKit Go.Proofs.YtpgjlcbjcnbjkaaGreatDoorW.PrintWords Go.Proofs.YtpgjlcbjcnbjkaaGreatDoorW.PrintLast Go.Proofs.YtpgjlcbjcnbjkaaGreatDoorW.PrintMore
set_option linter.unusedVariables false

/-! ### A number's reading always comes to an end -/
theorem j2_some (k : Nat) (u i : Int) (b : Bool) (n : Nat) (h0 : 0 ≤ i) (h1 : i < n) (hn : n ≤ 9223372036854775807) : ∃ r kk err, num_Get.j2 (k + 1) u i b = some (r, kk, err) ∧ (err = 0 → 0 ≤ kk ∧ kk ≤ n) := by
  have hw : wrap64 (i + 1) = i + 1 := by unfold wrap64; omega
  simp only [num_Get.j2]
  split
  · exact ⟨_, _, _, rfl, fun h => by cases h⟩
  · split
    · exact ⟨_, _, _, rfl, fun _ => by rw [hw]; omega⟩
    · exact ⟨_, _, _, rfl, fun _ => by rw [hw]; omega⟩
theorem get_some (l : List Int) (hn : l.length ≤ 140737488355328) (d : Nat) : ∀ (k : Nat) (u i : Int), 0 ≤ i → i ≤ l.length → (l.length : Int) - i = d → 3 * d + 3 ≤ k →
    ∃ n kk err, num_Get.l0 k u l (l.length : Int) i = some (n, kk, err) ∧ (err = 0 → 0 ≤ kk ∧ kk ≤ l.length) := by
  induction d with
  | zero =>
    intro k u i h0 h1 hd hk
    obtain ⟨k, rfl⟩ : ∃ m, k = m + 1 := ⟨k - 1, by omega⟩
    simp only [num_Get.l0]
    rw [if_neg (by omega)]
    exact ⟨_, _, _, rfl, fun h => by cases h⟩
  | succ d ih =>
    intro k u i h0 h1 hd hk
    obtain ⟨k, rfl⟩ : ∃ m, k = m + 3 := ⟨k - 3, by omega⟩
    have hlt : i < (l.length : Int) := by omega
    have hib : i ≤ 140737488355328 := by omega
    have h7 : 0 ≤ wrap64 (7 * i) := by
      have e : wrap64 (7 * i) = 7 * i := by unfold wrap64; omega
      omega
    have hw : wrap64 (i + 1) = i + 1 := by unfold wrap64; omega
    have hj : ∀ b : Bool, ∃ n kk err, num_Get.j1 (k + 2) u i (rd l i) l (l.length : Int) i b = some (n, kk, err) ∧ (err = 0 → 0 ≤ kk ∧ kk ≤ l.length) := by
      intro b
      simp only [num_Get.j1]
      split
      · exact ⟨_, _, _, rfl, fun h => by cases h⟩
      · (try rw [if_pos h7])
        split
        · rw [hw]; exact ih (k + 1) _ (i + 1) (by omega) (by omega) (by omega) (by omega)
        · split
          · exact j2_some k _ i _ l.length h0 hlt (by omega)
          · exact j2_some k _ i _ l.length h0 hlt (by omega)
    simp only [num_Get.l0]
    rw [if_pos hlt, if_pos h0, if_pos hlt]
    split
    · exact hj _
    · exact hj _
/-- Rounds enough. -/
noncomputable def fuel (l : List Int) : Nat := 3 * l.length + 3
noncomputable def get (l : List Int) : Int × Int × Int := (num_Get.f (fuel l) l).getD (0, 0, 1)
theorem get_is (l : List Int) (hn : l.length ≤ 140737488355328) : num_Get.f (fuel l) l = some (get l) ∧ ((get l).2.2 = 0 → 0 ≤ (get l).2.1 ∧ (get l).2.1 ≤ l.length) := by
  obtain ⟨n, kk, err, h, hb⟩ := get_some l hn l.length (fuel l) 0 0 (by omega) (by omega) (by omega) (by unfold fuel; omega)
  have e : num_Get.f (fuel l) l = some (n, kk, err) := h
  unfold get
  rw [e]
  exact ⟨rfl, hb⟩

/-! ### Put -/
/-- The bytes of a number below 2^63. -/
noncomputable def enc : Nat → Int → List Int
  | 0, u => [u % 256]
  | d + 1, u => if u > 127 then (128 + u % 128) :: enc d (u / 128) else [u % 256]
theorem or128 (u : Int) : Go.bits .or .u8 (u % 256) 128 = 128 + u % 128 := by
  have h : ∀ n : Fin 256, Go.bits .or .u8 ((n.val : Nat) : Int) 128 = 128 + ((n.val : Nat) : Int) % 128 := by decide +kernel
  have h0 : 0 ≤ u % 256 := by omega
  have h1 : u % 256 < 256 := by omega
  have := h ⟨(u % 256).toNat, by omega⟩
  simp only [Int.toNat_of_nonneg h0] at this
  rw [this]; omega
theorem put_loop (d : Nat) : ∀ (k : Nat) (l : List Int) (u : Int), 0 ≤ u → u < 128 ^ (d + 1) → d < k → l.length + d < 140737488355328 → num_Put.l0 k l u = some (l ++ enc d u) := by
  induction d with
  | zero =>
    intro k l u h0 h1 hk hl
    obtain ⟨k, rfl⟩ : ∃ m, k = m + 1 := ⟨k - 1, by omega⟩
    simp only [num_Put.l0]
    rw [if_neg (by simp at h1; omega), if_pos (by omega)]; rfl
  | succ d ih =>
    intro k l u h0 h1 hk hl
    obtain ⟨k, rfl⟩ : ∃ m, k = m + 1 := ⟨k - 1, by omega⟩
    simp only [num_Put.l0, enc]
    by_cases h : u > 127
    · rw [if_pos h, if_pos h, if_pos (by omega), or128, ih k _ (u / 128) (by omega) ?_ (by omega) (by simp; omega)]
      · simp
      · have e : (128 : Int) ^ (d + 1 + 1) = 128 ^ (d + 1) * 128 := Int.pow_succ 128 (d + 1)
        rw [e] at h1
        exact Int.ediv_lt_of_lt_mul (by omega) h1
    · rw [if_neg h, if_neg h, if_pos (by omega)]
/-- A number that is not below zero and not too great. -/
theorem put_is (k : Nat) (l : List Int) (n : Int) (h0 : 0 ≤ n) (h1 : n ≤ 1099511627776) (hk : 8 ≤ k) (hl : l.length + 6 < 140737488355328) : num_Put.f k l n = some (l ++ enc 6 (2 * n)) := by
  obtain ⟨k, rfl⟩ : ∃ m, k = m + 1 := ⟨k - 1, by omega⟩
  unfold num_Put.f
  rw [if_neg (by omega)]
  simp only [num_Put.j0]
  rw [u64_wrap_id n (by omega) (by omega), u64_wrap_id (n * 2) (by omega) (by omega), Int.mul_comm n 2]
  exact put_loop 6 k l (2 * n) (by omega) (by have : (128 : Int) ^ (6 + 1) = 562949953421312 := by decide
                                              omega) (by omega) (by omega)
theorem enc_len (d : Nat) (u : Int) : 1 ≤ (enc d u).length ∧ (enc d u).length ≤ d + 1 := by
  induction d generalizing u with
  | zero => simp [enc]
  | succ d ih =>
    unfold enc
    split
    · have := ih (u / 128); simp; omega
    · simp
end Go.Proofs.YtpgjlcbjcnbjkaaGreatDoor.RP
end
section
namespace Go.Proofs.YtpgjlcbjcnbjkaaGreatDoor.RP
open Go.RowKit Go.Proofs.YtpgjlcbjcnbjkaaGreatDoorW.PrintWords Go.Proofs.YtpgjlcbjcnbjkaaGreatDoorW.PrintLast Go.Proofs.YtpgjlcbjcnbjkaaGreatDoorW.PrintMore
set_option linter.unusedVariables false

theorem pow_bounds (i : Nat) (hi : i ≤ 6) : 1 ≤ (2 : Int) ^ (7 * i) ∧ (2 : Int) ^ (7 * i) ≤ 4398046511104 := by
  obtain rfl | rfl | rfl | rfl | rfl | rfl | rfl : i = 0 ∨ i = 1 ∨ i = 2 ∨ i = 3 ∨ i = 4 ∨ i = 5 ∨ i = 6 := by omega
  all_goals decide
theorem acc_step (i : Nat) (hi : i ≤ 6) (acc c : Int) (h0 : 0 ≤ acc) (h1 : acc < 2 ^ (7 * i)) (hc0 : 0 ≤ c) (hc : c ≤ 255) :
    Go.bits .or .u64 acc (shl .u64 (IntKind.u64.wrap (Go.bits .and .u8 c 127)) (wrap64 (7 * (i : Int)))) = acc + c % 128 * 2 ^ (7 * i) := by
  have e7 : wrap64 (7 * (i : Int)) = 7 * (i : Int) := by unfold wrap64; omega
  have em : min (7 * (i : Int)).toNat IntKind.u64.bits = 7 * i := by
    have : IntKind.u64.bits = 64 := rfl
    omega
  have hp := pow_bounds i hi
  have hm : Go.bits .and .u8 c 127 = c % 128 := bits_mask .u8 8 (by decide) wraps_u8 7 (by decide) c hc0 (by omega)
  have hx0 : 0 ≤ c % 128 := by omega
  have hx1 : c % 128 ≤ 127 := by omega
  have hb : c % 128 * 2 ^ (7 * i) ≤ 127 * 4398046511104 := Int.mul_le_mul hx1 hp.2 (by omega) (by omega)
  have hb0 : 0 ≤ c % 128 * 2 ^ (7 * i) := Int.mul_nonneg hx0 (by omega)
  unfold shl
  rw [e7, em, hm, u64_wrap_id (c % 128) hx0 (by omega), u64_wrap_id _ hb0 (by omega)]
  exact bits_join_low .u64 64 (by decide) wraps_u64 (7 * i) acc _ h0 h1 (by omega) hb0 (Int.mul_emod_left _ _) (by omega)
theorem and_one (v : Int) (h0 : 0 ≤ v) (h1 : v < 18446744073709551616) : Go.bits .and .u64 v 1 = v % 2 := bits_mask .u64 64 (by decide) wraps_u64 1 (by decide) v h0 (by omega)

theorem rd_mid (pre : List Int) (x : Int) (rest : List Int) : rd (pre ++ x :: rest) (pre.length : Int) = x := by
  unfold rd
  rw [Int.toNat_natCast, List.getD_eq_getElem?_getD, List.getElem?_append_right (Nat.le_refl _)]
  simp
theorem pow7 (i : Nat) : (2 : Int) ^ (7 * (i + 1)) = 128 * 2 ^ (7 * i) := by
  rw [show 7 * (i + 1) = 7 + 7 * i by omega, Int.pow_add]; rfl

/-- The last byte. -/
theorem get_last (k : Nat) (pre rest : List Int) (acc u : Int) (hi : pre.length ≤ 6) (ha0 : 0 ≤ acc) (ha : acc < 2 ^ (7 * pre.length)) (hu0 : 0 ≤ u) (hu : u ≤ 127) (hu1 : 0 < pre.length → 1 ≤ u)
    (hv : (acc + u * 2 ^ (7 * pre.length)) % 2 = 0) (hlen : (pre ++ u :: rest).length ≤ 140737488355328) :
    num_Get.l0 (k + 3) acc (pre ++ u :: rest) ((pre ++ u :: rest).length : Int) (pre.length : Int) = some ((acc + u * 2 ^ (7 * pre.length)) / 2, (pre.length : Int) + 1, 0) := by
  have hp := pow_bounds pre.length hi
  have hb : u * 2 ^ (7 * pre.length) ≤ 127 * 4398046511104 := Int.mul_le_mul hu hp.2 (by omega) (by omega)
  have hb0 : 0 ≤ u * 2 ^ (7 * pre.length) := Int.mul_nonneg hu0 (by omega)
  have e7 : wrap64 (7 * (pre.length : Int)) = 7 * (pre.length : Int) := by unfold wrap64; omega
  have h7 : 0 ≤ wrap64 (7 * (pre.length : Int)) := by omega
  have hw : wrap64 ((pre.length : Int) + 1) = (pre.length : Int) + 1 := by unfold wrap64; omega
  have hlt : (pre.length : Int) < ((pre ++ u :: rest).length : Int) := by simp; omega
  have hs := acc_step pre.length hi acc u ha0 ha hu0 (by omega)
  rw [Int.emod_eq_of_lt hu0 (by omega)] at hs
  have hw2 : wrap64 ((acc + u * 2 ^ (7 * pre.length)) / 2) = (acc + u * 2 ^ (7 * pre.length)) / 2 := by unfold wrap64; omega
  have h2 : num_Get.j2 (k + 1) (acc + u * 2 ^ (7 * pre.length)) (pre.length : Int) false = some ((acc + u * 2 ^ (7 * pre.length)) / 2, (pre.length : Int) + 1, 0) := by
    simp only [num_Get.j2]
    rw [if_neg (by decide), if_neg (by rw [and_one _ (by omega) (by omega)]; omega), hw, hw2]
  simp only [num_Get.l0]
  rw [if_pos hlt, if_pos (by omega), if_pos hlt, if_neg (by omega), rd_mid]
  simp only [num_Get.j1]
  rw [if_neg (by decide), if_pos h7, if_neg (by omega), hs]
  split
  · rw [show (u == 0) = false by simp; omega]; exact h2
  · exact h2

theorem get_enc (d : Nat) : ∀ (k : Nat) (pre rest : List Int) (acc u p : Int), Aside0 (p = 2 ^ (7 * pre.length)) → pre.length + d ≤ 6 → 0 ≤ acc → acc < p → 0 ≤ u → Aside0 (u < 128 ^ (d + 1)) → (0 < pre.length → 1 ≤ u) →
    (acc + u * p) % 2 = 0 → (pre ++ (enc d u ++ rest)).length ≤ 140737488355328 → 3 * d + 3 ≤ k →
    num_Get.l0 k acc (pre ++ (enc d u ++ rest)) ((pre ++ (enc d u ++ rest)).length : Int) (pre.length : Int) = some ((acc + u * p) / 2, (pre.length : Int) + (enc d u).length, 0) := by
  induction d with
  | zero =>
    intro k pre rest acc u p Hp hi ha0 ha hu0 HU hu1 hv hlen hk
    obtain ⟨k, rfl⟩ : ∃ m, k = m + 3 := ⟨k - 3, by omega⟩
    have hu' : u ≤ 127 := by
      have h : u < 128 := HU.out
      clear hv
      omega
    have e : enc 0 u = [u] := by unfold enc; rw [Int.emod_eq_of_lt hu0 (Int.lt_of_le_of_lt hu' (by decide))]
    rw [e] at hlen ⊢
    have hp := Hp.out
    subst hp
    exact get_last k pre rest acc u (Nat.le_trans (Nat.le_add_right _ _) hi) ha0 ha hu0 hu' hu1 hv hlen
  | succ d ih =>
    intro k pre rest acc u p Hp hi ha0 ha hu0 HU hu1 hv hlen hk
    obtain ⟨k, rfl⟩ : ∃ m, k = m + 3 := ⟨k - 3, by omega⟩
    by_cases h : u > 127
    · have e : enc (d + 1) u = (128 + u % 128) :: enc d (u / 128) := by rw [enc, if_pos h]
      rw [e] at hlen ⊢
      have hi6 : pre.length ≤ 6 := by omega
      have h7 : 0 ≤ wrap64 (7 * (pre.length : Int)) := by
        have e7 : wrap64 (7 * (pre.length : Int)) = 7 * (pre.length : Int) := by clear hv hlen ha; unfold wrap64; omega
        rw [e7]; clear hv hlen ha; omega
      have hw : wrap64 ((pre.length : Int) + 1) = (pre.length : Int) + 1 := by clear hv hlen ha h7; unfold wrap64; omega
      have hlt : (pre.length : Int) < ((pre ++ ((128 + u % 128) :: enc d (u / 128) ++ rest)).length : Int) := by clear hv hlen ha; simp; omega
      have hs := acc_step pre.length hi6 acc (128 + u % 128) ha0 (Hp.out ▸ ha) (by clear hv hlen; omega) (by clear hv hlen; omega)
      rw [show (128 + u % 128) % 128 = u % 128 by clear hv hlen; omega, ← Hp.out] at hs
      have hp1 : 1 ≤ p := by have := (pow_bounds pre.length hi6).1; rw [← Hp.out] at this; exact this
      have hpl : (pre ++ [128 + u % 128]).length = pre.length + 1 := by simp
      have Hp2 : Aside0 (128 * p = 2 ^ (7 * (pre ++ [128 + u % 128]).length)) := ⟨by rw [hpl, pow7, Hp.out]⟩
      have hq : u = 128 * (u / 128) + u % 128 := by clear hv hlen; omega
      have hval : acc + u % 128 * p + u / 128 * (128 * p) = acc + u * p := by
        have e1 : u * p = (128 * (u / 128) + u % 128) * p := by rw [← hq]
        rw [e1, Int.add_mul, Int.mul_assoc, Int.mul_left_comm]
        clear hv hlen hs hq e1
        omega
      have hacc : acc + u % 128 * p < 128 * p := by
        have : u % 128 * p ≤ 127 * p := Int.mul_le_mul_of_nonneg_right (by clear hv hlen; omega) (by clear hv hlen; omega)
        clear hv hlen hs hq hval
        omega
      have hn0 : 0 ≤ u % 128 * p := Int.mul_nonneg (by clear hv hlen; omega) (by clear hv hlen; omega)
      have HU2 : Aside0 (u / 128 < 128 ^ (d + 1)) := ⟨by
        have hu := HU.out
        rw [show (128 : Int) ^ (d + 1 + 1) = 128 ^ (d + 1) * 128 from Int.pow_succ 128 (d + 1)] at hu
        exact Int.ediv_lt_of_lt_mul (by decide) hu⟩
      have := ih (k + 1) (pre ++ [128 + u % 128]) rest (acc + u % 128 * p) (u / 128) (128 * p) Hp2 (by rw [hpl]; clear hv hlen; omega) (by clear hv hlen; omega) hacc (by clear hv hlen; omega) HU2 (fun _ => by clear hv hlen; omega) (by rw [hval]; exact hv) (by simpa using hlen) (by clear hv hlen; omega)
      rw [hval, hpl] at this
      simp only [List.append_assoc, List.singleton_append] at this
      simp only [List.cons_append] at hlt ⊢
      simp only [num_Get.l0]
      rw [if_pos hlt, if_pos (Int.natCast_nonneg _), if_pos hlt, if_neg (by clear hv hlen; omega), rd_mid]
      simp only [num_Get.j1]
      rw [if_neg (by decide), if_pos h7, if_pos (by clear hv hlen; omega), hs, hw, show ((pre.length : Int) + 1) = ((pre.length + 1 : Nat) : Int) from rfl, this]
      simp only [List.length_cons]
      congr 2
      rw [Prod.mk.injEq]
      exact ⟨by clear hv hlen this; omega, rfl⟩
    · have hu' : u ≤ 127 := by clear hv hlen; omega
      have e : enc (d + 1) u = [u] := by rw [enc, if_neg h, Int.emod_eq_of_lt hu0 (Int.lt_of_le_of_lt hu' (by decide))]
      rw [e] at hlen ⊢
      have hp := Hp.out
      subst hp
      exact get_last k pre rest acc u (Nat.le_trans (Nat.le_add_right _ _) hi) ha0 ha hu0 hu' hu1 hv hlen
theorem p7 : (128 : Int) ^ (6 + 1) = 562949953421312 := by decide
/-- More rounds tell the same. -/
theorem get_more (l : List Int) (u i : Int) (r : Int × Int × Int) (k : Nat) (d : Nat) (h : num_Get.l0 k u l (l.length : Int) i = some r) : num_Get.l0 (k + d) u l (l.length : Int) i = some r := by
  induction d with
  | zero => exact h
  | succ d ih => exact (num_Get.mono_l (k + d)).1 u l (l.length : Int) i r ih
/-- A number that was put is read. -/
theorem get_put (n : Int) (rest : List Int) (h0 : 0 ≤ n) (h1 : n ≤ 1099511627776) (hlen : (enc 6 (2 * n) ++ rest).length ≤ 140737488355328) : get (enc 6 (2 * n) ++ rest) = (n, ((enc 6 (2 * n)).length : Int), 0) := by
  have h := get_enc 6 (fuel (enc 6 (2 * n) ++ rest) + 21) [] rest 0 (2 * n) 1 ⟨rfl⟩ (by simp) (by omega) (by omega) (by omega) ⟨by rw [p7]; omega⟩ (fun h => by simp at h) (by simp) hlen (by omega)
  have e := get_more _ 0 0 _ _ 21 (get_is _ hlen).1
  simp only [List.nil_append, List.length_nil, Int.natCast_zero] at h
  have := (Option.some.inj (e.symm.trans h))
  rw [this]
  simp
end Go.Proofs.YtpgjlcbjcnbjkaaGreatDoor.RP
end
section
namespace Go.Proofs.YtpgjlcbjcnbjkaaGreatDoor.RP
open Go.RowKit Go.Proofs.YtpgjlcbjcnbjkaaGreatDoorW.PrintWords Go.Proofs.YtpgjlcbjcnbjkaaGreatDoorW.PrintLast Go.Proofs.YtpgjlcbjcnbjkaaGreatDoorW.PrintMore
set_option linter.unusedVariables false

/-- A number read: what is left, whether it is bad; the number. -/
noncomputable def step (l : List Int) (bad : Bool) : (List Int × Bool) × Int := if bad = true ∨ (get l).2.2 ≠ 0 then ((l, true), 0) else ((l.drop (get l).2.1.toNat, false), (get l).1)
noncomputable def texts (l : List Int) : ByteArray × Int × Int := textOf l (get l).1 (get l).2.1 (get l).2.2
noncomputable def stepT (l : List Int) (bad : Bool) : (List Int × Bool) × ByteArray := if bad = true ∨ (texts l).2.2 ≠ 0 then ((l, true), ⟨#[]⟩) else ((l.drop (texts l).2.1.toNat, false), (texts l).1)
theorem step_len (l : List Int) (bad : Bool) : (step l bad).1.1.length ≤ l.length := by
  unfold step
  split <;> simp

theorem num72 (g : Nat) (A : Option Addr) (L l : List Int) (bad : Bool) (l' : List Int) (bad' : Bool) (n : Int) (hn : l.length ≤ 140737488355328) (hs : step l bad = ((l', bad'), n)) (w0 w : World) (hB : Below w0.heap.size w0 w) (hg : w0.heap.size ≤ g)
    (R : Rd w g A L l bad) (C0 : By w A L) :
    Calls Tryz.prog 72 #[.pointer (some ⟨g, 0, none⟩)] w fun e w' => e = .returned (.int .i64 n) ∧ Rd w' g A L l' bad' ∧ Below w0.heap.size w0 w' ∧ KeepBut w w' g none := by
  obtain ⟨h, hb⟩ := get_is l hn
  unfold step at hs
  by_cases c : bad = true ∨ (get l).2.2 ≠ 0
  · rw [if_pos c] at hs
    injection hs with h1 h2
    injection h1 with h1 h3
    subst h1 h2 h3
    exact num72_bad (fuel l) g A L l _ _ _ bad w0 w hB hg R C0 h c
  · rw [if_neg c] at hs
    injection hs with h1 h2
    injection h1 with h1 h3
    subst h1 h2 h3
    have c1 : bad = false := by cases bad <;> simp_all
    have c2 : (get l).2.2 = 0 := by simpa using fun h => c (.inr h)
    subst c1
    exact num72_ok (fuel l) g A L l _ _ w0 w hB hg R C0 (by rw [h, ← c2]) (hb c2).1 (hb c2).2
theorem texts_bounds (l : List Int) (hn : l.length ≤ 140737488355328) (h : (texts l).2.2 = 0) : 0 ≤ (texts l).2.1 ∧ (texts l).2.1 ≤ l.length := by
  obtain ⟨_, hb⟩ := get_is l hn
  unfold texts textOf at *
  split at h
  · rename_i c
    have := hb c
    rw [if_pos c]
    split at h
    · cases h
    · rename_i c1
      rw [if_neg c1]
      split at h
      · cases h
      · rename_i c2
        rw [if_neg c2]
        split at h
        · cases h
        · rename_i c3
          rw [if_neg c3]
          show 0 ≤ (get l).2.1 + (get l).1 ∧ (get l).2.1 + (get l).1 ≤ (l.length : Int)
          omega
  · rename_i c; exact absurd h c
theorem text_ends (l : List Int) (hn : l.length ≤ 140737488355328) : Hid (∀ (A1 : Option Addr) (c : Nat) (W : World), By W A1 l → l.length ≤ c → Calls Tryz.prog 135 #[.slice A1 l.length c] W fun e w' => e = .returned (.tuple #[.string (texts l).1, .int .i64 (texts l).2.1, .int .i64 (texts l).2.2]) ∧ Drawn0 W w') := by
  intro A1 c W h hc
  obtain ⟨hg, hb⟩ := get_is l hn
  exact text135 (fuel l) A1 c l _ _ _ W h hc hg hb
theorem text73 (g : Nat) (A : Option Addr) (L l : List Int) (bad : Bool) (l' : List Int) (bad' : Bool) (t : ByteArray) (hn : l.length ≤ 140737488355328) (hs : stepT l bad = ((l', bad'), t)) (w0 w : World) (hB : Below w0.heap.size w0 w) (hg : w0.heap.size ≤ g)
    (R : Rd w g A L l bad) (C0 : By w A L) :
    Calls Tryz.prog 73 #[.pointer (some ⟨g, 0, none⟩)] w fun e w' => e = .returned (.string t) ∧ Rd w' g A L l' bad' ∧ Below w0.heap.size w0 w' ∧ KeepBut w w' g none := by
  have hT := text_ends l hn
  unfold stepT at hs
  by_cases c : bad = true ∨ (texts l).2.2 ≠ 0
  · rw [if_pos c] at hs
    injection hs with h1 h2
    injection h1 with h1 h3
    subst h1 h2 h3
    exact text73_bad g A L l _ _ _ bad w0 w hB hg R C0 hT c
  · rw [if_neg c] at hs
    injection hs with h1 h2
    injection h1 with h1 h3
    subst h1 h2 h3
    have c1 : bad = false := by cases bad <;> simp_all
    have c2 : (texts l).2.2 = 0 := by simpa using fun h => c (.inr h)
    have hb := texts_bounds l hn c2
    subst c1
    rw [c2] at hT
    exact text73_ok g A L l _ _ w0 w hB hg R C0 hT hb.1 hb.2
end Go.Proofs.YtpgjlcbjcnbjkaaGreatDoor.RP
end
section
namespace Go.Proofs.YtpgjlcbjcnbjkaaGreatDoor.RP
open Go.RowKit Go.Proofs.YtpgjlcbjcnbjkaaGreatDoorW.PrintWords Go.Proofs.YtpgjlcbjcnbjkaaGreatDoorW.PrintLast Go.Proofs.YtpgjlcbjcnbjkaaGreatDoorW.PrintMore
set_option linter.unusedVariables false

section
variable {P : Program} {ops : Array Oper} {rest : List Oper} {o : Oper} {a : Act} {Q : Exit → Act → World → Prop}
/-- []byte(s), its world under a name. -/
theorem bytes_event {W : World} (hgd : o.guard = none) (s : ByteArray) (hs : s.size ≤ 9223372036854775807)
    (hrun : (execOp a.eval o).run P W = .ok (.value (.slice (some ⟨W.heap.size, 0, none⟩) s.size (grownCap W s.size 0 5))) (Lib.bytesWorld W 5 s))
    (h : ∀ g c w1, g = W.heap.size → (bytesOf s).length ≤ c → g < w1.heap.size → Below W.heap.size W w1 → By w1 (some ⟨g, 0, none⟩) (bytesOf s) → wpList P ops Q rest (a.put o.dst (.slice (some ⟨g, 0, none⟩) (bytesOf s).length c)) w1) : wpList P ops Q (o :: rest) a W := by
  refine Kd.event_run hgd hrun ?_
  have := h W.heap.size (grownCap W s.size 0 5) _ rfl (by rw [bytesOf_length]; exact grownCap_ge W s.size 0 5) (by rw [Lib.bytesWorld_size]; omega) (bytes_below (Below.refl _ _) (Nat.le_refl _) 5 s)
    (Kd.C_of_reads (enc := Value.int .u8) (d := (0 : Int)) (h1 := fun _ => rfl) (by rw [bytesOf_length]; exact bytes_reads W 5 s hs))
  rw [bytesOf_length] at this
  exact this
end
/-- A block whose cells are known. -/
structure Bk (w : World) (g : Nat) (t : TypeId) (cs : Array Value) : Prop where
  blk : w.heap[g]? = some (.cells cs t (0, 0))
theorem Bk.below {w w1 : World} {g : Nat} {t : TypeId} {cs : Array Value} (h : Bk w g t cs) (hb : Below w.heap.size w w1) : Bk w1 g t cs := ⟨blk_below h.blk hb⟩
theorem Bk.kept {w w1 : World} {g g' : Nat} {t : TypeId} {cs : Array Value} (h : Bk w g t cs) (hk : KeepBut w w1 g' none) (hne : g ≠ g') : Bk w1 g t cs := ⟨hk.blk h.blk hne (by simp)⟩
theorem By.far {w w1 : World} {g g' : Nat} {l : List Int} (h : By w (some ⟨g, 0, none⟩) l) (hk : KeepBut w w1 g' none) (hne : g ≠ g') : By w1 (some ⟨g, 0, none⟩) l :=
  Kd.C_keep (enc := Value.int .u8) (h1 := fun _ => rfl) (0 : Int) h hk (fun ad e _ => by injection e with e; subst e; exact hne)
theorem By.below {w w1 : World} {A : Option Addr} {l : List Int} (h : By w A l) (hb : Below w.heap.size w w1) : By w1 A l := Kd.C_below h hb

/-- Four cells stored. -/
abbrev set4 (w : World) (g : Nat) (a b c d : Value) : World := (((w.setCell ⟨g, 0, none⟩ a).setCell ⟨g, 1, none⟩ b).setCell ⟨g, 2, none⟩ c).setCell ⟨g, 3, none⟩ d
theorem Bk.set4 {w : World} {g : Nat} {t : TypeId} {x y z u : Value} (h : Bk w g t #[x, y, z, u]) (a b c d : Value) : Bk (RP.set4 w g a b c d) g t #[a, b, c, d] :=
  ⟨blk_put (blk_put (blk_put (blk_put h.blk 0 a rfl) 1 b rfl) 2 c rfl) 3 d rfl⟩
theorem keep_set4 (w : World) (g : Nat) (a b c d : Value) : KeepBut w (set4 w g a b c d) g none := ((((KeepBut.refl w g none).set_ 0 a).set_ 1 b).set_ 2 c).set_ 3 d
theorem below_set4 {w0 w : World} {g : Nat} (h : Below w0.heap.size w0 w) (hg : w0.heap.size ≤ g) (a b c d : Value) : Below w0.heap.size w0 (set4 w g a b c d) := below_set (below_set (below_set (below_set h hg) hg) hg) hg
theorem Rd.cell1 {w : World} {g : Nat} {A : Option Addr} {L l : List Int} {bad : Bool} (h : Rd w g A L l bad) : w.cell? ⟨g, 1, none⟩ = some (.bool bad) := by
  obtain ⟨A1, c, h1, _, _⟩ := h.out
  exact (blk_cell h1 1).trans rfl
theorem Bk.cells {w : World} {g : Nat} {t : TypeId} {a b c d : Value} (h : Bk w g t #[a, b, c, d]) : w.cell? ⟨g, 0, none⟩ = some a ∧ w.cell? ⟨g, 1, none⟩ = some b ∧ w.cell? ⟨g, 2, none⟩ = some c ∧ w.cell? ⟨g, 3, none⟩ = some d :=
  ⟨(blk_cell h.blk 0).trans rfl, (blk_cell h.blk 1).trans rfl, (blk_cell h.blk 2).trans rfl, (blk_cell h.blk 3).trans rfl⟩

set_option maxHeartbeats 8000000 in
set_option maxRecDepth 100000 in
theorem decode26 (s : ByteArray) (hsz : s.size ≤ 140737488355328) (l1 l2 l3 l4 : List Int) (b1 b2 b3 b4 : Bool) (c q b : Int) (t : ByteArray)
    (h1 : step (bytesOf s) false = ((l1, b1), c)) (h2 : step l1 b1 = ((l2, b2), q)) (h3 : step l2 b2 = ((l3, b3), b)) (h4 : stepT l3 b3 = ((l4, b4), t))
    (m z : Bool) (k : Nat) (x : ByteArray) (hm : reg_May.f c q b t = some m) (hx : m = true → reg_Encode.f k c q b t = some x) (hz : (x.toList == s.toList) = z) (w : World) :
    Calls Tryz.prog 26 #[.string s] w fun e w' => (e = .returned (if (!b4 && (m && z)) = true then .tuple #[.agg #[.int .i64 c, .int .i64 q, .int .i64 b, .string t], .bool true] else .tuple #[.agg #[.int .i64 0, .int .i64 0, .int .i64 0, .string ⟨#[]⟩], .bool false])) ∧ Below w.heap.size w w' := by
  have hu55 := Tryz.underlying55
  have hu132 := Tryz.underlying132
  have hu22 := Tryz.underlying22
  have n0 : (bytesOf s).length ≤ 140737488355328 := by rw [bytesOf_length]; exact hsz
  have n1 : l1.length ≤ 140737488355328 := by have := step_len (bytesOf s) false; rw [h1] at this; exact Nat.le_trans this n0
  have n2 : l2.length ≤ 140737488355328 := by have := step_len l1 b1; rw [h2] at this; exact Nat.le_trans this n1
  have n3 : l3.length ≤ 140737488355328 := by have := step_len l2 b2; rw [h3] at this; exact Nat.le_trans this n2
  have H1 := Aside0.mk h1
  have H2 := Aside0.mk h2
  have H3 := Aside0.mk h3
  have H4 := Aside0.mk h4
  have HM := Aside0.mk hm
  have HX := Aside0.mk hx
  have z0 : (x.toList != s.toList) = !z := by rw [← hz]; rfl
  have HB := Aside0.mk (Below.refl w.heap.size w)
  have kb := fun W => print_bytes (P := Tryz.prog) 9 22 5 Tryz.underlying9 Tryz.underlying22 Tryz.underlying5 s W
  clear h1 h2 h3 h4 hm hx
  cases b4 <;> cases m <;> cases z
  all_goals
    (try have HX1 := HX.out rfl)
    (try have HX2 := Aside0.mk HX1)
    (try clear HX1)
    go_enter Tryz.func26, Tryz.ntmps26
    go_wp2_with (first
      | ((with_reducible refine gate_dst (N := 2) rfl ?_); refine box_event ?hg (N := 2) ?hd (cs := #[.int .i64 0, .int .i64 0, .int .i64 0, .string ⟨#[]⟩]) (t := 55) ?hr ?_; (case hd => rfl); (case hg => rfl); (case hr => first | (go_simp; done) | (go_simp; rfl)); intro r hr w1 hbox hb; have K2 := Bk.mk hbox; have HB1 := Aside0.mk hb; have hrw : w.heap.size ≤ r := Nat.le_of_eq hr.symm; clear hbox hb hr HB; have HB := HB1; clear HB1)
      | ((with_reducible refine gate_dst (N := 7) rfl ?_); refine bytes_event ?hg s ?hs ?hr ?_; (case hg => rfl); (case hs => exact Nat.le_trans hsz (by decide)); (case hr => first | (go_simp; done) | (go_simp; rfl)); intro gb cb w2 hgb hcb hlt hb hby; have K2' := K2.below hb; have HB1 := Aside0.mk (below_step HB.out hb); have HBY := Aside0.mk hby; have HCB := Aside0.mk hcb; clear hb hby hgb hcb HB K2; have K2 := K2'; have HB := HB1; clear HB1 K2')
      | ((with_reducible refine gate_dst (N := 9) rfl ?_); refine box_event ?hg (N := 9) ?hd (cs := #[.slice (some ⟨gb, 0, none⟩) (bytesOf s).length cb, .bool false]) (t := 132) ?hr ?_; (case hd => rfl); (case hg => rfl); (case hr => first | (go_simp; done) | (go_simp; rfl)); intro g hg w3 hbox hb; have R : Rd w3 g (some ⟨gb, 0, none⟩) (bytesOf s) (bytesOf s) false := ⟨⟨_, _, hbox, HCB.out, fun _ h => h⟩⟩; have gw : w.heap.size ≤ g := (by rw [hg]; exact below_size HB.out); have gn : gb ≠ g := (by rw [hg]; exact Nat.ne_of_lt hlt); have rn : r ≠ g := (by rw [hg]; exact Nat.ne_of_lt (blk_lt K2.blk)); have C0 := HBY.out.below hb; have K2' := K2.below hb; have HB1 := Aside0.mk (below_step HB.out hb); clear hbox hb hg HB K2 HBY hlt HCB; have K2 := K2'; have HB := HB1; clear HB1 K2')
      | (go_at_call 72; ((with_reducible refine (num72 g _ _ _ _ _ _ _ n0 H1.out w _ HB.out gw R C0).mono ?_); rintro e w4 ⟨rfl, R', hb, hk⟩; have K2' := K2.kept hk rn; have C0' := C0.far hk gn; have HB1 := Aside0.mk hb; clear H1 hb hk HB K2 R C0; have K2 := K2'; have HB := HB1; have R := R'; have C0 := C0'; clear HB1 K2' R' C0'))
      | (go_at_call 72; ((with_reducible refine (num72 g _ _ _ _ _ _ _ n1 H2.out w _ HB.out gw R C0).mono ?_); rintro e w5 ⟨rfl, R', hb, hk⟩; have K2' := K2.kept hk rn; have C0' := C0.far hk gn; have HB1 := Aside0.mk hb; clear H2 hb hk HB K2 R C0; have K2 := K2'; have HB := HB1; have R := R'; have C0 := C0'; clear HB1 K2' R' C0'))
      | (go_at_call 72; ((with_reducible refine (num72 g _ _ _ _ _ _ _ n2 H3.out w _ HB.out gw R C0).mono ?_); rintro e w6 ⟨rfl, R', hb, hk⟩; have K2' := K2.kept hk rn; have C0' := C0.far hk gn; have HB1 := Aside0.mk hb; clear H3 hb hk HB K2 R C0; have K2 := K2'; have HB := HB1; have R := R'; have C0 := C0'; clear HB1 K2' R' C0'))
      | (go_at_call 73; ((with_reducible refine (text73 g _ _ _ _ _ _ _ n3 H4.out w _ HB.out gw R C0).mono ?_); rintro e w7 ⟨rfl, R', hb, hk⟩; have K2' := K2.kept hk rn; have HB1 := Aside0.mk hb; clear H4 hb hk HB K2 R C0; have K2 := K2'; have HB := HB1; have R := R'; clear HB1 K2' R'))
      | ((with_reducible refine gate_dst (N := 5) rfl ?_); refine box_event ?hg (N := 5) ?hd (cs := #[.int .i64 0, .int .i64 0, .int .i64 0, .string ⟨#[]⟩]) (t := 55) ?hr ?_; (case hd => rfl); (case hg => rfl); (case hr => first | (go_simp; done) | (go_simp; rfl)); intro g5 hg5 w8 hbox hb; have K5 := Bk.mk hbox; have g5w : w.heap.size ≤ g5 := (by rw [hg5]; exact below_size HB.out); have r5 : r ≠ g5 := (by rw [hg5]; exact Nat.ne_of_lt (blk_lt K2.blk)); have gg5 : g ≠ g5 := (by rw [hg5]; obtain ⟨_, _, hq, _, _⟩ := R.out; exact Nat.ne_of_lt (blk_lt hq)); have K2' := K2.below hb; have R' := R.below hb; have HB1 := Aside0.mk (below_step HB.out hb); clear hbox hb hg5 HB K2 R; have K2 := K2'; have HB := HB1; have R := R'; clear HB1 K2' R'; obtain ⟨p0, p1, p2, p3⟩ := K5.cells; have f0 := blk_frozen K5.blk 0; have f1 := blk_frozen K5.blk 1; have f2 := blk_frozen K5.blk 2; have f3 := blk_frozen K5.blk 3)
      | ((with_reducible refine gate_store (t := 55) (p := 5) rfl ?_); refine store_event (t := 55) (p := 5) (v := ?vo) (w1 := set4 w8 g5 (.int .i64 c) (.int .i64 q) (.int .i64 b) (.string t)) ?hg ?ho ?hn ?hr ?_; (case ho => rfl); (case hg => rfl); (case hn => rfl); (case hr => first | (go_simp; done) | (go_simp; rfl)); intro w9 hw9; clear p0 p1 p2 p3 f0 f1 f2 f3; have K5' := K5.set4 (.int .i64 c) (.int .i64 q) (.int .i64 b) (.string t); have hk := keep_set4 w8 g5 (.int .i64 c) (.int .i64 q) (.int .i64 b) (.string t); have K2' := K2.kept hk r5; have R' := R.kept hk gg5; have HB1 := Aside0.mk (below_set4 HB.out g5w (.int .i64 c) (.int .i64 q) (.int .i64 b) (.string t)); rw [← hw9] at K5' K2' R' HB1; clear hk hw9 HB K2 R K5; have K2 := K2'; have K5 := K5'; have HB := HB1; have R := R'; clear HB1 K2' R' K5'; have rc := R.cell1; obtain ⟨p0, p1, p2, p3⟩ := K5.cells; obtain ⟨q0, q1, q2, q3⟩ := K2.cells; have f0 := blk_frozen K2.blk 0; have f1 := blk_frozen K2.blk 1; have f2 := blk_frozen K2.blk 2; have f3 := blk_frozen K2.blk 3)
      | (go_at_call 27; ((with_reducible refine (reg_May.calls c q b t _ _ HM.out).mono ?_); rintro e w10 ⟨rfl, hb⟩; have K2' := K2.below hb; have K5' := K5.below hb; have HB1 := Aside0.mk (below_step HB.out hb); clear rc p0 p1 p2 p3 q0 q1 q2 q3 f0 f1 f2 f3 hb HB K2 K5 R; have K2 := K2'; have K5 := K5'; have HB := HB1; clear HB1 K2' K5'; obtain ⟨p0, p1, p2, p3⟩ := K5.cells; obtain ⟨q0, q1, q2, q3⟩ := K2.cells; have f0 := blk_frozen K2.blk 0; have f1 := blk_frozen K2.blk 1; have f2 := blk_frozen K2.blk 2; have f3 := blk_frozen K2.blk 3))
      | (go_at_call 25; ((with_reducible refine (reg_Encode.calls k c q b t x _ HX2.out).mono ?_); rintro e w11 ⟨rfl, hb⟩; have K2' := K2.below hb; have K5' := K5.below hb; have HB1 := Aside0.mk (below_step HB.out hb); clear p0 p1 p2 p3 q0 q1 q2 q3 f0 f1 f2 f3 hb HB K2 K5; have K2 := K2'; have K5 := K5'; have HB := HB1; clear HB1 K2' K5'; obtain ⟨p0, p1, p2, p3⟩ := K5.cells; obtain ⟨q0, q1, q2, q3⟩ := K2.cells; have f0 := blk_frozen K2.blk 0; have f1 := blk_frozen K2.blk 1; have f2 := blk_frozen K2.blk 2; have f3 := blk_frozen K2.blk 3)))
  all_goals first
    | (refine bodyPost_ret (results_ct rfl _ _ r 55 #[.int .i64 0, .int .i64 0, .int .i64 0, .string ⟨#[]⟩] (0, 0) _ rfl (K2.set4 _ _ _ _).blk Tryz.underlying55 rfl (by kernel_rfl)) rfl ?_; exact ⟨rfl, below_set4 HB.out hrw _ _ _ _⟩)
    | (refine bodyPost_ret (results_ct rfl _ _ r 55 #[.int .i64 c, .int .i64 q, .int .i64 b, .string t] (0, 0) _ rfl (K2.set4 _ _ _ _).blk Tryz.underlying55 rfl (by kernel_rfl)) rfl ?_; exact ⟨rfl, below_set4 HB.out hrw _ _ _ _⟩)
end Go.Proofs.YtpgjlcbjcnbjkaaGreatDoor.RP
end
section
namespace Go.Proofs.YtpgjlcbjcnbjkaaGreatDoor.RP
open Go.RowKit Go.Proofs.YtpgjlcbjcnbjkaaGreatDoorW.PrintWords Go.Proofs.YtpgjlcbjcnbjkaaGreatDoorW.PrintLast Go.Proofs.YtpgjlcbjcnbjkaaGreatDoorW.PrintMore
set_option linter.unusedVariables false

theorem same_text {a b : ByteArray} (h : a.toList = b.toList) : a = b := by
  rw [Lib.toList_data, Lib.toList_data] at h
  cases a; cases b
  simp only at h
  congr
  exact Array.ext' h
noncomputable def Bytes (l : List Int) : Prop := ∀ x ∈ l, 0 ≤ x ∧ x < 256
theorem bytes_str (l : List Int) (h : Bytes l) : bytesOf (strOfNums l) = l := by
  unfold bytesOf
  rw [strOfNums_data, List.map_map]
  conv => rhs; rw [← List.map_id l]
  refine List.map_congr_left fun x hx => ?_
  obtain ⟨h0, h1⟩ := h x hx
  have : (UInt8.ofNat x.toNat).toNat = x.toNat := by simp; omega
  simp only [Function.comp, this, id]
  omega
theorem str_bytes (s : ByteArray) : strOfNums (bytesOf s) = s := by
  cases s with
  | mk d =>
    unfold strOfNums bytesOf
    congr
    simp only [List.map_map]
    conv => rhs; rw [← List.map_id d.toList]
    refine List.map_congr_left fun x _ => ?_
    simp
theorem bytes_bytesOf (s : ByteArray) : Bytes (bytesOf s) := by
  intro x hx
  obtain ⟨b, _, rfl⟩ := List.mem_map.1 hx
  have := b.toNat_lt
  omega
theorem bytes_enc (d : Nat) (u : Int) (h : 0 ≤ u) : Bytes (enc d u) := by
  induction d generalizing u with
  | zero => intro x hx; simp [enc] at hx; omega
  | succ d ih =>
    intro x hx
    unfold enc at hx
    split at hx
    · rcases List.mem_cons.1 hx with rfl | hx
      · omega
      · exact ih (u / 128) (by omega) x hx
    · simp at hx; omega
theorem bytes_append {a b : List Int} (ha : Bytes a) (hb : Bytes b) : Bytes (a ++ b) := fun x hx => (List.mem_append.1 hx).elim (ha x) (hb x)

/-- Which commands may be. -/
noncomputable def mayV (c q b : Int) (t : ByteArray) : Bool := decide (1 ≤ c ∧ c ≤ 5 ∧ 1 ≤ q ∧ q ≤ 1099511627776 ∧ 0 ≤ b ∧ b ≤ 30 ∧ (t.size : Int) ≤ 2200)
theorem may_is (c q b : Int) (t : ByteArray) : reg_May.f c q b t = some (mayV c q b t) := by
  unfold reg_May.f reg_client.f mayV
  by_cases h1 : 1 ≤ c <;> by_cases h2 : c ≤ 5 <;> by_cases h3 : 1 ≤ q <;> by_cases h4 : q ≤ 1099511627776 <;> by_cases h5 : 0 ≤ b <;> by_cases h6 : b ≤ 30 <;> simp [h1, h2, h3, h4, h5, h6]
theorem mayCmd_is (c q b : Int) (t : ByteArray) : donatusref27_MayCmd.f c q b t = some (mayV c q b t) := by
  unfold donatusref27_MayCmd.f mayV
  by_cases h1 : 1 ≤ c <;> by_cases h2 : c ≤ 5 <;> by_cases h3 : 1 ≤ q <;> by_cases h4 : q ≤ 1099511627776 <;> by_cases h5 : 0 ≤ b <;> by_cases h6 : b ≤ 30 <;> simp [h1, h2, h3, h4, h5, h6]
theorem may_inv {c q b : Int} {t : ByteArray} (h : mayV c q b t = true) : 1 ≤ c ∧ c ≤ 5 ∧ 1 ≤ q ∧ q ≤ 1099511627776 ∧ 0 ≤ b ∧ b ≤ 30 ∧ (t.size : Int) ≤ 2200 := of_decide_eq_true h
/-- A command's bytes. -/
noncomputable def encL (c q b : Int) (t : ByteArray) : List Int := enc 6 (2 * c) ++ (enc 6 (2 * q) ++ (enc 6 (2 * b) ++ (enc 6 (2 * (t.size : Int)) ++ bytesOf t)))
noncomputable def encV (c q b : Int) (t : ByteArray) : ByteArray := if mayV c q b t = true then strOfNums (encL c q b t) else ⟨#[]⟩
theorem encL_len (c q b : Int) (t : ByteArray) (h : (t.size : Int) ≤ 2200) : 1 ≤ (encL c q b t).length ∧ (encL c q b t).length ≤ 2228 := by
  have h1 := enc_len 6 (2 * c)
  have h2 := enc_len 6 (2 * q)
  have h3 := enc_len 6 (2 * b)
  have h4 := enc_len 6 (2 * (t.size : Int))
  simp only [encL, List.length_append, bytesOf_length]
  omega
theorem encL_bytes {c q b : Int} {t : ByteArray} (h : mayV c q b t = true) : Bytes (encL c q b t) := by
  obtain ⟨h1, h2, h3, h4, h5, h6, h7⟩ := may_inv h
  exact bytes_append (bytes_enc _ _ (by omega)) (bytes_append (bytes_enc _ _ (by omega)) (bytes_append (bytes_enc _ _ (by omega)) (bytes_append (bytes_enc _ _ (by omega)) (bytes_bytesOf t))))
theorem encode_is (k : Nat) (c q b : Int) (t : ByteArray) (hk : 8 ≤ k) : reg_Encode.f k c q b t = some (encV c q b t) := by
  unfold reg_Encode.f encV
  rw [may_is]
  simp only [Option.bind_some]
  cases h : mayV c q b t with
  | false => simp
  | true =>
    obtain ⟨h1, h2, h3, h4, h5, h6, h7⟩ := may_inv h
    have e1 := enc_len 6 (2 * c)
    have e2 := enc_len 6 (2 * q)
    have e3 := enc_len 6 (2 * b)
    have e4 := enc_len 6 (2 * (t.size : Int))
    rw [if_pos rfl, if_pos rfl, put_is k [] c (by omega) (by omega) hk (by simp)]
    simp only [Option.bind_some, List.nil_append]
    rw [put_is k _ q (by omega) (by omega) hk (by omega)]
    simp only [Option.bind_some]
    rw [put_is k _ b (by omega) (by omega) hk (by rw [List.length_append]; omega)]
    simp only [Option.bind_some]
    unfold num_PutText.f
    rw [put_is k _ (t.size : Int) (by omega) (by omega) hk (by simp only [List.length_append]; omega)]
    simp only [Option.bind_some]
    rw [if_pos (by simp only [List.length_append]; omega)]
    simp [encL]

/-! ### Decode -/
noncomputable def decodeV (s : ByteArray) : Int × Int × Int × ByteArray × Bool :=
  let a1 := step (bytesOf s) false
  let a2 := step a1.1.1 a1.1.2
  let a3 := step a2.1.1 a2.1.2
  let a4 := stepT a3.1.1 a3.1.2
  if (!a4.1.2 && (mayV a1.2 a2.2 a3.2 a4.2 && (encV a1.2 a2.2 a3.2 a4.2).toList == s.toList)) = true then (a1.2, a2.2, a3.2, a4.2, true) else (0, 0, 0, ⟨#[]⟩, false)
theorem step_put (n : Int) (rest : List Int) (h0 : 0 ≤ n) (h1 : n ≤ 1099511627776) (hlen : (enc 6 (2 * n) ++ rest).length ≤ 140737488355328) : step (enc 6 (2 * n) ++ rest) false = ((rest, false), n) := by
  unfold step
  rw [get_put n rest h0 h1 hlen]
  rw [if_neg (by simp)]
  simp
theorem stepT_put (t : ByteArray) (h : (t.size : Int) ≤ 2200) : stepT (enc 6 (2 * (t.size : Int)) ++ bytesOf t) false = (([], false), t) := by
  have hl := enc_len 6 (2 * (t.size : Int))
  have hb := bytesOf_length t
  have e : texts (enc 6 (2 * (t.size : Int)) ++ bytesOf t) = (t, ((enc 6 (2 * (t.size : Int))).length : Int) + t.size, 0) := by
    unfold texts
    rw [get_put (t.size : Int) (bytesOf t) (by omega) (by omega) (by rw [List.length_append]; omega)]
    unfold textOf
    simp only
    rw [if_pos trivial, if_neg (by omega), if_neg (by omega), if_neg (by rw [List.length_append]; omega)]
    have e1 : (((enc 6 (2 * (t.size : Int))).length : Int) + t.size).toNat = (enc 6 (2 * (t.size : Int)) ++ bytesOf t).length := by rw [List.length_append, hb]; omega
    rw [e1, List.take_length, Int.toNat_natCast, List.drop_left, str_bytes]
  unfold stepT
  rw [e, if_neg (by simp)]
  have e1 : (((enc 6 (2 * (t.size : Int))).length : Int) + t.size).toNat = (enc 6 (2 * (t.size : Int)) ++ bytesOf t).length := by rw [List.length_append, hb]; omega
  simp only [e1, List.drop_length]
/-- What was encoded is decoded. -/
theorem decode_encode {c q b : Int} {t : ByteArray} (h : mayV c q b t = true) : decodeV (encV c q b t) = (c, q, b, t, true) := by
  obtain ⟨h1, h2, h3, h4, h5, h6, h7⟩ := may_inv h
  have hl := encL_len c q b t h7
  have e0 : bytesOf (encV c q b t) = encL c q b t := by unfold encV; rw [if_pos h, bytes_str _ (encL_bytes h)]
  have l1 : (enc 6 (2 * c) ++ (enc 6 (2 * q) ++ (enc 6 (2 * b) ++ (enc 6 (2 * (t.size : Int)) ++ bytesOf t)))).length ≤ 2228 := hl.2
  have s1 : step (encL c q b t) false = ((_, false), c) := step_put c _ (by omega) (by omega) (by omega)
  have s2 := step_put q (enc 6 (2 * b) ++ (enc 6 (2 * (t.size : Int)) ++ bytesOf t)) (by omega) (by omega) (by simp only [List.length_append] at l1 ⊢; omega)
  have s3 := step_put b (enc 6 (2 * (t.size : Int)) ++ bytesOf t) (by omega) (by omega) (by simp only [List.length_append] at l1 ⊢; omega)
  have s4 := stepT_put t h7
  unfold decodeV
  simp only [e0, s1, s2, s3, s4]
  rw [if_pos (by simp [h])]
/-- What is decoded may be, and is encoded just so; else nothing is told. -/
theorem decode_told (s : ByteArray) (c q b : Int) (t : ByteArray) (h : decodeV s = (c, q, b, t, true)) : mayV c q b t = true ∧ encV c q b t = s := by
  unfold decodeV at h
  simp only at h
  split at h
  · rename_i g
    simp only [Bool.and_eq_true, beq_iff_eq] at g
    obtain ⟨_, g1, g2⟩ := g
    injection h with a1 h; injection h with a2 h; injection h with a3 h; injection h with a4 h
    rw [a1, a2, a3, a4] at g1 g2
    exact ⟨g1, same_text g2⟩
  · injection h with a1 h; injection h with a2 h; injection h with a3 h; injection h with a4 h
    cases h
theorem decode_none (s : ByteArray) (h : (decodeV s).2.2.2.2 = false) : decodeV s = (0, 0, 0, ⟨#[]⟩, false) := by
  unfold decodeV at h ⊢
  simp only at h ⊢
  split at h
  · cases h
  · rename_i g; rw [if_neg g]
/-- Two commands that may be have one text just if they are the same. -/
theorem encode_same {c q b c' q' b' : Int} {t t' : ByteArray} (h : mayV c q b t = true) (h' : mayV c' q' b' t' = true) (e : encV c' q' b' t' = encV c q b t) : c' = c ∧ q' = q ∧ b' = b ∧ t' = t := by
  have := (decode_encode h').symm.trans ((congrArg decodeV e).trans (decode_encode h))
  simpa using this
end Go.Proofs.YtpgjlcbjcnbjkaaGreatDoor.RP
end
