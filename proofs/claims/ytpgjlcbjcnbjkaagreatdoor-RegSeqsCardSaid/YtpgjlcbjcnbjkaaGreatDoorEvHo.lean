/- The walk of RegCmd: as the kit's printer writes it, but for what it begins with, Cut and Decode (by hand), and for those ways that do not answer true. -/
import Derived.Test.YtpgjlcbjcnbjkaaGreatDoorEvHn
import Derived.Test.YtpgjlcbjcnbjkaaGreatDoorEvHh
import Derived.Below
import Derived.Deep.Draws
import Derived.Deep.AppendLies
import Derived.Maps.AppendAt
import Derived.OwnWalk
import Derived.Laws.BytesArg
import Derived.Laws.MakeOwn
import Derived.Laws.OwnMore
import Derived.Deep.OwnRows
import Derived.Tactics
import Derived.Lib.ConvBytes
import Derived.Laws.Slices
import Derived.WalkKit
import Derived.KernelRfl
import Derived.RowKit3
import Derived.Deep.LoopGhost
import Derived.Deep.QuietTactic
import Derived.BigQuiet
import Derived.WideLaws
import Derived.Deep.DeepCutAuto
import Derived.Deep.CutBlock
import Derived.Deep.RegionHeld3
import Derived.Laws.Rows
import Derived.Lib.AppendStr
import Derived.ArgAppend
import Derived.Laws.IdiomCopy
import Derived.OrdersHeld
import Derived.Laws.BitsLemmas
import Derived.RowKit
namespace Go.Proofs.YtpgjlcbjcnbjkaaGreatDoor.RP
open Go.RowKit Go.Proofs.YtpgjlcbjcnbjkaaGreatDoorW.PrintWords Go.Proofs.YtpgjlcbjcnbjkaaGreatDoorW.PrintLast Go.Proofs.YtpgjlcbjcnbjkaaGreatDoorW.PrintMore
attribute [local go_sem] max2_int min2_int max_two min_two max_three min_three max_four min_four
set_option linter.unusedVariables false
set_option linter.unusedSimpArgs false

/-! ### What it begins with -/
theorem allReg : ∀ f, f ∈ ([70] : List Nat) → Ev.SumOK Tryz.prog f Ev.begunSum := fun f hf => by
  simp only [List.mem_cons, List.not_mem_nil, or_false] at hf
  subst hf; exact Ev.begun70
theorem begun22_calls (w : World) : Calls Tryz.prog 22 #[] w fun e w' => e = .returned (.bool true) ∧ RowKit.Below w.heap.size w w' := by
  obtain ⟨m1, e⟩ := Ev.okTrue_inv Ev.run22
  refine (Ev.run_closed Ev.mixed (Ev.addB_ok allReg Ev.q5Z_ok) (by kernel_rfl) e w).mono fun e w' ⟨he, ρ, s⟩ => ⟨he, s.os, s.tape, s.output, s.size, fun k hk => s.keeps k hk fun b x L h => by cases h⟩
noncomputable def donatuslaw27_begun.f : Option (Bool) := some true
theorem donatuslaw27_begun.calls (r : Bool) (w : World) (h : donatuslaw27_begun.f = some r) : Calls Tryz.prog 22 #[] w fun e w' => e = .returned (.bool r) ∧ Below w.heap.size w w' := by
  obtain rfl := Option.some.inj h
  exact begun22_calls w

/-! ### Cut -/
noncomputable def donatuslaw27_Cut.f (a0_0 : Int) (a0_1 : Int) (a0_2 : Int) (a0_3 : ByteArray) : Option (Int × Int × Int × ByteArray) := (donatuslaw1_Cut.f a0_3 2210).bind fun t766 => (some (a0_0, a0_1, a0_2, t766))
set_option maxHeartbeats 1000000 in
set_option maxRecDepth 100000 in
theorem cut23 (s0 s : ByteArray) (H28 : Hid (∀ (W : World), Calls Tryz.prog 24 #[.string s0, .int .i64 2210] W fun e w' => e = .returned (.string s) ∧ Drawn0 W w')) (c q b : Int) (w : World) :
    Calls Tryz.prog 23 #[.agg #[.int .i64 c, .int .i64 q, .int .i64 b, .string s0]] w fun e w' => e = .returned (.agg #[.int .i64 c, .int .i64 q, .int .i64 b, .string s]) ∧ Below w.heap.size w w' := by
  have hu55 := Tryz.underlying55
  have HB := Aside0.mk (Below.refl w.heap.size w)
  go_enter Tryz.func23, Tryz.ntmps23
  go_wp2_with (first
    | ((with_reducible refine gate_dst (N := 1) rfl ?_); refine box_event ?hg (N := 1) ?hd (cs := #[.int .i64 c, .int .i64 q, .int .i64 b, .string s0]) (t := 55) ?hr ?_; (case hd => rfl); (case hg => rfl); (case hr => first | (go_simp; done) | (go_simp; rfl)); intro g hg w1 hbox hb; have K1 := Bk.mk hbox; have gw : w.heap.size ≤ g := Nat.le_of_eq hg.symm; have HB1 := Aside0.mk hb; clear hbox hb hg HB; have HB := HB1; clear HB1)
    | ((with_reducible refine gate_dst (N := 2) rfl ?_); refine box_event ?hg (N := 2) ?hd (cs := #[.int .i64 0, .int .i64 0, .int .i64 0, .string ⟨#[]⟩]) (t := 55) ?hr ?_; (case hd => rfl); (case hg => rfl); (case hr => first | (go_simp; done) | (go_simp; rfl)); intro r hg w2 hbox hb; have K2 := Bk.mk hbox; have rw' : w.heap.size ≤ r := (by rw [hg]; exact below_size HB.out); have gr : g ≠ r := (by rw [hg]; exact Nat.ne_of_lt (blk_lt K1.blk)); have rg := gr.symm; have K1' := K1.below hb; have HB1 := Aside0.mk (below_step HB.out hb); clear hbox hb hg HB K1; have K1 := K1'; have HB := HB1; clear HB1 K1'; obtain ⟨p0, p1, p2, p3⟩ := K1.cells; obtain ⟨q0, q1, q2, q3⟩ := K2.cells; have f0 := blk_frozen K1.blk 3; have e0 := blk_frozen K2.blk 0; have e1 := blk_frozen K2.blk 1; have e2 := blk_frozen K2.blk 2; have e3 := blk_frozen K2.blk 3)
    | (go_at_call 24; refine (H28 _).mono ?_; rintro e w' ⟨rfl, ⟨n, rfl⟩⟩))
  refine bodyPost_ret (results_cell_row rfl _ _ r 55 #[.int .i64 c, .int .i64 q, .int .i64 b, .string s] (0, 0) _ rfl ((Bk.mk (blk_far (blk_drewN K2.blk n) rg _)).set4 _ _ _ _).blk Tryz.underlying55 rfl (by kernel_rfl)) rfl ?_
  exact ⟨rfl, below_set4 (below_set (pw_below_drewN HB.out n) gw) rw' _ _ _ _⟩
theorem donatuslaw27_Cut.calls (a0_0 : Int) (a0_1 : Int) (a0_2 : Int) (a0_3 : ByteArray) (r1 : Int) (r2 : Int) (r3 : Int) (r4 : ByteArray) (w : World) (h : donatuslaw27_Cut.f a0_0 a0_1 a0_2 a0_3 = some (r1, r2, r3, r4)) :
    Calls Tryz.prog 23 #[.agg #[.int .i64 a0_0, .int .i64 a0_1, .int .i64 a0_2, .string a0_3]] w fun e w' => e = .returned (.agg #[.int .i64 r1, .int .i64 r2, .int .i64 r3, .string r4]) ∧ Below w.heap.size w w' := by
  unfold donatuslaw27_Cut.f at h
  obtain ⟨t, ht, h⟩ := Option.bind_eq_some_iff.mp h
  simp only [Option.some.injEq, Prod.mk.injEq] at h
  obtain ⟨rfl, rfl, rfl, rfl⟩ := h
  exact cut23 a0_3 t (fun W => donatuslaw1_Cut.calls a0_3 2210 t W ht) a0_0 a0_1 a0_2 w

/-! ### Decode -/
noncomputable def reg_Decode.f (a0 : ByteArray) : Option (Int × Int × Int × ByteArray × Bool) := if a0.size ≤ 140737488355328 then some (decodeV a0) else none
theorem reg_Decode.calls (a0 : ByteArray) (r1 : Int) (r2 : Int) (r3 : Int) (r4 : ByteArray) (r5 : Bool) (w : World) (h : reg_Decode.f a0 = some (r1, r2, r3, r4, r5)) :
    Calls Tryz.prog 26 #[.string a0] w fun e w' => e = .returned (.tuple #[.agg #[.int .i64 r1, .int .i64 r2, .int .i64 r3, .string r4], .bool r5]) ∧ Below w.heap.size w w' := by
  unfold reg_Decode.f at h
  split at h
  · rename_i hsz
    have h := Option.some.inj h
    obtain ⟨⟨⟨l1, b1⟩, c⟩, h1⟩ : ∃ p, step (bytesOf a0) false = p := ⟨_, rfl⟩
    obtain ⟨⟨⟨l2, b2⟩, q⟩, h2⟩ : ∃ p, step l1 b1 = p := ⟨_, rfl⟩
    obtain ⟨⟨⟨l3, b3⟩, b⟩, h3⟩ : ∃ p, step l2 b2 = p := ⟨_, rfl⟩
    obtain ⟨⟨⟨l4, b4⟩, t⟩, h4⟩ : ∃ p, stepT l3 b3 = p := ⟨_, rfl⟩
    have hd := decode26 a0 hsz l1 l2 l3 l4 b1 b2 b3 b4 c q b t h1 h2 h3 h4 (mayV c q b t) _ 8 (encV c q b t) (may_is _ _ _ _) (fun _ => encode_is 8 _ _ _ _ (Nat.le_refl _)) rfl w
    refine hd.mono fun e w' ⟨he, hb⟩ => ⟨he.trans ?_, hb⟩
    unfold decodeV at h
    simp only [h1, h2, h3, h4] at h
    clear hd he
    split at h
    · rename_i g
      rw [if_pos g]
      simp only [Prod.mk.injEq] at h
      obtain ⟨rfl, rfl, rfl, rfl, rfl⟩ := h
      rfl
    · rename_i g
      rw [if_neg g]
      simp only [Prod.mk.injEq] at h
      obtain ⟨rfl, rfl, rfl, rfl, rfl⟩ := h
      rfl
  · cases h

/-! ### donatuslaw27_RegCmd: function 5 -/
noncomputable def donatuslaw27_RegCmd.j0 : Nat → ByteArray → Bool → Bool → Int → Int → Int → ByteArray → Int → Int → Int → ByteArray → Int → Int → Int → ByteArray → Option (Bool)
  | 0, _, _, _, _, _, _, _, _, _, _, _, _, _, _, _ => none
  | k + 1, x8, x10, x62, x769000, x769001, x769002, x769003, x770000, x770001, x770002, x770003, x787000, x787001, x787002, x787003 => if x62 = true then (some false) else ((donatusref27_MayCmd.f x769000 x769001 x769002 x769003).bind fun t798 => (if t798 = true then (if x8.toList = ([] : List UInt8) then (some false) else (if x10 = true then ((donatusref27_EqCmd.f x787000 x787001 x787002 x787003 x769000 x769001 x769002 x769003).bind fun t799 => (if t799 = true then ((donatusref27_MayCmd.f x770000 x770001 x770002 x770003).bind fun t800 => (if t800 = true then ((reg_Encode.f k x770000 x770001 x770002 x770003).bind fun t801 => ((donatusref27_EqCmd.f x769000 x769001 x769002 x769003 x770000 x770001 x770002 x770003).bind fun t802 => (some ((t801.toList == x8.toList) == t802)))) else (some true))) else (some false))) else (some false))) else (some (x8.toList == ([] : List UInt8)))))
noncomputable def donatuslaw27_RegCmd.f (k : Nat) (a0_0 : Int) (a0_1 : Int) (a0_2 : Int) (a0_3 : ByteArray) (a1_0 : Int) (a1_1 : Int) (a1_2 : Int) (a1_3 : ByteArray) (a2 : ByteArray) : Option (Bool) := (donatuslaw27_begun.f).bind fun t770 => (if t770 = true then ((donatuslaw27_Cut.f a0_0 a0_1 a0_2 a0_3).bind fun bt771 => ((donatuslaw27_Cut.f a1_0 a1_1 a1_2 a1_3).bind fun bt775 => ((donatuslaw1_Cut.f a2 60).bind fun t779 => ((reg_Encode.f k bt771.1 bt771.2.1 bt771.2.2.1 bt771.2.2.2).bind fun t780 => ((reg_Decode.f t780).bind fun bt781 => ((reg_Decode.f t779).bind fun bt787 => ((reg_May.f bt771.1 bt771.2.1 bt771.2.2.1 bt771.2.2.2).bind fun t793 => ((donatusref27_MayCmd.f bt771.1 bt771.2.1 bt771.2.2.1 bt771.2.2.2).bind fun t794 => (if (t793 != t794) = true then (donatuslaw27_RegCmd.j0 k t780 bt781.2.2.2.2 true bt771.1 bt771.2.1 bt771.2.2.1 bt771.2.2.2 bt775.1 bt775.2.1 bt775.2.2.1 bt775.2.2.2 bt781.1 bt781.2.1 bt781.2.2.1 bt781.2.2.2.1) else (if bt787.2.2.2.2 = true then ((reg_Encode.f k bt787.1 bt787.2.1 bt787.2.2.1 bt787.2.2.2.1).bind fun t795 => (if t795.toList = t779.toList then ((donatusref27_MayCmd.f bt787.1 bt787.2.1 bt787.2.2.1 bt787.2.2.2.1).bind fun t796 => (if t796 = true then (donatuslaw27_RegCmd.j0 k t780 bt781.2.2.2.2 false bt771.1 bt771.2.1 bt771.2.2.1 bt771.2.2.2 bt775.1 bt775.2.1 bt775.2.2.1 bt775.2.2.2 bt781.1 bt781.2.1 bt781.2.2.1 bt781.2.2.2.1) else (donatuslaw27_RegCmd.j0 k t780 bt781.2.2.2.2 true bt771.1 bt771.2.1 bt771.2.2.1 bt771.2.2.2 bt775.1 bt775.2.1 bt775.2.2.1 bt775.2.2.2 bt781.1 bt781.2.1 bt781.2.2.1 bt781.2.2.2.1))) else (donatuslaw27_RegCmd.j0 k t780 bt781.2.2.2.2 true bt771.1 bt771.2.1 bt771.2.2.1 bt771.2.2.2 bt775.1 bt775.2.1 bt775.2.2.1 bt775.2.2.2 bt781.1 bt781.2.1 bt781.2.2.1 bt781.2.2.2.1))) else ((donatusref27_EqCmd.f bt787.1 bt787.2.1 bt787.2.2.1 bt787.2.2.2.1 0 0 0 (⟨#[]⟩ : ByteArray)).bind fun t797 => (donatuslaw27_RegCmd.j0 k t780 bt781.2.2.2.2 (!t797) bt771.1 bt771.2.1 bt771.2.2.1 bt771.2.2.2 bt775.1 bt775.2.1 bt775.2.2.1 bt775.2.2.2 bt781.1 bt781.2.1 bt781.2.2.1 bt781.2.2.2.1)))))))))))) else (some false))
theorem donatuslaw27_RegCmd.mono_l : ∀ k, (∀ y0 y1 y2 y3 y4 y5 y6 y7 y8 y9 y10 y11 y12 y13 y14, LeO (donatuslaw27_RegCmd.j0 k y0 y1 y2 y3 y4 y5 y6 y7 y8 y9 y10 y11 y12 y13 y14) (donatuslaw27_RegCmd.j0 (k + 1) y0 y1 y2 y3 y4 y5 y6 y7 y8 y9 y10 y11 y12 y13 y14))
  | 0 => fun _ _ _ _ _ _ _ _ _ _ _ _ _ _ _ r h => by simp [donatuslaw27_RegCmd.j0] at h
  | k + 1 => by
    have ih0 := donatuslaw27_RegCmd.mono_l k
    · intro y0 y1 y2 y3 y4 y5 y6 y7 y8 y9 y10 y11 y12 y13 y14
      unfold donatuslaw27_RegCmd.j0
      repeat' first
      | (with_reducible exact ih0 _ _ _ _ _ _ _ _ _ _ _ _ _ _ _)
      | (with_reducible exact reg_Encode.mono _ _ _ _ _)
      | (with_reducible exact LeO.refl _)
      | (with_reducible exact LeO.none _)
      | (with_reducible refine LeO.ite ?_ ?_)
      | (with_reducible refine LeO.bind ?_ (fun _ => ?_))
      | exact ih0 _ _ _ _ _ _ _ _ _ _ _ _ _ _ _
      | exact reg_Encode.mono _ _ _ _ _
      | exact LeO.none _
      | refine LeO.ite ?_ ?_
      | refine LeO.bind ?_ (fun _ => ?_)
theorem donatuslaw27_RegCmd.mono : ∀ a0 a1 a2 a3 a4 a5 a6 a7 a8 k, LeO (donatuslaw27_RegCmd.f k a0 a1 a2 a3 a4 a5 a6 a7 a8) (donatuslaw27_RegCmd.f (k + 1) a0 a1 a2 a3 a4 a5 a6 a7 a8) := by
  intro a0 a1 a2 a3 a4 a5 a6 a7 a8 k
  have ih0 := donatuslaw27_RegCmd.mono_l k
  unfold donatuslaw27_RegCmd.f
  repeat' first
      | (with_reducible exact ih0 _ _ _ _ _ _ _ _ _ _ _ _ _ _ _)
      | (with_reducible exact reg_Encode.mono _ _ _ _ _)
      | (with_reducible exact LeO.refl _)
      | (with_reducible exact LeO.none _)
      | (with_reducible refine LeO.ite ?_ ?_)
      | (with_reducible refine LeO.bind ?_ (fun _ => ?_))
      | exact ih0 _ _ _ _ _ _ _ _ _ _ _ _ _ _ _
      | exact reg_Encode.mono _ _ _ _ _
      | exact LeO.none _
      | refine LeO.ite ?_ ?_
      | refine LeO.bind ?_ (fun _ => ?_)
noncomputable def donatuslaw27_RegCmd.T4 : Bool × List (List Nat × List Nat) := (true, [([], []), ([0], [0]), ([], []), ([2, 1], [2]), ([], []), ([4, 3], [4]), ([1, 5, 0, 1], [1]), ([3, 6, 0, 1, 2, 3, 6], [3]), ([5, 7, 0, 1, 2, 3, 4, 5, 6, 7], [4, 5])])
noncomputable def donatuslaw27_RegCmd.B4 : List Nat := [0, 1, 0, 7, 0, 31, 63, 127, 255]
theorem donatuslaw27_RegCmd.tab4 : rtab .any (opsOf Tryz.f5 4) = donatuslaw27_RegCmd.T4 := by kernel_rfl
theorem donatuslaw27_RegCmd.bits4 : waitsOk donatuslaw27_RegCmd.T4.2 donatuslaw27_RegCmd.B4 = true := by kernel_rfl
noncomputable def donatuslaw27_RegCmd.T8 : Bool × List (List Nat × List Nat) := (true, [([], []), ([0], [0]), ([], []), ([2, 1], [2]), ([1, 3], [1, 3]), ([4, 3], [4]), ([5], [5]), ([6, 5, 5], [5, 6]), ([7], [7]), ([8, 7, 7], [7, 8]), ([7], [7]), ([9, 10, 7], [7, 9, 10]), ([11, 9, 7], [7, 11]), ([12], [12]), ([13, 12, 12], [12, 13]), ([14, 12], [12, 14]), ([12, 15, 7], [7, 12, 15]), ([7, 16, 5], [5, 7, 16]), ([5, 17], [5, 17]), ([18, 14], [18]), ([19], [19]), ([20, 19], [19, 20]), ([21, 19, 19], [19, 21]), ([22], [22]), ([22], [22]), ([23, 24, 22, 22], [22, 23, 24]), ([25, 22], [22, 25]), ([22, 26, 19], [19, 22, 26]), ([19, 27], [19, 27])])
noncomputable def donatuslaw27_RegCmd.B8 : List Nat := [0, 1, 0, 7, 15, 31, 63, 127, 255, 511, 255, 2047, 4095, 8191, 16383, 32767, 65535, 131071, 262143, 524287, 1048575, 2097151, 4194303, 8388607, 8388607, 33554431, 67108863, 134217727, 268435455]
theorem donatuslaw27_RegCmd.tab8 : rtab .any (opsOf Tryz.f5 8) = donatuslaw27_RegCmd.T8 := by kernel_rfl
theorem donatuslaw27_RegCmd.bits8 : waitsOk donatuslaw27_RegCmd.T8.2 donatuslaw27_RegCmd.B8 = true := by kernel_rfl
noncomputable def donatuslaw27_RegCmd.T12 : Bool × List (List Nat × List Nat) := (true, [([], []), ([0], [0]), ([1], [1]), ([2], [2]), ([2, 3], [2, 3]), ([4, 2], [4]), ([5], [5]), ([5], [5]), ([6, 7, 5, 5], [5, 6, 7]), ([5, 8], [5, 8]), ([9, 8], [9]), ([10], [10]), ([11, 10, 10], [10, 11]), ([12, 10], [10, 12]), ([13, 12, 10], [10, 13]), ([14], [14]), ([15, 14, 14], [14, 15]), ([14], [14]), ([16, 17, 14], [14, 16, 17]), ([14], [14]), ([14], [14]), ([19, 20, 16, 14], [14, 19, 20]), ([18, 21, 14], [14, 18, 21]), ([14, 22, 10], [10, 14, 22]), ([10, 23], [10, 23]), ([24, 21, 0, 1, 2, 3, 4, 5, 6, 7, 8, 9, 10, 11, 12, 13, 14, 15, 16, 17, 18, 19, 20, 21, 22, 23, 24], [24])])
noncomputable def donatuslaw27_RegCmd.B12 : List Nat := [0, 1, 3, 7, 15, 31, 63, 63, 255, 511, 1023, 2047, 4095, 8191, 16383, 32767, 65535, 32767, 262143, 32767, 32767, 1703935, 4194303, 8388607, 16777215, 33554431]
theorem donatuslaw27_RegCmd.tab12 : rtab .any (opsOf Tryz.f5 12) = donatuslaw27_RegCmd.T12 := by kernel_rfl
theorem donatuslaw27_RegCmd.bits12 : waitsOk donatuslaw27_RegCmd.T12.2 donatuslaw27_RegCmd.B12 = true := by kernel_rfl
set_option maxHeartbeats 8000000 in
set_option maxRecDepth 100000 in
theorem donatuslaw27_RegCmd.calls (k : Nat) (a0_0 : Int) (a0_1 : Int) (a0_2 : Int) (a0_3 : ByteArray) (a1_0 : Int) (a1_1 : Int) (a1_2 : Int) (a1_3 : ByteArray) (a2 : ByteArray) (r : Bool) (HR : Aside0 (r = true)) (w : World) (h : donatuslaw27_RegCmd.f k a0_0 a0_1 a0_2 a0_3 a1_0 a1_1 a1_2 a1_3 a2 = some r) :
    Calls Tryz.prog 5 #[.agg #[.int .i64 a0_0, .int .i64 a0_1, .int .i64 a0_2, .string a0_3], .agg #[.int .i64 a1_0, .int .i64 a1_1, .int .i64 a1_2, .string a1_3], .string a2] w fun e w' => e = .returned (.bool r) ∧ Below w.heap.size w w' := by
  have hu55 := Tryz.underlying55
  have HB := Aside0.mk (Below.refl w.heap.size w)
  have H : ((donatuslaw27_begun.f).bind fun t770 => (if t770 = true then ((donatuslaw27_Cut.f a0_0 a0_1 a0_2 a0_3).bind fun bt771 => ((donatuslaw27_Cut.f a1_0 a1_1 a1_2 a1_3).bind fun bt775 => ((donatuslaw1_Cut.f a2 60).bind fun t779 => ((reg_Encode.f k bt771.1 bt771.2.1 bt771.2.2.1 bt771.2.2.2).bind fun t780 => ((reg_Decode.f t780).bind fun bt781 => ((reg_Decode.f t779).bind fun bt787 => ((reg_May.f bt771.1 bt771.2.1 bt771.2.2.1 bt771.2.2.2).bind fun t793 => ((donatusref27_MayCmd.f bt771.1 bt771.2.1 bt771.2.2.1 bt771.2.2.2).bind fun t794 => (if (t793 != t794) = true then (donatuslaw27_RegCmd.j0 k t780 bt781.2.2.2.2 true bt771.1 bt771.2.1 bt771.2.2.1 bt771.2.2.2 bt775.1 bt775.2.1 bt775.2.2.1 bt775.2.2.2 bt781.1 bt781.2.1 bt781.2.2.1 bt781.2.2.2.1) else (if bt787.2.2.2.2 = true then ((reg_Encode.f k bt787.1 bt787.2.1 bt787.2.2.1 bt787.2.2.2.1).bind fun t795 => (if t795.toList = t779.toList then ((donatusref27_MayCmd.f bt787.1 bt787.2.1 bt787.2.2.1 bt787.2.2.2.1).bind fun t796 => (if t796 = true then (donatuslaw27_RegCmd.j0 k t780 bt781.2.2.2.2 false bt771.1 bt771.2.1 bt771.2.2.1 bt771.2.2.2 bt775.1 bt775.2.1 bt775.2.2.1 bt775.2.2.2 bt781.1 bt781.2.1 bt781.2.2.1 bt781.2.2.2.1) else (donatuslaw27_RegCmd.j0 k t780 bt781.2.2.2.2 true bt771.1 bt771.2.1 bt771.2.2.1 bt771.2.2.2 bt775.1 bt775.2.1 bt775.2.2.1 bt775.2.2.2 bt781.1 bt781.2.1 bt781.2.2.1 bt781.2.2.2.1))) else (donatuslaw27_RegCmd.j0 k t780 bt781.2.2.2.2 true bt771.1 bt771.2.1 bt771.2.2.1 bt771.2.2.2 bt775.1 bt775.2.1 bt775.2.2.1 bt775.2.2.2 bt781.1 bt781.2.1 bt781.2.2.1 bt781.2.2.2.1))) else ((donatusref27_EqCmd.f bt787.1 bt787.2.1 bt787.2.2.1 bt787.2.2.2.1 0 0 0 (⟨#[]⟩ : ByteArray)).bind fun t797 => (donatuslaw27_RegCmd.j0 k t780 bt781.2.2.2.2 (!t797) bt771.1 bt771.2.1 bt771.2.2.1 bt771.2.2.2 bt775.1 bt775.2.1 bt775.2.2.1 bt775.2.2.2 bt781.1 bt781.2.1 bt781.2.2.1 bt781.2.2.2.1)))))))))))) else (some false))) = some r := h
  clear h
  replace H := Option.bind_eq_some_iff.mp H
  obtain ⟨t770, A40, H⟩ := H
  replace H : (if t770 = true then ((donatuslaw27_Cut.f a0_0 a0_1 a0_2 a0_3).bind fun bt771 => ((donatuslaw27_Cut.f a1_0 a1_1 a1_2 a1_3).bind fun bt775 => ((donatuslaw1_Cut.f a2 60).bind fun t779 => ((reg_Encode.f k bt771.1 bt771.2.1 bt771.2.2.1 bt771.2.2.2).bind fun t780 => ((reg_Decode.f t780).bind fun bt781 => ((reg_Decode.f t779).bind fun bt787 => ((reg_May.f bt771.1 bt771.2.1 bt771.2.2.1 bt771.2.2.2).bind fun t793 => ((donatusref27_MayCmd.f bt771.1 bt771.2.1 bt771.2.2.1 bt771.2.2.2).bind fun t794 => (if (t793 != t794) = true then (donatuslaw27_RegCmd.j0 k t780 bt781.2.2.2.2 true bt771.1 bt771.2.1 bt771.2.2.1 bt771.2.2.2 bt775.1 bt775.2.1 bt775.2.2.1 bt775.2.2.2 bt781.1 bt781.2.1 bt781.2.2.1 bt781.2.2.2.1) else (if bt787.2.2.2.2 = true then ((reg_Encode.f k bt787.1 bt787.2.1 bt787.2.2.1 bt787.2.2.2.1).bind fun t795 => (if t795.toList = t779.toList then ((donatusref27_MayCmd.f bt787.1 bt787.2.1 bt787.2.2.1 bt787.2.2.2.1).bind fun t796 => (if t796 = true then (donatuslaw27_RegCmd.j0 k t780 bt781.2.2.2.2 false bt771.1 bt771.2.1 bt771.2.2.1 bt771.2.2.2 bt775.1 bt775.2.1 bt775.2.2.1 bt775.2.2.2 bt781.1 bt781.2.1 bt781.2.2.1 bt781.2.2.2.1) else (donatuslaw27_RegCmd.j0 k t780 bt781.2.2.2.2 true bt771.1 bt771.2.1 bt771.2.2.1 bt771.2.2.2 bt775.1 bt775.2.1 bt775.2.2.1 bt775.2.2.2 bt781.1 bt781.2.1 bt781.2.2.1 bt781.2.2.2.1))) else (donatuslaw27_RegCmd.j0 k t780 bt781.2.2.2.2 true bt771.1 bt771.2.1 bt771.2.2.1 bt771.2.2.2 bt775.1 bt775.2.1 bt775.2.2.1 bt775.2.2.2 bt781.1 bt781.2.1 bt781.2.2.1 bt781.2.2.2.1))) else ((donatusref27_EqCmd.f bt787.1 bt787.2.1 bt787.2.2.1 bt787.2.2.2.1 0 0 0 (⟨#[]⟩ : ByteArray)).bind fun t797 => (donatuslaw27_RegCmd.j0 k t780 bt781.2.2.2.2 (!t797) bt771.1 bt771.2.1 bt771.2.2.1 bt771.2.2.2 bt775.1 bt775.2.1 bt775.2.2.1 bt775.2.2.2 bt781.1 bt781.2.1 bt781.2.2.1 bt781.2.2.2.1)))))))))))) else (some false)) = some r := H
  have A4 := Aside0.mk A40
  clear A40
  by_cases c5 : t770 = true
  · subst c5
    have H1 : ((donatuslaw27_Cut.f a0_0 a0_1 a0_2 a0_3).bind fun bt771 => ((donatuslaw27_Cut.f a1_0 a1_1 a1_2 a1_3).bind fun bt775 => ((donatuslaw1_Cut.f a2 60).bind fun t779 => ((reg_Encode.f k bt771.1 bt771.2.1 bt771.2.2.1 bt771.2.2.2).bind fun t780 => ((reg_Decode.f t780).bind fun bt781 => ((reg_Decode.f t779).bind fun bt787 => ((reg_May.f bt771.1 bt771.2.1 bt771.2.2.1 bt771.2.2.2).bind fun t793 => ((donatusref27_MayCmd.f bt771.1 bt771.2.1 bt771.2.2.1 bt771.2.2.2).bind fun t794 => (if (t793 != t794) = true then (donatuslaw27_RegCmd.j0 k t780 bt781.2.2.2.2 true bt771.1 bt771.2.1 bt771.2.2.1 bt771.2.2.2 bt775.1 bt775.2.1 bt775.2.2.1 bt775.2.2.2 bt781.1 bt781.2.1 bt781.2.2.1 bt781.2.2.2.1) else (if bt787.2.2.2.2 = true then ((reg_Encode.f k bt787.1 bt787.2.1 bt787.2.2.1 bt787.2.2.2.1).bind fun t795 => (if t795.toList = t779.toList then ((donatusref27_MayCmd.f bt787.1 bt787.2.1 bt787.2.2.1 bt787.2.2.2.1).bind fun t796 => (if t796 = true then (donatuslaw27_RegCmd.j0 k t780 bt781.2.2.2.2 false bt771.1 bt771.2.1 bt771.2.2.1 bt771.2.2.2 bt775.1 bt775.2.1 bt775.2.2.1 bt775.2.2.2 bt781.1 bt781.2.1 bt781.2.2.1 bt781.2.2.2.1) else (donatuslaw27_RegCmd.j0 k t780 bt781.2.2.2.2 true bt771.1 bt771.2.1 bt771.2.2.1 bt771.2.2.2 bt775.1 bt775.2.1 bt775.2.2.1 bt775.2.2.2 bt781.1 bt781.2.1 bt781.2.2.1 bt781.2.2.2.1))) else (donatuslaw27_RegCmd.j0 k t780 bt781.2.2.2.2 true bt771.1 bt771.2.1 bt771.2.2.1 bt771.2.2.2 bt775.1 bt775.2.1 bt775.2.2.1 bt775.2.2.2 bt781.1 bt781.2.1 bt781.2.2.1 bt781.2.2.2.1))) else ((donatusref27_EqCmd.f bt787.1 bt787.2.1 bt787.2.2.1 bt787.2.2.2.1 0 0 0 (⟨#[]⟩ : ByteArray)).bind fun t797 => (donatuslaw27_RegCmd.j0 k t780 bt781.2.2.2.2 (!t797) bt771.1 bt771.2.1 bt771.2.2.1 bt771.2.2.2 bt775.1 bt775.2.1 bt775.2.2.1 bt775.2.2.2 bt781.1 bt781.2.1 bt781.2.2.1 bt781.2.2.2.1)))))))))))) = some r := by rw [if_pos rfl] at H; exact H
    clear H
    have H := H1
    clear H1
    replace H := Option.bind_eq_some_iff.mp H
    obtain ⟨⟨t771, t772, t773, t774⟩, A60, H⟩ := H
    replace H : ((donatuslaw27_Cut.f a1_0 a1_1 a1_2 a1_3).bind fun bt775 => ((donatuslaw1_Cut.f a2 60).bind fun t779 => ((reg_Encode.f k t771 t772 t773 t774).bind fun t780 => ((reg_Decode.f t780).bind fun bt781 => ((reg_Decode.f t779).bind fun bt787 => ((reg_May.f t771 t772 t773 t774).bind fun t793 => ((donatusref27_MayCmd.f t771 t772 t773 t774).bind fun t794 => (if (t793 != t794) = true then (donatuslaw27_RegCmd.j0 k t780 bt781.2.2.2.2 true t771 t772 t773 t774 bt775.1 bt775.2.1 bt775.2.2.1 bt775.2.2.2 bt781.1 bt781.2.1 bt781.2.2.1 bt781.2.2.2.1) else (if bt787.2.2.2.2 = true then ((reg_Encode.f k bt787.1 bt787.2.1 bt787.2.2.1 bt787.2.2.2.1).bind fun t795 => (if t795.toList = t779.toList then ((donatusref27_MayCmd.f bt787.1 bt787.2.1 bt787.2.2.1 bt787.2.2.2.1).bind fun t796 => (if t796 = true then (donatuslaw27_RegCmd.j0 k t780 bt781.2.2.2.2 false t771 t772 t773 t774 bt775.1 bt775.2.1 bt775.2.2.1 bt775.2.2.2 bt781.1 bt781.2.1 bt781.2.2.1 bt781.2.2.2.1) else (donatuslaw27_RegCmd.j0 k t780 bt781.2.2.2.2 true t771 t772 t773 t774 bt775.1 bt775.2.1 bt775.2.2.1 bt775.2.2.2 bt781.1 bt781.2.1 bt781.2.2.1 bt781.2.2.2.1))) else (donatuslaw27_RegCmd.j0 k t780 bt781.2.2.2.2 true t771 t772 t773 t774 bt775.1 bt775.2.1 bt775.2.2.1 bt775.2.2.2 bt781.1 bt781.2.1 bt781.2.2.1 bt781.2.2.2.1))) else ((donatusref27_EqCmd.f bt787.1 bt787.2.1 bt787.2.2.1 bt787.2.2.2.1 0 0 0 (⟨#[]⟩ : ByteArray)).bind fun t797 => (donatuslaw27_RegCmd.j0 k t780 bt781.2.2.2.2 (!t797) t771 t772 t773 t774 bt775.1 bt775.2.1 bt775.2.2.1 bt775.2.2.2 bt781.1 bt781.2.1 bt781.2.2.1 bt781.2.2.2.1))))))))))) = some r := H
    have A6 := Aside0.mk A60
    clear A60
    replace H := Option.bind_eq_some_iff.mp H
    obtain ⟨⟨t775, t776, t777, t778⟩, A70, H⟩ := H
    replace H : ((donatuslaw1_Cut.f a2 60).bind fun t779 => ((reg_Encode.f k t771 t772 t773 t774).bind fun t780 => ((reg_Decode.f t780).bind fun bt781 => ((reg_Decode.f t779).bind fun bt787 => ((reg_May.f t771 t772 t773 t774).bind fun t793 => ((donatusref27_MayCmd.f t771 t772 t773 t774).bind fun t794 => (if (t793 != t794) = true then (donatuslaw27_RegCmd.j0 k t780 bt781.2.2.2.2 true t771 t772 t773 t774 t775 t776 t777 t778 bt781.1 bt781.2.1 bt781.2.2.1 bt781.2.2.2.1) else (if bt787.2.2.2.2 = true then ((reg_Encode.f k bt787.1 bt787.2.1 bt787.2.2.1 bt787.2.2.2.1).bind fun t795 => (if t795.toList = t779.toList then ((donatusref27_MayCmd.f bt787.1 bt787.2.1 bt787.2.2.1 bt787.2.2.2.1).bind fun t796 => (if t796 = true then (donatuslaw27_RegCmd.j0 k t780 bt781.2.2.2.2 false t771 t772 t773 t774 t775 t776 t777 t778 bt781.1 bt781.2.1 bt781.2.2.1 bt781.2.2.2.1) else (donatuslaw27_RegCmd.j0 k t780 bt781.2.2.2.2 true t771 t772 t773 t774 t775 t776 t777 t778 bt781.1 bt781.2.1 bt781.2.2.1 bt781.2.2.2.1))) else (donatuslaw27_RegCmd.j0 k t780 bt781.2.2.2.2 true t771 t772 t773 t774 t775 t776 t777 t778 bt781.1 bt781.2.1 bt781.2.2.1 bt781.2.2.2.1))) else ((donatusref27_EqCmd.f bt787.1 bt787.2.1 bt787.2.2.1 bt787.2.2.2.1 0 0 0 (⟨#[]⟩ : ByteArray)).bind fun t797 => (donatuslaw27_RegCmd.j0 k t780 bt781.2.2.2.2 (!t797) t771 t772 t773 t774 t775 t776 t777 t778 bt781.1 bt781.2.1 bt781.2.2.1 bt781.2.2.2.1)))))))))) = some r := H
    have A7 := Aside0.mk A70
    clear A70
    replace H := Option.bind_eq_some_iff.mp H
    obtain ⟨t779, A80, H⟩ := H
    replace H : ((reg_Encode.f k t771 t772 t773 t774).bind fun t780 => ((reg_Decode.f t780).bind fun bt781 => ((reg_Decode.f t779).bind fun bt787 => ((reg_May.f t771 t772 t773 t774).bind fun t793 => ((donatusref27_MayCmd.f t771 t772 t773 t774).bind fun t794 => (if (t793 != t794) = true then (donatuslaw27_RegCmd.j0 k t780 bt781.2.2.2.2 true t771 t772 t773 t774 t775 t776 t777 t778 bt781.1 bt781.2.1 bt781.2.2.1 bt781.2.2.2.1) else (if bt787.2.2.2.2 = true then ((reg_Encode.f k bt787.1 bt787.2.1 bt787.2.2.1 bt787.2.2.2.1).bind fun t795 => (if t795.toList = t779.toList then ((donatusref27_MayCmd.f bt787.1 bt787.2.1 bt787.2.2.1 bt787.2.2.2.1).bind fun t796 => (if t796 = true then (donatuslaw27_RegCmd.j0 k t780 bt781.2.2.2.2 false t771 t772 t773 t774 t775 t776 t777 t778 bt781.1 bt781.2.1 bt781.2.2.1 bt781.2.2.2.1) else (donatuslaw27_RegCmd.j0 k t780 bt781.2.2.2.2 true t771 t772 t773 t774 t775 t776 t777 t778 bt781.1 bt781.2.1 bt781.2.2.1 bt781.2.2.2.1))) else (donatuslaw27_RegCmd.j0 k t780 bt781.2.2.2.2 true t771 t772 t773 t774 t775 t776 t777 t778 bt781.1 bt781.2.1 bt781.2.2.1 bt781.2.2.2.1))) else ((donatusref27_EqCmd.f bt787.1 bt787.2.1 bt787.2.2.1 bt787.2.2.2.1 0 0 0 (⟨#[]⟩ : ByteArray)).bind fun t797 => (donatuslaw27_RegCmd.j0 k t780 bt781.2.2.2.2 (!t797) t771 t772 t773 t774 t775 t776 t777 t778 bt781.1 bt781.2.1 bt781.2.2.1 bt781.2.2.2.1))))))))) = some r := H
    have A8 := Aside0.mk A80
    clear A80
    replace H := Option.bind_eq_some_iff.mp H
    obtain ⟨t780, A90, H⟩ := H
    replace H : ((reg_Decode.f t780).bind fun bt781 => ((reg_Decode.f t779).bind fun bt787 => ((reg_May.f t771 t772 t773 t774).bind fun t793 => ((donatusref27_MayCmd.f t771 t772 t773 t774).bind fun t794 => (if (t793 != t794) = true then (donatuslaw27_RegCmd.j0 k t780 bt781.2.2.2.2 true t771 t772 t773 t774 t775 t776 t777 t778 bt781.1 bt781.2.1 bt781.2.2.1 bt781.2.2.2.1) else (if bt787.2.2.2.2 = true then ((reg_Encode.f k bt787.1 bt787.2.1 bt787.2.2.1 bt787.2.2.2.1).bind fun t795 => (if t795.toList = t779.toList then ((donatusref27_MayCmd.f bt787.1 bt787.2.1 bt787.2.2.1 bt787.2.2.2.1).bind fun t796 => (if t796 = true then (donatuslaw27_RegCmd.j0 k t780 bt781.2.2.2.2 false t771 t772 t773 t774 t775 t776 t777 t778 bt781.1 bt781.2.1 bt781.2.2.1 bt781.2.2.2.1) else (donatuslaw27_RegCmd.j0 k t780 bt781.2.2.2.2 true t771 t772 t773 t774 t775 t776 t777 t778 bt781.1 bt781.2.1 bt781.2.2.1 bt781.2.2.2.1))) else (donatuslaw27_RegCmd.j0 k t780 bt781.2.2.2.2 true t771 t772 t773 t774 t775 t776 t777 t778 bt781.1 bt781.2.1 bt781.2.2.1 bt781.2.2.2.1))) else ((donatusref27_EqCmd.f bt787.1 bt787.2.1 bt787.2.2.1 bt787.2.2.2.1 0 0 0 (⟨#[]⟩ : ByteArray)).bind fun t797 => (donatuslaw27_RegCmd.j0 k t780 bt781.2.2.2.2 (!t797) t771 t772 t773 t774 t775 t776 t777 t778 bt781.1 bt781.2.1 bt781.2.2.1 bt781.2.2.2.1)))))))) = some r := H
    have A9 := Aside0.mk A90
    clear A90
    replace H := Option.bind_eq_some_iff.mp H
    obtain ⟨⟨t781, t782, t783, t784, t785⟩, A100, H⟩ := H
    replace H : ((reg_Decode.f t779).bind fun bt787 => ((reg_May.f t771 t772 t773 t774).bind fun t793 => ((donatusref27_MayCmd.f t771 t772 t773 t774).bind fun t794 => (if (t793 != t794) = true then (donatuslaw27_RegCmd.j0 k t780 t785 true t771 t772 t773 t774 t775 t776 t777 t778 t781 t782 t783 t784) else (if bt787.2.2.2.2 = true then ((reg_Encode.f k bt787.1 bt787.2.1 bt787.2.2.1 bt787.2.2.2.1).bind fun t795 => (if t795.toList = t779.toList then ((donatusref27_MayCmd.f bt787.1 bt787.2.1 bt787.2.2.1 bt787.2.2.2.1).bind fun t796 => (if t796 = true then (donatuslaw27_RegCmd.j0 k t780 t785 false t771 t772 t773 t774 t775 t776 t777 t778 t781 t782 t783 t784) else (donatuslaw27_RegCmd.j0 k t780 t785 true t771 t772 t773 t774 t775 t776 t777 t778 t781 t782 t783 t784))) else (donatuslaw27_RegCmd.j0 k t780 t785 true t771 t772 t773 t774 t775 t776 t777 t778 t781 t782 t783 t784))) else ((donatusref27_EqCmd.f bt787.1 bt787.2.1 bt787.2.2.1 bt787.2.2.2.1 0 0 0 (⟨#[]⟩ : ByteArray)).bind fun t797 => (donatuslaw27_RegCmd.j0 k t780 t785 (!t797) t771 t772 t773 t774 t775 t776 t777 t778 t781 t782 t783 t784))))))) = some r := H
    have A10 := Aside0.mk A100
    clear A100
    replace H := Option.bind_eq_some_iff.mp H
    obtain ⟨⟨t787, t788, t789, t790, t791⟩, A110, H⟩ := H
    replace H : ((reg_May.f t771 t772 t773 t774).bind fun t793 => ((donatusref27_MayCmd.f t771 t772 t773 t774).bind fun t794 => (if (t793 != t794) = true then (donatuslaw27_RegCmd.j0 k t780 t785 true t771 t772 t773 t774 t775 t776 t777 t778 t781 t782 t783 t784) else (if t791 = true then ((reg_Encode.f k t787 t788 t789 t790).bind fun t795 => (if t795.toList = t779.toList then ((donatusref27_MayCmd.f t787 t788 t789 t790).bind fun t796 => (if t796 = true then (donatuslaw27_RegCmd.j0 k t780 t785 false t771 t772 t773 t774 t775 t776 t777 t778 t781 t782 t783 t784) else (donatuslaw27_RegCmd.j0 k t780 t785 true t771 t772 t773 t774 t775 t776 t777 t778 t781 t782 t783 t784))) else (donatuslaw27_RegCmd.j0 k t780 t785 true t771 t772 t773 t774 t775 t776 t777 t778 t781 t782 t783 t784))) else ((donatusref27_EqCmd.f t787 t788 t789 t790 0 0 0 (⟨#[]⟩ : ByteArray)).bind fun t797 => (donatuslaw27_RegCmd.j0 k t780 t785 (!t797) t771 t772 t773 t774 t775 t776 t777 t778 t781 t782 t783 t784)))))) = some r := H
    have A11 := Aside0.mk A110
    clear A110
    have HC12 := Aside0.mk H
    clear H
    go_enter Tryz.func5, Tryz.ntmps5
    try go_wp2_with (first | ((with_reducible refine gate_dst (N := 3) rfl ?_); refine box_event ?hg (N := 3) ?hd (cs := #[.int .i64 a0_0, .int .i64 a0_1, .int .i64 a0_2, .string a0_3]) (t := 55) ?hr ?_; (case hd => rfl); (case hg => rfl); (case hr => first | (go_simp; done) | (go_simp; rfl)); intro gb768 hg w13 hbox hb; have n0_ := Aside0.mk (below_step (by repeat (first | (with_reducible first | exact HB.out | apply below_alloc | apply pw_below_drewN | apply below_drew1) | exact HB.out)) hb); have n1_ := Aside0.mk (hbox); have n2_ := Aside0.mk ((by rw [hg]; exact (below_size (by repeat (first | (with_reducible first | exact HB.out | apply below_alloc | apply pw_below_drewN | apply below_drew1) | exact HB.out))) : w.heap.size ≤ gb768)); have n3_ := Aside0.mk ((by rw [hg]; exact (below_size (by repeat (first | (with_reducible first | exact HB.out | apply below_alloc | apply pw_below_drewN | apply below_drew1) | exact HB.out))) : w.heap.size ≤ gb768)); clear HB; have HB := n0_; have BK768 := n1_; have GW768 := n2_; have GE768 := n3_; clear n0_ n1_ n2_ n3_; clear hb hbox hg) | ((with_reducible refine gate_dst (N := 4) rfl ?_); refine box_event ?hg (N := 4) ?hd (cs := #[.int .i64 a1_0, .int .i64 a1_1, .int .i64 a1_2, .string a1_3]) (t := 55) ?hr ?_; (case hd => rfl); (case hg => rfl); (case hr => first | (go_simp; done) | (go_simp; rfl)); intro gb769 hg w14 hbox hb; have n0_ := Aside0.mk (blk_below (g := gb768) (o := .cells #[.int .i64 a0_0, .int .i64 a0_1, .int .i64 a0_2, .string a0_3] 55 (0, 0)) (by (with_reducible repeat (first | refine blk_drewN ?_ _ | refine blk_drew ?_ | refine blk_alloc ?_ _)); exact BK768.out) hb); have n1_ := Aside0.mk (below_step (by repeat (first | (with_reducible first | exact HB.out | apply below_alloc | apply pw_below_drewN | apply below_drew1 | refine below_set ?_ GE768.out) | exact HB.out)) hb); have n2_ := Aside0.mk (hbox); have n3_ := Aside0.mk ((by rw [hg]; exact (below_size (by repeat (first | (with_reducible first | exact HB.out | apply below_alloc | apply pw_below_drewN | apply below_drew1 | refine below_set ?_ GE768.out) | exact HB.out))) : w.heap.size ≤ gb769)); have n4_ := Aside0.mk ((by rw [hg]; exact (below_size (by repeat (first | (with_reducible first | exact HB.out | apply below_alloc | apply pw_below_drewN | apply below_drew1 | refine below_set ?_ GE768.out) | exact HB.out))) : w.heap.size ≤ gb769)); have n5_ := Aside0.mk ((by rw [hg]; exact Nat.ne_of_lt (blk_lt (g := gb768) (o := .cells #[.int .i64 a0_0, .int .i64 a0_1, .int .i64 a0_2, .string a0_3] 55 (0, 0)) (by (with_reducible repeat (first | refine blk_drewN ?_ _ | refine blk_drew ?_ | refine blk_alloc ?_ _)); exact BK768.out)) : gb768 ≠ gb769)); have n6_ := Aside0.mk ((by rw [hg]; exact Nat.ne_of_gt (blk_lt (g := gb768) (o := .cells #[.int .i64 a0_0, .int .i64 a0_1, .int .i64 a0_2, .string a0_3] 55 (0, 0)) (by (with_reducible repeat (first | refine blk_drewN ?_ _ | refine blk_drew ?_ | refine blk_alloc ?_ _)); exact BK768.out)) : gb769 ≠ gb768)); clear BK768; clear HB; have BK768 := n0_; have HB := n1_; have BK769 := n2_; have GW769 := n3_; have GE769 := n4_; have NB768_769 := n5_; have NB769_768 := n6_; clear n0_ n1_ n2_ n3_ n4_ n5_ n6_; clear hb hbox hg) | ((with_reducible refine gate_callee (f := 22) rfl ?_); refine goesL_ (some 13) rfl rfl Tryz.func22 (by kernel_rfl) rfl #[] rfl (by (try simp only [List.map_toArray, List.map_cons, List.map_nil]); first | done | rfl | (simp only [List.length_drop, List.length_take]; rfl)) ?_; (with_reducible refine (donatuslaw27_begun.calls  true _ A4.out).mono ?_); rintro e w15 ⟨rfl, hb⟩; refine ⟨_, rfl, ?_⟩; have n0_ := Aside0.mk (blk_below (g := gb768) (o := .cells #[.int .i64 a0_0, .int .i64 a0_1, .int .i64 a0_2, .string a0_3] 55 (0, 0)) (by (with_reducible repeat (first | refine blk_drewN ?_ _ | refine blk_drew ?_ | refine blk_alloc ?_ _)); exact BK768.out) hb); have n1_ := Aside0.mk (blk_below (g := gb769) (o := .cells #[.int .i64 a1_0, .int .i64 a1_1, .int .i64 a1_2, .string a1_3] 55 (0, 0)) (by (with_reducible repeat (first | refine blk_drewN ?_ _ | refine blk_drew ?_ | refine blk_alloc ?_ _)); exact BK769.out) hb); have n2_ := Aside0.mk (below_step (by repeat (first | (with_reducible first | exact HB.out | apply below_alloc | apply pw_below_drewN | apply below_drew1 | refine below_set ?_ GE768.out | refine below_set ?_ GE769.out) | exact HB.out)) hb); clear BK768; clear BK769; clear HB; have BK768 := n0_; have BK769 := n1_; have HB := n2_; clear n0_ n1_ n2_; (try clear hb); (try clear hb2); (try clear hk); (try clear hi)))
    have n0_ := Aside0.mk (blk_drew BK768.out)
    have n1_ := Aside0.mk (blk_drew BK769.out)
    have n2_ := Aside0.mk (below_drew1 HB.out)
    clear BK768
    clear BK769
    clear HB
    have BK768 := n0_
    have BK769 := n1_
    have HB := n2_
    clear n0_ n1_ n2_
    refine start_ (n := 9) (S := fun w' => w'.cell? ⟨gb768, 0, none⟩ = some (.int .i64 a0_0) ∧ w'.cell? ⟨gb768, 1, none⟩ = some (.int .i64 a0_1) ∧ w'.cell? ⟨gb768, 2, none⟩ = some (.int .i64 a0_2) ∧ w'.cell? ⟨gb768, 3, none⟩ = some (.string a0_3) ∧ w'.cell? ⟨gb769, 0, none⟩ = some (.int .i64 a1_0) ∧ w'.cell? ⟨gb769, 1, none⟩ = some (.int .i64 a1_1) ∧ w'.cell? ⟨gb769, 2, none⟩ = some (.int .i64 a1_2) ∧ w'.cell? ⟨gb769, 3, none⟩ = some (.string a1_3)) (ds := [6, 7]) #[false, false, false, false, false, false, false, false, false] (by kernel_rfl) rfl rfl ⟨(blk_cell BK768.out 0).trans rfl, (blk_cell BK768.out 1).trans rfl, (blk_cell BK768.out 2).trans rfl, (blk_cell BK768.out 3).trans rfl, (blk_cell BK769.out 0).trans rfl, (blk_cell BK769.out 1).trans rfl, (blk_cell BK769.out 2).trans rfl, (blk_cell BK769.out 3).trans rfl⟩ (fun hHeld => ?_); refine with_tabW donatuslaw27_RegCmd.tab4 donatuslaw27_RegCmd.bits4 (fun HT_ HW_ => ?_)
    generalize w15.drew = w16 at BK768 BK769 HB hHeld ⊢
    refine pure_ (i := 4) (N := some 20) (v := ?_) (a' := ?_) #[false, false, false, false, true, false, false, false, false] rfl rfl (any_of HT_.out (by kernel_rfl)) (fun _ _ _ h => h) (Or.inl ⟨by rfl, ?_⟩) ?_ ?_
    rotate_left
    · intro w'
      go_simp
      with_reducible rfl
    rotate_left
    · simp only [Act.put, List.setIfInBounds_toArray, List.set_cons_zero, List.set_cons_succ, i64_w, i32_w]
      rfl
    refine take_ (i := 0) (N := some 16) (v := ?_) (a' := ?_) #[true, false, false, false, true, false, false, false, false] rfl rfl (take_ofW HT_.out HW_.out (by kernel_rfl)) (fun _ _ _ h => h) (Or.inl ⟨by rfl, ?_⟩) hHeld ?_ ?_
    rotate_left
    · rintro w' ⟨s0, s1, s2, s3, s4, s5, s6, s7⟩
      go_simp
      with_reducible rfl
    rotate_left
    · simp only [Act.put, List.setIfInBounds_toArray, List.set_cons_zero, List.set_cons_succ, i64_w, i32_w]
      rfl
    refine take_ (i := 2) (N := some 18) (v := ?_) (a' := ?_) #[true, false, true, false, true, false, false, false, false] rfl rfl (take_ofW HT_.out HW_.out (by kernel_rfl)) (fun _ _ _ h => h) (Or.inl ⟨by rfl, ?_⟩) hHeld ?_ ?_
    rotate_left
    · rintro w' ⟨s0, s1, s2, s3, s4, s5, s6, s7⟩
      go_simp
      with_reducible rfl
    rotate_left
    · simp only [Act.put, List.setIfInBounds_toArray, List.set_cons_zero, List.set_cons_succ, i64_w, i32_w]
      rfl
    refine one_ (i := 1) (N := some 17) #[true, true, true, false, true, false, false, false, false] rfl rfl (one_of HT_.out (by kernel_rfl)) (by decide) (fun K hK => ?_)
    refine goes_ Tryz.func23 (by kernel_rfl) rfl #[.agg #[.int .i64 a0_0, .int .i64 a0_1, .int .i64 a0_2, .string a0_3]] (by rfl) rfl rfl (by (try simp only [List.map_toArray, List.map_cons, List.map_nil]); first | done | rfl | (simp only [List.length_drop, List.length_take]; rfl)) ?_
    with_reducible refine (donatuslaw27_Cut.calls a0_0 a0_1 a0_2 a0_3 t771 t772 t773 t774 _ A6.out).mono ?_
    rintro e w17 ⟨rfl, hb⟩
    refine ⟨_, rfl, ?_⟩
    have n0_ := Aside0.mk (blk_below (g := gb768) (o := .cells #[.int .i64 a0_0, .int .i64 a0_1, .int .i64 a0_2, .string a0_3] 55 (0, 0)) (by (with_reducible repeat (first | refine blk_drewN ?_ _ | refine blk_drew ?_ | refine blk_alloc ?_ _)); exact BK768.out) hb)
    have n1_ := Aside0.mk (blk_below (g := gb769) (o := .cells #[.int .i64 a1_0, .int .i64 a1_1, .int .i64 a1_2, .string a1_3] 55 (0, 0)) (by (with_reducible repeat (first | refine blk_drewN ?_ _ | refine blk_drew ?_ | refine blk_alloc ?_ _)); exact BK769.out) hb)
    have n2_ := Aside0.mk (below_step (by repeat (first | (with_reducible first | exact HB.out | apply below_alloc | apply pw_below_drewN | apply below_drew1 | refine below_set ?_ GE768.out | refine below_set ?_ GE769.out) | exact HB.out)) hb)
    clear BK768
    clear BK769
    clear HB
    have BK768 := n0_
    have BK769 := n1_
    have HB := n2_
    clear n0_ n1_ n2_
    (try clear hb)
    (try clear hb2)
    (try clear hk)
    (try clear hi)
    refine hK.out _ _ ⟨(blk_cell BK768.out 0).trans rfl, (blk_cell BK768.out 1).trans rfl, (blk_cell BK768.out 2).trans rfl, (blk_cell BK768.out 3).trans rfl, (blk_cell BK769.out 0).trans rfl, (blk_cell BK769.out 1).trans rfl, (blk_cell BK769.out 2).trans rfl, (blk_cell BK769.out 3).trans rfl⟩ (fun hHeld => ?_)
    clear hK K
    refine norm_ (a' := ?_) ?_ ?_
    rotate_left
    · show Act.put _ (some 17) _ = _
      simp only [Act.put, List.setIfInBounds_toArray, List.set_cons_zero, List.set_cons_succ, i64_w, i32_w]
      rfl
    refine one_ (i := 3) (N := some 19) #[true, true, true, true, true, false, false, false, false] rfl rfl (one_of HT_.out (by kernel_rfl)) (by decide) (fun K hK => ?_)
    refine goes_ Tryz.func23 (by kernel_rfl) rfl #[.agg #[.int .i64 a1_0, .int .i64 a1_1, .int .i64 a1_2, .string a1_3]] (by rfl) rfl rfl (by (try simp only [List.map_toArray, List.map_cons, List.map_nil]); first | done | rfl | (simp only [List.length_drop, List.length_take]; rfl)) ?_
    with_reducible refine (donatuslaw27_Cut.calls a1_0 a1_1 a1_2 a1_3 t775 t776 t777 t778 _ A7.out).mono ?_
    rintro e w18 ⟨rfl, hb⟩
    refine ⟨_, rfl, ?_⟩
    have n0_ := Aside0.mk (blk_below (g := gb768) (o := .cells #[.int .i64 a0_0, .int .i64 a0_1, .int .i64 a0_2, .string a0_3] 55 (0, 0)) (by (with_reducible repeat (first | refine blk_drewN ?_ _ | refine blk_drew ?_ | refine blk_alloc ?_ _)); exact BK768.out) hb)
    have n1_ := Aside0.mk (blk_below (g := gb769) (o := .cells #[.int .i64 a1_0, .int .i64 a1_1, .int .i64 a1_2, .string a1_3] 55 (0, 0)) (by (with_reducible repeat (first | refine blk_drewN ?_ _ | refine blk_drew ?_ | refine blk_alloc ?_ _)); exact BK769.out) hb)
    have n2_ := Aside0.mk (below_step (by repeat (first | (with_reducible first | exact HB.out | apply below_alloc | apply pw_below_drewN | apply below_drew1 | refine below_set ?_ GE768.out | refine below_set ?_ GE769.out) | exact HB.out)) hb)
    clear BK768
    clear BK769
    clear HB
    have BK768 := n0_
    have BK769 := n1_
    have HB := n2_
    clear n0_ n1_ n2_
    (try clear hb)
    (try clear hb2)
    (try clear hk)
    (try clear hi)
    refine hK.out _ _ ⟨(blk_cell BK768.out 0).trans rfl, (blk_cell BK768.out 1).trans rfl, (blk_cell BK768.out 2).trans rfl, (blk_cell BK768.out 3).trans rfl, (blk_cell BK769.out 0).trans rfl, (blk_cell BK769.out 1).trans rfl, (blk_cell BK769.out 2).trans rfl, (blk_cell BK769.out 3).trans rfl⟩ (fun hHeld => ?_)
    clear hK K
    refine norm_ (a' := ?_) ?_ ?_
    rotate_left
    · show Act.put _ (some 19) _ = _
      simp only [Act.put, List.setIfInBounds_toArray, List.set_cons_zero, List.set_cons_succ, i64_w, i32_w]
      rfl
    refine one_ (i := 5) (N := some 21) #[true, true, true, true, true, true, false, false, false] rfl rfl (one_of HT_.out (by kernel_rfl)) (by decide) (fun K hK => ?_)
    refine goes_ Tryz.func24 (by kernel_rfl) rfl #[.string a2, .int .i64 60] (by rfl) rfl rfl (by (try simp only [List.map_toArray, List.map_cons, List.map_nil]); first | done | rfl | (simp only [List.length_drop, List.length_take]; rfl)) ?_
    with_reducible refine (donatuslaw1_Cut.calls a2 60 t779 _ A8.out).mono ?_
    rintro e w' ⟨rfl, ⟨nd, rfl⟩⟩
    refine ⟨_, rfl, ?_⟩
    refine hK.out _ _ ⟨(blk_cell BK768.out 0).trans rfl, (blk_cell BK768.out 1).trans rfl, (blk_cell BK768.out 2).trans rfl, (blk_cell BK768.out 3).trans rfl, (blk_cell BK769.out 0).trans rfl, (blk_cell BK769.out 1).trans rfl, (blk_cell BK769.out 2).trans rfl, (blk_cell BK769.out 3).trans rfl⟩ (fun hHeld => ?_)
    clear hK K
    refine norm_ (a' := ?_) ?_ ?_
    rotate_left
    · show Act.put _ (some 21) _ = _
      simp only [Act.put, List.setIfInBounds_toArray, List.set_cons_zero, List.set_cons_succ, i64_w, i32_w]
      rfl
    refine last_ (i := 6) (N := none) #[true, true, true, true, true, true, true, false, false] rfl rfl (one_of HT_.out (by kernel_rfl)) (by decide) (fun K hK => ?_)
    have hs19 : w18.cell? ⟨gb768, 0, none⟩ = some (.int .i64 a0_0) := (blk_cell BK768.out 0).trans rfl
    have hfs19 := blk_frozen BK768.out 0
    have hns19_1 := NB769_768.out
    have hms19_1 := NB768_769.out
    have hs20 : w18.cell? ⟨gb768, 1, none⟩ = some (.int .i64 a0_1) := (blk_cell BK768.out 1).trans rfl
    have hfs20 := blk_frozen BK768.out 1
    have hns20_1 := NB769_768.out
    have hms20_1 := NB768_769.out
    have hs21 : w18.cell? ⟨gb768, 2, none⟩ = some (.int .i64 a0_2) := (blk_cell BK768.out 2).trans rfl
    have hfs21 := blk_frozen BK768.out 2
    have hns21_1 := NB769_768.out
    have hms21_1 := NB768_769.out
    have hs22 : w18.cell? ⟨gb768, 3, none⟩ = some (.string a0_3) := (blk_cell BK768.out 3).trans rfl
    have hfs22 := blk_frozen BK768.out 3
    have hns22_1 := NB769_768.out
    have hms22_1 := NB768_769.out
    refine skip_ (w1 := ?_) (by rfl) rfl ?_ ?_
    rotate_left
    · go_simp
      rfl
    refine hK.out _ _ ?_
    clear hK K
    refine last_ (i := 7) (N := none) #[true, true, true, true, true, true, true, true, false] rfl rfl (one_of HT_.out (by kernel_rfl)) (by decide) (fun K hK => ?_)
    have hs23 : w18.cell? ⟨gb769, 0, none⟩ = some (.int .i64 a1_0) := (blk_cell BK769.out 0).trans rfl
    have hfs23 := blk_frozen BK769.out 0
    have hns23_0 := NB768_769.out
    have hms23_0 := NB769_768.out
    have hs24 : w18.cell? ⟨gb769, 1, none⟩ = some (.int .i64 a1_1) := (blk_cell BK769.out 1).trans rfl
    have hfs24 := blk_frozen BK769.out 1
    have hns24_0 := NB768_769.out
    have hms24_0 := NB769_768.out
    have hs25 : w18.cell? ⟨gb769, 2, none⟩ = some (.int .i64 a1_2) := (blk_cell BK769.out 2).trans rfl
    have hfs25 := blk_frozen BK769.out 2
    have hns25_0 := NB768_769.out
    have hms25_0 := NB769_768.out
    have hs26 : w18.cell? ⟨gb769, 3, none⟩ = some (.string a1_3) := (blk_cell BK769.out 3).trans rfl
    have hfs26 := blk_frozen BK769.out 3
    have hns26_0 := NB768_769.out
    have hms26_0 := NB769_768.out
    refine skip_ (w1 := ?_) (by rfl) rfl ?_ ?_
    rotate_left
    · go_simp
      rfl
    refine hK.out _ _ ?_
    clear hK K
    refine pure_ (i := 8) (N := some 2) (v := ?_) (a' := ?_) #[true, true, true, true, true, true, true, true, true] rfl rfl (any_of HT_.out (by kernel_rfl)) (fun _ _ _ h => h) (Or.inl ⟨by rfl, ?_⟩) ?_ ?_
    rotate_left
    · intro w'
      go_simp
      with_reducible rfl
    rotate_left
    · simp only [Act.put, List.setIfInBounds_toArray, List.set_cons_zero, List.set_cons_succ, i64_w, i32_w]
      rfl
    refine done_ (done_of HT_.out (by kernel_rfl)) ?_
    have hnb27 := NB768_769.out
    have hnc27 := NB769_768.out
    have hcz28_0 : w18.cell? ⟨gb768, 0, none⟩ = some (.int .i64 a0_0) := (blk_cell BK768.out 0).trans rfl
    have hcz28_1 : w18.cell? ⟨gb768, 1, none⟩ = some (.int .i64 a0_1) := (blk_cell BK768.out 1).trans rfl
    have hcz28_2 : w18.cell? ⟨gb768, 2, none⟩ = some (.int .i64 a0_2) := (blk_cell BK768.out 2).trans rfl
    have hcz28_3 : w18.cell? ⟨gb768, 3, none⟩ = some (.string a0_3) := (blk_cell BK768.out 3).trans rfl
    have hfz28_0 := blk_frozen BK768.out 0
    have hfz28_1 := blk_frozen BK768.out 1
    have hfz28_2 := blk_frozen BK768.out 2
    have hfz28_3 := blk_frozen BK768.out 3
    go_upto_region 8 with (first | ((with_reducible refine gate_callee (f := 25) rfl ?_); refine goesL_ (some 23) rfl rfl Tryz.func25 (by kernel_rfl) rfl #[.agg #[.int .i64 t771, .int .i64 t772, .int .i64 t773, .string t774]] rfl (by (try simp only [List.map_toArray, List.map_cons, List.map_nil]); first | done | rfl | (simp only [List.length_drop, List.length_take]; rfl)) ?_; (with_reducible refine (reg_Encode.calls k t771 t772 t773 t774 t780 _ A9.out).mono ?_); rintro e w29 ⟨rfl, hb⟩; refine ⟨_, rfl, ?_⟩; have n0_ := Aside0.mk (blk_below (g := gb768) (o := .cells #[.int .i64 t771, .int .i64 t772, .int .i64 t773, .string t774] 55 (0, 0)) (by (with_reducible repeat (first | refine blk_drewN ?_ _ | refine blk_drew ?_ | refine blk_alloc ?_ _)); refine blk_far ?_ NB768_769.out _; (with_reducible repeat (first | refine blk_drewN ?_ _ | refine blk_drew ?_ | refine blk_alloc ?_ _)); refine blk_far ?_ NB768_769.out _; (with_reducible repeat (first | refine blk_drewN ?_ _ | refine blk_drew ?_ | refine blk_alloc ?_ _)); refine blk_far ?_ NB768_769.out _; (with_reducible repeat (first | refine blk_drewN ?_ _ | refine blk_drew ?_ | refine blk_alloc ?_ _)); refine blk_far ?_ NB768_769.out _; (with_reducible repeat (first | refine blk_drewN ?_ _ | refine blk_drew ?_ | refine blk_alloc ?_ _)); refine blk_put (cs := #[.int .i64 t771, .int .i64 t772, .int .i64 t773, .string a0_3]) ?_ 3 _ rfl; (with_reducible repeat (first | refine blk_drewN ?_ _ | refine blk_drew ?_ | refine blk_alloc ?_ _)); refine blk_put (cs := #[.int .i64 t771, .int .i64 t772, .int .i64 a0_2, .string a0_3]) ?_ 2 _ rfl; (with_reducible repeat (first | refine blk_drewN ?_ _ | refine blk_drew ?_ | refine blk_alloc ?_ _)); refine blk_put (cs := #[.int .i64 t771, .int .i64 a0_1, .int .i64 a0_2, .string a0_3]) ?_ 1 _ rfl; (with_reducible repeat (first | refine blk_drewN ?_ _ | refine blk_drew ?_ | refine blk_alloc ?_ _)); refine blk_put (cs := #[.int .i64 a0_0, .int .i64 a0_1, .int .i64 a0_2, .string a0_3]) ?_ 0 _ rfl; (with_reducible repeat (first | refine blk_drewN ?_ _ | refine blk_drew ?_ | refine blk_alloc ?_ _)); exact BK768.out) hb); have n1_ := Aside0.mk (blk_below (g := gb769) (o := .cells #[.int .i64 t775, .int .i64 t776, .int .i64 t777, .string t778] 55 (0, 0)) (by (with_reducible repeat (first | refine blk_drewN ?_ _ | refine blk_drew ?_ | refine blk_alloc ?_ _)); refine blk_put (cs := #[.int .i64 t775, .int .i64 t776, .int .i64 t777, .string a1_3]) ?_ 3 _ rfl; (with_reducible repeat (first | refine blk_drewN ?_ _ | refine blk_drew ?_ | refine blk_alloc ?_ _)); refine blk_put (cs := #[.int .i64 t775, .int .i64 t776, .int .i64 a1_2, .string a1_3]) ?_ 2 _ rfl; (with_reducible repeat (first | refine blk_drewN ?_ _ | refine blk_drew ?_ | refine blk_alloc ?_ _)); refine blk_put (cs := #[.int .i64 t775, .int .i64 a1_1, .int .i64 a1_2, .string a1_3]) ?_ 1 _ rfl; (with_reducible repeat (first | refine blk_drewN ?_ _ | refine blk_drew ?_ | refine blk_alloc ?_ _)); refine blk_put (cs := #[.int .i64 a1_0, .int .i64 a1_1, .int .i64 a1_2, .string a1_3]) ?_ 0 _ rfl; (with_reducible repeat (first | refine blk_drewN ?_ _ | refine blk_drew ?_ | refine blk_alloc ?_ _)); refine blk_far ?_ NB769_768.out _; (with_reducible repeat (first | refine blk_drewN ?_ _ | refine blk_drew ?_ | refine blk_alloc ?_ _)); refine blk_far ?_ NB769_768.out _; (with_reducible repeat (first | refine blk_drewN ?_ _ | refine blk_drew ?_ | refine blk_alloc ?_ _)); refine blk_far ?_ NB769_768.out _; (with_reducible repeat (first | refine blk_drewN ?_ _ | refine blk_drew ?_ | refine blk_alloc ?_ _)); refine blk_far ?_ NB769_768.out _; (with_reducible repeat (first | refine blk_drewN ?_ _ | refine blk_drew ?_ | refine blk_alloc ?_ _)); exact BK769.out) hb); have n2_ := Aside0.mk (below_step (by repeat (first | (with_reducible first | exact HB.out | apply below_alloc | apply pw_below_drewN | apply below_drew1 | refine below_set ?_ GE768.out | refine below_set ?_ GE769.out) | exact HB.out)) hb); clear BK768; clear BK769; clear HB; have BK768 := n0_; have BK769 := n1_; have HB := n2_; clear n0_ n1_ n2_; (try clear hb); (try clear hb2); (try clear hk); (try clear hi)) | ((with_reducible refine gate_callee (f := 26) rfl ?_); refine goesL_ (some 26) rfl rfl Tryz.func26 (by kernel_rfl) rfl #[.string t780] rfl (by (try simp only [List.map_toArray, List.map_cons, List.map_nil]); first | done | rfl | (simp only [List.length_drop, List.length_take]; rfl)) ?_; (with_reducible refine (reg_Decode.calls t780 t781 t782 t783 t784 t785 _ A10.out).mono ?_); rintro e w30 ⟨rfl, hb⟩; refine ⟨_, rfl, ?_⟩; have n0_ := Aside0.mk (blk_below (g := gb768) (o := .cells #[.int .i64 t771, .int .i64 t772, .int .i64 t773, .string t774] 55 (0, 0)) (by (with_reducible repeat (first | refine blk_drewN ?_ _ | refine blk_drew ?_ | refine blk_alloc ?_ _)); exact BK768.out) hb); have n1_ := Aside0.mk (blk_below (g := gb769) (o := .cells #[.int .i64 t775, .int .i64 t776, .int .i64 t777, .string t778] 55 (0, 0)) (by (with_reducible repeat (first | refine blk_drewN ?_ _ | refine blk_drew ?_ | refine blk_alloc ?_ _)); exact BK769.out) hb); have n2_ := Aside0.mk (below_step (by repeat (first | (with_reducible first | exact HB.out | apply below_alloc | apply pw_below_drewN | apply below_drew1 | refine below_set ?_ GE768.out | refine below_set ?_ GE769.out) | exact HB.out)) hb); clear BK768; clear BK769; clear HB; have BK768 := n0_; have BK769 := n1_; have HB := n2_; clear n0_ n1_ n2_; (try clear hb); (try clear hb2); (try clear hk); (try clear hi)) | ((with_reducible refine gate_dst (N := 9) rfl ?_); refine box_event ?hg (N := 9) ?hd (cs := #[.int .i64 0, .int .i64 0, .int .i64 0, .string (⟨#[]⟩ : ByteArray)]) (t := 55) ?hr ?_; (case hd => rfl); (case hg => rfl); (case hr => first | (go_simp; done) | (go_simp; rfl)); intro gb786 hg w31 hbox hb; have n0_ := Aside0.mk (blk_below (g := gb768) (o := .cells #[.int .i64 t771, .int .i64 t772, .int .i64 t773, .string t774] 55 (0, 0)) (by (with_reducible repeat (first | refine blk_drewN ?_ _ | refine blk_drew ?_ | refine blk_alloc ?_ _)); exact BK768.out) hb); have n1_ := Aside0.mk (blk_below (g := gb769) (o := .cells #[.int .i64 t775, .int .i64 t776, .int .i64 t777, .string t778] 55 (0, 0)) (by (with_reducible repeat (first | refine blk_drewN ?_ _ | refine blk_drew ?_ | refine blk_alloc ?_ _)); exact BK769.out) hb); have n2_ := Aside0.mk (below_step (by repeat (first | (with_reducible first | exact HB.out | apply below_alloc | apply pw_below_drewN | apply below_drew1 | refine below_set ?_ GE768.out | refine below_set ?_ GE769.out) | exact HB.out)) hb); have n3_ := Aside0.mk (hbox); have n4_ := Aside0.mk ((by rw [hg]; exact (below_size (by repeat (first | (with_reducible first | exact HB.out | apply below_alloc | apply pw_below_drewN | apply below_drew1 | refine below_set ?_ GE768.out | refine below_set ?_ GE769.out) | exact HB.out))) : w.heap.size ≤ gb786)); have n5_ := Aside0.mk ((by rw [hg]; exact (below_size (by repeat (first | (with_reducible first | exact HB.out | apply below_alloc | apply pw_below_drewN | apply below_drew1 | refine below_set ?_ GE768.out | refine below_set ?_ GE769.out) | exact HB.out))) : w.heap.size ≤ gb786)); have n6_ := Aside0.mk ((by rw [hg]; exact Nat.ne_of_lt (blk_lt (g := gb768) (o := .cells #[.int .i64 t771, .int .i64 t772, .int .i64 t773, .string t774] 55 (0, 0)) (by (with_reducible repeat (first | refine blk_drewN ?_ _ | refine blk_drew ?_ | refine blk_alloc ?_ _)); exact BK768.out)) : gb768 ≠ gb786)); have n7_ := Aside0.mk ((by rw [hg]; exact Nat.ne_of_gt (blk_lt (g := gb768) (o := .cells #[.int .i64 t771, .int .i64 t772, .int .i64 t773, .string t774] 55 (0, 0)) (by (with_reducible repeat (first | refine blk_drewN ?_ _ | refine blk_drew ?_ | refine blk_alloc ?_ _)); exact BK768.out)) : gb786 ≠ gb768)); have n8_ := Aside0.mk ((by rw [hg]; exact Nat.ne_of_lt (blk_lt (g := gb769) (o := .cells #[.int .i64 t775, .int .i64 t776, .int .i64 t777, .string t778] 55 (0, 0)) (by (with_reducible repeat (first | refine blk_drewN ?_ _ | refine blk_drew ?_ | refine blk_alloc ?_ _)); exact BK769.out)) : gb769 ≠ gb786)); have n9_ := Aside0.mk ((by rw [hg]; exact Nat.ne_of_gt (blk_lt (g := gb769) (o := .cells #[.int .i64 t775, .int .i64 t776, .int .i64 t777, .string t778] 55 (0, 0)) (by (with_reducible repeat (first | refine blk_drewN ?_ _ | refine blk_drew ?_ | refine blk_alloc ?_ _)); exact BK769.out)) : gb786 ≠ gb769)); clear BK768; clear BK769; clear HB; have BK768 := n0_; have BK769 := n1_; have HB := n2_; have BK786 := n3_; have GW786 := n4_; have GE786 := n5_; have NB768_786 := n6_; have NB786_768 := n7_; have NB769_786 := n8_; have NB786_769 := n9_; clear n0_ n1_ n2_ n3_ n4_ n5_ n6_ n7_ n8_ n9_; clear hb hbox hg; have hnb32 := NB786_768.out; have hnc32 := NB768_786.out; have hnb33 := NB786_769.out; have hnc33 := NB769_786.out; have hcz34_0 : w31.cell? ⟨gb786, 0, none⟩ = some (.int .i64 0) := (blk_cell BK786.out 0).trans rfl; have hcz34_1 : w31.cell? ⟨gb786, 1, none⟩ = some (.int .i64 0) := (blk_cell BK786.out 1).trans rfl; have hcz34_2 : w31.cell? ⟨gb786, 2, none⟩ = some (.int .i64 0) := (blk_cell BK786.out 2).trans rfl; have hcz34_3 : w31.cell? ⟨gb786, 3, none⟩ = some (.string (⟨#[]⟩ : ByteArray)) := (blk_cell BK786.out 3).trans rfl; have hfz34_0 := blk_frozen BK786.out 0; have hfz34_1 := blk_frozen BK786.out 1; have hfz34_2 := blk_frozen BK786.out 2; have hfz34_3 := blk_frozen BK786.out 3) | ((with_reducible refine gate_callee (f := 26) rfl ?_); refine goesL_ (some 31) rfl rfl Tryz.func26 (by kernel_rfl) rfl #[.string t779] rfl (by (try simp only [List.map_toArray, List.map_cons, List.map_nil]); first | done | rfl | (simp only [List.length_drop, List.length_take]; rfl)) ?_; (with_reducible refine (reg_Decode.calls t779 t787 t788 t789 t790 t791 _ A11.out).mono ?_); rintro e w35 ⟨rfl, hb⟩; refine ⟨_, rfl, ?_⟩; have n0_ := Aside0.mk (blk_below (g := gb768) (o := .cells #[.int .i64 t771, .int .i64 t772, .int .i64 t773, .string t774] 55 (0, 0)) (by (with_reducible repeat (first | refine blk_drewN ?_ _ | refine blk_drew ?_ | refine blk_alloc ?_ _)); refine blk_far ?_ NB768_786.out _; (with_reducible repeat (first | refine blk_drewN ?_ _ | refine blk_drew ?_ | refine blk_alloc ?_ _)); refine blk_far ?_ NB768_786.out _; (with_reducible repeat (first | refine blk_drewN ?_ _ | refine blk_drew ?_ | refine blk_alloc ?_ _)); refine blk_far ?_ NB768_786.out _; (with_reducible repeat (first | refine blk_drewN ?_ _ | refine blk_drew ?_ | refine blk_alloc ?_ _)); refine blk_far ?_ NB768_786.out _; (with_reducible repeat (first | refine blk_drewN ?_ _ | refine blk_drew ?_ | refine blk_alloc ?_ _)); exact BK768.out) hb); have n1_ := Aside0.mk (blk_below (g := gb769) (o := .cells #[.int .i64 t775, .int .i64 t776, .int .i64 t777, .string t778] 55 (0, 0)) (by (with_reducible repeat (first | refine blk_drewN ?_ _ | refine blk_drew ?_ | refine blk_alloc ?_ _)); refine blk_far ?_ NB769_786.out _; (with_reducible repeat (first | refine blk_drewN ?_ _ | refine blk_drew ?_ | refine blk_alloc ?_ _)); refine blk_far ?_ NB769_786.out _; (with_reducible repeat (first | refine blk_drewN ?_ _ | refine blk_drew ?_ | refine blk_alloc ?_ _)); refine blk_far ?_ NB769_786.out _; (with_reducible repeat (first | refine blk_drewN ?_ _ | refine blk_drew ?_ | refine blk_alloc ?_ _)); refine blk_far ?_ NB769_786.out _; (with_reducible repeat (first | refine blk_drewN ?_ _ | refine blk_drew ?_ | refine blk_alloc ?_ _)); exact BK769.out) hb); have n2_ := Aside0.mk (blk_below (g := gb786) (o := .cells #[.int .i64 t781, .int .i64 t782, .int .i64 t783, .string t784] 55 (0, 0)) (by (with_reducible repeat (first | refine blk_drewN ?_ _ | refine blk_drew ?_ | refine blk_alloc ?_ _)); refine blk_put (cs := #[.int .i64 t781, .int .i64 t782, .int .i64 t783, .string (⟨#[]⟩ : ByteArray)]) ?_ 3 _ rfl; (with_reducible repeat (first | refine blk_drewN ?_ _ | refine blk_drew ?_ | refine blk_alloc ?_ _)); refine blk_put (cs := #[.int .i64 t781, .int .i64 t782, .int .i64 0, .string (⟨#[]⟩ : ByteArray)]) ?_ 2 _ rfl; (with_reducible repeat (first | refine blk_drewN ?_ _ | refine blk_drew ?_ | refine blk_alloc ?_ _)); refine blk_put (cs := #[.int .i64 t781, .int .i64 0, .int .i64 0, .string (⟨#[]⟩ : ByteArray)]) ?_ 1 _ rfl; (with_reducible repeat (first | refine blk_drewN ?_ _ | refine blk_drew ?_ | refine blk_alloc ?_ _)); refine blk_put (cs := #[.int .i64 0, .int .i64 0, .int .i64 0, .string (⟨#[]⟩ : ByteArray)]) ?_ 0 _ rfl; (with_reducible repeat (first | refine blk_drewN ?_ _ | refine blk_drew ?_ | refine blk_alloc ?_ _)); exact BK786.out) hb); have n3_ := Aside0.mk (below_step (by repeat (first | (with_reducible first | exact HB.out | apply below_alloc | apply pw_below_drewN | apply below_drew1 | refine below_set ?_ GE768.out | refine below_set ?_ GE769.out | refine below_set ?_ GE786.out) | exact HB.out)) hb); clear BK768; clear BK769; clear BK786; clear HB; have BK768 := n0_; have BK769 := n1_; have BK786 := n2_; have HB := n3_; clear n0_ n1_ n2_ n3_; (try clear hb); (try clear hb2); (try clear hk); (try clear hi)) | ((with_reducible refine gate_dst (N := 11) rfl ?_); refine box_event ?hg (N := 11) ?hd (cs := #[.int .i64 0, .int .i64 0, .int .i64 0, .string (⟨#[]⟩ : ByteArray)]) (t := 55) ?hr ?_; (case hd => rfl); (case hg => rfl); (case hr => first | (go_simp; done) | (go_simp; rfl)); intro gb792 hg w36 hbox hb; have n0_ := Aside0.mk (blk_below (g := gb768) (o := .cells #[.int .i64 t771, .int .i64 t772, .int .i64 t773, .string t774] 55 (0, 0)) (by (with_reducible repeat (first | refine blk_drewN ?_ _ | refine blk_drew ?_ | refine blk_alloc ?_ _)); exact BK768.out) hb); have n1_ := Aside0.mk (blk_below (g := gb769) (o := .cells #[.int .i64 t775, .int .i64 t776, .int .i64 t777, .string t778] 55 (0, 0)) (by (with_reducible repeat (first | refine blk_drewN ?_ _ | refine blk_drew ?_ | refine blk_alloc ?_ _)); exact BK769.out) hb); have n2_ := Aside0.mk (blk_below (g := gb786) (o := .cells #[.int .i64 t781, .int .i64 t782, .int .i64 t783, .string t784] 55 (0, 0)) (by (with_reducible repeat (first | refine blk_drewN ?_ _ | refine blk_drew ?_ | refine blk_alloc ?_ _)); exact BK786.out) hb); have n3_ := Aside0.mk (below_step (by repeat (first | (with_reducible first | exact HB.out | apply below_alloc | apply pw_below_drewN | apply below_drew1 | refine below_set ?_ GE768.out | refine below_set ?_ GE769.out | refine below_set ?_ GE786.out) | exact HB.out)) hb); have n4_ := Aside0.mk (hbox); have n5_ := Aside0.mk ((by rw [hg]; exact (below_size (by repeat (first | (with_reducible first | exact HB.out | apply below_alloc | apply pw_below_drewN | apply below_drew1 | refine below_set ?_ GE768.out | refine below_set ?_ GE769.out | refine below_set ?_ GE786.out) | exact HB.out))) : w.heap.size ≤ gb792)); have n6_ := Aside0.mk ((by rw [hg]; exact (below_size (by repeat (first | (with_reducible first | exact HB.out | apply below_alloc | apply pw_below_drewN | apply below_drew1 | refine below_set ?_ GE768.out | refine below_set ?_ GE769.out | refine below_set ?_ GE786.out) | exact HB.out))) : w.heap.size ≤ gb792)); have n7_ := Aside0.mk ((by rw [hg]; exact Nat.ne_of_lt (blk_lt (g := gb768) (o := .cells #[.int .i64 t771, .int .i64 t772, .int .i64 t773, .string t774] 55 (0, 0)) (by (with_reducible repeat (first | refine blk_drewN ?_ _ | refine blk_drew ?_ | refine blk_alloc ?_ _)); exact BK768.out)) : gb768 ≠ gb792)); have n8_ := Aside0.mk ((by rw [hg]; exact Nat.ne_of_gt (blk_lt (g := gb768) (o := .cells #[.int .i64 t771, .int .i64 t772, .int .i64 t773, .string t774] 55 (0, 0)) (by (with_reducible repeat (first | refine blk_drewN ?_ _ | refine blk_drew ?_ | refine blk_alloc ?_ _)); exact BK768.out)) : gb792 ≠ gb768)); have n9_ := Aside0.mk ((by rw [hg]; exact Nat.ne_of_lt (blk_lt (g := gb769) (o := .cells #[.int .i64 t775, .int .i64 t776, .int .i64 t777, .string t778] 55 (0, 0)) (by (with_reducible repeat (first | refine blk_drewN ?_ _ | refine blk_drew ?_ | refine blk_alloc ?_ _)); exact BK769.out)) : gb769 ≠ gb792)); have n10_ := Aside0.mk ((by rw [hg]; exact Nat.ne_of_gt (blk_lt (g := gb769) (o := .cells #[.int .i64 t775, .int .i64 t776, .int .i64 t777, .string t778] 55 (0, 0)) (by (with_reducible repeat (first | refine blk_drewN ?_ _ | refine blk_drew ?_ | refine blk_alloc ?_ _)); exact BK769.out)) : gb792 ≠ gb769)); have n11_ := Aside0.mk ((by rw [hg]; exact Nat.ne_of_lt (blk_lt (g := gb786) (o := .cells #[.int .i64 t781, .int .i64 t782, .int .i64 t783, .string t784] 55 (0, 0)) (by (with_reducible repeat (first | refine blk_drewN ?_ _ | refine blk_drew ?_ | refine blk_alloc ?_ _)); exact BK786.out)) : gb786 ≠ gb792)); have n12_ := Aside0.mk ((by rw [hg]; exact Nat.ne_of_gt (blk_lt (g := gb786) (o := .cells #[.int .i64 t781, .int .i64 t782, .int .i64 t783, .string t784] 55 (0, 0)) (by (with_reducible repeat (first | refine blk_drewN ?_ _ | refine blk_drew ?_ | refine blk_alloc ?_ _)); exact BK786.out)) : gb792 ≠ gb786)); clear BK768; clear BK769; clear BK786; clear HB; have BK768 := n0_; have BK769 := n1_; have BK786 := n2_; have HB := n3_; have BK792 := n4_; have GW792 := n5_; have GE792 := n6_; have NB768_792 := n7_; have NB792_768 := n8_; have NB769_792 := n9_; have NB792_769 := n10_; have NB786_792 := n11_; have NB792_786 := n12_; clear n0_ n1_ n2_ n3_ n4_ n5_ n6_ n7_ n8_ n9_ n10_ n11_ n12_; clear hb hbox hg; have hnb37 := NB792_768.out; have hnc37 := NB768_792.out; have hnb38 := NB792_769.out; have hnc38 := NB769_792.out; have hnb39 := NB792_786.out; have hnc39 := NB786_792.out; have hcz40_0 : w36.cell? ⟨gb792, 0, none⟩ = some (.int .i64 0) := (blk_cell BK792.out 0).trans rfl; have hcz40_1 : w36.cell? ⟨gb792, 1, none⟩ = some (.int .i64 0) := (blk_cell BK792.out 1).trans rfl; have hcz40_2 : w36.cell? ⟨gb792, 2, none⟩ = some (.int .i64 0) := (blk_cell BK792.out 2).trans rfl; have hcz40_3 : w36.cell? ⟨gb792, 3, none⟩ = some (.string (⟨#[]⟩ : ByteArray)) := (blk_cell BK792.out 3).trans rfl; have hfz40_0 := blk_frozen BK792.out 0; have hfz40_1 := blk_frozen BK792.out 1; have hfz40_2 := blk_frozen BK792.out 2; have hfz40_3 := blk_frozen BK792.out 3))
    (try simp only [Act.put, List.setIfInBounds_toArray, List.set_cons_zero, List.set_cons_succ])
    go_cut [62] (fun v62 wc => ∃ (kq : Nat) (x62_11 : Bool), v62 = .bool x62_11 ∧ Aside0 (donatuslaw27_RegCmd.j0 kq t780 t785 x62_11 t771 t772 t773 t774 t775 t776 t777 t778 t781 t782 t783 t784 = some r) ∧ Aside0 (kq ≤ k) ∧ Aside0 (wc.heap[gb768]? = some (.cells #[.int .i64 t771, .int .i64 t772, .int .i64 t773, .string t774] 55 (0, 0))) ∧ Aside0 (wc.heap[gb769]? = some (.cells #[.int .i64 t775, .int .i64 t776, .int .i64 t777, .string t778] 55 (0, 0))) ∧ Aside0 (wc.heap[gb786]? = some (.cells #[.int .i64 t781, .int .i64 t782, .int .i64 t783, .string t784] 55 (0, 0))) ∧ Aside0 (wc.heap[gb792]? = some (.cells #[.int .i64 t787, .int .i64 t788, .int .i64 t789, .string t790] 55 (0, 0))) ∧ Aside0 (Below w.heap.size w wc))
    case first =>
      have H := HC12.out
      clear HC12
      replace H := Option.bind_eq_some_iff.mp H
      obtain ⟨t793, A410, H⟩ := H
      replace H : ((donatusref27_MayCmd.f t771 t772 t773 t774).bind fun t794 => (if (t793 != t794) = true then (donatuslaw27_RegCmd.j0 k t780 t785 true t771 t772 t773 t774 t775 t776 t777 t778 t781 t782 t783 t784) else (if t791 = true then ((reg_Encode.f k t787 t788 t789 t790).bind fun t795 => (if t795.toList = t779.toList then ((donatusref27_MayCmd.f t787 t788 t789 t790).bind fun t796 => (if t796 = true then (donatuslaw27_RegCmd.j0 k t780 t785 false t771 t772 t773 t774 t775 t776 t777 t778 t781 t782 t783 t784) else (donatuslaw27_RegCmd.j0 k t780 t785 true t771 t772 t773 t774 t775 t776 t777 t778 t781 t782 t783 t784))) else (donatuslaw27_RegCmd.j0 k t780 t785 true t771 t772 t773 t774 t775 t776 t777 t778 t781 t782 t783 t784))) else ((donatusref27_EqCmd.f t787 t788 t789 t790 0 0 0 (⟨#[]⟩ : ByteArray)).bind fun t797 => (donatuslaw27_RegCmd.j0 k t780 t785 (!t797) t771 t772 t773 t774 t775 t776 t777 t778 t781 t782 t783 t784))))) = some r := H
      have A41 := Aside0.mk A410
      clear A410
      replace H := Option.bind_eq_some_iff.mp H
      obtain ⟨t794, A420, H⟩ := H
      replace H : (if (t793 != t794) = true then (donatuslaw27_RegCmd.j0 k t780 t785 true t771 t772 t773 t774 t775 t776 t777 t778 t781 t782 t783 t784) else (if t791 = true then ((reg_Encode.f k t787 t788 t789 t790).bind fun t795 => (if t795.toList = t779.toList then ((donatusref27_MayCmd.f t787 t788 t789 t790).bind fun t796 => (if t796 = true then (donatuslaw27_RegCmd.j0 k t780 t785 false t771 t772 t773 t774 t775 t776 t777 t778 t781 t782 t783 t784) else (donatuslaw27_RegCmd.j0 k t780 t785 true t771 t772 t773 t774 t775 t776 t777 t778 t781 t782 t783 t784))) else (donatuslaw27_RegCmd.j0 k t780 t785 true t771 t772 t773 t774 t775 t776 t777 t778 t781 t782 t783 t784))) else ((donatusref27_EqCmd.f t787 t788 t789 t790 0 0 0 (⟨#[]⟩ : ByteArray)).bind fun t797 => (donatuslaw27_RegCmd.j0 k t780 t785 (!t797) t771 t772 t773 t774 t775 t776 t777 t778 t781 t782 t783 t784)))) = some r := H
      have A42 := Aside0.mk A420
      clear A420
      by_cases c43 : (t793 != t794) = true
      · rw [if_pos c43] at H
        rw [HR.out] at H
        exact absurd H (by cases k <;> simp [donatuslaw27_RegCmd.j0])
      · rw [if_neg c43] at H
        have c43b0 : (t793 != t794) = false := by simpa using c43
        (try (have c43b1 : decide (t793 = t794) = true := by simpa using c43))
        (try (have c43b2 : (t793 == t794) = true := by simpa using c43))
        clear c43
        (first | rw [c43b0] | (simp only [i64_w, i32_w]; rw [c43b0]) | skip)
        by_cases c48 : t791 = true
        · subst c48
          have H1 : ((reg_Encode.f k t787 t788 t789 t790).bind fun t795 => (if t795.toList = t779.toList then ((donatusref27_MayCmd.f t787 t788 t789 t790).bind fun t796 => (if t796 = true then (donatuslaw27_RegCmd.j0 k t780 t785 false t771 t772 t773 t774 t775 t776 t777 t778 t781 t782 t783 t784) else (donatuslaw27_RegCmd.j0 k t780 t785 true t771 t772 t773 t774 t775 t776 t777 t778 t781 t782 t783 t784))) else (donatuslaw27_RegCmd.j0 k t780 t785 true t771 t772 t773 t774 t775 t776 t777 t778 t781 t782 t783 t784))) = some r := by rw [if_pos rfl] at H; exact H
          clear H
          have H := H1
          clear H1
          replace H := Option.bind_eq_some_iff.mp H
          obtain ⟨t795, A490, H⟩ := H
          replace H : (if t795.toList = t779.toList then ((donatusref27_MayCmd.f t787 t788 t789 t790).bind fun t796 => (if t796 = true then (donatuslaw27_RegCmd.j0 k t780 t785 false t771 t772 t773 t774 t775 t776 t777 t778 t781 t782 t783 t784) else (donatuslaw27_RegCmd.j0 k t780 t785 true t771 t772 t773 t774 t775 t776 t777 t778 t781 t782 t783 t784))) else (donatuslaw27_RegCmd.j0 k t780 t785 true t771 t772 t773 t774 t775 t776 t777 t778 t781 t782 t783 t784)) = some r := H
          have A49 := Aside0.mk A490
          clear A490
          by_cases c50 : t795.toList = t779.toList
          · rw [if_pos c50] at H
            have c50b0 : (t795.toList == t779.toList) = true := beq_iff_eq.mpr c50
            have c50b1 : (t795.toList != t779.toList) = false := bne_eq_false_iff_eq.mpr c50
            clear c50
            replace H := Option.bind_eq_some_iff.mp H
            obtain ⟨t796, A510, H⟩ := H
            replace H : (if t796 = true then (donatuslaw27_RegCmd.j0 k t780 t785 false t771 t772 t773 t774 t775 t776 t777 t778 t781 t782 t783 t784) else (donatuslaw27_RegCmd.j0 k t780 t785 true t771 t772 t773 t774 t775 t776 t777 t778 t781 t782 t783 t784)) = some r := H
            have A51 := Aside0.mk A510
            clear A510
            by_cases c52 : t796 = true
            · subst c52
              have H1 : (donatuslaw27_RegCmd.j0 k t780 t785 false t771 t772 t773 t774 t775 t776 t777 t778 t781 t782 t783 t784) = some r := by rw [if_pos rfl] at H; exact H
              clear H
              have H := H1
              clear H1
              have H' := Aside0.mk H
              clear H
              try go_wp2
              have n0_ : Aside0 (((((w36.setCell ⟨gb792, 0, none⟩ (.int .i64 t787)).setCell ⟨gb792, 1, none⟩ (.int .i64 t788)).setCell ⟨gb792, 2, none⟩ (.int .i64 t789)).setCell ⟨gb792, 3, none⟩ (.string t790)).heap[gb768]? = some (.cells #[.int .i64 t771, .int .i64 t772, .int .i64 t773, .string t774] 55 (0, 0))) := ⟨by (with_reducible repeat (first | refine blk_drewN ?_ _ | refine blk_drew ?_ | refine blk_alloc ?_ _)); refine blk_far ?_ NB768_792.out _; (with_reducible repeat (first | refine blk_drewN ?_ _ | refine blk_drew ?_ | refine blk_alloc ?_ _)); refine blk_far ?_ NB768_792.out _; (with_reducible repeat (first | refine blk_drewN ?_ _ | refine blk_drew ?_ | refine blk_alloc ?_ _)); refine blk_far ?_ NB768_792.out _; (with_reducible repeat (first | refine blk_drewN ?_ _ | refine blk_drew ?_ | refine blk_alloc ?_ _)); refine blk_far ?_ NB768_792.out _; (with_reducible repeat (first | refine blk_drewN ?_ _ | refine blk_drew ?_ | refine blk_alloc ?_ _)); exact BK768.out⟩
              have n1_ : Aside0 (((((w36.setCell ⟨gb792, 0, none⟩ (.int .i64 t787)).setCell ⟨gb792, 1, none⟩ (.int .i64 t788)).setCell ⟨gb792, 2, none⟩ (.int .i64 t789)).setCell ⟨gb792, 3, none⟩ (.string t790)).heap[gb769]? = some (.cells #[.int .i64 t775, .int .i64 t776, .int .i64 t777, .string t778] 55 (0, 0))) := ⟨by (with_reducible repeat (first | refine blk_drewN ?_ _ | refine blk_drew ?_ | refine blk_alloc ?_ _)); refine blk_far ?_ NB769_792.out _; (with_reducible repeat (first | refine blk_drewN ?_ _ | refine blk_drew ?_ | refine blk_alloc ?_ _)); refine blk_far ?_ NB769_792.out _; (with_reducible repeat (first | refine blk_drewN ?_ _ | refine blk_drew ?_ | refine blk_alloc ?_ _)); refine blk_far ?_ NB769_792.out _; (with_reducible repeat (first | refine blk_drewN ?_ _ | refine blk_drew ?_ | refine blk_alloc ?_ _)); refine blk_far ?_ NB769_792.out _; (with_reducible repeat (first | refine blk_drewN ?_ _ | refine blk_drew ?_ | refine blk_alloc ?_ _)); exact BK769.out⟩
              have n2_ : Aside0 (((((w36.setCell ⟨gb792, 0, none⟩ (.int .i64 t787)).setCell ⟨gb792, 1, none⟩ (.int .i64 t788)).setCell ⟨gb792, 2, none⟩ (.int .i64 t789)).setCell ⟨gb792, 3, none⟩ (.string t790)).heap[gb786]? = some (.cells #[.int .i64 t781, .int .i64 t782, .int .i64 t783, .string t784] 55 (0, 0))) := ⟨by (with_reducible repeat (first | refine blk_drewN ?_ _ | refine blk_drew ?_ | refine blk_alloc ?_ _)); refine blk_far ?_ NB786_792.out _; (with_reducible repeat (first | refine blk_drewN ?_ _ | refine blk_drew ?_ | refine blk_alloc ?_ _)); refine blk_far ?_ NB786_792.out _; (with_reducible repeat (first | refine blk_drewN ?_ _ | refine blk_drew ?_ | refine blk_alloc ?_ _)); refine blk_far ?_ NB786_792.out _; (with_reducible repeat (first | refine blk_drewN ?_ _ | refine blk_drew ?_ | refine blk_alloc ?_ _)); refine blk_far ?_ NB786_792.out _; (with_reducible repeat (first | refine blk_drewN ?_ _ | refine blk_drew ?_ | refine blk_alloc ?_ _)); exact BK786.out⟩
              have n3_ : Aside0 (((((w36.setCell ⟨gb792, 0, none⟩ (.int .i64 t787)).setCell ⟨gb792, 1, none⟩ (.int .i64 t788)).setCell ⟨gb792, 2, none⟩ (.int .i64 t789)).setCell ⟨gb792, 3, none⟩ (.string t790)).heap[gb792]? = some (.cells #[.int .i64 t787, .int .i64 t788, .int .i64 t789, .string t790] 55 (0, 0))) := ⟨by (with_reducible repeat (first | refine blk_drewN ?_ _ | refine blk_drew ?_ | refine blk_alloc ?_ _)); refine blk_put (cs := #[.int .i64 t787, .int .i64 t788, .int .i64 t789, .string (⟨#[]⟩ : ByteArray)]) ?_ 3 _ rfl; (with_reducible repeat (first | refine blk_drewN ?_ _ | refine blk_drew ?_ | refine blk_alloc ?_ _)); refine blk_put (cs := #[.int .i64 t787, .int .i64 t788, .int .i64 0, .string (⟨#[]⟩ : ByteArray)]) ?_ 2 _ rfl; (with_reducible repeat (first | refine blk_drewN ?_ _ | refine blk_drew ?_ | refine blk_alloc ?_ _)); refine blk_put (cs := #[.int .i64 t787, .int .i64 0, .int .i64 0, .string (⟨#[]⟩ : ByteArray)]) ?_ 1 _ rfl; (with_reducible repeat (first | refine blk_drewN ?_ _ | refine blk_drew ?_ | refine blk_alloc ?_ _)); refine blk_put (cs := #[.int .i64 0, .int .i64 0, .int .i64 0, .string (⟨#[]⟩ : ByteArray)]) ?_ 0 _ rfl; (with_reducible repeat (first | refine blk_drewN ?_ _ | refine blk_drew ?_ | refine blk_alloc ?_ _)); exact BK792.out⟩
              have n4_ : Aside0 (Below w.heap.size w ((((w36.setCell ⟨gb792, 0, none⟩ (.int .i64 t787)).setCell ⟨gb792, 1, none⟩ (.int .i64 t788)).setCell ⟨gb792, 2, none⟩ (.int .i64 t789)).setCell ⟨gb792, 3, none⟩ (.string t790))) := ⟨by repeat (first | (with_reducible first | exact HB.out | apply below_alloc | apply pw_below_drewN | apply below_drew1 | refine below_set ?_ GE768.out | refine below_set ?_ GE769.out | refine below_set ?_ GE786.out | refine below_set ?_ GE792.out) | exact HB.out)⟩
              (try clear BK768)
              (try clear BK769)
              (try clear BK786)
              (try clear BK792)
              (try clear HB)
              generalize ((((w36.setCell ⟨gb792, 0, none⟩ (.int .i64 t787)).setCell ⟨gb792, 1, none⟩ (.int .i64 t788)).setCell ⟨gb792, 2, none⟩ (.int .i64 t789)).setCell ⟨gb792, 3, none⟩ (.string t790)) = w53 at n0_ n1_ n2_ n3_ n4_ ⊢
              have BK768 := n0_
              have BK769 := n1_
              have BK786 := n2_
              have BK792 := n3_
              have HB := n4_
              clear n0_ n1_ n2_ n3_ n4_
              have n0_ := Aside0.mk (blk_drew BK768.out)
              have n1_ := Aside0.mk (blk_drew BK769.out)
              have n2_ := Aside0.mk (blk_drew BK786.out)
              have n3_ := Aside0.mk (blk_drew BK792.out)
              have n4_ := Aside0.mk (below_drew1 HB.out)
              clear BK768
              clear BK769
              clear BK786
              clear BK792
              clear HB
              have BK768 := n0_
              have BK769 := n1_
              have BK786 := n2_
              have BK792 := n3_
              have HB := n4_
              clear n0_ n1_ n2_ n3_ n4_
              refine start_ (n := 29) (S := fun w' => w'.cell? ⟨gb768, 0, none⟩ = some (.int .i64 t771) ∧ w'.cell? ⟨gb768, 1, none⟩ = some (.int .i64 t772) ∧ w'.cell? ⟨gb768, 2, none⟩ = some (.int .i64 t773) ∧ w'.cell? ⟨gb768, 3, none⟩ = some (.string t774) ∧ w'.cell? ⟨gb792, 0, none⟩ = some (.int .i64 t787) ∧ w'.cell? ⟨gb792, 1, none⟩ = some (.int .i64 t788) ∧ w'.cell? ⟨gb792, 2, none⟩ = some (.int .i64 t789) ∧ w'.cell? ⟨gb792, 3, none⟩ = some (.string t790)) (ds := []) #[false, false, false, false, false, false, false, false, false, false, false, false, false, false, false, false, false, false, false, false, false, false, false, false, false, false, false, false, false] (by kernel_rfl) rfl rfl ⟨(blk_cell BK768.out 0).trans rfl, (blk_cell BK768.out 1).trans rfl, (blk_cell BK768.out 2).trans rfl, (blk_cell BK768.out 3).trans rfl, (blk_cell BK792.out 0).trans rfl, (blk_cell BK792.out 1).trans rfl, (blk_cell BK792.out 2).trans rfl, (blk_cell BK792.out 3).trans rfl⟩ (fun hHeld => ?_); refine with_tabW donatuslaw27_RegCmd.tab8 donatuslaw27_RegCmd.bits8 (fun HT_ HW_ => ?_)
              generalize w53.drew = w54 at BK768 BK769 BK786 BK792 HB hHeld ⊢
              refine take_ (i := 0) (N := some 34) (v := ?_) (a' := ?_) #[true, false, false, false, false, false, false, false, false, false, false, false, false, false, false, false, false, false, false, false, false, false, false, false, false, false, false, false, false] rfl rfl (take_ofW HT_.out HW_.out (by kernel_rfl)) (fun _ _ _ h => h) (Or.inl ⟨by rfl, ?_⟩) hHeld ?_ ?_
              rotate_left
              · rintro w' ⟨s0, s1, s2, s3, s4, s5, s6, s7⟩
                go_simp
                with_reducible rfl
              rotate_left
              · simp only [Act.put, List.setIfInBounds_toArray, List.set_cons_zero, List.set_cons_succ, i64_w, i32_w]
                rfl
              refine take_ (i := 2) (N := some 36) (v := ?_) (a' := ?_) #[true, false, true, false, false, false, false, false, false, false, false, false, false, false, false, false, false, false, false, false, false, false, false, false, false, false, false, false, false] rfl rfl (take_ofW HT_.out HW_.out (by kernel_rfl)) (fun _ _ _ h => h) (Or.inl ⟨by rfl, ?_⟩) hHeld ?_ ?_
              rotate_left
              · rintro w' ⟨s0, s1, s2, s3, s4, s5, s6, s7⟩
                go_simp
                with_reducible rfl
              rotate_left
              · simp only [Act.put, List.setIfInBounds_toArray, List.set_cons_zero, List.set_cons_succ, i64_w, i32_w]
                rfl
              refine one_ (i := 1) (N := some 35) #[true, true, true, false, false, false, false, false, false, false, false, false, false, false, false, false, false, false, false, false, false, false, false, false, false, false, false, false, false] rfl rfl (one_of HT_.out (by kernel_rfl)) (by decide) (fun K hK => ?_)
              refine goes_ Tryz.func27 (by kernel_rfl) rfl #[.agg #[.int .i64 t771, .int .i64 t772, .int .i64 t773, .string t774]] (by rfl) rfl rfl (by (try simp only [List.map_toArray, List.map_cons, List.map_nil]); first | done | rfl | (simp only [List.length_drop, List.length_take]; rfl)) ?_
              with_reducible refine (reg_May.calls t771 t772 t773 t774 t793 _ A41.out).mono ?_
              rintro e w55 ⟨rfl, hb⟩
              refine ⟨_, rfl, ?_⟩
              have n0_ := Aside0.mk (blk_below (g := gb768) (o := .cells #[.int .i64 t771, .int .i64 t772, .int .i64 t773, .string t774] 55 (0, 0)) (by (with_reducible repeat (first | refine blk_drewN ?_ _ | refine blk_drew ?_ | refine blk_alloc ?_ _)); exact BK768.out) hb)
              have n1_ := Aside0.mk (blk_below (g := gb769) (o := .cells #[.int .i64 t775, .int .i64 t776, .int .i64 t777, .string t778] 55 (0, 0)) (by (with_reducible repeat (first | refine blk_drewN ?_ _ | refine blk_drew ?_ | refine blk_alloc ?_ _)); exact BK769.out) hb)
              have n2_ := Aside0.mk (blk_below (g := gb786) (o := .cells #[.int .i64 t781, .int .i64 t782, .int .i64 t783, .string t784] 55 (0, 0)) (by (with_reducible repeat (first | refine blk_drewN ?_ _ | refine blk_drew ?_ | refine blk_alloc ?_ _)); exact BK786.out) hb)
              have n3_ := Aside0.mk (blk_below (g := gb792) (o := .cells #[.int .i64 t787, .int .i64 t788, .int .i64 t789, .string t790] 55 (0, 0)) (by (with_reducible repeat (first | refine blk_drewN ?_ _ | refine blk_drew ?_ | refine blk_alloc ?_ _)); exact BK792.out) hb)
              have n4_ := Aside0.mk (below_step (by repeat (first | (with_reducible first | exact HB.out | apply below_alloc | apply pw_below_drewN | apply below_drew1 | refine below_set ?_ GE768.out | refine below_set ?_ GE769.out | refine below_set ?_ GE786.out | refine below_set ?_ GE792.out) | exact HB.out)) hb)
              clear BK768
              clear BK769
              clear BK786
              clear BK792
              clear HB
              have BK768 := n0_
              have BK769 := n1_
              have BK786 := n2_
              have BK792 := n3_
              have HB := n4_
              clear n0_ n1_ n2_ n3_ n4_
              (try clear hb)
              (try clear hb2)
              (try clear hk)
              (try clear hi)
              refine hK.out _ _ ⟨(blk_cell BK768.out 0).trans rfl, (blk_cell BK768.out 1).trans rfl, (blk_cell BK768.out 2).trans rfl, (blk_cell BK768.out 3).trans rfl, (blk_cell BK792.out 0).trans rfl, (blk_cell BK792.out 1).trans rfl, (blk_cell BK792.out 2).trans rfl, (blk_cell BK792.out 3).trans rfl⟩ (fun hHeld => ?_)
              clear hK K
              refine norm_ (a' := ?_) ?_ ?_
              rotate_left
              · show Act.put _ (some 35) _ = _
                simp only [Act.put, List.setIfInBounds_toArray, List.set_cons_zero, List.set_cons_succ, i64_w, i32_w]
                rfl
              refine one_ (i := 3) (N := some 37) #[true, true, true, true, false, false, false, false, false, false, false, false, false, false, false, false, false, false, false, false, false, false, false, false, false, false, false, false, false] rfl rfl (one_of HT_.out (by kernel_rfl)) (by decide) (fun K hK => ?_)
              refine goes_ Tryz.func28 (by kernel_rfl) rfl #[.agg #[.int .i64 t771, .int .i64 t772, .int .i64 t773, .string t774]] (by rfl) rfl rfl (by (try simp only [List.map_toArray, List.map_cons, List.map_nil]); first | done | rfl | (simp only [List.length_drop, List.length_take]; rfl)) ?_
              with_reducible refine (donatusref27_MayCmd.calls t771 t772 t773 t774 t794 _ A42.out).mono ?_
              rintro e w56 ⟨rfl, hb⟩
              refine ⟨_, rfl, ?_⟩
              have n0_ := Aside0.mk (blk_below (g := gb768) (o := .cells #[.int .i64 t771, .int .i64 t772, .int .i64 t773, .string t774] 55 (0, 0)) (by (with_reducible repeat (first | refine blk_drewN ?_ _ | refine blk_drew ?_ | refine blk_alloc ?_ _)); exact BK768.out) hb)
              have n1_ := Aside0.mk (blk_below (g := gb769) (o := .cells #[.int .i64 t775, .int .i64 t776, .int .i64 t777, .string t778] 55 (0, 0)) (by (with_reducible repeat (first | refine blk_drewN ?_ _ | refine blk_drew ?_ | refine blk_alloc ?_ _)); exact BK769.out) hb)
              have n2_ := Aside0.mk (blk_below (g := gb786) (o := .cells #[.int .i64 t781, .int .i64 t782, .int .i64 t783, .string t784] 55 (0, 0)) (by (with_reducible repeat (first | refine blk_drewN ?_ _ | refine blk_drew ?_ | refine blk_alloc ?_ _)); exact BK786.out) hb)
              have n3_ := Aside0.mk (blk_below (g := gb792) (o := .cells #[.int .i64 t787, .int .i64 t788, .int .i64 t789, .string t790] 55 (0, 0)) (by (with_reducible repeat (first | refine blk_drewN ?_ _ | refine blk_drew ?_ | refine blk_alloc ?_ _)); exact BK792.out) hb)
              have n4_ := Aside0.mk (below_step (by repeat (first | (with_reducible first | exact HB.out | apply below_alloc | apply pw_below_drewN | apply below_drew1 | refine below_set ?_ GE768.out | refine below_set ?_ GE769.out | refine below_set ?_ GE786.out | refine below_set ?_ GE792.out) | exact HB.out)) hb)
              clear BK768
              clear BK769
              clear BK786
              clear BK792
              clear HB
              have BK768 := n0_
              have BK769 := n1_
              have BK786 := n2_
              have BK792 := n3_
              have HB := n4_
              clear n0_ n1_ n2_ n3_ n4_
              (try clear hb)
              (try clear hb2)
              (try clear hk)
              (try clear hi)
              refine hK.out _ _ ⟨(blk_cell BK768.out 0).trans rfl, (blk_cell BK768.out 1).trans rfl, (blk_cell BK768.out 2).trans rfl, (blk_cell BK768.out 3).trans rfl, (blk_cell BK792.out 0).trans rfl, (blk_cell BK792.out 1).trans rfl, (blk_cell BK792.out 2).trans rfl, (blk_cell BK792.out 3).trans rfl⟩ (fun hHeld => ?_)
              clear hK K
              refine norm_ (a' := ?_) ?_ ?_
              rotate_left
              · show Act.put _ (some 37) _ = _
                simp only [Act.put, List.setIfInBounds_toArray, List.set_cons_zero, List.set_cons_succ, i64_w, i32_w]
                rfl
              refine pure_ (i := 4) (N := some 38) (v := ?_) (a' := ?_) #[true, true, true, true, true, false, false, false, false, false, false, false, false, false, false, false, false, false, false, false, false, false, false, false, false, false, false, false, false] rfl rfl (any_of HT_.out (by kernel_rfl)) (fun _ _ _ h => h) (Or.inl ⟨by rfl, ?_⟩) ?_ ?_
              rotate_left
              · intro w'
                go_simp
                with_reducible rfl
              rotate_left
              · simp only [Act.put, List.setIfInBounds_toArray, List.set_cons_zero, List.set_cons_succ, i64_w, i32_w]
                rfl
              refine pure_ (i := 5) (N := some 39) (v := ?_) (a' := ?_) #[true, true, true, true, true, true, false, false, false, false, false, false, false, false, false, false, false, false, false, false, false, false, false, false, false, false, false, false, false] rfl rfl (any_of HT_.out (by kernel_rfl)) (fun _ _ _ h => h) (Or.inl ⟨by rfl, ?_⟩) ?_ ?_
              rotate_left
              · intro w'
                go_simp
                with_reducible rfl
              rotate_left
              · simp only [Act.put, List.setIfInBounds_toArray, List.set_cons_zero, List.set_cons_succ, i64_w, i32_w]
                rfl
              refine pure_ (i := 6) (N := some 40) (v := ?_) (a' := ?_) #[true, true, true, true, true, true, true, false, false, false, false, false, false, false, false, false, false, false, false, false, false, false, false, false, false, false, false, false, false] rfl rfl (any_of HT_.out (by kernel_rfl)) (fun _ _ _ h => h) (Or.inl ⟨by rfl, ?_⟩) ?_ ?_
              rotate_left
              · intro w'
                go_simp
                with_reducible rfl
              rotate_left
              · simp only [Act.put, List.setIfInBounds_toArray, List.set_cons_zero, List.set_cons_succ, i64_w, i32_w]
                rfl
              refine pure_ (i := 7) (N := some 41) (v := ?_) (a' := ?_) #[true, true, true, true, true, true, true, true, false, false, false, false, false, false, false, false, false, false, false, false, false, false, false, false, false, false, false, false, false] rfl rfl (any_of HT_.out (by kernel_rfl)) (fun _ _ _ h => h) (Or.inl ⟨by rfl, ?_⟩) ?_ ?_
              rotate_left
              · intro w'
                go_simp
                with_reducible rfl
              rotate_left
              · simp only [Act.put, List.setIfInBounds_toArray, List.set_cons_zero, List.set_cons_succ, i64_w, i32_w]
                rfl
              refine pure_ (i := 10) (N := some 44) (v := ?_) (a' := ?_) #[true, true, true, true, true, true, true, true, false, false, true, false, false, false, false, false, false, false, false, false, false, false, false, false, false, false, false, false, false] rfl rfl (any_of HT_.out (by kernel_rfl)) (fun _ _ _ h => h) (Or.inl ⟨by rfl, ?_⟩) ?_ ?_
              rotate_left
              · intro w'
                go_simp
                with_reducible rfl
              rotate_left
              · simp only [Act.put, List.setIfInBounds_toArray, List.set_cons_zero, List.set_cons_succ, i64_w, i32_w]
                rfl
              refine take_ (i := 8) (N := some 42) (v := ?_) (a' := ?_) #[true, true, true, true, true, true, true, true, true, false, true, false, false, false, false, false, false, false, false, false, false, false, false, false, false, false, false, false, false] rfl rfl (take_ofW HT_.out HW_.out (by kernel_rfl)) (fun _ _ _ h => h) (Or.inl ⟨by rfl, ?_⟩) hHeld ?_ ?_
              rotate_left
              · rintro w' ⟨s0, s1, s2, s3, s4, s5, s6, s7⟩
                go_simp
                with_reducible rfl
              rotate_left
              · simp only [Act.put, List.setIfInBounds_toArray, List.set_cons_zero, List.set_cons_succ, i64_w, i32_w]
                rfl
              refine one_ (i := 9) (N := some 43) #[true, true, true, true, true, true, true, true, true, true, true, false, false, false, false, false, false, false, false, false, false, false, false, false, false, false, false, false, false] rfl rfl (one_of HT_.out (by kernel_rfl)) (by decide) (fun K hK => ?_)
              refine goes_ Tryz.func25 (by kernel_rfl) rfl #[.agg #[.int .i64 t787, .int .i64 t788, .int .i64 t789, .string t790]] (by rfl) rfl rfl (by (try simp only [List.map_toArray, List.map_cons, List.map_nil]); first | done | rfl | (simp only [List.length_drop, List.length_take]; rfl)) ?_
              with_reducible refine (reg_Encode.calls k t787 t788 t789 t790 t795 _ A49.out).mono ?_
              rintro e w57 ⟨rfl, hb⟩
              refine ⟨_, rfl, ?_⟩
              have n0_ := Aside0.mk (blk_below (g := gb768) (o := .cells #[.int .i64 t771, .int .i64 t772, .int .i64 t773, .string t774] 55 (0, 0)) (by (with_reducible repeat (first | refine blk_drewN ?_ _ | refine blk_drew ?_ | refine blk_alloc ?_ _)); exact BK768.out) hb)
              have n1_ := Aside0.mk (blk_below (g := gb769) (o := .cells #[.int .i64 t775, .int .i64 t776, .int .i64 t777, .string t778] 55 (0, 0)) (by (with_reducible repeat (first | refine blk_drewN ?_ _ | refine blk_drew ?_ | refine blk_alloc ?_ _)); exact BK769.out) hb)
              have n2_ := Aside0.mk (blk_below (g := gb786) (o := .cells #[.int .i64 t781, .int .i64 t782, .int .i64 t783, .string t784] 55 (0, 0)) (by (with_reducible repeat (first | refine blk_drewN ?_ _ | refine blk_drew ?_ | refine blk_alloc ?_ _)); exact BK786.out) hb)
              have n3_ := Aside0.mk (blk_below (g := gb792) (o := .cells #[.int .i64 t787, .int .i64 t788, .int .i64 t789, .string t790] 55 (0, 0)) (by (with_reducible repeat (first | refine blk_drewN ?_ _ | refine blk_drew ?_ | refine blk_alloc ?_ _)); exact BK792.out) hb)
              have n4_ := Aside0.mk (below_step (by repeat (first | (with_reducible first | exact HB.out | apply below_alloc | apply pw_below_drewN | apply below_drew1 | refine below_set ?_ GE768.out | refine below_set ?_ GE769.out | refine below_set ?_ GE786.out | refine below_set ?_ GE792.out) | exact HB.out)) hb)
              clear BK768
              clear BK769
              clear BK786
              clear BK792
              clear HB
              have BK768 := n0_
              have BK769 := n1_
              have BK786 := n2_
              have BK792 := n3_
              have HB := n4_
              clear n0_ n1_ n2_ n3_ n4_
              (try clear hb)
              (try clear hb2)
              (try clear hk)
              (try clear hi)
              refine hK.out _ _ ⟨(blk_cell BK768.out 0).trans rfl, (blk_cell BK768.out 1).trans rfl, (blk_cell BK768.out 2).trans rfl, (blk_cell BK768.out 3).trans rfl, (blk_cell BK792.out 0).trans rfl, (blk_cell BK792.out 1).trans rfl, (blk_cell BK792.out 2).trans rfl, (blk_cell BK792.out 3).trans rfl⟩ (fun hHeld => ?_)
              clear hK K
              refine norm_ (a' := ?_) ?_ ?_
              rotate_left
              · show Act.put _ (some 43) _ = _
                simp only [Act.put, List.setIfInBounds_toArray, List.set_cons_zero, List.set_cons_succ, i64_w, i32_w]
                rfl
              refine pure_ (i := 11) (N := some 45) (v := ?_) (a' := ?_) #[true, true, true, true, true, true, true, true, true, true, true, true, false, false, false, false, false, false, false, false, false, false, false, false, false, false, false, false, false] rfl rfl (any_of HT_.out (by kernel_rfl)) (fun _ _ _ h => h) (Or.inl ⟨by rfl, ?_⟩) ?_ ?_
              rotate_left
              · intro w'
                go_simp
                with_reducible rfl
              rotate_left
              · simp only [Act.put, List.setIfInBounds_toArray, List.set_cons_zero, List.set_cons_succ, i64_w, i32_w]
                rfl
              refine pure_ (i := 12) (N := some 46) (v := ?_) (a' := ?_) #[true, true, true, true, true, true, true, true, true, true, true, true, true, false, false, false, false, false, false, false, false, false, false, false, false, false, false, false, false] rfl rfl (any_of HT_.out (by kernel_rfl)) (fun _ _ _ h => h) (Or.inl ⟨by rfl, ?_⟩) ?_ ?_
              rotate_left
              · intro w'
                go_simp
                with_reducible rfl
              rotate_left
              · simp only [Act.put, List.setIfInBounds_toArray, List.set_cons_zero, List.set_cons_succ, i64_w, i32_w]
                rfl
              refine take_ (i := 13) (N := some 47) (v := ?_) (a' := ?_) #[true, true, true, true, true, true, true, true, true, true, true, true, true, true, false, false, false, false, false, false, false, false, false, false, false, false, false, false, false] rfl rfl (take_ofW HT_.out HW_.out (by kernel_rfl)) (fun _ _ _ h => h) (Or.inl ⟨by rfl, ?_⟩) hHeld ?_ ?_
              rotate_left
              · rintro w' ⟨s0, s1, s2, s3, s4, s5, s6, s7⟩
                go_simp
                with_reducible rfl
              rotate_left
              · simp only [Act.put, List.setIfInBounds_toArray, List.set_cons_zero, List.set_cons_succ, i64_w, i32_w]
                rfl
              refine one_ (i := 14) (N := some 48) #[true, true, true, true, true, true, true, true, true, true, true, true, true, true, true, false, false, false, false, false, false, false, false, false, false, false, false, false, false] rfl rfl (one_of HT_.out (by kernel_rfl)) (by decide) (fun K hK => ?_)
              refine goes_ Tryz.func28 (by kernel_rfl) rfl #[.agg #[.int .i64 t787, .int .i64 t788, .int .i64 t789, .string t790]] (by rfl) rfl rfl (by (try simp only [List.map_toArray, List.map_cons, List.map_nil]); first | done | rfl | (simp only [List.length_drop, List.length_take]; rfl)) ?_
              with_reducible refine (donatusref27_MayCmd.calls t787 t788 t789 t790 true _ A51.out).mono ?_
              rintro e w58 ⟨rfl, hb⟩
              refine ⟨_, rfl, ?_⟩
              have n0_ := Aside0.mk (blk_below (g := gb768) (o := .cells #[.int .i64 t771, .int .i64 t772, .int .i64 t773, .string t774] 55 (0, 0)) (by (with_reducible repeat (first | refine blk_drewN ?_ _ | refine blk_drew ?_ | refine blk_alloc ?_ _)); exact BK768.out) hb)
              have n1_ := Aside0.mk (blk_below (g := gb769) (o := .cells #[.int .i64 t775, .int .i64 t776, .int .i64 t777, .string t778] 55 (0, 0)) (by (with_reducible repeat (first | refine blk_drewN ?_ _ | refine blk_drew ?_ | refine blk_alloc ?_ _)); exact BK769.out) hb)
              have n2_ := Aside0.mk (blk_below (g := gb786) (o := .cells #[.int .i64 t781, .int .i64 t782, .int .i64 t783, .string t784] 55 (0, 0)) (by (with_reducible repeat (first | refine blk_drewN ?_ _ | refine blk_drew ?_ | refine blk_alloc ?_ _)); exact BK786.out) hb)
              have n3_ := Aside0.mk (blk_below (g := gb792) (o := .cells #[.int .i64 t787, .int .i64 t788, .int .i64 t789, .string t790] 55 (0, 0)) (by (with_reducible repeat (first | refine blk_drewN ?_ _ | refine blk_drew ?_ | refine blk_alloc ?_ _)); exact BK792.out) hb)
              have n4_ := Aside0.mk (below_step (by repeat (first | (with_reducible first | exact HB.out | apply below_alloc | apply pw_below_drewN | apply below_drew1 | refine below_set ?_ GE768.out | refine below_set ?_ GE769.out | refine below_set ?_ GE786.out | refine below_set ?_ GE792.out) | exact HB.out)) hb)
              clear BK768
              clear BK769
              clear BK786
              clear BK792
              clear HB
              have BK768 := n0_
              have BK769 := n1_
              have BK786 := n2_
              have BK792 := n3_
              have HB := n4_
              clear n0_ n1_ n2_ n3_ n4_
              (try clear hb)
              (try clear hb2)
              (try clear hk)
              (try clear hi)
              refine hK.out _ _ ⟨(blk_cell BK768.out 0).trans rfl, (blk_cell BK768.out 1).trans rfl, (blk_cell BK768.out 2).trans rfl, (blk_cell BK768.out 3).trans rfl, (blk_cell BK792.out 0).trans rfl, (blk_cell BK792.out 1).trans rfl, (blk_cell BK792.out 2).trans rfl, (blk_cell BK792.out 3).trans rfl⟩ (fun hHeld => ?_)
              clear hK K
              refine norm_ (a' := ?_) ?_ ?_
              rotate_left
              · show Act.put _ (some 48) _ = _
                simp only [Act.put, List.setIfInBounds_toArray, List.set_cons_zero, List.set_cons_succ, i64_w, i32_w]
                rfl
              refine pure_ (i := 15) (N := some 49) (v := ?_) (a' := ?_) #[true, true, true, true, true, true, true, true, true, true, true, true, true, true, true, true, false, false, false, false, false, false, false, false, false, false, false, false, false] rfl rfl (any_of HT_.out (by kernel_rfl)) (fun _ _ _ h => h) (Or.inl ⟨by rfl, ?_⟩) ?_ ?_
              rotate_left
              · intro w'
                go_simp
                with_reducible rfl
              rotate_left
              · simp only [Act.put, List.setIfInBounds_toArray, List.set_cons_zero, List.set_cons_succ, i64_w, i32_w]
                rfl
              refine pure_ (i := 16) (N := some 50) (v := ?_) (a' := ?_) #[true, true, true, true, true, true, true, true, true, true, true, true, true, true, true, true, true, false, false, false, false, false, false, false, false, false, false, false, false] rfl rfl (any_of HT_.out (by kernel_rfl)) (fun _ _ _ h => h) (Or.inl ⟨by rfl, ?_⟩) ?_ ?_
              rotate_left
              · intro w'
                go_simp
                with_reducible rfl
              rotate_left
              · simp only [Act.put, List.setIfInBounds_toArray, List.set_cons_zero, List.set_cons_succ, i64_w, i32_w]
                rfl
              refine pure_ (i := 17) (N := some 51) (v := ?_) (a' := ?_) #[true, true, true, true, true, true, true, true, true, true, true, true, true, true, true, true, true, true, false, false, false, false, false, false, false, false, false, false, false] rfl rfl (any_of HT_.out (by kernel_rfl)) (fun _ _ _ h => h) (Or.inl ⟨by rfl, ?_⟩) ?_ ?_
              rotate_left
              · intro w'
                go_simp
                with_reducible rfl
              rotate_left
              · simp only [Act.put, List.setIfInBounds_toArray, List.set_cons_zero, List.set_cons_succ, i64_w, i32_w]
                rfl
              refine pure_ (i := 18) (N := some 52) (v := ?_) (a' := ?_) #[true, true, true, true, true, true, true, true, true, true, true, true, true, true, true, true, true, true, true, false, false, false, false, false, false, false, false, false, false] rfl rfl (any_of HT_.out (by kernel_rfl)) (fun _ _ _ h => h) (Or.inl ⟨by rfl, ?_⟩) ?_ ?_
              rotate_left
              · intro w'
                go_simp
                with_reducible rfl
              rotate_left
              · simp only [Act.put, List.setIfInBounds_toArray, List.set_cons_zero, List.set_cons_succ, i64_w, i32_w]
                rfl
              refine pure_ (i := 19) (N := some 53) (v := ?_) (a' := ?_) #[true, true, true, true, true, true, true, true, true, true, true, true, true, true, true, true, true, true, true, true, false, false, false, false, false, false, false, false, false] rfl rfl (any_of HT_.out (by kernel_rfl)) (fun _ _ _ h => h) (Or.inl ⟨by rfl, ?_⟩) ?_ ?_
              rotate_left
              · intro w'
                go_simp
                with_reducible rfl
              rotate_left
              · simp only [Act.put, List.setIfInBounds_toArray, List.set_cons_zero, List.set_cons_succ, i64_w, i32_w]
                rfl
              refine pure_ (i := 20) (N := some 54) (v := ?_) (a' := ?_) #[true, true, true, true, true, true, true, true, true, true, true, true, true, true, true, true, true, true, true, true, true, false, false, false, false, false, false, false, false] rfl rfl (any_of HT_.out (by kernel_rfl)) (fun _ _ _ h => h) (Or.inl ⟨by rfl, ?_⟩) ?_ ?_
              rotate_left
              · intro w'
                go_simp
                with_reducible rfl
              rotate_left
              · simp only [Act.put, List.setIfInBounds_toArray, List.set_cons_zero, List.set_cons_succ, i64_w, i32_w]
                rfl
              refine pure_ (i := 21) (N := some 55) (v := ?_) (a' := ?_) #[true, true, true, true, true, true, true, true, true, true, true, true, true, true, true, true, true, true, true, true, true, true, false, false, false, false, false, false, false] rfl rfl (any_of HT_.out (by kernel_rfl)) (fun _ _ _ h => h) (Or.inl ⟨by rfl, ?_⟩) ?_ ?_
              rotate_left
              · intro w'
                go_simp
                with_reducible rfl
              rotate_left
              · simp only [Act.put, List.setIfInBounds_toArray, List.set_cons_zero, List.set_cons_succ, i64_w, i32_w]
                rfl
              refine pure_ (i := 22) (N := some 56) (v := ?_) (a' := ?_) #[true, true, true, true, true, true, true, true, true, true, true, true, true, true, true, true, true, true, true, true, true, true, true, false, false, false, false, false, false] rfl rfl (any_of HT_.out (by kernel_rfl)) (fun _ _ _ h => h) (Or.inl ⟨by rfl, ?_⟩) ?_ ?_
              rotate_left
              · intro w'
                go_simp
                with_reducible rfl
              rotate_left
              · simp only [Act.put, List.setIfInBounds_toArray, List.set_cons_zero, List.set_cons_succ, i64_w, i32_w]
                rfl
              refine pure_ (i := 23) (N := some 57) (v := undef) (a' := ?_) #[true, true, true, true, true, true, true, true, true, true, true, true, true, true, true, true, true, true, true, true, true, true, true, true, false, false, false, false, false] rfl rfl (any_of HT_.out (by kernel_rfl)) (fun _ _ _ h => h) (Or.inr ⟨by rfl, rfl⟩) ?_ ?_
              rotate_left
              · simp only [Act.put, List.setIfInBounds_toArray, List.set_cons_zero, List.set_cons_succ, i64_w, i32_w]
                rfl
              refine pure_ (i := 24) (N := some 58) (v := undef) (a' := ?_) #[true, true, true, true, true, true, true, true, true, true, true, true, true, true, true, true, true, true, true, true, true, true, true, true, true, false, false, false, false] rfl rfl (any_of HT_.out (by kernel_rfl)) (fun _ _ _ h => h) (Or.inr ⟨by rfl, rfl⟩) ?_ ?_
              rotate_left
              · simp only [Act.put, List.setIfInBounds_toArray, List.set_cons_zero, List.set_cons_succ, i64_w, i32_w]
                rfl
              refine pure_ (i := 25) (N := some 59) (v := undef) (a' := ?_) #[true, true, true, true, true, true, true, true, true, true, true, true, true, true, true, true, true, true, true, true, true, true, true, true, true, true, false, false, false] rfl rfl (any_of HT_.out (by kernel_rfl)) (fun _ _ _ h => h) (Or.inr ⟨by rfl, rfl⟩) ?_ ?_
              rotate_left
              · simp only [Act.put, List.setIfInBounds_toArray, List.set_cons_zero, List.set_cons_succ, i64_w, i32_w]
                rfl
              refine pure_ (i := 26) (N := some 60) (v := undef) (a' := ?_) #[true, true, true, true, true, true, true, true, true, true, true, true, true, true, true, true, true, true, true, true, true, true, true, true, true, true, true, false, false] rfl rfl (any_of HT_.out (by kernel_rfl)) (fun _ _ _ h => h) (Or.inr ⟨by rfl, rfl⟩) ?_ ?_
              rotate_left
              · simp only [Act.put, List.setIfInBounds_toArray, List.set_cons_zero, List.set_cons_succ, i64_w, i32_w]
                rfl
              refine pure_ (i := 27) (N := some 61) (v := ?_) (a' := ?_) #[true, true, true, true, true, true, true, true, true, true, true, true, true, true, true, true, true, true, true, true, true, true, true, true, true, true, true, true, false] rfl rfl (any_of HT_.out (by kernel_rfl)) (fun _ _ _ h => h) (Or.inl ⟨by rfl, ?_⟩) ?_ ?_
              rotate_left
              · intro w'
                go_simp
                with_reducible rfl
              rotate_left
              · simp only [Act.put, List.setIfInBounds_toArray, List.set_cons_zero, List.set_cons_succ, i64_w, i32_w]
                rfl
              refine pure_ (i := 28) (N := some 62) (v := ?_) (a' := ?_) #[true, true, true, true, true, true, true, true, true, true, true, true, true, true, true, true, true, true, true, true, true, true, true, true, true, true, true, true, true] rfl rfl (any_of HT_.out (by kernel_rfl)) (fun _ _ _ h => h) (Or.inl ⟨by rfl, ?_⟩) ?_ ?_
              rotate_left
              · intro w'
                go_simp
                with_reducible rfl
              rotate_left
              · simp only [Act.put, List.setIfInBounds_toArray, List.set_cons_zero, List.set_cons_succ, i64_w, i32_w]
                rfl
              refine done_ (done_of HT_.out (by kernel_rfl)) ?_
              try go_wp2
              go_meet
              case rel => exact ⟨_, (false), (by first | rfl | (simp; done) | (simp [*]; done)), H', ⟨by first | omega | exact Nat.le_refl _⟩, ⟨by (with_reducible repeat (first | refine blk_drewN ?_ _ | refine blk_drew ?_ | refine blk_alloc ?_ _)); exact BK768.out⟩, ⟨by (with_reducible repeat (first | refine blk_drewN ?_ _ | refine blk_drew ?_ | refine blk_alloc ?_ _)); exact BK769.out⟩, ⟨by (with_reducible repeat (first | refine blk_drewN ?_ _ | refine blk_drew ?_ | refine blk_alloc ?_ _)); exact BK786.out⟩, ⟨by (with_reducible repeat (first | refine blk_drewN ?_ _ | refine blk_drew ?_ | refine blk_alloc ?_ _)); exact BK792.out⟩, ⟨by repeat (first | (with_reducible first | exact HB.out | apply below_alloc | apply pw_below_drewN | apply below_drew1 | refine below_set ?_ GE768.out | refine below_set ?_ GE769.out | refine below_set ?_ GE786.out | refine below_set ?_ GE792.out) | exact HB.out)⟩⟩
            · replace c52 := Bool.eq_false_iff.mpr c52
              subst c52
              have H1 : (donatuslaw27_RegCmd.j0 k t780 t785 true t771 t772 t773 t774 t775 t776 t777 t778 t781 t782 t783 t784) = some r := by rw [if_neg (show ¬ (false = true) by decide)] at H; exact H
              clear H
              have H := H1
              clear H1
              rw [HR.out] at H
              exact absurd H (by cases k <;> simp [donatuslaw27_RegCmd.j0])
          · rw [if_neg c50] at H
            rw [HR.out] at H
            exact absurd H (by cases k <;> simp [donatuslaw27_RegCmd.j0])
        · replace c48 := Bool.eq_false_iff.mpr c48
          subst c48
          have H1 : ((donatusref27_EqCmd.f t787 t788 t789 t790 0 0 0 (⟨#[]⟩ : ByteArray)).bind fun t797 => (donatuslaw27_RegCmd.j0 k t780 t785 (!t797) t771 t772 t773 t774 t775 t776 t777 t778 t781 t782 t783 t784)) = some r := by rw [if_neg (show ¬ (false = true) by decide)] at H; exact H
          clear H
          have H := H1
          clear H1
          replace H := Option.bind_eq_some_iff.mp H
          obtain ⟨t797, A700, H⟩ := H
          replace H : (donatuslaw27_RegCmd.j0 k t780 t785 (!t797) t771 t772 t773 t774 t775 t776 t777 t778 t781 t782 t783 t784) = some r := H
          have A70 := Aside0.mk A700
          clear A700
          have H' := Aside0.mk H
          clear H
          try go_wp2
          have n0_ : Aside0 (((((w36.setCell ⟨gb792, 0, none⟩ (.int .i64 t787)).setCell ⟨gb792, 1, none⟩ (.int .i64 t788)).setCell ⟨gb792, 2, none⟩ (.int .i64 t789)).setCell ⟨gb792, 3, none⟩ (.string t790)).heap[gb768]? = some (.cells #[.int .i64 t771, .int .i64 t772, .int .i64 t773, .string t774] 55 (0, 0))) := ⟨by (with_reducible repeat (first | refine blk_drewN ?_ _ | refine blk_drew ?_ | refine blk_alloc ?_ _)); refine blk_far ?_ NB768_792.out _; (with_reducible repeat (first | refine blk_drewN ?_ _ | refine blk_drew ?_ | refine blk_alloc ?_ _)); refine blk_far ?_ NB768_792.out _; (with_reducible repeat (first | refine blk_drewN ?_ _ | refine blk_drew ?_ | refine blk_alloc ?_ _)); refine blk_far ?_ NB768_792.out _; (with_reducible repeat (first | refine blk_drewN ?_ _ | refine blk_drew ?_ | refine blk_alloc ?_ _)); refine blk_far ?_ NB768_792.out _; (with_reducible repeat (first | refine blk_drewN ?_ _ | refine blk_drew ?_ | refine blk_alloc ?_ _)); exact BK768.out⟩
          have n1_ : Aside0 (((((w36.setCell ⟨gb792, 0, none⟩ (.int .i64 t787)).setCell ⟨gb792, 1, none⟩ (.int .i64 t788)).setCell ⟨gb792, 2, none⟩ (.int .i64 t789)).setCell ⟨gb792, 3, none⟩ (.string t790)).heap[gb769]? = some (.cells #[.int .i64 t775, .int .i64 t776, .int .i64 t777, .string t778] 55 (0, 0))) := ⟨by (with_reducible repeat (first | refine blk_drewN ?_ _ | refine blk_drew ?_ | refine blk_alloc ?_ _)); refine blk_far ?_ NB769_792.out _; (with_reducible repeat (first | refine blk_drewN ?_ _ | refine blk_drew ?_ | refine blk_alloc ?_ _)); refine blk_far ?_ NB769_792.out _; (with_reducible repeat (first | refine blk_drewN ?_ _ | refine blk_drew ?_ | refine blk_alloc ?_ _)); refine blk_far ?_ NB769_792.out _; (with_reducible repeat (first | refine blk_drewN ?_ _ | refine blk_drew ?_ | refine blk_alloc ?_ _)); refine blk_far ?_ NB769_792.out _; (with_reducible repeat (first | refine blk_drewN ?_ _ | refine blk_drew ?_ | refine blk_alloc ?_ _)); exact BK769.out⟩
          have n2_ : Aside0 (((((w36.setCell ⟨gb792, 0, none⟩ (.int .i64 t787)).setCell ⟨gb792, 1, none⟩ (.int .i64 t788)).setCell ⟨gb792, 2, none⟩ (.int .i64 t789)).setCell ⟨gb792, 3, none⟩ (.string t790)).heap[gb786]? = some (.cells #[.int .i64 t781, .int .i64 t782, .int .i64 t783, .string t784] 55 (0, 0))) := ⟨by (with_reducible repeat (first | refine blk_drewN ?_ _ | refine blk_drew ?_ | refine blk_alloc ?_ _)); refine blk_far ?_ NB786_792.out _; (with_reducible repeat (first | refine blk_drewN ?_ _ | refine blk_drew ?_ | refine blk_alloc ?_ _)); refine blk_far ?_ NB786_792.out _; (with_reducible repeat (first | refine blk_drewN ?_ _ | refine blk_drew ?_ | refine blk_alloc ?_ _)); refine blk_far ?_ NB786_792.out _; (with_reducible repeat (first | refine blk_drewN ?_ _ | refine blk_drew ?_ | refine blk_alloc ?_ _)); refine blk_far ?_ NB786_792.out _; (with_reducible repeat (first | refine blk_drewN ?_ _ | refine blk_drew ?_ | refine blk_alloc ?_ _)); exact BK786.out⟩
          have n3_ : Aside0 (((((w36.setCell ⟨gb792, 0, none⟩ (.int .i64 t787)).setCell ⟨gb792, 1, none⟩ (.int .i64 t788)).setCell ⟨gb792, 2, none⟩ (.int .i64 t789)).setCell ⟨gb792, 3, none⟩ (.string t790)).heap[gb792]? = some (.cells #[.int .i64 t787, .int .i64 t788, .int .i64 t789, .string t790] 55 (0, 0))) := ⟨by (with_reducible repeat (first | refine blk_drewN ?_ _ | refine blk_drew ?_ | refine blk_alloc ?_ _)); refine blk_put (cs := #[.int .i64 t787, .int .i64 t788, .int .i64 t789, .string (⟨#[]⟩ : ByteArray)]) ?_ 3 _ rfl; (with_reducible repeat (first | refine blk_drewN ?_ _ | refine blk_drew ?_ | refine blk_alloc ?_ _)); refine blk_put (cs := #[.int .i64 t787, .int .i64 t788, .int .i64 0, .string (⟨#[]⟩ : ByteArray)]) ?_ 2 _ rfl; (with_reducible repeat (first | refine blk_drewN ?_ _ | refine blk_drew ?_ | refine blk_alloc ?_ _)); refine blk_put (cs := #[.int .i64 t787, .int .i64 0, .int .i64 0, .string (⟨#[]⟩ : ByteArray)]) ?_ 1 _ rfl; (with_reducible repeat (first | refine blk_drewN ?_ _ | refine blk_drew ?_ | refine blk_alloc ?_ _)); refine blk_put (cs := #[.int .i64 0, .int .i64 0, .int .i64 0, .string (⟨#[]⟩ : ByteArray)]) ?_ 0 _ rfl; (with_reducible repeat (first | refine blk_drewN ?_ _ | refine blk_drew ?_ | refine blk_alloc ?_ _)); exact BK792.out⟩
          have n4_ : Aside0 (Below w.heap.size w ((((w36.setCell ⟨gb792, 0, none⟩ (.int .i64 t787)).setCell ⟨gb792, 1, none⟩ (.int .i64 t788)).setCell ⟨gb792, 2, none⟩ (.int .i64 t789)).setCell ⟨gb792, 3, none⟩ (.string t790))) := ⟨by repeat (first | (with_reducible first | exact HB.out | apply below_alloc | apply pw_below_drewN | apply below_drew1 | refine below_set ?_ GE768.out | refine below_set ?_ GE769.out | refine below_set ?_ GE786.out | refine below_set ?_ GE792.out) | exact HB.out)⟩
          (try clear BK768)
          (try clear BK769)
          (try clear BK786)
          (try clear BK792)
          (try clear HB)
          generalize ((((w36.setCell ⟨gb792, 0, none⟩ (.int .i64 t787)).setCell ⟨gb792, 1, none⟩ (.int .i64 t788)).setCell ⟨gb792, 2, none⟩ (.int .i64 t789)).setCell ⟨gb792, 3, none⟩ (.string t790)) = w71 at n0_ n1_ n2_ n3_ n4_ ⊢
          have BK768 := n0_
          have BK769 := n1_
          have BK786 := n2_
          have BK792 := n3_
          have HB := n4_
          clear n0_ n1_ n2_ n3_ n4_
          have n0_ := Aside0.mk (blk_drew BK768.out)
          have n1_ := Aside0.mk (blk_drew BK769.out)
          have n2_ := Aside0.mk (blk_drew BK786.out)
          have n3_ := Aside0.mk (blk_drew BK792.out)
          have n4_ := Aside0.mk (below_drew1 HB.out)
          clear BK768
          clear BK769
          clear BK786
          clear BK792
          clear HB
          have BK768 := n0_
          have BK769 := n1_
          have BK786 := n2_
          have BK792 := n3_
          have HB := n4_
          clear n0_ n1_ n2_ n3_ n4_
          refine start_ (n := 29) (S := fun w' => w'.cell? ⟨gb768, 0, none⟩ = some (.int .i64 t771) ∧ w'.cell? ⟨gb768, 1, none⟩ = some (.int .i64 t772) ∧ w'.cell? ⟨gb768, 2, none⟩ = some (.int .i64 t773) ∧ w'.cell? ⟨gb768, 3, none⟩ = some (.string t774) ∧ w'.cell? ⟨gb792, 0, none⟩ = some (.int .i64 t787) ∧ w'.cell? ⟨gb792, 1, none⟩ = some (.int .i64 t788) ∧ w'.cell? ⟨gb792, 2, none⟩ = some (.int .i64 t789) ∧ w'.cell? ⟨gb792, 3, none⟩ = some (.string t790)) (ds := []) #[false, false, false, false, false, false, false, false, false, false, false, false, false, false, false, false, false, false, false, false, false, false, false, false, false, false, false, false, false] (by kernel_rfl) rfl rfl ⟨(blk_cell BK768.out 0).trans rfl, (blk_cell BK768.out 1).trans rfl, (blk_cell BK768.out 2).trans rfl, (blk_cell BK768.out 3).trans rfl, (blk_cell BK792.out 0).trans rfl, (blk_cell BK792.out 1).trans rfl, (blk_cell BK792.out 2).trans rfl, (blk_cell BK792.out 3).trans rfl⟩ (fun hHeld => ?_); refine with_tabW donatuslaw27_RegCmd.tab8 donatuslaw27_RegCmd.bits8 (fun HT_ HW_ => ?_)
          generalize w71.drew = w72 at BK768 BK769 BK786 BK792 HB hHeld ⊢
          refine take_ (i := 0) (N := some 34) (v := ?_) (a' := ?_) #[true, false, false, false, false, false, false, false, false, false, false, false, false, false, false, false, false, false, false, false, false, false, false, false, false, false, false, false, false] rfl rfl (take_ofW HT_.out HW_.out (by kernel_rfl)) (fun _ _ _ h => h) (Or.inl ⟨by rfl, ?_⟩) hHeld ?_ ?_
          rotate_left
          · rintro w' ⟨s0, s1, s2, s3, s4, s5, s6, s7⟩
            go_simp
            with_reducible rfl
          rotate_left
          · simp only [Act.put, List.setIfInBounds_toArray, List.set_cons_zero, List.set_cons_succ, i64_w, i32_w]
            rfl
          refine take_ (i := 2) (N := some 36) (v := ?_) (a' := ?_) #[true, false, true, false, false, false, false, false, false, false, false, false, false, false, false, false, false, false, false, false, false, false, false, false, false, false, false, false, false] rfl rfl (take_ofW HT_.out HW_.out (by kernel_rfl)) (fun _ _ _ h => h) (Or.inl ⟨by rfl, ?_⟩) hHeld ?_ ?_
          rotate_left
          · rintro w' ⟨s0, s1, s2, s3, s4, s5, s6, s7⟩
            go_simp
            with_reducible rfl
          rotate_left
          · simp only [Act.put, List.setIfInBounds_toArray, List.set_cons_zero, List.set_cons_succ, i64_w, i32_w]
            rfl
          refine one_ (i := 1) (N := some 35) #[true, true, true, false, false, false, false, false, false, false, false, false, false, false, false, false, false, false, false, false, false, false, false, false, false, false, false, false, false] rfl rfl (one_of HT_.out (by kernel_rfl)) (by decide) (fun K hK => ?_)
          refine goes_ Tryz.func27 (by kernel_rfl) rfl #[.agg #[.int .i64 t771, .int .i64 t772, .int .i64 t773, .string t774]] (by rfl) rfl rfl (by (try simp only [List.map_toArray, List.map_cons, List.map_nil]); first | done | rfl | (simp only [List.length_drop, List.length_take]; rfl)) ?_
          with_reducible refine (reg_May.calls t771 t772 t773 t774 t793 _ A41.out).mono ?_
          rintro e w73 ⟨rfl, hb⟩
          refine ⟨_, rfl, ?_⟩
          have n0_ := Aside0.mk (blk_below (g := gb768) (o := .cells #[.int .i64 t771, .int .i64 t772, .int .i64 t773, .string t774] 55 (0, 0)) (by (with_reducible repeat (first | refine blk_drewN ?_ _ | refine blk_drew ?_ | refine blk_alloc ?_ _)); exact BK768.out) hb)
          have n1_ := Aside0.mk (blk_below (g := gb769) (o := .cells #[.int .i64 t775, .int .i64 t776, .int .i64 t777, .string t778] 55 (0, 0)) (by (with_reducible repeat (first | refine blk_drewN ?_ _ | refine blk_drew ?_ | refine blk_alloc ?_ _)); exact BK769.out) hb)
          have n2_ := Aside0.mk (blk_below (g := gb786) (o := .cells #[.int .i64 t781, .int .i64 t782, .int .i64 t783, .string t784] 55 (0, 0)) (by (with_reducible repeat (first | refine blk_drewN ?_ _ | refine blk_drew ?_ | refine blk_alloc ?_ _)); exact BK786.out) hb)
          have n3_ := Aside0.mk (blk_below (g := gb792) (o := .cells #[.int .i64 t787, .int .i64 t788, .int .i64 t789, .string t790] 55 (0, 0)) (by (with_reducible repeat (first | refine blk_drewN ?_ _ | refine blk_drew ?_ | refine blk_alloc ?_ _)); exact BK792.out) hb)
          have n4_ := Aside0.mk (below_step (by repeat (first | (with_reducible first | exact HB.out | apply below_alloc | apply pw_below_drewN | apply below_drew1 | refine below_set ?_ GE768.out | refine below_set ?_ GE769.out | refine below_set ?_ GE786.out | refine below_set ?_ GE792.out) | exact HB.out)) hb)
          clear BK768
          clear BK769
          clear BK786
          clear BK792
          clear HB
          have BK768 := n0_
          have BK769 := n1_
          have BK786 := n2_
          have BK792 := n3_
          have HB := n4_
          clear n0_ n1_ n2_ n3_ n4_
          (try clear hb)
          (try clear hb2)
          (try clear hk)
          (try clear hi)
          refine hK.out _ _ ⟨(blk_cell BK768.out 0).trans rfl, (blk_cell BK768.out 1).trans rfl, (blk_cell BK768.out 2).trans rfl, (blk_cell BK768.out 3).trans rfl, (blk_cell BK792.out 0).trans rfl, (blk_cell BK792.out 1).trans rfl, (blk_cell BK792.out 2).trans rfl, (blk_cell BK792.out 3).trans rfl⟩ (fun hHeld => ?_)
          clear hK K
          refine norm_ (a' := ?_) ?_ ?_
          rotate_left
          · show Act.put _ (some 35) _ = _
            simp only [Act.put, List.setIfInBounds_toArray, List.set_cons_zero, List.set_cons_succ, i64_w, i32_w]
            rfl
          refine one_ (i := 3) (N := some 37) #[true, true, true, true, false, false, false, false, false, false, false, false, false, false, false, false, false, false, false, false, false, false, false, false, false, false, false, false, false] rfl rfl (one_of HT_.out (by kernel_rfl)) (by decide) (fun K hK => ?_)
          refine goes_ Tryz.func28 (by kernel_rfl) rfl #[.agg #[.int .i64 t771, .int .i64 t772, .int .i64 t773, .string t774]] (by rfl) rfl rfl (by (try simp only [List.map_toArray, List.map_cons, List.map_nil]); first | done | rfl | (simp only [List.length_drop, List.length_take]; rfl)) ?_
          with_reducible refine (donatusref27_MayCmd.calls t771 t772 t773 t774 t794 _ A42.out).mono ?_
          rintro e w74 ⟨rfl, hb⟩
          refine ⟨_, rfl, ?_⟩
          have n0_ := Aside0.mk (blk_below (g := gb768) (o := .cells #[.int .i64 t771, .int .i64 t772, .int .i64 t773, .string t774] 55 (0, 0)) (by (with_reducible repeat (first | refine blk_drewN ?_ _ | refine blk_drew ?_ | refine blk_alloc ?_ _)); exact BK768.out) hb)
          have n1_ := Aside0.mk (blk_below (g := gb769) (o := .cells #[.int .i64 t775, .int .i64 t776, .int .i64 t777, .string t778] 55 (0, 0)) (by (with_reducible repeat (first | refine blk_drewN ?_ _ | refine blk_drew ?_ | refine blk_alloc ?_ _)); exact BK769.out) hb)
          have n2_ := Aside0.mk (blk_below (g := gb786) (o := .cells #[.int .i64 t781, .int .i64 t782, .int .i64 t783, .string t784] 55 (0, 0)) (by (with_reducible repeat (first | refine blk_drewN ?_ _ | refine blk_drew ?_ | refine blk_alloc ?_ _)); exact BK786.out) hb)
          have n3_ := Aside0.mk (blk_below (g := gb792) (o := .cells #[.int .i64 t787, .int .i64 t788, .int .i64 t789, .string t790] 55 (0, 0)) (by (with_reducible repeat (first | refine blk_drewN ?_ _ | refine blk_drew ?_ | refine blk_alloc ?_ _)); exact BK792.out) hb)
          have n4_ := Aside0.mk (below_step (by repeat (first | (with_reducible first | exact HB.out | apply below_alloc | apply pw_below_drewN | apply below_drew1 | refine below_set ?_ GE768.out | refine below_set ?_ GE769.out | refine below_set ?_ GE786.out | refine below_set ?_ GE792.out) | exact HB.out)) hb)
          clear BK768
          clear BK769
          clear BK786
          clear BK792
          clear HB
          have BK768 := n0_
          have BK769 := n1_
          have BK786 := n2_
          have BK792 := n3_
          have HB := n4_
          clear n0_ n1_ n2_ n3_ n4_
          (try clear hb)
          (try clear hb2)
          (try clear hk)
          (try clear hi)
          refine hK.out _ _ ⟨(blk_cell BK768.out 0).trans rfl, (blk_cell BK768.out 1).trans rfl, (blk_cell BK768.out 2).trans rfl, (blk_cell BK768.out 3).trans rfl, (blk_cell BK792.out 0).trans rfl, (blk_cell BK792.out 1).trans rfl, (blk_cell BK792.out 2).trans rfl, (blk_cell BK792.out 3).trans rfl⟩ (fun hHeld => ?_)
          clear hK K
          refine norm_ (a' := ?_) ?_ ?_
          rotate_left
          · show Act.put _ (some 37) _ = _
            simp only [Act.put, List.setIfInBounds_toArray, List.set_cons_zero, List.set_cons_succ, i64_w, i32_w]
            rfl
          refine pure_ (i := 4) (N := some 38) (v := ?_) (a' := ?_) #[true, true, true, true, true, false, false, false, false, false, false, false, false, false, false, false, false, false, false, false, false, false, false, false, false, false, false, false, false] rfl rfl (any_of HT_.out (by kernel_rfl)) (fun _ _ _ h => h) (Or.inl ⟨by rfl, ?_⟩) ?_ ?_
          rotate_left
          · intro w'
            go_simp
            with_reducible rfl
          rotate_left
          · simp only [Act.put, List.setIfInBounds_toArray, List.set_cons_zero, List.set_cons_succ, i64_w, i32_w]
            rfl
          refine pure_ (i := 5) (N := some 39) (v := ?_) (a' := ?_) #[true, true, true, true, true, true, false, false, false, false, false, false, false, false, false, false, false, false, false, false, false, false, false, false, false, false, false, false, false] rfl rfl (any_of HT_.out (by kernel_rfl)) (fun _ _ _ h => h) (Or.inl ⟨by rfl, ?_⟩) ?_ ?_
          rotate_left
          · intro w'
            go_simp
            with_reducible rfl
          rotate_left
          · simp only [Act.put, List.setIfInBounds_toArray, List.set_cons_zero, List.set_cons_succ, i64_w, i32_w]
            rfl
          refine pure_ (i := 6) (N := some 40) (v := ?_) (a' := ?_) #[true, true, true, true, true, true, true, false, false, false, false, false, false, false, false, false, false, false, false, false, false, false, false, false, false, false, false, false, false] rfl rfl (any_of HT_.out (by kernel_rfl)) (fun _ _ _ h => h) (Or.inl ⟨by rfl, ?_⟩) ?_ ?_
          rotate_left
          · intro w'
            go_simp
            with_reducible rfl
          rotate_left
          · simp only [Act.put, List.setIfInBounds_toArray, List.set_cons_zero, List.set_cons_succ, i64_w, i32_w]
            rfl
          refine pure_ (i := 7) (N := some 41) (v := ?_) (a' := ?_) #[true, true, true, true, true, true, true, true, false, false, false, false, false, false, false, false, false, false, false, false, false, false, false, false, false, false, false, false, false] rfl rfl (any_of HT_.out (by kernel_rfl)) (fun _ _ _ h => h) (Or.inl ⟨by rfl, ?_⟩) ?_ ?_
          rotate_left
          · intro w'
            go_simp
            with_reducible rfl
          rotate_left
          · simp only [Act.put, List.setIfInBounds_toArray, List.set_cons_zero, List.set_cons_succ, i64_w, i32_w]
            rfl
          refine pure_ (i := 8) (N := some 42) (v := undef) (a' := ?_) #[true, true, true, true, true, true, true, true, true, false, false, false, false, false, false, false, false, false, false, false, false, false, false, false, false, false, false, false, false] rfl rfl (any_of HT_.out (by kernel_rfl)) (fun _ _ _ h => h) (Or.inr ⟨by rfl, rfl⟩) ?_ ?_
          rotate_left
          · simp only [Act.put, List.setIfInBounds_toArray, List.set_cons_zero, List.set_cons_succ, i64_w, i32_w]
            rfl
          refine pure_ (i := 9) (N := some 43) (v := undef) (a' := ?_) #[true, true, true, true, true, true, true, true, true, true, false, false, false, false, false, false, false, false, false, false, false, false, false, false, false, false, false, false, false] rfl rfl (any_of HT_.out (by kernel_rfl)) (fun _ _ _ h => h) (Or.inr ⟨by rfl, rfl⟩) ?_ ?_
          rotate_left
          · simp only [Act.put, List.setIfInBounds_toArray, List.set_cons_zero, List.set_cons_succ, i64_w, i32_w]
            rfl
          refine pure_ (i := 10) (N := some 44) (v := undef) (a' := ?_) #[true, true, true, true, true, true, true, true, true, true, true, false, false, false, false, false, false, false, false, false, false, false, false, false, false, false, false, false, false] rfl rfl (any_of HT_.out (by kernel_rfl)) (fun _ _ _ h => h) (Or.inr ⟨by rfl, rfl⟩) ?_ ?_
          rotate_left
          · simp only [Act.put, List.setIfInBounds_toArray, List.set_cons_zero, List.set_cons_succ, i64_w, i32_w]
            rfl
          refine pure_ (i := 11) (N := some 45) (v := undef) (a' := ?_) #[true, true, true, true, true, true, true, true, true, true, true, true, false, false, false, false, false, false, false, false, false, false, false, false, false, false, false, false, false] rfl rfl (any_of HT_.out (by kernel_rfl)) (fun _ _ _ h => h) (Or.inr ⟨by rfl, rfl⟩) ?_ ?_
          rotate_left
          · simp only [Act.put, List.setIfInBounds_toArray, List.set_cons_zero, List.set_cons_succ, i64_w, i32_w]
            rfl
          refine pure_ (i := 12) (N := some 46) (v := undef) (a' := ?_) #[true, true, true, true, true, true, true, true, true, true, true, true, true, false, false, false, false, false, false, false, false, false, false, false, false, false, false, false, false] rfl rfl (any_of HT_.out (by kernel_rfl)) (fun _ _ _ h => h) (Or.inr ⟨by rfl, rfl⟩) ?_ ?_
          rotate_left
          · simp only [Act.put, List.setIfInBounds_toArray, List.set_cons_zero, List.set_cons_succ, i64_w, i32_w]
            rfl
          refine pure_ (i := 13) (N := some 47) (v := undef) (a' := ?_) #[true, true, true, true, true, true, true, true, true, true, true, true, true, true, false, false, false, false, false, false, false, false, false, false, false, false, false, false, false] rfl rfl (any_of HT_.out (by kernel_rfl)) (fun _ _ _ h => h) (Or.inr ⟨by rfl, rfl⟩) ?_ ?_
          rotate_left
          · simp only [Act.put, List.setIfInBounds_toArray, List.set_cons_zero, List.set_cons_succ, i64_w, i32_w]
            rfl
          refine pure_ (i := 14) (N := some 48) (v := undef) (a' := ?_) #[true, true, true, true, true, true, true, true, true, true, true, true, true, true, true, false, false, false, false, false, false, false, false, false, false, false, false, false, false] rfl rfl (any_of HT_.out (by kernel_rfl)) (fun _ _ _ h => h) (Or.inr ⟨by rfl, rfl⟩) ?_ ?_
          rotate_left
          · simp only [Act.put, List.setIfInBounds_toArray, List.set_cons_zero, List.set_cons_succ, i64_w, i32_w]
            rfl
          refine pure_ (i := 15) (N := some 49) (v := undef) (a' := ?_) #[true, true, true, true, true, true, true, true, true, true, true, true, true, true, true, true, false, false, false, false, false, false, false, false, false, false, false, false, false] rfl rfl (any_of HT_.out (by kernel_rfl)) (fun _ _ _ h => h) (Or.inr ⟨by rfl, rfl⟩) ?_ ?_
          rotate_left
          · simp only [Act.put, List.setIfInBounds_toArray, List.set_cons_zero, List.set_cons_succ, i64_w, i32_w]
            rfl
          refine pure_ (i := 16) (N := some 50) (v := undef) (a' := ?_) #[true, true, true, true, true, true, true, true, true, true, true, true, true, true, true, true, true, false, false, false, false, false, false, false, false, false, false, false, false] rfl rfl (any_of HT_.out (by kernel_rfl)) (fun _ _ _ h => h) (Or.inr ⟨by rfl, rfl⟩) ?_ ?_
          rotate_left
          · simp only [Act.put, List.setIfInBounds_toArray, List.set_cons_zero, List.set_cons_succ, i64_w, i32_w]
            rfl
          refine pure_ (i := 17) (N := some 51) (v := ?_) (a' := ?_) #[true, true, true, true, true, true, true, true, true, true, true, true, true, true, true, true, true, true, false, false, false, false, false, false, false, false, false, false, false] rfl rfl (any_of HT_.out (by kernel_rfl)) (fun _ _ _ h => h) (Or.inl ⟨by rfl, ?_⟩) ?_ ?_
          rotate_left
          · intro w'
            go_simp
            with_reducible rfl
          rotate_left
          · simp only [Act.put, List.setIfInBounds_toArray, List.set_cons_zero, List.set_cons_succ, i64_w, i32_w]
            rfl
          refine pure_ (i := 18) (N := some 52) (v := ?_) (a' := ?_) #[true, true, true, true, true, true, true, true, true, true, true, true, true, true, true, true, true, true, true, false, false, false, false, false, false, false, false, false, false] rfl rfl (any_of HT_.out (by kernel_rfl)) (fun _ _ _ h => h) (Or.inl ⟨by rfl, ?_⟩) ?_ ?_
          rotate_left
          · intro w'
            go_simp
            with_reducible rfl
          rotate_left
          · simp only [Act.put, List.setIfInBounds_toArray, List.set_cons_zero, List.set_cons_succ, i64_w, i32_w]
            rfl
          refine pure_ (i := 19) (N := some 53) (v := ?_) (a' := ?_) #[true, true, true, true, true, true, true, true, true, true, true, true, true, true, true, true, true, true, true, true, false, false, false, false, false, false, false, false, false] rfl rfl (any_of HT_.out (by kernel_rfl)) (fun _ _ _ h => h) (Or.inl ⟨by rfl, ?_⟩) ?_ ?_
          rotate_left
          · intro w'
            go_simp
            with_reducible rfl
          rotate_left
          · simp only [Act.put, List.setIfInBounds_toArray, List.set_cons_zero, List.set_cons_succ, i64_w, i32_w]
            rfl
          refine pure_ (i := 20) (N := some 54) (v := ?_) (a' := ?_) #[true, true, true, true, true, true, true, true, true, true, true, true, true, true, true, true, true, true, true, true, true, false, false, false, false, false, false, false, false] rfl rfl (any_of HT_.out (by kernel_rfl)) (fun _ _ _ h => h) (Or.inl ⟨by rfl, ?_⟩) ?_ ?_
          rotate_left
          · intro w'
            go_simp
            with_reducible rfl
          rotate_left
          · simp only [Act.put, List.setIfInBounds_toArray, List.set_cons_zero, List.set_cons_succ, i64_w, i32_w]
            rfl
          refine pure_ (i := 21) (N := some 55) (v := ?_) (a' := ?_) #[true, true, true, true, true, true, true, true, true, true, true, true, true, true, true, true, true, true, true, true, true, true, false, false, false, false, false, false, false] rfl rfl (any_of HT_.out (by kernel_rfl)) (fun _ _ _ h => h) (Or.inl ⟨by rfl, ?_⟩) ?_ ?_
          rotate_left
          · intro w'
            go_simp
            with_reducible rfl
          rotate_left
          · simp only [Act.put, List.setIfInBounds_toArray, List.set_cons_zero, List.set_cons_succ, i64_w, i32_w]
            rfl
          refine pure_ (i := 22) (N := some 56) (v := ?_) (a' := ?_) #[true, true, true, true, true, true, true, true, true, true, true, true, true, true, true, true, true, true, true, true, true, true, true, false, false, false, false, false, false] rfl rfl (any_of HT_.out (by kernel_rfl)) (fun _ _ _ h => h) (Or.inl ⟨by rfl, ?_⟩) ?_ ?_
          rotate_left
          · intro w'
            go_simp
            with_reducible rfl
          rotate_left
          · simp only [Act.put, List.setIfInBounds_toArray, List.set_cons_zero, List.set_cons_succ, i64_w, i32_w]
            rfl
          refine pure_ (i := 24) (N := some 58) (v := ?_) (a' := ?_) #[true, true, true, true, true, true, true, true, true, true, true, true, true, true, true, true, true, true, true, true, true, true, true, false, true, false, false, false, false] rfl rfl (any_of HT_.out (by kernel_rfl)) (fun _ _ _ h => h) (Or.inl ⟨by rfl, ?_⟩) ?_ ?_
          rotate_left
          · intro w'
            go_simp
            with_reducible rfl
          rotate_left
          · simp only [Act.put, List.setIfInBounds_toArray, List.set_cons_zero, List.set_cons_succ, i64_w, i32_w]
            rfl
          refine take_ (i := 23) (N := some 57) (v := ?_) (a' := ?_) #[true, true, true, true, true, true, true, true, true, true, true, true, true, true, true, true, true, true, true, true, true, true, true, true, true, false, false, false, false] rfl rfl (take_ofW HT_.out HW_.out (by kernel_rfl)) (fun _ _ _ h => h) (Or.inl ⟨by rfl, ?_⟩) hHeld ?_ ?_
          rotate_left
          · rintro w' ⟨s0, s1, s2, s3, s4, s5, s6, s7⟩
            go_simp
            with_reducible rfl
          rotate_left
          · simp only [Act.put, List.setIfInBounds_toArray, List.set_cons_zero, List.set_cons_succ, i64_w, i32_w]
            rfl
          refine one_ (i := 25) (N := some 59) #[true, true, true, true, true, true, true, true, true, true, true, true, true, true, true, true, true, true, true, true, true, true, true, true, true, true, false, false, false] rfl rfl (one_of HT_.out (by kernel_rfl)) (by decide) (fun K hK => ?_)
          refine goes_ Tryz.func29 (by kernel_rfl) rfl #[.agg #[.int .i64 t787, .int .i64 t788, .int .i64 t789, .string t790], .agg #[.int .i64 0, .int .i64 0, .int .i64 0, .string (⟨#[]⟩ : ByteArray)]] (by rfl) rfl rfl (by (try simp only [List.map_toArray, List.map_cons, List.map_nil]); first | done | rfl | (simp only [List.length_drop, List.length_take]; rfl)) ?_
          with_reducible refine (donatusref27_EqCmd.calls t787 t788 t789 t790 0 0 0 (⟨#[]⟩ : ByteArray) t797 _ A70.out).mono ?_
          rintro e w75 ⟨rfl, hb⟩
          refine ⟨_, rfl, ?_⟩
          have n0_ := Aside0.mk (blk_below (g := gb768) (o := .cells #[.int .i64 t771, .int .i64 t772, .int .i64 t773, .string t774] 55 (0, 0)) (by (with_reducible repeat (first | refine blk_drewN ?_ _ | refine blk_drew ?_ | refine blk_alloc ?_ _)); exact BK768.out) hb)
          have n1_ := Aside0.mk (blk_below (g := gb769) (o := .cells #[.int .i64 t775, .int .i64 t776, .int .i64 t777, .string t778] 55 (0, 0)) (by (with_reducible repeat (first | refine blk_drewN ?_ _ | refine blk_drew ?_ | refine blk_alloc ?_ _)); exact BK769.out) hb)
          have n2_ := Aside0.mk (blk_below (g := gb786) (o := .cells #[.int .i64 t781, .int .i64 t782, .int .i64 t783, .string t784] 55 (0, 0)) (by (with_reducible repeat (first | refine blk_drewN ?_ _ | refine blk_drew ?_ | refine blk_alloc ?_ _)); exact BK786.out) hb)
          have n3_ := Aside0.mk (blk_below (g := gb792) (o := .cells #[.int .i64 t787, .int .i64 t788, .int .i64 t789, .string t790] 55 (0, 0)) (by (with_reducible repeat (first | refine blk_drewN ?_ _ | refine blk_drew ?_ | refine blk_alloc ?_ _)); exact BK792.out) hb)
          have n4_ := Aside0.mk (below_step (by repeat (first | (with_reducible first | exact HB.out | apply below_alloc | apply pw_below_drewN | apply below_drew1 | refine below_set ?_ GE768.out | refine below_set ?_ GE769.out | refine below_set ?_ GE786.out | refine below_set ?_ GE792.out) | exact HB.out)) hb)
          clear BK768
          clear BK769
          clear BK786
          clear BK792
          clear HB
          have BK768 := n0_
          have BK769 := n1_
          have BK786 := n2_
          have BK792 := n3_
          have HB := n4_
          clear n0_ n1_ n2_ n3_ n4_
          (try clear hb)
          (try clear hb2)
          (try clear hk)
          (try clear hi)
          refine hK.out _ _ ⟨(blk_cell BK768.out 0).trans rfl, (blk_cell BK768.out 1).trans rfl, (blk_cell BK768.out 2).trans rfl, (blk_cell BK768.out 3).trans rfl, (blk_cell BK792.out 0).trans rfl, (blk_cell BK792.out 1).trans rfl, (blk_cell BK792.out 2).trans rfl, (blk_cell BK792.out 3).trans rfl⟩ (fun hHeld => ?_)
          clear hK K
          refine norm_ (a' := ?_) ?_ ?_
          rotate_left
          · show Act.put _ (some 59) _ = _
            simp only [Act.put, List.setIfInBounds_toArray, List.set_cons_zero, List.set_cons_succ, i64_w, i32_w]
            rfl
          refine pure_ (i := 26) (N := some 60) (v := ?_) (a' := ?_) #[true, true, true, true, true, true, true, true, true, true, true, true, true, true, true, true, true, true, true, true, true, true, true, true, true, true, true, false, false] rfl rfl (any_of HT_.out (by kernel_rfl)) (fun _ _ _ h => h) (Or.inl ⟨by rfl, ?_⟩) ?_ ?_
          rotate_left
          · intro w'
            go_simp
            with_reducible rfl
          rotate_left
          · simp only [Act.put, List.setIfInBounds_toArray, List.set_cons_zero, List.set_cons_succ, i64_w, i32_w]
            rfl
          refine pure_ (i := 27) (N := some 61) (v := ?_) (a' := ?_) #[true, true, true, true, true, true, true, true, true, true, true, true, true, true, true, true, true, true, true, true, true, true, true, true, true, true, true, true, false] rfl rfl (any_of HT_.out (by kernel_rfl)) (fun _ _ _ h => h) (Or.inl ⟨by rfl, ?_⟩) ?_ ?_
          rotate_left
          · intro w'
            go_simp
            with_reducible rfl
          rotate_left
          · simp only [Act.put, List.setIfInBounds_toArray, List.set_cons_zero, List.set_cons_succ, i64_w, i32_w]
            rfl
          refine pure_ (i := 28) (N := some 62) (v := ?_) (a' := ?_) #[true, true, true, true, true, true, true, true, true, true, true, true, true, true, true, true, true, true, true, true, true, true, true, true, true, true, true, true, true] rfl rfl (any_of HT_.out (by kernel_rfl)) (fun _ _ _ h => h) (Or.inl ⟨by rfl, ?_⟩) ?_ ?_
          rotate_left
          · intro w'
            go_simp
            with_reducible rfl
          rotate_left
          · simp only [Act.put, List.setIfInBounds_toArray, List.set_cons_zero, List.set_cons_succ, i64_w, i32_w]
            rfl
          refine done_ (done_of HT_.out (by kernel_rfl)) ?_
          try go_wp2
          go_meet
          case rel => exact ⟨_, (!t797), (by first | rfl | (simp; done) | (simp [*]; done)), H', ⟨by first | omega | exact Nat.le_refl _⟩, ⟨by (with_reducible repeat (first | refine blk_drewN ?_ _ | refine blk_drew ?_ | refine blk_alloc ?_ _)); exact BK768.out⟩, ⟨by (with_reducible repeat (first | refine blk_drewN ?_ _ | refine blk_drew ?_ | refine blk_alloc ?_ _)); exact BK769.out⟩, ⟨by (with_reducible repeat (first | refine blk_drewN ?_ _ | refine blk_drew ?_ | refine blk_alloc ?_ _)); exact BK786.out⟩, ⟨by (with_reducible repeat (first | refine blk_drewN ?_ _ | refine blk_drew ?_ | refine blk_alloc ?_ _)); exact BK792.out⟩, ⟨by repeat (first | (with_reducible first | exact HB.out | apply below_alloc | apply pw_below_drewN | apply below_drew1 | refine below_set ?_ GE768.out | refine below_set ?_ GE769.out | refine below_set ?_ GE786.out | refine below_set ?_ GE792.out) | exact HB.out)⟩⟩
    case rest =>
      clear HC12
      try clear c2
      try clear p2
      try clear c4
      try clear c25
      try clear c27
      try clear c28
      try clear c29
      try clear c48
      obtain ⟨kq, x62_11, rfl, HA, HJ11, BK768, BK769, BK786, BK792, HB⟩ := hcut
      cases kq with
      | zero => exact absurd HA.out (by simp [donatuslaw27_RegCmd.j0])
      | succ kj11 =>
        have H := HA.out
        clear HA
        simp only [donatuslaw27_RegCmd.j0] at H
        by_cases c76 : x62_11 = true
        · subst c76
          have H1 : (some false) = some r := by rw [if_pos rfl] at H; exact H
          clear H
          have H := H1
          clear H1
          obtain rfl := Option.some.inj H
          go_wp2
          go_ret
          exact ⟨by first | rfl | (simp [errW_none, errW_some] <;> rfl) | (simp [*, errW_none, errW_some] <;> rfl), by repeat (first | (with_reducible first | exact HB.out | apply below_alloc | apply pw_below_drewN | apply below_drew1 | refine below_set ?_ GE768.out | refine below_set ?_ GE769.out | refine below_set ?_ GE786.out | refine below_set ?_ GE792.out) | exact HB.out)⟩
        · replace c76 := Bool.eq_false_iff.mpr c76
          subst c76
          have H1 : ((donatusref27_MayCmd.f t771 t772 t773 t774).bind fun t798 => (if t798 = true then (if t780.toList = ([] : List UInt8) then (some false) else (if t785 = true then ((donatusref27_EqCmd.f t781 t782 t783 t784 t771 t772 t773 t774).bind fun t799 => (if t799 = true then ((donatusref27_MayCmd.f t775 t776 t777 t778).bind fun t800 => (if t800 = true then ((reg_Encode.f kj11 t775 t776 t777 t778).bind fun t801 => ((donatusref27_EqCmd.f t771 t772 t773 t774 t775 t776 t777 t778).bind fun t802 => (some ((t801.toList == t780.toList) == t802)))) else (some true))) else (some false))) else (some false))) else (some (t780.toList == ([] : List UInt8))))) = some r := by rw [if_neg (show ¬ (false = true) by decide)] at H; exact H
          clear H
          have H := H1
          clear H1
          replace H := Option.bind_eq_some_iff.mp H
          obtain ⟨t798, A770, H⟩ := H
          replace H : (if t798 = true then (if t780.toList = ([] : List UInt8) then (some false) else (if t785 = true then ((donatusref27_EqCmd.f t781 t782 t783 t784 t771 t772 t773 t774).bind fun t799 => (if t799 = true then ((donatusref27_MayCmd.f t775 t776 t777 t778).bind fun t800 => (if t800 = true then ((reg_Encode.f kj11 t775 t776 t777 t778).bind fun t801 => ((donatusref27_EqCmd.f t771 t772 t773 t774 t775 t776 t777 t778).bind fun t802 => (some ((t801.toList == t780.toList) == t802)))) else (some true))) else (some false))) else (some false))) else (some (t780.toList == ([] : List UInt8)))) = some r := H
          have A77 := Aside0.mk A770
          clear A770
          by_cases c78 : t798 = true
          · subst c78
            have H1 : (if t780.toList = ([] : List UInt8) then (some false) else (if t785 = true then ((donatusref27_EqCmd.f t781 t782 t783 t784 t771 t772 t773 t774).bind fun t799 => (if t799 = true then ((donatusref27_MayCmd.f t775 t776 t777 t778).bind fun t800 => (if t800 = true then ((reg_Encode.f kj11 t775 t776 t777 t778).bind fun t801 => ((donatusref27_EqCmd.f t771 t772 t773 t774 t775 t776 t777 t778).bind fun t802 => (some ((t801.toList == t780.toList) == t802)))) else (some true))) else (some false))) else (some false))) = some r := by rw [if_pos rfl] at H; exact H
            clear H
            have H := H1
            clear H1
            by_cases c79 : t780.toList = ([] : List UInt8)
            · rw [if_pos c79] at H
              rw [HR.out] at H
              exact absurd H (by simp)
            · rw [if_neg c79] at H
              have c79b0 : (t780.toList == ([] : List UInt8)) = false := beq_eq_false_iff_ne.mpr c79
              have c79b1 : (t780.toList != ([] : List UInt8)) = true := bne_iff_ne.mpr c79
              by_cases c86 : t785 = true
              · subst c86
                have H1 : ((donatusref27_EqCmd.f t781 t782 t783 t784 t771 t772 t773 t774).bind fun t799 => (if t799 = true then ((donatusref27_MayCmd.f t775 t776 t777 t778).bind fun t800 => (if t800 = true then ((reg_Encode.f kj11 t775 t776 t777 t778).bind fun t801 => ((donatusref27_EqCmd.f t771 t772 t773 t774 t775 t776 t777 t778).bind fun t802 => (some ((t801.toList == t780.toList) == t802)))) else (some true))) else (some false))) = some r := by rw [if_pos rfl] at H; exact H
                clear H
                have H := H1
                clear H1
                replace H := Option.bind_eq_some_iff.mp H
                obtain ⟨t799, A870, H⟩ := H
                replace H : (if t799 = true then ((donatusref27_MayCmd.f t775 t776 t777 t778).bind fun t800 => (if t800 = true then ((reg_Encode.f kj11 t775 t776 t777 t778).bind fun t801 => ((donatusref27_EqCmd.f t771 t772 t773 t774 t775 t776 t777 t778).bind fun t802 => (some ((t801.toList == t780.toList) == t802)))) else (some true))) else (some false)) = some r := H
                have A87 := Aside0.mk A870
                clear A870
                by_cases c88 : t799 = true
                · subst c88
                  have H1 : ((donatusref27_MayCmd.f t775 t776 t777 t778).bind fun t800 => (if t800 = true then ((reg_Encode.f kj11 t775 t776 t777 t778).bind fun t801 => ((donatusref27_EqCmd.f t771 t772 t773 t774 t775 t776 t777 t778).bind fun t802 => (some ((t801.toList == t780.toList) == t802)))) else (some true))) = some r := by rw [if_pos rfl] at H; exact H
                  clear H
                  have H := H1
                  clear H1
                  replace H := Option.bind_eq_some_iff.mp H
                  obtain ⟨t800, A890, H⟩ := H
                  replace H : (if t800 = true then ((reg_Encode.f kj11 t775 t776 t777 t778).bind fun t801 => ((donatusref27_EqCmd.f t771 t772 t773 t774 t775 t776 t777 t778).bind fun t802 => (some ((t801.toList == t780.toList) == t802)))) else (some true)) = some r := H
                  have A89 := Aside0.mk A890
                  clear A890
                  by_cases c90 : t800 = true
                  · subst c90
                    have H1 : ((reg_Encode.f kj11 t775 t776 t777 t778).bind fun t801 => ((donatusref27_EqCmd.f t771 t772 t773 t774 t775 t776 t777 t778).bind fun t802 => (some ((t801.toList == t780.toList) == t802)))) = some r := by rw [if_pos rfl] at H; exact H
                    clear H
                    have H := H1
                    clear H1
                    replace H := Option.bind_eq_some_iff.mp H
                    obtain ⟨t801, A910, H⟩ := H
                    replace H : ((donatusref27_EqCmd.f t771 t772 t773 t774 t775 t776 t777 t778).bind fun t802 => (some ((t801.toList == t780.toList) == t802))) = some r := H
                    have A91 := Aside0.mk A910
                    clear A910
                    replace H := Option.bind_eq_some_iff.mp H
                    obtain ⟨t802, A920, H⟩ := H
                    replace H : (some ((t801.toList == t780.toList) == t802)) = some r := H
                    have A92 := Aside0.mk A920
                    clear A920
                    obtain rfl := Option.some.inj H
                    have hnb93 := NB768_769.out
                    have hnc93 := NB769_768.out
                    have hnb94 := NB768_786.out
                    have hnc94 := NB786_768.out
                    have hnb95 := NB768_792.out
                    have hnc95 := NB792_768.out
                    have hcz96_0 : wc.cell? ⟨gb768, 0, none⟩ = some (.int .i64 t771) := (blk_cell BK768.out 0).trans rfl
                    have hcz96_1 : wc.cell? ⟨gb768, 1, none⟩ = some (.int .i64 t772) := (blk_cell BK768.out 1).trans rfl
                    have hcz96_2 : wc.cell? ⟨gb768, 2, none⟩ = some (.int .i64 t773) := (blk_cell BK768.out 2).trans rfl
                    have hcz96_3 : wc.cell? ⟨gb768, 3, none⟩ = some (.string t774) := (blk_cell BK768.out 3).trans rfl
                    have hfz96_0 := blk_frozen BK768.out 0
                    have hfz96_1 := blk_frozen BK768.out 1
                    have hfz96_2 := blk_frozen BK768.out 2
                    have hfz96_3 := blk_frozen BK768.out 3
                    try go_wp2_with (first | ((with_reducible refine gate_callee (f := 28) rfl ?_); refine goesL_ (some 64) rfl rfl Tryz.func28 (by kernel_rfl) rfl #[.agg #[.int .i64 t771, .int .i64 t772, .int .i64 t773, .string t774]] rfl (by (try simp only [List.map_toArray, List.map_cons, List.map_nil]); first | done | rfl | (simp only [List.length_drop, List.length_take]; rfl)) ?_; (with_reducible refine (donatusref27_MayCmd.calls t771 t772 t773 t774 true _ A77.out).mono ?_); rintro e w97 ⟨rfl, hb⟩; refine ⟨_, rfl, ?_⟩; have n0_ := Aside0.mk (blk_below (g := gb768) (o := .cells #[.int .i64 t771, .int .i64 t772, .int .i64 t773, .string t774] 55 (0, 0)) (by (with_reducible repeat (first | refine blk_drewN ?_ _ | refine blk_drew ?_ | refine blk_alloc ?_ _)); exact BK768.out) hb); have n1_ := Aside0.mk (blk_below (g := gb769) (o := .cells #[.int .i64 t775, .int .i64 t776, .int .i64 t777, .string t778] 55 (0, 0)) (by (with_reducible repeat (first | refine blk_drewN ?_ _ | refine blk_drew ?_ | refine blk_alloc ?_ _)); exact BK769.out) hb); have n2_ := Aside0.mk (blk_below (g := gb786) (o := .cells #[.int .i64 t781, .int .i64 t782, .int .i64 t783, .string t784] 55 (0, 0)) (by (with_reducible repeat (first | refine blk_drewN ?_ _ | refine blk_drew ?_ | refine blk_alloc ?_ _)); exact BK786.out) hb); have n3_ := Aside0.mk (blk_below (g := gb792) (o := .cells #[.int .i64 t787, .int .i64 t788, .int .i64 t789, .string t790] 55 (0, 0)) (by (with_reducible repeat (first | refine blk_drewN ?_ _ | refine blk_drew ?_ | refine blk_alloc ?_ _)); exact BK792.out) hb); have n4_ := Aside0.mk (below_step (by repeat (first | (with_reducible first | exact HB.out | apply below_alloc | apply pw_below_drewN | apply below_drew1 | refine below_set ?_ GE768.out | refine below_set ?_ GE769.out | refine below_set ?_ GE786.out | refine below_set ?_ GE792.out) | exact HB.out)) hb); clear BK768; clear BK769; clear BK786; clear BK792; clear HB; have BK768 := n0_; have BK769 := n1_; have BK786 := n2_; have BK792 := n3_; have HB := n4_; clear n0_ n1_ n2_ n3_ n4_; (try clear hb); (try clear hb2); (try clear hk); (try clear hi)))
                    have n0_ := Aside0.mk (blk_drew BK768.out)
                    have n1_ := Aside0.mk (blk_drew BK769.out)
                    have n2_ := Aside0.mk (blk_drew BK786.out)
                    have n3_ := Aside0.mk (blk_drew BK792.out)
                    have n4_ := Aside0.mk (below_drew1 HB.out)
                    clear BK768
                    clear BK769
                    clear BK786
                    clear BK792
                    clear HB
                    have BK768 := n0_
                    have BK769 := n1_
                    have BK786 := n2_
                    have BK792 := n3_
                    have HB := n4_
                    clear n0_ n1_ n2_ n3_ n4_
                    refine start_ (n := 26) (S := fun w' => w'.cell? ⟨gb786, 0, none⟩ = some (.int .i64 t781) ∧ w'.cell? ⟨gb786, 1, none⟩ = some (.int .i64 t782) ∧ w'.cell? ⟨gb786, 2, none⟩ = some (.int .i64 t783) ∧ w'.cell? ⟨gb786, 3, none⟩ = some (.string t784) ∧ w'.cell? ⟨gb768, 0, none⟩ = some (.int .i64 t771) ∧ w'.cell? ⟨gb768, 1, none⟩ = some (.int .i64 t772) ∧ w'.cell? ⟨gb768, 2, none⟩ = some (.int .i64 t773) ∧ w'.cell? ⟨gb768, 3, none⟩ = some (.string t774) ∧ w'.cell? ⟨gb769, 0, none⟩ = some (.int .i64 t775) ∧ w'.cell? ⟨gb769, 1, none⟩ = some (.int .i64 t776) ∧ w'.cell? ⟨gb769, 2, none⟩ = some (.int .i64 t777) ∧ w'.cell? ⟨gb769, 3, none⟩ = some (.string t778)) (ds := []) #[false, false, false, false, false, false, false, false, false, false, false, false, false, false, false, false, false, false, false, false, false, false, false, false, false, false] (by kernel_rfl) rfl rfl ⟨(blk_cell BK786.out 0).trans rfl, (blk_cell BK786.out 1).trans rfl, (blk_cell BK786.out 2).trans rfl, (blk_cell BK786.out 3).trans rfl, (blk_cell BK768.out 0).trans rfl, (blk_cell BK768.out 1).trans rfl, (blk_cell BK768.out 2).trans rfl, (blk_cell BK768.out 3).trans rfl, (blk_cell BK769.out 0).trans rfl, (blk_cell BK769.out 1).trans rfl, (blk_cell BK769.out 2).trans rfl, (blk_cell BK769.out 3).trans rfl⟩ (fun hHeld => ?_); refine with_tabW donatuslaw27_RegCmd.tab12 donatuslaw27_RegCmd.bits12 (fun HT_ HW_ => ?_)
                    generalize w97.drew = w98 at BK768 BK769 BK786 BK792 HB hHeld ⊢
                    refine pure_ (i := 0) (N := some 68) (v := ?_) (a' := ?_) #[true, false, false, false, false, false, false, false, false, false, false, false, false, false, false, false, false, false, false, false, false, false, false, false, false, false] rfl rfl (any_of HT_.out (by kernel_rfl)) (fun _ _ _ h => h) (Or.inl ⟨by rfl, ?_⟩) ?_ ?_
                    rotate_left
                    · intro w'
                      go_simp
                      with_reducible rfl
                    rotate_left
                    · simp only [Act.put, List.setIfInBounds_toArray, List.set_cons_zero, List.set_cons_succ, i64_w, i32_w]
                      rfl
                    refine pure_ (i := 1) (N := some 69) (v := ?_) (a' := ?_) #[true, true, false, false, false, false, false, false, false, false, false, false, false, false, false, false, false, false, false, false, false, false, false, false, false, false] rfl rfl (any_of HT_.out (by kernel_rfl)) (fun _ _ _ h => h) (Or.inl ⟨by rfl, ?_⟩) ?_ ?_
                    rotate_left
                    · intro w'
                      go_simp
                      with_reducible rfl
                    rotate_left
                    · simp only [Act.put, List.setIfInBounds_toArray, List.set_cons_zero, List.set_cons_succ, i64_w, i32_w]
                      rfl
                    refine pure_ (i := 2) (N := some 70) (v := ?_) (a' := ?_) #[true, true, true, false, false, false, false, false, false, false, false, false, false, false, false, false, false, false, false, false, false, false, false, false, false, false] rfl rfl (any_of HT_.out (by kernel_rfl)) (fun _ _ _ h => h) (Or.inl ⟨by rfl, ?_⟩) ?_ ?_
                    rotate_left
                    · intro w'
                      go_simp
                      with_reducible rfl
                    rotate_left
                    · simp only [Act.put, List.setIfInBounds_toArray, List.set_cons_zero, List.set_cons_succ, i64_w, i32_w]
                      rfl
                    refine pure_ (i := 3) (N := some 71) (v := ?_) (a' := ?_) #[true, true, true, true, false, false, false, false, false, false, false, false, false, false, false, false, false, false, false, false, false, false, false, false, false, false] rfl rfl (any_of HT_.out (by kernel_rfl)) (fun _ _ _ h => h) (Or.inl ⟨by rfl, ?_⟩) ?_ ?_
                    rotate_left
                    · intro w'
                      go_simp
                      with_reducible rfl
                    rotate_left
                    · simp only [Act.put, List.setIfInBounds_toArray, List.set_cons_zero, List.set_cons_succ, i64_w, i32_w]
                      rfl
                    refine pure_ (i := 4) (N := some 72) (v := ?_) (a' := ?_) #[true, true, true, true, true, false, false, false, false, false, false, false, false, false, false, false, false, false, false, false, false, false, false, false, false, false] rfl rfl (any_of HT_.out (by kernel_rfl)) (fun _ _ _ h => h) (Or.inl ⟨by rfl, ?_⟩) ?_ ?_
                    rotate_left
                    · intro w'
                      go_simp
                      with_reducible rfl
                    rotate_left
                    · simp only [Act.put, List.setIfInBounds_toArray, List.set_cons_zero, List.set_cons_succ, i64_w, i32_w]
                      rfl
                    refine pure_ (i := 5) (N := some 73) (v := ?_) (a' := ?_) #[true, true, true, true, true, true, false, false, false, false, false, false, false, false, false, false, false, false, false, false, false, false, false, false, false, false] rfl rfl (any_of HT_.out (by kernel_rfl)) (fun _ _ _ h => h) (Or.inl ⟨by rfl, ?_⟩) ?_ ?_
                    rotate_left
                    · intro w'
                      go_simp
                      with_reducible rfl
                    rotate_left
                    · simp only [Act.put, List.setIfInBounds_toArray, List.set_cons_zero, List.set_cons_succ, i64_w, i32_w]
                      rfl
                    refine take_ (i := 6) (N := some 74) (v := ?_) (a' := ?_) #[true, true, true, true, true, true, true, false, false, false, false, false, false, false, false, false, false, false, false, false, false, false, false, false, false, false] rfl rfl (take_ofW HT_.out HW_.out (by kernel_rfl)) (fun _ _ _ h => h) (Or.inl ⟨by rfl, ?_⟩) hHeld ?_ ?_
                    rotate_left
                    · rintro w' ⟨s0, s1, s2, s3, s4, s5, s6, s7, s8, s9, s10, s11⟩
                      go_simp
                      with_reducible rfl
                    rotate_left
                    · simp only [Act.put, List.setIfInBounds_toArray, List.set_cons_zero, List.set_cons_succ, i64_w, i32_w]
                      rfl
                    refine take_ (i := 7) (N := some 75) (v := ?_) (a' := ?_) #[true, true, true, true, true, true, true, true, false, false, false, false, false, false, false, false, false, false, false, false, false, false, false, false, false, false] rfl rfl (take_ofW HT_.out HW_.out (by kernel_rfl)) (fun _ _ _ h => h) (Or.inl ⟨by rfl, ?_⟩) hHeld ?_ ?_
                    rotate_left
                    · rintro w' ⟨s0, s1, s2, s3, s4, s5, s6, s7, s8, s9, s10, s11⟩
                      go_simp
                      with_reducible rfl
                    rotate_left
                    · simp only [Act.put, List.setIfInBounds_toArray, List.set_cons_zero, List.set_cons_succ, i64_w, i32_w]
                      rfl
                    refine one_ (i := 8) (N := some 76) #[true, true, true, true, true, true, true, true, true, false, false, false, false, false, false, false, false, false, false, false, false, false, false, false, false, false] rfl rfl (one_of HT_.out (by kernel_rfl)) (by decide) (fun K hK => ?_)
                    refine goes_ Tryz.func29 (by kernel_rfl) rfl #[.agg #[.int .i64 t781, .int .i64 t782, .int .i64 t783, .string t784], .agg #[.int .i64 t771, .int .i64 t772, .int .i64 t773, .string t774]] (by rfl) rfl rfl (by (try simp only [List.map_toArray, List.map_cons, List.map_nil]); first | done | rfl | (simp only [List.length_drop, List.length_take]; rfl)) ?_
                    with_reducible refine (donatusref27_EqCmd.calls t781 t782 t783 t784 t771 t772 t773 t774 true _ A87.out).mono ?_
                    rintro e w99 ⟨rfl, hb⟩
                    refine ⟨_, rfl, ?_⟩
                    have n0_ := Aside0.mk (blk_below (g := gb768) (o := .cells #[.int .i64 t771, .int .i64 t772, .int .i64 t773, .string t774] 55 (0, 0)) (by (with_reducible repeat (first | refine blk_drewN ?_ _ | refine blk_drew ?_ | refine blk_alloc ?_ _)); exact BK768.out) hb)
                    have n1_ := Aside0.mk (blk_below (g := gb769) (o := .cells #[.int .i64 t775, .int .i64 t776, .int .i64 t777, .string t778] 55 (0, 0)) (by (with_reducible repeat (first | refine blk_drewN ?_ _ | refine blk_drew ?_ | refine blk_alloc ?_ _)); exact BK769.out) hb)
                    have n2_ := Aside0.mk (blk_below (g := gb786) (o := .cells #[.int .i64 t781, .int .i64 t782, .int .i64 t783, .string t784] 55 (0, 0)) (by (with_reducible repeat (first | refine blk_drewN ?_ _ | refine blk_drew ?_ | refine blk_alloc ?_ _)); exact BK786.out) hb)
                    have n3_ := Aside0.mk (blk_below (g := gb792) (o := .cells #[.int .i64 t787, .int .i64 t788, .int .i64 t789, .string t790] 55 (0, 0)) (by (with_reducible repeat (first | refine blk_drewN ?_ _ | refine blk_drew ?_ | refine blk_alloc ?_ _)); exact BK792.out) hb)
                    have n4_ := Aside0.mk (below_step (by repeat (first | (with_reducible first | exact HB.out | apply below_alloc | apply pw_below_drewN | apply below_drew1 | refine below_set ?_ GE768.out | refine below_set ?_ GE769.out | refine below_set ?_ GE786.out | refine below_set ?_ GE792.out) | exact HB.out)) hb)
                    clear BK768
                    clear BK769
                    clear BK786
                    clear BK792
                    clear HB
                    have BK768 := n0_
                    have BK769 := n1_
                    have BK786 := n2_
                    have BK792 := n3_
                    have HB := n4_
                    clear n0_ n1_ n2_ n3_ n4_
                    (try clear hb)
                    (try clear hb2)
                    (try clear hk)
                    (try clear hi)
                    refine hK.out _ _ ⟨(blk_cell BK786.out 0).trans rfl, (blk_cell BK786.out 1).trans rfl, (blk_cell BK786.out 2).trans rfl, (blk_cell BK786.out 3).trans rfl, (blk_cell BK768.out 0).trans rfl, (blk_cell BK768.out 1).trans rfl, (blk_cell BK768.out 2).trans rfl, (blk_cell BK768.out 3).trans rfl, (blk_cell BK769.out 0).trans rfl, (blk_cell BK769.out 1).trans rfl, (blk_cell BK769.out 2).trans rfl, (blk_cell BK769.out 3).trans rfl⟩ (fun hHeld => ?_)
                    clear hK K
                    refine norm_ (a' := ?_) ?_ ?_
                    rotate_left
                    · show Act.put _ (some 76) _ = _
                      simp only [Act.put, List.setIfInBounds_toArray, List.set_cons_zero, List.set_cons_succ, i64_w, i32_w]
                      rfl
                    refine pure_ (i := 9) (N := some 77) (v := ?_) (a' := ?_) #[true, true, true, true, true, true, true, true, true, true, false, false, false, false, false, false, false, false, false, false, false, false, false, false, false, false] rfl rfl (any_of HT_.out (by kernel_rfl)) (fun _ _ _ h => h) (Or.inl ⟨by rfl, ?_⟩) ?_ ?_
                    rotate_left
                    · intro w'
                      go_simp
                      with_reducible rfl
                    rotate_left
                    · simp only [Act.put, List.setIfInBounds_toArray, List.set_cons_zero, List.set_cons_succ, i64_w, i32_w]
                      rfl
                    refine pure_ (i := 10) (N := some 78) (v := ?_) (a' := ?_) #[true, true, true, true, true, true, true, true, true, true, true, false, false, false, false, false, false, false, false, false, false, false, false, false, false, false] rfl rfl (any_of HT_.out (by kernel_rfl)) (fun _ _ _ h => h) (Or.inl ⟨by rfl, ?_⟩) ?_ ?_
                    rotate_left
                    · intro w'
                      go_simp
                      with_reducible rfl
                    rotate_left
                    · simp only [Act.put, List.setIfInBounds_toArray, List.set_cons_zero, List.set_cons_succ, i64_w, i32_w]
                      rfl
                    refine take_ (i := 11) (N := some 79) (v := ?_) (a' := ?_) #[true, true, true, true, true, true, true, true, true, true, true, true, false, false, false, false, false, false, false, false, false, false, false, false, false, false] rfl rfl (take_ofW HT_.out HW_.out (by kernel_rfl)) (fun _ _ _ h => h) (Or.inl ⟨by rfl, ?_⟩) hHeld ?_ ?_
                    rotate_left
                    · rintro w' ⟨s0, s1, s2, s3, s4, s5, s6, s7, s8, s9, s10, s11⟩
                      go_simp
                      with_reducible rfl
                    rotate_left
                    · simp only [Act.put, List.setIfInBounds_toArray, List.set_cons_zero, List.set_cons_succ, i64_w, i32_w]
                      rfl
                    refine one_ (i := 12) (N := some 80) #[true, true, true, true, true, true, true, true, true, true, true, true, true, false, false, false, false, false, false, false, false, false, false, false, false, false] rfl rfl (one_of HT_.out (by kernel_rfl)) (by decide) (fun K hK => ?_)
                    refine goes_ Tryz.func28 (by kernel_rfl) rfl #[.agg #[.int .i64 t775, .int .i64 t776, .int .i64 t777, .string t778]] (by rfl) rfl rfl (by (try simp only [List.map_toArray, List.map_cons, List.map_nil]); first | done | rfl | (simp only [List.length_drop, List.length_take]; rfl)) ?_
                    with_reducible refine (donatusref27_MayCmd.calls t775 t776 t777 t778 true _ A89.out).mono ?_
                    rintro e w100 ⟨rfl, hb⟩
                    refine ⟨_, rfl, ?_⟩
                    have n0_ := Aside0.mk (blk_below (g := gb768) (o := .cells #[.int .i64 t771, .int .i64 t772, .int .i64 t773, .string t774] 55 (0, 0)) (by (with_reducible repeat (first | refine blk_drewN ?_ _ | refine blk_drew ?_ | refine blk_alloc ?_ _)); exact BK768.out) hb)
                    have n1_ := Aside0.mk (blk_below (g := gb769) (o := .cells #[.int .i64 t775, .int .i64 t776, .int .i64 t777, .string t778] 55 (0, 0)) (by (with_reducible repeat (first | refine blk_drewN ?_ _ | refine blk_drew ?_ | refine blk_alloc ?_ _)); exact BK769.out) hb)
                    have n2_ := Aside0.mk (blk_below (g := gb786) (o := .cells #[.int .i64 t781, .int .i64 t782, .int .i64 t783, .string t784] 55 (0, 0)) (by (with_reducible repeat (first | refine blk_drewN ?_ _ | refine blk_drew ?_ | refine blk_alloc ?_ _)); exact BK786.out) hb)
                    have n3_ := Aside0.mk (blk_below (g := gb792) (o := .cells #[.int .i64 t787, .int .i64 t788, .int .i64 t789, .string t790] 55 (0, 0)) (by (with_reducible repeat (first | refine blk_drewN ?_ _ | refine blk_drew ?_ | refine blk_alloc ?_ _)); exact BK792.out) hb)
                    have n4_ := Aside0.mk (below_step (by repeat (first | (with_reducible first | exact HB.out | apply below_alloc | apply pw_below_drewN | apply below_drew1 | refine below_set ?_ GE768.out | refine below_set ?_ GE769.out | refine below_set ?_ GE786.out | refine below_set ?_ GE792.out) | exact HB.out)) hb)
                    clear BK768
                    clear BK769
                    clear BK786
                    clear BK792
                    clear HB
                    have BK768 := n0_
                    have BK769 := n1_
                    have BK786 := n2_
                    have BK792 := n3_
                    have HB := n4_
                    clear n0_ n1_ n2_ n3_ n4_
                    (try clear hb)
                    (try clear hb2)
                    (try clear hk)
                    (try clear hi)
                    refine hK.out _ _ ⟨(blk_cell BK786.out 0).trans rfl, (blk_cell BK786.out 1).trans rfl, (blk_cell BK786.out 2).trans rfl, (blk_cell BK786.out 3).trans rfl, (blk_cell BK768.out 0).trans rfl, (blk_cell BK768.out 1).trans rfl, (blk_cell BK768.out 2).trans rfl, (blk_cell BK768.out 3).trans rfl, (blk_cell BK769.out 0).trans rfl, (blk_cell BK769.out 1).trans rfl, (blk_cell BK769.out 2).trans rfl, (blk_cell BK769.out 3).trans rfl⟩ (fun hHeld => ?_)
                    clear hK K
                    refine norm_ (a' := ?_) ?_ ?_
                    rotate_left
                    · show Act.put _ (some 80) _ = _
                      simp only [Act.put, List.setIfInBounds_toArray, List.set_cons_zero, List.set_cons_succ, i64_w, i32_w]
                      rfl
                    refine pure_ (i := 13) (N := some 81) (v := ?_) (a' := ?_) #[true, true, true, true, true, true, true, true, true, true, true, true, true, true, false, false, false, false, false, false, false, false, false, false, false, false] rfl rfl (any_of HT_.out (by kernel_rfl)) (fun _ _ _ h => h) (Or.inl ⟨by rfl, ?_⟩) ?_ ?_
                    rotate_left
                    · intro w'
                      go_simp
                      with_reducible rfl
                    rotate_left
                    · simp only [Act.put, List.setIfInBounds_toArray, List.set_cons_zero, List.set_cons_succ, i64_w, i32_w]
                      rfl
                    refine pure_ (i := 14) (N := some 82) (v := ?_) (a' := ?_) #[true, true, true, true, true, true, true, true, true, true, true, true, true, true, true, false, false, false, false, false, false, false, false, false, false, false] rfl rfl (any_of HT_.out (by kernel_rfl)) (fun _ _ _ h => h) (Or.inl ⟨by rfl, ?_⟩) ?_ ?_
                    rotate_left
                    · intro w'
                      go_simp
                      with_reducible rfl
                    rotate_left
                    · simp only [Act.put, List.setIfInBounds_toArray, List.set_cons_zero, List.set_cons_succ, i64_w, i32_w]
                      rfl
                    refine pure_ (i := 17) (N := some 85) (v := ?_) (a' := ?_) #[true, true, true, true, true, true, true, true, true, true, true, true, true, true, true, false, false, true, false, false, false, false, false, false, false, false] rfl rfl (any_of HT_.out (by kernel_rfl)) (fun _ _ _ h => h) (Or.inl ⟨by rfl, ?_⟩) ?_ ?_
                    rotate_left
                    · intro w'
                      go_simp
                      with_reducible rfl
                    rotate_left
                    · simp only [Act.put, List.setIfInBounds_toArray, List.set_cons_zero, List.set_cons_succ, i64_w, i32_w]
                      rfl
                    refine take_ (i := 15) (N := some 83) (v := ?_) (a' := ?_) #[true, true, true, true, true, true, true, true, true, true, true, true, true, true, true, true, false, true, false, false, false, false, false, false, false, false] rfl rfl (take_ofW HT_.out HW_.out (by kernel_rfl)) (fun _ _ _ h => h) (Or.inl ⟨by rfl, ?_⟩) hHeld ?_ ?_
                    rotate_left
                    · rintro w' ⟨s0, s1, s2, s3, s4, s5, s6, s7, s8, s9, s10, s11⟩
                      go_simp
                      with_reducible rfl
                    rotate_left
                    · simp only [Act.put, List.setIfInBounds_toArray, List.set_cons_zero, List.set_cons_succ, i64_w, i32_w]
                      rfl
                    refine take_ (i := 19) (N := some 87) (v := ?_) (a' := ?_) #[true, true, true, true, true, true, true, true, true, true, true, true, true, true, true, true, false, true, false, true, false, false, false, false, false, false] rfl rfl (take_ofW HT_.out HW_.out (by kernel_rfl)) (fun _ _ _ h => h) (Or.inl ⟨by rfl, ?_⟩) hHeld ?_ ?_
                    rotate_left
                    · rintro w' ⟨s0, s1, s2, s3, s4, s5, s6, s7, s8, s9, s10, s11⟩
                      go_simp
                      with_reducible rfl
                    rotate_left
                    · simp only [Act.put, List.setIfInBounds_toArray, List.set_cons_zero, List.set_cons_succ, i64_w, i32_w]
                      rfl
                    refine take_ (i := 20) (N := some 88) (v := ?_) (a' := ?_) #[true, true, true, true, true, true, true, true, true, true, true, true, true, true, true, true, false, true, false, true, true, false, false, false, false, false] rfl rfl (take_ofW HT_.out HW_.out (by kernel_rfl)) (fun _ _ _ h => h) (Or.inl ⟨by rfl, ?_⟩) hHeld ?_ ?_
                    rotate_left
                    · rintro w' ⟨s0, s1, s2, s3, s4, s5, s6, s7, s8, s9, s10, s11⟩
                      go_simp
                      with_reducible rfl
                    rotate_left
                    · simp only [Act.put, List.setIfInBounds_toArray, List.set_cons_zero, List.set_cons_succ, i64_w, i32_w]
                      rfl
                    refine one_ (i := 16) (N := some 84) #[true, true, true, true, true, true, true, true, true, true, true, true, true, true, true, true, true, true, false, true, true, false, false, false, false, false] rfl rfl (one_of HT_.out (by kernel_rfl)) (by decide) (fun K hK => ?_)
                    refine goes_ Tryz.func25 (by kernel_rfl) rfl #[.agg #[.int .i64 t775, .int .i64 t776, .int .i64 t777, .string t778]] (by rfl) rfl rfl (by (try simp only [List.map_toArray, List.map_cons, List.map_nil]); first | done | rfl | (simp only [List.length_drop, List.length_take]; rfl)) ?_
                    with_reducible refine (reg_Encode.calls kj11 t775 t776 t777 t778 t801 _ A91.out).mono ?_
                    rintro e w101 ⟨rfl, hb⟩
                    refine ⟨_, rfl, ?_⟩
                    have n0_ := Aside0.mk (blk_below (g := gb768) (o := .cells #[.int .i64 t771, .int .i64 t772, .int .i64 t773, .string t774] 55 (0, 0)) (by (with_reducible repeat (first | refine blk_drewN ?_ _ | refine blk_drew ?_ | refine blk_alloc ?_ _)); exact BK768.out) hb)
                    have n1_ := Aside0.mk (blk_below (g := gb769) (o := .cells #[.int .i64 t775, .int .i64 t776, .int .i64 t777, .string t778] 55 (0, 0)) (by (with_reducible repeat (first | refine blk_drewN ?_ _ | refine blk_drew ?_ | refine blk_alloc ?_ _)); exact BK769.out) hb)
                    have n2_ := Aside0.mk (blk_below (g := gb786) (o := .cells #[.int .i64 t781, .int .i64 t782, .int .i64 t783, .string t784] 55 (0, 0)) (by (with_reducible repeat (first | refine blk_drewN ?_ _ | refine blk_drew ?_ | refine blk_alloc ?_ _)); exact BK786.out) hb)
                    have n3_ := Aside0.mk (blk_below (g := gb792) (o := .cells #[.int .i64 t787, .int .i64 t788, .int .i64 t789, .string t790] 55 (0, 0)) (by (with_reducible repeat (first | refine blk_drewN ?_ _ | refine blk_drew ?_ | refine blk_alloc ?_ _)); exact BK792.out) hb)
                    have n4_ := Aside0.mk (below_step (by repeat (first | (with_reducible first | exact HB.out | apply below_alloc | apply pw_below_drewN | apply below_drew1 | refine below_set ?_ GE768.out | refine below_set ?_ GE769.out | refine below_set ?_ GE786.out | refine below_set ?_ GE792.out) | exact HB.out)) hb)
                    clear BK768
                    clear BK769
                    clear BK786
                    clear BK792
                    clear HB
                    have BK768 := n0_
                    have BK769 := n1_
                    have BK786 := n2_
                    have BK792 := n3_
                    have HB := n4_
                    clear n0_ n1_ n2_ n3_ n4_
                    (try clear hb)
                    (try clear hb2)
                    (try clear hk)
                    (try clear hi)
                    refine hK.out _ _ ⟨(blk_cell BK786.out 0).trans rfl, (blk_cell BK786.out 1).trans rfl, (blk_cell BK786.out 2).trans rfl, (blk_cell BK786.out 3).trans rfl, (blk_cell BK768.out 0).trans rfl, (blk_cell BK768.out 1).trans rfl, (blk_cell BK768.out 2).trans rfl, (blk_cell BK768.out 3).trans rfl, (blk_cell BK769.out 0).trans rfl, (blk_cell BK769.out 1).trans rfl, (blk_cell BK769.out 2).trans rfl, (blk_cell BK769.out 3).trans rfl⟩ (fun hHeld => ?_)
                    clear hK K
                    refine norm_ (a' := ?_) ?_ ?_
                    rotate_left
                    · show Act.put _ (some 84) _ = _
                      simp only [Act.put, List.setIfInBounds_toArray, List.set_cons_zero, List.set_cons_succ, i64_w, i32_w]
                      rfl
                    refine pure_ (i := 18) (N := some 86) (v := ?_) (a' := ?_) #[true, true, true, true, true, true, true, true, true, true, true, true, true, true, true, true, true, true, true, true, true, false, false, false, false, false] rfl rfl (any_of HT_.out (by kernel_rfl)) (fun _ _ _ h => h) (Or.inl ⟨by rfl, ?_⟩) ?_ ?_
                    rotate_left
                    · intro w'
                      go_simp
                      with_reducible rfl
                    rotate_left
                    · simp only [Act.put, List.setIfInBounds_toArray, List.set_cons_zero, List.set_cons_succ, i64_w, i32_w]
                      rfl
                    refine one_ (i := 21) (N := some 89) #[true, true, true, true, true, true, true, true, true, true, true, true, true, true, true, true, true, true, true, true, true, true, false, false, false, false] rfl rfl (one_of HT_.out (by kernel_rfl)) (by decide) (fun K hK => ?_)
                    refine goes_ Tryz.func29 (by kernel_rfl) rfl #[.agg #[.int .i64 t771, .int .i64 t772, .int .i64 t773, .string t774], .agg #[.int .i64 t775, .int .i64 t776, .int .i64 t777, .string t778]] (by rfl) rfl rfl (by (try simp only [List.map_toArray, List.map_cons, List.map_nil]); first | done | rfl | (simp only [List.length_drop, List.length_take]; rfl)) ?_
                    with_reducible refine (donatusref27_EqCmd.calls t771 t772 t773 t774 t775 t776 t777 t778 t802 _ A92.out).mono ?_
                    rintro e w102 ⟨rfl, hb⟩
                    refine ⟨_, rfl, ?_⟩
                    have n0_ := Aside0.mk (blk_below (g := gb768) (o := .cells #[.int .i64 t771, .int .i64 t772, .int .i64 t773, .string t774] 55 (0, 0)) (by (with_reducible repeat (first | refine blk_drewN ?_ _ | refine blk_drew ?_ | refine blk_alloc ?_ _)); exact BK768.out) hb)
                    have n1_ := Aside0.mk (blk_below (g := gb769) (o := .cells #[.int .i64 t775, .int .i64 t776, .int .i64 t777, .string t778] 55 (0, 0)) (by (with_reducible repeat (first | refine blk_drewN ?_ _ | refine blk_drew ?_ | refine blk_alloc ?_ _)); exact BK769.out) hb)
                    have n2_ := Aside0.mk (blk_below (g := gb786) (o := .cells #[.int .i64 t781, .int .i64 t782, .int .i64 t783, .string t784] 55 (0, 0)) (by (with_reducible repeat (first | refine blk_drewN ?_ _ | refine blk_drew ?_ | refine blk_alloc ?_ _)); exact BK786.out) hb)
                    have n3_ := Aside0.mk (blk_below (g := gb792) (o := .cells #[.int .i64 t787, .int .i64 t788, .int .i64 t789, .string t790] 55 (0, 0)) (by (with_reducible repeat (first | refine blk_drewN ?_ _ | refine blk_drew ?_ | refine blk_alloc ?_ _)); exact BK792.out) hb)
                    have n4_ := Aside0.mk (below_step (by repeat (first | (with_reducible first | exact HB.out | apply below_alloc | apply pw_below_drewN | apply below_drew1 | refine below_set ?_ GE768.out | refine below_set ?_ GE769.out | refine below_set ?_ GE786.out | refine below_set ?_ GE792.out) | exact HB.out)) hb)
                    clear BK768
                    clear BK769
                    clear BK786
                    clear BK792
                    clear HB
                    have BK768 := n0_
                    have BK769 := n1_
                    have BK786 := n2_
                    have BK792 := n3_
                    have HB := n4_
                    clear n0_ n1_ n2_ n3_ n4_
                    (try clear hb)
                    (try clear hb2)
                    (try clear hk)
                    (try clear hi)
                    refine hK.out _ _ ⟨(blk_cell BK786.out 0).trans rfl, (blk_cell BK786.out 1).trans rfl, (blk_cell BK786.out 2).trans rfl, (blk_cell BK786.out 3).trans rfl, (blk_cell BK768.out 0).trans rfl, (blk_cell BK768.out 1).trans rfl, (blk_cell BK768.out 2).trans rfl, (blk_cell BK768.out 3).trans rfl, (blk_cell BK769.out 0).trans rfl, (blk_cell BK769.out 1).trans rfl, (blk_cell BK769.out 2).trans rfl, (blk_cell BK769.out 3).trans rfl⟩ (fun hHeld => ?_)
                    clear hK K
                    refine norm_ (a' := ?_) ?_ ?_
                    rotate_left
                    · show Act.put _ (some 89) _ = _
                      simp only [Act.put, List.setIfInBounds_toArray, List.set_cons_zero, List.set_cons_succ, i64_w, i32_w]
                      rfl
                    refine pure_ (i := 22) (N := some 90) (v := ?_) (a' := ?_) #[true, true, true, true, true, true, true, true, true, true, true, true, true, true, true, true, true, true, true, true, true, true, true, false, false, false] rfl rfl (any_of HT_.out (by kernel_rfl)) (fun _ _ _ h => h) (Or.inl ⟨by rfl, ?_⟩) ?_ ?_
                    rotate_left
                    · intro w'
                      go_simp
                      with_reducible rfl
                    rotate_left
                    · simp only [Act.put, List.setIfInBounds_toArray, List.set_cons_zero, List.set_cons_succ, i64_w, i32_w]
                      rfl
                    refine pure_ (i := 23) (N := some 91) (v := ?_) (a' := ?_) #[true, true, true, true, true, true, true, true, true, true, true, true, true, true, true, true, true, true, true, true, true, true, true, true, false, false] rfl rfl (any_of HT_.out (by kernel_rfl)) (fun _ _ _ h => h) (Or.inl ⟨by rfl, ?_⟩) ?_ ?_
                    rotate_left
                    · intro w'
                      go_simp
                      with_reducible rfl
                    rotate_left
                    · simp only [Act.put, List.setIfInBounds_toArray, List.set_cons_zero, List.set_cons_succ, i64_w, i32_w]
                      rfl
                    refine pure_ (i := 24) (N := some 92) (v := ?_) (a' := ?_) #[true, true, true, true, true, true, true, true, true, true, true, true, true, true, true, true, true, true, true, true, true, true, true, true, true, false] rfl rfl (any_of HT_.out (by kernel_rfl)) (fun _ _ _ h => h) (Or.inl ⟨by rfl, ?_⟩) ?_ ?_
                    rotate_left
                    · intro w'
                      go_simp
                      with_reducible rfl
                    rotate_left
                    · simp only [Act.put, List.setIfInBounds_toArray, List.set_cons_zero, List.set_cons_succ, i64_w, i32_w]
                      rfl
                    refine pure_ (i := 25) (N := some 6) (v := ?_) (a' := ?_) #[true, true, true, true, true, true, true, true, true, true, true, true, true, true, true, true, true, true, true, true, true, true, true, true, true, true] rfl rfl (any_of HT_.out (by kernel_rfl)) (fun _ _ _ h => h) (Or.inl ⟨by rfl, ?_⟩) ?_ ?_
                    rotate_left
                    · intro w'
                      go_simp
                      with_reducible rfl
                    rotate_left
                    · simp only [Act.put, List.setIfInBounds_toArray, List.set_cons_zero, List.set_cons_succ, i64_w, i32_w]
                      rfl
                    refine done_ (done_of HT_.out (by kernel_rfl)) ?_
                    try go_wp2
                    go_ret
                    exact ⟨by first | rfl | (simp [errW_none, errW_some] <;> rfl) | (simp [*, errW_none, errW_some] <;> rfl), by repeat (first | (with_reducible first | exact HB.out | apply below_alloc | apply pw_below_drewN | apply below_drew1 | refine below_set ?_ GE768.out | refine below_set ?_ GE769.out | refine below_set ?_ GE786.out | refine below_set ?_ GE792.out) | exact HB.out)⟩
                  · replace c90 := Bool.eq_false_iff.mpr c90
                    subst c90
                    have H1 : (some true) = some r := by rw [if_neg (show ¬ (false = true) by decide)] at H; exact H
                    clear H
                    have H := H1
                    clear H1
                    obtain rfl := Option.some.inj H
                    have hnb103 := NB768_769.out
                    have hnc103 := NB769_768.out
                    have hnb104 := NB768_786.out
                    have hnc104 := NB786_768.out
                    have hnb105 := NB768_792.out
                    have hnc105 := NB792_768.out
                    have hcz106_0 : wc.cell? ⟨gb768, 0, none⟩ = some (.int .i64 t771) := (blk_cell BK768.out 0).trans rfl
                    have hcz106_1 : wc.cell? ⟨gb768, 1, none⟩ = some (.int .i64 t772) := (blk_cell BK768.out 1).trans rfl
                    have hcz106_2 : wc.cell? ⟨gb768, 2, none⟩ = some (.int .i64 t773) := (blk_cell BK768.out 2).trans rfl
                    have hcz106_3 : wc.cell? ⟨gb768, 3, none⟩ = some (.string t774) := (blk_cell BK768.out 3).trans rfl
                    have hfz106_0 := blk_frozen BK768.out 0
                    have hfz106_1 := blk_frozen BK768.out 1
                    have hfz106_2 := blk_frozen BK768.out 2
                    have hfz106_3 := blk_frozen BK768.out 3
                    try go_wp2_with (first | ((with_reducible refine gate_callee (f := 28) rfl ?_); refine goesL_ (some 64) rfl rfl Tryz.func28 (by kernel_rfl) rfl #[.agg #[.int .i64 t771, .int .i64 t772, .int .i64 t773, .string t774]] rfl (by (try simp only [List.map_toArray, List.map_cons, List.map_nil]); first | done | rfl | (simp only [List.length_drop, List.length_take]; rfl)) ?_; (with_reducible refine (donatusref27_MayCmd.calls t771 t772 t773 t774 true _ A77.out).mono ?_); rintro e w107 ⟨rfl, hb⟩; refine ⟨_, rfl, ?_⟩; have n0_ := Aside0.mk (blk_below (g := gb768) (o := .cells #[.int .i64 t771, .int .i64 t772, .int .i64 t773, .string t774] 55 (0, 0)) (by (with_reducible repeat (first | refine blk_drewN ?_ _ | refine blk_drew ?_ | refine blk_alloc ?_ _)); exact BK768.out) hb); have n1_ := Aside0.mk (blk_below (g := gb769) (o := .cells #[.int .i64 t775, .int .i64 t776, .int .i64 t777, .string t778] 55 (0, 0)) (by (with_reducible repeat (first | refine blk_drewN ?_ _ | refine blk_drew ?_ | refine blk_alloc ?_ _)); exact BK769.out) hb); have n2_ := Aside0.mk (blk_below (g := gb786) (o := .cells #[.int .i64 t781, .int .i64 t782, .int .i64 t783, .string t784] 55 (0, 0)) (by (with_reducible repeat (first | refine blk_drewN ?_ _ | refine blk_drew ?_ | refine blk_alloc ?_ _)); exact BK786.out) hb); have n3_ := Aside0.mk (blk_below (g := gb792) (o := .cells #[.int .i64 t787, .int .i64 t788, .int .i64 t789, .string t790] 55 (0, 0)) (by (with_reducible repeat (first | refine blk_drewN ?_ _ | refine blk_drew ?_ | refine blk_alloc ?_ _)); exact BK792.out) hb); have n4_ := Aside0.mk (below_step (by repeat (first | (with_reducible first | exact HB.out | apply below_alloc | apply pw_below_drewN | apply below_drew1 | refine below_set ?_ GE768.out | refine below_set ?_ GE769.out | refine below_set ?_ GE786.out | refine below_set ?_ GE792.out) | exact HB.out)) hb); clear BK768; clear BK769; clear BK786; clear BK792; clear HB; have BK768 := n0_; have BK769 := n1_; have BK786 := n2_; have BK792 := n3_; have HB := n4_; clear n0_ n1_ n2_ n3_ n4_; (try clear hb); (try clear hb2); (try clear hk); (try clear hi)))
                    have n0_ := Aside0.mk (blk_drew BK768.out)
                    have n1_ := Aside0.mk (blk_drew BK769.out)
                    have n2_ := Aside0.mk (blk_drew BK786.out)
                    have n3_ := Aside0.mk (blk_drew BK792.out)
                    have n4_ := Aside0.mk (below_drew1 HB.out)
                    clear BK768
                    clear BK769
                    clear BK786
                    clear BK792
                    clear HB
                    have BK768 := n0_
                    have BK769 := n1_
                    have BK786 := n2_
                    have BK792 := n3_
                    have HB := n4_
                    clear n0_ n1_ n2_ n3_ n4_
                    refine start_ (n := 26) (S := fun w' => w'.cell? ⟨gb786, 0, none⟩ = some (.int .i64 t781) ∧ w'.cell? ⟨gb786, 1, none⟩ = some (.int .i64 t782) ∧ w'.cell? ⟨gb786, 2, none⟩ = some (.int .i64 t783) ∧ w'.cell? ⟨gb786, 3, none⟩ = some (.string t784) ∧ w'.cell? ⟨gb768, 0, none⟩ = some (.int .i64 t771) ∧ w'.cell? ⟨gb768, 1, none⟩ = some (.int .i64 t772) ∧ w'.cell? ⟨gb768, 2, none⟩ = some (.int .i64 t773) ∧ w'.cell? ⟨gb768, 3, none⟩ = some (.string t774) ∧ w'.cell? ⟨gb769, 0, none⟩ = some (.int .i64 t775) ∧ w'.cell? ⟨gb769, 1, none⟩ = some (.int .i64 t776) ∧ w'.cell? ⟨gb769, 2, none⟩ = some (.int .i64 t777) ∧ w'.cell? ⟨gb769, 3, none⟩ = some (.string t778)) (ds := []) #[false, false, false, false, false, false, false, false, false, false, false, false, false, false, false, false, false, false, false, false, false, false, false, false, false, false] (by kernel_rfl) rfl rfl ⟨(blk_cell BK786.out 0).trans rfl, (blk_cell BK786.out 1).trans rfl, (blk_cell BK786.out 2).trans rfl, (blk_cell BK786.out 3).trans rfl, (blk_cell BK768.out 0).trans rfl, (blk_cell BK768.out 1).trans rfl, (blk_cell BK768.out 2).trans rfl, (blk_cell BK768.out 3).trans rfl, (blk_cell BK769.out 0).trans rfl, (blk_cell BK769.out 1).trans rfl, (blk_cell BK769.out 2).trans rfl, (blk_cell BK769.out 3).trans rfl⟩ (fun hHeld => ?_); refine with_tabW donatuslaw27_RegCmd.tab12 donatuslaw27_RegCmd.bits12 (fun HT_ HW_ => ?_)
                    generalize w107.drew = w108 at BK768 BK769 BK786 BK792 HB hHeld ⊢
                    refine pure_ (i := 0) (N := some 68) (v := ?_) (a' := ?_) #[true, false, false, false, false, false, false, false, false, false, false, false, false, false, false, false, false, false, false, false, false, false, false, false, false, false] rfl rfl (any_of HT_.out (by kernel_rfl)) (fun _ _ _ h => h) (Or.inl ⟨by rfl, ?_⟩) ?_ ?_
                    rotate_left
                    · intro w'
                      go_simp
                      with_reducible rfl
                    rotate_left
                    · simp only [Act.put, List.setIfInBounds_toArray, List.set_cons_zero, List.set_cons_succ, i64_w, i32_w]
                      rfl
                    refine pure_ (i := 1) (N := some 69) (v := ?_) (a' := ?_) #[true, true, false, false, false, false, false, false, false, false, false, false, false, false, false, false, false, false, false, false, false, false, false, false, false, false] rfl rfl (any_of HT_.out (by kernel_rfl)) (fun _ _ _ h => h) (Or.inl ⟨by rfl, ?_⟩) ?_ ?_
                    rotate_left
                    · intro w'
                      go_simp
                      with_reducible rfl
                    rotate_left
                    · simp only [Act.put, List.setIfInBounds_toArray, List.set_cons_zero, List.set_cons_succ, i64_w, i32_w]
                      rfl
                    refine pure_ (i := 2) (N := some 70) (v := ?_) (a' := ?_) #[true, true, true, false, false, false, false, false, false, false, false, false, false, false, false, false, false, false, false, false, false, false, false, false, false, false] rfl rfl (any_of HT_.out (by kernel_rfl)) (fun _ _ _ h => h) (Or.inl ⟨by rfl, ?_⟩) ?_ ?_
                    rotate_left
                    · intro w'
                      go_simp
                      with_reducible rfl
                    rotate_left
                    · simp only [Act.put, List.setIfInBounds_toArray, List.set_cons_zero, List.set_cons_succ, i64_w, i32_w]
                      rfl
                    refine pure_ (i := 3) (N := some 71) (v := ?_) (a' := ?_) #[true, true, true, true, false, false, false, false, false, false, false, false, false, false, false, false, false, false, false, false, false, false, false, false, false, false] rfl rfl (any_of HT_.out (by kernel_rfl)) (fun _ _ _ h => h) (Or.inl ⟨by rfl, ?_⟩) ?_ ?_
                    rotate_left
                    · intro w'
                      go_simp
                      with_reducible rfl
                    rotate_left
                    · simp only [Act.put, List.setIfInBounds_toArray, List.set_cons_zero, List.set_cons_succ, i64_w, i32_w]
                      rfl
                    refine pure_ (i := 4) (N := some 72) (v := ?_) (a' := ?_) #[true, true, true, true, true, false, false, false, false, false, false, false, false, false, false, false, false, false, false, false, false, false, false, false, false, false] rfl rfl (any_of HT_.out (by kernel_rfl)) (fun _ _ _ h => h) (Or.inl ⟨by rfl, ?_⟩) ?_ ?_
                    rotate_left
                    · intro w'
                      go_simp
                      with_reducible rfl
                    rotate_left
                    · simp only [Act.put, List.setIfInBounds_toArray, List.set_cons_zero, List.set_cons_succ, i64_w, i32_w]
                      rfl
                    refine pure_ (i := 5) (N := some 73) (v := ?_) (a' := ?_) #[true, true, true, true, true, true, false, false, false, false, false, false, false, false, false, false, false, false, false, false, false, false, false, false, false, false] rfl rfl (any_of HT_.out (by kernel_rfl)) (fun _ _ _ h => h) (Or.inl ⟨by rfl, ?_⟩) ?_ ?_
                    rotate_left
                    · intro w'
                      go_simp
                      with_reducible rfl
                    rotate_left
                    · simp only [Act.put, List.setIfInBounds_toArray, List.set_cons_zero, List.set_cons_succ, i64_w, i32_w]
                      rfl
                    refine take_ (i := 6) (N := some 74) (v := ?_) (a' := ?_) #[true, true, true, true, true, true, true, false, false, false, false, false, false, false, false, false, false, false, false, false, false, false, false, false, false, false] rfl rfl (take_ofW HT_.out HW_.out (by kernel_rfl)) (fun _ _ _ h => h) (Or.inl ⟨by rfl, ?_⟩) hHeld ?_ ?_
                    rotate_left
                    · rintro w' ⟨s0, s1, s2, s3, s4, s5, s6, s7, s8, s9, s10, s11⟩
                      go_simp
                      with_reducible rfl
                    rotate_left
                    · simp only [Act.put, List.setIfInBounds_toArray, List.set_cons_zero, List.set_cons_succ, i64_w, i32_w]
                      rfl
                    refine take_ (i := 7) (N := some 75) (v := ?_) (a' := ?_) #[true, true, true, true, true, true, true, true, false, false, false, false, false, false, false, false, false, false, false, false, false, false, false, false, false, false] rfl rfl (take_ofW HT_.out HW_.out (by kernel_rfl)) (fun _ _ _ h => h) (Or.inl ⟨by rfl, ?_⟩) hHeld ?_ ?_
                    rotate_left
                    · rintro w' ⟨s0, s1, s2, s3, s4, s5, s6, s7, s8, s9, s10, s11⟩
                      go_simp
                      with_reducible rfl
                    rotate_left
                    · simp only [Act.put, List.setIfInBounds_toArray, List.set_cons_zero, List.set_cons_succ, i64_w, i32_w]
                      rfl
                    refine one_ (i := 8) (N := some 76) #[true, true, true, true, true, true, true, true, true, false, false, false, false, false, false, false, false, false, false, false, false, false, false, false, false, false] rfl rfl (one_of HT_.out (by kernel_rfl)) (by decide) (fun K hK => ?_)
                    refine goes_ Tryz.func29 (by kernel_rfl) rfl #[.agg #[.int .i64 t781, .int .i64 t782, .int .i64 t783, .string t784], .agg #[.int .i64 t771, .int .i64 t772, .int .i64 t773, .string t774]] (by rfl) rfl rfl (by (try simp only [List.map_toArray, List.map_cons, List.map_nil]); first | done | rfl | (simp only [List.length_drop, List.length_take]; rfl)) ?_
                    with_reducible refine (donatusref27_EqCmd.calls t781 t782 t783 t784 t771 t772 t773 t774 true _ A87.out).mono ?_
                    rintro e w109 ⟨rfl, hb⟩
                    refine ⟨_, rfl, ?_⟩
                    have n0_ := Aside0.mk (blk_below (g := gb768) (o := .cells #[.int .i64 t771, .int .i64 t772, .int .i64 t773, .string t774] 55 (0, 0)) (by (with_reducible repeat (first | refine blk_drewN ?_ _ | refine blk_drew ?_ | refine blk_alloc ?_ _)); exact BK768.out) hb)
                    have n1_ := Aside0.mk (blk_below (g := gb769) (o := .cells #[.int .i64 t775, .int .i64 t776, .int .i64 t777, .string t778] 55 (0, 0)) (by (with_reducible repeat (first | refine blk_drewN ?_ _ | refine blk_drew ?_ | refine blk_alloc ?_ _)); exact BK769.out) hb)
                    have n2_ := Aside0.mk (blk_below (g := gb786) (o := .cells #[.int .i64 t781, .int .i64 t782, .int .i64 t783, .string t784] 55 (0, 0)) (by (with_reducible repeat (first | refine blk_drewN ?_ _ | refine blk_drew ?_ | refine blk_alloc ?_ _)); exact BK786.out) hb)
                    have n3_ := Aside0.mk (blk_below (g := gb792) (o := .cells #[.int .i64 t787, .int .i64 t788, .int .i64 t789, .string t790] 55 (0, 0)) (by (with_reducible repeat (first | refine blk_drewN ?_ _ | refine blk_drew ?_ | refine blk_alloc ?_ _)); exact BK792.out) hb)
                    have n4_ := Aside0.mk (below_step (by repeat (first | (with_reducible first | exact HB.out | apply below_alloc | apply pw_below_drewN | apply below_drew1 | refine below_set ?_ GE768.out | refine below_set ?_ GE769.out | refine below_set ?_ GE786.out | refine below_set ?_ GE792.out) | exact HB.out)) hb)
                    clear BK768
                    clear BK769
                    clear BK786
                    clear BK792
                    clear HB
                    have BK768 := n0_
                    have BK769 := n1_
                    have BK786 := n2_
                    have BK792 := n3_
                    have HB := n4_
                    clear n0_ n1_ n2_ n3_ n4_
                    (try clear hb)
                    (try clear hb2)
                    (try clear hk)
                    (try clear hi)
                    refine hK.out _ _ ⟨(blk_cell BK786.out 0).trans rfl, (blk_cell BK786.out 1).trans rfl, (blk_cell BK786.out 2).trans rfl, (blk_cell BK786.out 3).trans rfl, (blk_cell BK768.out 0).trans rfl, (blk_cell BK768.out 1).trans rfl, (blk_cell BK768.out 2).trans rfl, (blk_cell BK768.out 3).trans rfl, (blk_cell BK769.out 0).trans rfl, (blk_cell BK769.out 1).trans rfl, (blk_cell BK769.out 2).trans rfl, (blk_cell BK769.out 3).trans rfl⟩ (fun hHeld => ?_)
                    clear hK K
                    refine norm_ (a' := ?_) ?_ ?_
                    rotate_left
                    · show Act.put _ (some 76) _ = _
                      simp only [Act.put, List.setIfInBounds_toArray, List.set_cons_zero, List.set_cons_succ, i64_w, i32_w]
                      rfl
                    refine pure_ (i := 9) (N := some 77) (v := ?_) (a' := ?_) #[true, true, true, true, true, true, true, true, true, true, false, false, false, false, false, false, false, false, false, false, false, false, false, false, false, false] rfl rfl (any_of HT_.out (by kernel_rfl)) (fun _ _ _ h => h) (Or.inl ⟨by rfl, ?_⟩) ?_ ?_
                    rotate_left
                    · intro w'
                      go_simp
                      with_reducible rfl
                    rotate_left
                    · simp only [Act.put, List.setIfInBounds_toArray, List.set_cons_zero, List.set_cons_succ, i64_w, i32_w]
                      rfl
                    refine pure_ (i := 10) (N := some 78) (v := ?_) (a' := ?_) #[true, true, true, true, true, true, true, true, true, true, true, false, false, false, false, false, false, false, false, false, false, false, false, false, false, false] rfl rfl (any_of HT_.out (by kernel_rfl)) (fun _ _ _ h => h) (Or.inl ⟨by rfl, ?_⟩) ?_ ?_
                    rotate_left
                    · intro w'
                      go_simp
                      with_reducible rfl
                    rotate_left
                    · simp only [Act.put, List.setIfInBounds_toArray, List.set_cons_zero, List.set_cons_succ, i64_w, i32_w]
                      rfl
                    refine take_ (i := 11) (N := some 79) (v := ?_) (a' := ?_) #[true, true, true, true, true, true, true, true, true, true, true, true, false, false, false, false, false, false, false, false, false, false, false, false, false, false] rfl rfl (take_ofW HT_.out HW_.out (by kernel_rfl)) (fun _ _ _ h => h) (Or.inl ⟨by rfl, ?_⟩) hHeld ?_ ?_
                    rotate_left
                    · rintro w' ⟨s0, s1, s2, s3, s4, s5, s6, s7, s8, s9, s10, s11⟩
                      go_simp
                      with_reducible rfl
                    rotate_left
                    · simp only [Act.put, List.setIfInBounds_toArray, List.set_cons_zero, List.set_cons_succ, i64_w, i32_w]
                      rfl
                    refine one_ (i := 12) (N := some 80) #[true, true, true, true, true, true, true, true, true, true, true, true, true, false, false, false, false, false, false, false, false, false, false, false, false, false] rfl rfl (one_of HT_.out (by kernel_rfl)) (by decide) (fun K hK => ?_)
                    refine goes_ Tryz.func28 (by kernel_rfl) rfl #[.agg #[.int .i64 t775, .int .i64 t776, .int .i64 t777, .string t778]] (by rfl) rfl rfl (by (try simp only [List.map_toArray, List.map_cons, List.map_nil]); first | done | rfl | (simp only [List.length_drop, List.length_take]; rfl)) ?_
                    with_reducible refine (donatusref27_MayCmd.calls t775 t776 t777 t778 false _ A89.out).mono ?_
                    rintro e w110 ⟨rfl, hb⟩
                    refine ⟨_, rfl, ?_⟩
                    have n0_ := Aside0.mk (blk_below (g := gb768) (o := .cells #[.int .i64 t771, .int .i64 t772, .int .i64 t773, .string t774] 55 (0, 0)) (by (with_reducible repeat (first | refine blk_drewN ?_ _ | refine blk_drew ?_ | refine blk_alloc ?_ _)); exact BK768.out) hb)
                    have n1_ := Aside0.mk (blk_below (g := gb769) (o := .cells #[.int .i64 t775, .int .i64 t776, .int .i64 t777, .string t778] 55 (0, 0)) (by (with_reducible repeat (first | refine blk_drewN ?_ _ | refine blk_drew ?_ | refine blk_alloc ?_ _)); exact BK769.out) hb)
                    have n2_ := Aside0.mk (blk_below (g := gb786) (o := .cells #[.int .i64 t781, .int .i64 t782, .int .i64 t783, .string t784] 55 (0, 0)) (by (with_reducible repeat (first | refine blk_drewN ?_ _ | refine blk_drew ?_ | refine blk_alloc ?_ _)); exact BK786.out) hb)
                    have n3_ := Aside0.mk (blk_below (g := gb792) (o := .cells #[.int .i64 t787, .int .i64 t788, .int .i64 t789, .string t790] 55 (0, 0)) (by (with_reducible repeat (first | refine blk_drewN ?_ _ | refine blk_drew ?_ | refine blk_alloc ?_ _)); exact BK792.out) hb)
                    have n4_ := Aside0.mk (below_step (by repeat (first | (with_reducible first | exact HB.out | apply below_alloc | apply pw_below_drewN | apply below_drew1 | refine below_set ?_ GE768.out | refine below_set ?_ GE769.out | refine below_set ?_ GE786.out | refine below_set ?_ GE792.out) | exact HB.out)) hb)
                    clear BK768
                    clear BK769
                    clear BK786
                    clear BK792
                    clear HB
                    have BK768 := n0_
                    have BK769 := n1_
                    have BK786 := n2_
                    have BK792 := n3_
                    have HB := n4_
                    clear n0_ n1_ n2_ n3_ n4_
                    (try clear hb)
                    (try clear hb2)
                    (try clear hk)
                    (try clear hi)
                    refine hK.out _ _ ⟨(blk_cell BK786.out 0).trans rfl, (blk_cell BK786.out 1).trans rfl, (blk_cell BK786.out 2).trans rfl, (blk_cell BK786.out 3).trans rfl, (blk_cell BK768.out 0).trans rfl, (blk_cell BK768.out 1).trans rfl, (blk_cell BK768.out 2).trans rfl, (blk_cell BK768.out 3).trans rfl, (blk_cell BK769.out 0).trans rfl, (blk_cell BK769.out 1).trans rfl, (blk_cell BK769.out 2).trans rfl, (blk_cell BK769.out 3).trans rfl⟩ (fun hHeld => ?_)
                    clear hK K
                    refine norm_ (a' := ?_) ?_ ?_
                    rotate_left
                    · show Act.put _ (some 80) _ = _
                      simp only [Act.put, List.setIfInBounds_toArray, List.set_cons_zero, List.set_cons_succ, i64_w, i32_w]
                      rfl
                    refine pure_ (i := 13) (N := some 81) (v := ?_) (a' := ?_) #[true, true, true, true, true, true, true, true, true, true, true, true, true, true, false, false, false, false, false, false, false, false, false, false, false, false] rfl rfl (any_of HT_.out (by kernel_rfl)) (fun _ _ _ h => h) (Or.inl ⟨by rfl, ?_⟩) ?_ ?_
                    rotate_left
                    · intro w'
                      go_simp
                      with_reducible rfl
                    rotate_left
                    · simp only [Act.put, List.setIfInBounds_toArray, List.set_cons_zero, List.set_cons_succ, i64_w, i32_w]
                      rfl
                    refine pure_ (i := 14) (N := some 82) (v := ?_) (a' := ?_) #[true, true, true, true, true, true, true, true, true, true, true, true, true, true, true, false, false, false, false, false, false, false, false, false, false, false] rfl rfl (any_of HT_.out (by kernel_rfl)) (fun _ _ _ h => h) (Or.inl ⟨by rfl, ?_⟩) ?_ ?_
                    rotate_left
                    · intro w'
                      go_simp
                      with_reducible rfl
                    rotate_left
                    · simp only [Act.put, List.setIfInBounds_toArray, List.set_cons_zero, List.set_cons_succ, i64_w, i32_w]
                      rfl
                    refine pure_ (i := 15) (N := some 83) (v := undef) (a' := ?_) #[true, true, true, true, true, true, true, true, true, true, true, true, true, true, true, true, false, false, false, false, false, false, false, false, false, false] rfl rfl (any_of HT_.out (by kernel_rfl)) (fun _ _ _ h => h) (Or.inr ⟨by rfl, rfl⟩) ?_ ?_
                    rotate_left
                    · simp only [Act.put, List.setIfInBounds_toArray, List.set_cons_zero, List.set_cons_succ, i64_w, i32_w]
                      rfl
                    refine pure_ (i := 16) (N := some 84) (v := undef) (a' := ?_) #[true, true, true, true, true, true, true, true, true, true, true, true, true, true, true, true, true, false, false, false, false, false, false, false, false, false] rfl rfl (any_of HT_.out (by kernel_rfl)) (fun _ _ _ h => h) (Or.inr ⟨by rfl, rfl⟩) ?_ ?_
                    rotate_left
                    · simp only [Act.put, List.setIfInBounds_toArray, List.set_cons_zero, List.set_cons_succ, i64_w, i32_w]
                      rfl
                    refine pure_ (i := 17) (N := some 85) (v := undef) (a' := ?_) #[true, true, true, true, true, true, true, true, true, true, true, true, true, true, true, true, true, true, false, false, false, false, false, false, false, false] rfl rfl (any_of HT_.out (by kernel_rfl)) (fun _ _ _ h => h) (Or.inr ⟨by rfl, rfl⟩) ?_ ?_
                    rotate_left
                    · simp only [Act.put, List.setIfInBounds_toArray, List.set_cons_zero, List.set_cons_succ, i64_w, i32_w]
                      rfl
                    refine pure_ (i := 18) (N := some 86) (v := undef) (a' := ?_) #[true, true, true, true, true, true, true, true, true, true, true, true, true, true, true, true, true, true, true, false, false, false, false, false, false, false] rfl rfl (any_of HT_.out (by kernel_rfl)) (fun _ _ _ h => h) (Or.inr ⟨by rfl, rfl⟩) ?_ ?_
                    rotate_left
                    · simp only [Act.put, List.setIfInBounds_toArray, List.set_cons_zero, List.set_cons_succ, i64_w, i32_w]
                      rfl
                    refine pure_ (i := 19) (N := some 87) (v := undef) (a' := ?_) #[true, true, true, true, true, true, true, true, true, true, true, true, true, true, true, true, true, true, true, true, false, false, false, false, false, false] rfl rfl (any_of HT_.out (by kernel_rfl)) (fun _ _ _ h => h) (Or.inr ⟨by rfl, rfl⟩) ?_ ?_
                    rotate_left
                    · simp only [Act.put, List.setIfInBounds_toArray, List.set_cons_zero, List.set_cons_succ, i64_w, i32_w]
                      rfl
                    refine pure_ (i := 20) (N := some 88) (v := undef) (a' := ?_) #[true, true, true, true, true, true, true, true, true, true, true, true, true, true, true, true, true, true, true, true, true, false, false, false, false, false] rfl rfl (any_of HT_.out (by kernel_rfl)) (fun _ _ _ h => h) (Or.inr ⟨by rfl, rfl⟩) ?_ ?_
                    rotate_left
                    · simp only [Act.put, List.setIfInBounds_toArray, List.set_cons_zero, List.set_cons_succ, i64_w, i32_w]
                      rfl
                    refine pure_ (i := 21) (N := some 89) (v := undef) (a' := ?_) #[true, true, true, true, true, true, true, true, true, true, true, true, true, true, true, true, true, true, true, true, true, true, false, false, false, false] rfl rfl (any_of HT_.out (by kernel_rfl)) (fun _ _ _ h => h) (Or.inr ⟨by rfl, rfl⟩) ?_ ?_
                    rotate_left
                    · simp only [Act.put, List.setIfInBounds_toArray, List.set_cons_zero, List.set_cons_succ, i64_w, i32_w]
                      rfl
                    refine pure_ (i := 22) (N := some 90) (v := undef) (a' := ?_) #[true, true, true, true, true, true, true, true, true, true, true, true, true, true, true, true, true, true, true, true, true, true, true, false, false, false] rfl rfl (any_of HT_.out (by kernel_rfl)) (fun _ _ _ h => h) (Or.inr ⟨by rfl, rfl⟩) ?_ ?_
                    rotate_left
                    · simp only [Act.put, List.setIfInBounds_toArray, List.set_cons_zero, List.set_cons_succ, i64_w, i32_w]
                      rfl
                    refine pure_ (i := 23) (N := some 91) (v := ?_) (a' := ?_) #[true, true, true, true, true, true, true, true, true, true, true, true, true, true, true, true, true, true, true, true, true, true, true, true, false, false] rfl rfl (any_of HT_.out (by kernel_rfl)) (fun _ _ _ h => h) (Or.inl ⟨by rfl, ?_⟩) ?_ ?_
                    rotate_left
                    · intro w'
                      go_simp
                      with_reducible rfl
                    rotate_left
                    · simp only [Act.put, List.setIfInBounds_toArray, List.set_cons_zero, List.set_cons_succ, i64_w, i32_w]
                      rfl
                    refine pure_ (i := 24) (N := some 92) (v := ?_) (a' := ?_) #[true, true, true, true, true, true, true, true, true, true, true, true, true, true, true, true, true, true, true, true, true, true, true, true, true, false] rfl rfl (any_of HT_.out (by kernel_rfl)) (fun _ _ _ h => h) (Or.inl ⟨by rfl, ?_⟩) ?_ ?_
                    rotate_left
                    · intro w'
                      go_simp
                      with_reducible rfl
                    rotate_left
                    · simp only [Act.put, List.setIfInBounds_toArray, List.set_cons_zero, List.set_cons_succ, i64_w, i32_w]
                      rfl
                    refine pure_ (i := 25) (N := some 6) (v := ?_) (a' := ?_) #[true, true, true, true, true, true, true, true, true, true, true, true, true, true, true, true, true, true, true, true, true, true, true, true, true, true] rfl rfl (any_of HT_.out (by kernel_rfl)) (fun _ _ _ h => h) (Or.inl ⟨by rfl, ?_⟩) ?_ ?_
                    rotate_left
                    · intro w'
                      go_simp
                      with_reducible rfl
                    rotate_left
                    · simp only [Act.put, List.setIfInBounds_toArray, List.set_cons_zero, List.set_cons_succ, i64_w, i32_w]
                      rfl
                    refine done_ (done_of HT_.out (by kernel_rfl)) ?_
                    try go_wp2
                    go_ret
                    exact ⟨by first | rfl | (simp [errW_none, errW_some] <;> rfl) | (simp [*, errW_none, errW_some] <;> rfl), by repeat (first | (with_reducible first | exact HB.out | apply below_alloc | apply pw_below_drewN | apply below_drew1 | refine below_set ?_ GE768.out | refine below_set ?_ GE769.out | refine below_set ?_ GE786.out | refine below_set ?_ GE792.out) | exact HB.out)⟩
                · replace c88 := Bool.eq_false_iff.mpr c88
                  subst c88
                  have H1 : (some false) = some r := by rw [if_neg (show ¬ (false = true) by decide)] at H; exact H
                  clear H
                  have H := H1
                  clear H1
                  rw [HR.out] at H
                  exact absurd H (by simp)
              · replace c86 := Bool.eq_false_iff.mpr c86
                subst c86
                have H1 : (some false) = some r := by rw [if_neg (show ¬ (false = true) by decide)] at H; exact H
                clear H
                have H := H1
                clear H1
                rw [HR.out] at H
                exact absurd H (by simp)
          · replace c78 := Bool.eq_false_iff.mpr c78
            subst c78
            have H1 : (some (t780.toList == ([] : List UInt8))) = some r := by rw [if_neg (show ¬ (false = true) by decide)] at H; exact H
            clear H
            have H := H1
            clear H1
            obtain rfl := Option.some.inj H
            have hnb124 := NB768_769.out
            have hnc124 := NB769_768.out
            have hnb125 := NB768_786.out
            have hnc125 := NB786_768.out
            have hnb126 := NB768_792.out
            have hnc126 := NB792_768.out
            have hcz127_0 : wc.cell? ⟨gb768, 0, none⟩ = some (.int .i64 t771) := (blk_cell BK768.out 0).trans rfl
            have hcz127_1 : wc.cell? ⟨gb768, 1, none⟩ = some (.int .i64 t772) := (blk_cell BK768.out 1).trans rfl
            have hcz127_2 : wc.cell? ⟨gb768, 2, none⟩ = some (.int .i64 t773) := (blk_cell BK768.out 2).trans rfl
            have hcz127_3 : wc.cell? ⟨gb768, 3, none⟩ = some (.string t774) := (blk_cell BK768.out 3).trans rfl
            have hfz127_0 := blk_frozen BK768.out 0
            have hfz127_1 := blk_frozen BK768.out 1
            have hfz127_2 := blk_frozen BK768.out 2
            have hfz127_3 := blk_frozen BK768.out 3
            go_wp2_with (first | ((with_reducible refine gate_callee (f := 28) rfl ?_); refine goesL_ (some 64) rfl rfl Tryz.func28 (by kernel_rfl) rfl #[.agg #[.int .i64 t771, .int .i64 t772, .int .i64 t773, .string t774]] rfl (by (try simp only [List.map_toArray, List.map_cons, List.map_nil]); first | done | rfl | (simp only [List.length_drop, List.length_take]; rfl)) ?_; (with_reducible refine (donatusref27_MayCmd.calls t771 t772 t773 t774 false _ A77.out).mono ?_); rintro e w128 ⟨rfl, hb⟩; refine ⟨_, rfl, ?_⟩; have n0_ := Aside0.mk (blk_below (g := gb768) (o := .cells #[.int .i64 t771, .int .i64 t772, .int .i64 t773, .string t774] 55 (0, 0)) (by (with_reducible repeat (first | refine blk_drewN ?_ _ | refine blk_drew ?_ | refine blk_alloc ?_ _)); exact BK768.out) hb); have n1_ := Aside0.mk (blk_below (g := gb769) (o := .cells #[.int .i64 t775, .int .i64 t776, .int .i64 t777, .string t778] 55 (0, 0)) (by (with_reducible repeat (first | refine blk_drewN ?_ _ | refine blk_drew ?_ | refine blk_alloc ?_ _)); exact BK769.out) hb); have n2_ := Aside0.mk (blk_below (g := gb786) (o := .cells #[.int .i64 t781, .int .i64 t782, .int .i64 t783, .string t784] 55 (0, 0)) (by (with_reducible repeat (first | refine blk_drewN ?_ _ | refine blk_drew ?_ | refine blk_alloc ?_ _)); exact BK786.out) hb); have n3_ := Aside0.mk (blk_below (g := gb792) (o := .cells #[.int .i64 t787, .int .i64 t788, .int .i64 t789, .string t790] 55 (0, 0)) (by (with_reducible repeat (first | refine blk_drewN ?_ _ | refine blk_drew ?_ | refine blk_alloc ?_ _)); exact BK792.out) hb); have n4_ := Aside0.mk (below_step (by repeat (first | (with_reducible first | exact HB.out | apply below_alloc | apply pw_below_drewN | apply below_drew1 | refine below_set ?_ GE768.out | refine below_set ?_ GE769.out | refine below_set ?_ GE786.out | refine below_set ?_ GE792.out) | exact HB.out)) hb); clear BK768; clear BK769; clear BK786; clear BK792; clear HB; have BK768 := n0_; have BK769 := n1_; have BK786 := n2_; have BK792 := n3_; have HB := n4_; clear n0_ n1_ n2_ n3_ n4_; (try clear hb); (try clear hb2); (try clear hk); (try clear hi)))
            go_ret
            exact ⟨by first | rfl | (simp [errW_none, errW_some] <;> rfl) | (simp [*, errW_none, errW_some] <;> rfl), by repeat (first | (with_reducible first | exact HB.out | apply below_alloc | apply pw_below_drewN | apply below_drew1 | refine below_set ?_ GE768.out | refine below_set ?_ GE769.out | refine below_set ?_ GE786.out | refine below_set ?_ GE792.out) | exact HB.out)⟩
  · replace c5 := Bool.eq_false_iff.mpr c5
    subst c5
    have H1 : (some false) = some r := by rw [if_neg (show ¬ (false = true) by decide)] at H; exact H
    clear H
    have H := H1
    clear H1
    obtain rfl := Option.some.inj H
    go_enter Tryz.func5, Tryz.ntmps5
    go_wp2_with (first | ((with_reducible refine gate_dst (N := 3) rfl ?_); refine box_event ?hg (N := 3) ?hd (cs := #[.int .i64 a0_0, .int .i64 a0_1, .int .i64 a0_2, .string a0_3]) (t := 55) ?hr ?_; (case hd => rfl); (case hg => rfl); (case hr => first | (go_simp; done) | (go_simp; rfl)); intro gb768 hg w129 hbox hb; have n0_ := Aside0.mk (below_step (by repeat (first | (with_reducible first | exact HB.out | apply below_alloc | apply pw_below_drewN | apply below_drew1) | exact HB.out)) hb); have n1_ := Aside0.mk (hbox); have n2_ := Aside0.mk ((by rw [hg]; exact (below_size (by repeat (first | (with_reducible first | exact HB.out | apply below_alloc | apply pw_below_drewN | apply below_drew1) | exact HB.out))) : w.heap.size ≤ gb768)); have n3_ := Aside0.mk ((by rw [hg]; exact (below_size (by repeat (first | (with_reducible first | exact HB.out | apply below_alloc | apply pw_below_drewN | apply below_drew1) | exact HB.out))) : w.heap.size ≤ gb768)); clear HB; have HB := n0_; have BK768 := n1_; have GW768 := n2_; have GE768 := n3_; clear n0_ n1_ n2_ n3_; clear hb hbox hg) | ((with_reducible refine gate_dst (N := 4) rfl ?_); refine box_event ?hg (N := 4) ?hd (cs := #[.int .i64 a1_0, .int .i64 a1_1, .int .i64 a1_2, .string a1_3]) (t := 55) ?hr ?_; (case hd => rfl); (case hg => rfl); (case hr => first | (go_simp; done) | (go_simp; rfl)); intro gb769 hg w130 hbox hb; have n0_ := Aside0.mk (blk_below (g := gb768) (o := .cells #[.int .i64 a0_0, .int .i64 a0_1, .int .i64 a0_2, .string a0_3] 55 (0, 0)) (by (with_reducible repeat (first | refine blk_drewN ?_ _ | refine blk_drew ?_ | refine blk_alloc ?_ _)); exact BK768.out) hb); have n1_ := Aside0.mk (below_step (by repeat (first | (with_reducible first | exact HB.out | apply below_alloc | apply pw_below_drewN | apply below_drew1 | refine below_set ?_ GE768.out) | exact HB.out)) hb); have n2_ := Aside0.mk (hbox); have n3_ := Aside0.mk ((by rw [hg]; exact (below_size (by repeat (first | (with_reducible first | exact HB.out | apply below_alloc | apply pw_below_drewN | apply below_drew1 | refine below_set ?_ GE768.out) | exact HB.out))) : w.heap.size ≤ gb769)); have n4_ := Aside0.mk ((by rw [hg]; exact (below_size (by repeat (first | (with_reducible first | exact HB.out | apply below_alloc | apply pw_below_drewN | apply below_drew1 | refine below_set ?_ GE768.out) | exact HB.out))) : w.heap.size ≤ gb769)); have n5_ := Aside0.mk ((by rw [hg]; exact Nat.ne_of_lt (blk_lt (g := gb768) (o := .cells #[.int .i64 a0_0, .int .i64 a0_1, .int .i64 a0_2, .string a0_3] 55 (0, 0)) (by (with_reducible repeat (first | refine blk_drewN ?_ _ | refine blk_drew ?_ | refine blk_alloc ?_ _)); exact BK768.out)) : gb768 ≠ gb769)); have n6_ := Aside0.mk ((by rw [hg]; exact Nat.ne_of_gt (blk_lt (g := gb768) (o := .cells #[.int .i64 a0_0, .int .i64 a0_1, .int .i64 a0_2, .string a0_3] 55 (0, 0)) (by (with_reducible repeat (first | refine blk_drewN ?_ _ | refine blk_drew ?_ | refine blk_alloc ?_ _)); exact BK768.out)) : gb769 ≠ gb768)); clear BK768; clear HB; have BK768 := n0_; have HB := n1_; have BK769 := n2_; have GW769 := n3_; have GE769 := n4_; have NB768_769 := n5_; have NB769_768 := n6_; clear n0_ n1_ n2_ n3_ n4_ n5_ n6_; clear hb hbox hg) | ((with_reducible refine gate_callee (f := 22) rfl ?_); refine goesL_ (some 13) rfl rfl Tryz.func22 (by kernel_rfl) rfl #[] rfl (by (try simp only [List.map_toArray, List.map_cons, List.map_nil]); first | done | rfl | (simp only [List.length_drop, List.length_take]; rfl)) ?_; (with_reducible refine (donatuslaw27_begun.calls  false _ A4.out).mono ?_); rintro e w131 ⟨rfl, hb⟩; refine ⟨_, rfl, ?_⟩; have n0_ := Aside0.mk (blk_below (g := gb768) (o := .cells #[.int .i64 a0_0, .int .i64 a0_1, .int .i64 a0_2, .string a0_3] 55 (0, 0)) (by (with_reducible repeat (first | refine blk_drewN ?_ _ | refine blk_drew ?_ | refine blk_alloc ?_ _)); exact BK768.out) hb); have n1_ := Aside0.mk (blk_below (g := gb769) (o := .cells #[.int .i64 a1_0, .int .i64 a1_1, .int .i64 a1_2, .string a1_3] 55 (0, 0)) (by (with_reducible repeat (first | refine blk_drewN ?_ _ | refine blk_drew ?_ | refine blk_alloc ?_ _)); exact BK769.out) hb); have n2_ := Aside0.mk (below_step (by repeat (first | (with_reducible first | exact HB.out | apply below_alloc | apply pw_below_drewN | apply below_drew1 | refine below_set ?_ GE768.out | refine below_set ?_ GE769.out) | exact HB.out)) hb); clear BK768; clear BK769; clear HB; have BK768 := n0_; have BK769 := n1_; have HB := n2_; clear n0_ n1_ n2_; (try clear hb); (try clear hb2); (try clear hk); (try clear hi)))
    go_ret
    exact ⟨by first | rfl | (simp [errW_none, errW_some] <;> rfl) | (simp [*, errW_none, errW_some] <;> rfl), by repeat (first | (with_reducible first | exact HB.out | apply below_alloc | apply pw_below_drewN | apply below_drew1 | refine below_set ?_ GE768.out | refine below_set ?_ GE769.out) | exact HB.out)⟩
end Go.Proofs.YtpgjlcbjcnbjkaaGreatDoor.RP
