/- The walk of begun4 and begun5: the evaluator's run by the kernel, and its soundness. The walk of begun6: the evaluator's run by the kernel, and its soundness. The walk of begun7: the evaluator's run by the kernel, and its soundness. The walk of begun8: the evaluator's run by the kernel, and its soundness. The table of what the laws take for granted; AutoAll in any world. AutoAll in any world. AutoOrder: it answers true. AutoOrder in any world. -/
import Derived.Test.YtehbmncbojngnaaGreatDoorEvGl
section
namespace Go.Ev
set_option linter.all false
open Go.Proofs
theorem run154 : okTrue (call Tryz.prog (sumsB []) 100000 154 [] ⟨0, .leaf⟩) = true := by kernel_rfl
theorem begun154 : SumOK Tryz.prog 154 begunSum := begun_of (fun f hf => by cases hf) (by kernel_rfl) run154
theorem run119 : okTrue (call Tryz.prog (sumsB [154]) 100000 119 [] ⟨0, .leaf⟩) = true := by kernel_rfl
theorem begun119 : SumOK Tryz.prog 119 begunSum := begun_of (l := [154]) (fun f hf => by simp at hf; subst hf; exact begun154) (by kernel_rfl) run119
end Go.Ev
end
section
namespace Go.Ev
set_option linter.all false
open Go.Proofs
theorem run84 : okTrue (call Tryz.prog (sumsB [154, 119]) 100000 84 [] ⟨0, .leaf⟩) = true := by kernel_rfl
theorem begun84 : SumOK Tryz.prog 84 begunSum := begun_of (l := [154, 119]) (fun f hf => by
  simp at hf
  rcases hf with rfl | rfl
  · exact begun154
  · exact begun119) (by kernel_rfl) run84
end Go.Ev
end
section
namespace Go.Ev
set_option linter.all false
open Go.Proofs
theorem run50 : okTrue (call Tryz.prog (sumsB [154, 119, 84]) 100000 50 [] ⟨0, .leaf⟩) = true := by kernel_rfl
theorem begun50 : SumOK Tryz.prog 50 begunSum := begun_of (l := [154, 119, 84]) (fun f hf => by
  simp at hf
  rcases hf with rfl | rfl | rfl
  · exact begun154
  · exact begun119
  · exact begun84) (by kernel_rfl) run50
end Go.Ev
end
section
namespace Go.Ev
set_option linter.all false
open Go.Proofs
theorem run19 : okTrue (call Tryz.prog (sumsB [154, 119, 84, 50]) 100000 19 [] ⟨0, .leaf⟩) = true := by kernel_rfl
theorem begun19 : SumOK Tryz.prog 19 begunSum := begun_of (l := [154, 119, 84, 50]) (fun f hf => by
  simp at hf
  rcases hf with rfl | rfl | rfl | rfl
  · exact begun154
  · exact begun119
  · exact begun84
  · exact begun50) (by kernel_rfl) run19
end Go.Ev
end
section
namespace Go.Ev
set_option linter.all false
open Go.Proofs
theorem run8 : okTrue (call Tryz.prog (sumsB [154, 119, 84, 50, 19]) 100000 8 [] ⟨0, .leaf⟩) = true := by kernel_rfl
theorem begun8K : SumOK Tryz.prog 8 begunSum := begun_of (l := [154, 119, 84, 50, 19]) (fun f hf => by
  simp at hf
  rcases hf with rfl | rfl | rfl | rfl | rfl
  · exact begun154
  · exact begun119
  · exact begun84
  · exact begun50
  · exact begun19) (by kernel_rfl) run8
noncomputable def lawS : Sums := fun f => if f = 64 then some insW else if f = 8 then some begunSum else none
theorem lawS_ok : SumsOK Tryz.prog lawS := by
  intro f s hs
  unfold lawS at hs
  split at hs
  · rename_i h
    subst h; cases hs
    exact insW_ok
  · split at hs
    · rename_i h
      subst h; cases hs
      exact begun8K
    · cases hs
theorem lawS_none {f : Nat} (h : f ≠ 64) (k : f ≠ 8) : lawS f = none := by unfold lawS; rw [if_neg h, if_neg k]
end Go.Ev
end
section
namespace Go.Ev
set_option linter.all false
open Go.Proofs
set_option maxRecDepth 100000
variable {w : World} {H : Type} {enc : TypeId × Value → H} {sp : Nat → Bool} {held : Bool}
theorem lawS_plain {l : List Nat} (h : l.all (fun f => !(f == 64) && !(f == 8)) = true) : Plain lawS l := fun f hf => by
  have := List.all_eq_true.1 h f hf
  simp only [Bool.and_eq_true, Bool.not_eq_true', beq_eq_false_iff_ne, ne_eq] at this
  exact lawS_none this.1 this.2
/-- A law over a grammar that answers true in every memory answers true in every world. -/
theorem gram_law {f : Nat} (hf : lawS f = none) (hc : ∀ {m : AMem} {vt vr : AV} {g : GrD}, GramIs m vt vr g → ∃ r m', CallTo Tryz.prog lawS f [gramV vt g vr] m r m' ∧ r = .bool true)
    {r : Reach} {b0 : Nat} {v : Value} {d : DataW H} {p : List MemPlace} (hv : Value.okWide Tryz.prog w r b0 25 v) (h : DataW.Trod enc Tryz.prog w 0 sp held 25 v d p) :
    Calls Tryz.prog f #[v] w fun e w' => e = .returned (.bool true) ∧ RowKit.Below w.heap.size w w' := by
  obtain ⟨ρ, m, vt, vr, g, R, I, V⟩ := gram_in hv h
  obtain ⟨x, m', hx, rfl⟩ := hc I
  obtain ⟨n, e⟩ := hx.run
  exact run_ro mixed lawS_ok hf R e (fun b h1 _ => R.fr b h1) (.cons _ _ _ _ V .nil)
end Go.Ev
end
section
namespace Go.Ev
set_option linter.all false
open Go.Proofs
set_option maxRecDepth 10000
set_option maxHeartbeats 4000000
/-- One more in a scan that goes through. -/
theorem scan_step {A B : List Int} {y m n0 : Int} {x : Nat} (h : Lr.scan (A ++ y :: B) n0 = some m) (ha : Lr.scan A n0 = some (.ofNat x)) :
    ¬ (.ofNat x : Int) < y ∧ (y = .ofNat x → (.ofNat x : Int) + 1 ≤ m ∧ Lr.scan (A ++ [y]) n0 = some (.ofNat (x + 1))) ∧ (y ≠ .ofNat x → Lr.scan (A ++ [y]) n0 = some (.ofNat x)) := by
  rw [Lr.scan_append, ha] at h
  simp only [Option.bind_some, Lr.scan] at h
  have h1 : Lr.scan (A ++ [y]) n0 = Lr.scan [y] (.ofNat x) := by rw [Lr.scan_append, ha]; rfl
  simp only [Lr.scan] at h1
  split at h
  · cases h
  · rename_i hle
    rw [if_neg hle] at h1
    refine ⟨by omega, fun e => ?_, fun e => by rw [h1, if_neg e]⟩
    rw [if_pos e] at h h1
    exact ⟨(Lr.scan_up _ _ _ h).1, h1⟩
theorem flat_take {α : Type} {R : List (List α)} {i : Nat} {r : List α} (h : R[i]? = some r) : (R.take (i + 1)).flatten = (R.take i).flatten ++ r := by
  rw [List.take_add_one, h, Option.toList_some, List.flatten_append, List.flatten_singleton]
theorem flat_split {α : Type} {R : List (List α)} {i j : Nat} {r : List α} {y : α} (h : R[i]? = some r) (k : r[j]? = some y) : ∃ B, R.flatten = ((R.take i).flatten ++ r.take j) ++ y :: B := by
  obtain ⟨hi, e⟩ := List.getElem?_eq_some_iff.1 h
  obtain ⟨hj, f⟩ := List.getElem?_eq_some_iff.1 k
  refine ⟨r.drop (j + 1) ++ (R.drop (i + 1)).flatten, ?_⟩
  have h1 : R.flatten = (R.take i).flatten ++ (R.drop i).flatten := by rw [← List.flatten_append, List.take_append_drop]
  rw [h1, List.drop_eq_getElem_cons hi, e, List.flatten_cons]
  have h2 : r = r.take j ++ y :: r.drop (j + 1) := by
    rw [← f, ← List.drop_eq_getElem_cons hj, List.take_append_drop]
  conv => lhs; rw [h2]
  simp only [List.append_assoc, List.cons_append]
theorem goesTo_at {R : List (List Int)} {i j : Nat} {r : List Int} {y : Int} (h : R[i]? = some r) (k : r[j]? = some y) : goesTo R (.ofNat i) (.ofNat j) = y := by
  unfold goesTo
  rw [if_pos ⟨ofNat_nn i, ofNat_nn j⟩, show (Int.ofNat i).toNat = i from rfl, show (Int.ofNat j).toNat = j from rfl, h]
  show (r[j]?).getD (-1) = y
  rw [k]; rfl
theorem call7 {S : Sums} (hS : Plain S lwF) (h64 : S 64 = some insW) (h8 : S 8 = some begunSum) {m : AMem} {vt vr : AV} {g : GrD} (hg : GramIs m vt vr g) :
    ∃ r m', CallTo Tryz.prog S 7 [gramV vt g vr] m r m' ∧ r = .bool true := by
  have hS10 : Plain S [10, 28] := fun f hf => hS f (by simp at hf ⊢; omega)
  have hS9 : Plain S ofF := fun f hf => hS f (by simp at hf ⊢; omega)
  have hS16 : Plain S buF := fun f hf => hS f (by simp at hf ⊢; omega)
  have hS12 : Plain S [12] := fun f hf => hS f (by simp at hf ⊢; omega)
  have hS15 : Plain S [12, 15, 31] := fun f hf => hS f (by simp at hf ⊢; omega)
  refine XP.call (hS 7 (by decide)) cd7 nt7 ?_
  show XP _ _ _ _ (toT .leaf [(0, gramV vt g vr)]) m _
  unfold Tryz.f7
  dsimp only [Option.getD_some]
  have K : Kp Nothing m m := .refl m
  refine XP.seq ?_; refine XP.regionS ?_
  have hk1 := K.le
  refine RP.box rfl rfl rfl rfl fun M1 K1 B1 N1 => ?_
  have K := K.trans K1
  have hg1 := hg.up K1
  obtain ⟨u10, M10, hc10, K10, g', vt', vr', rfl, hg', hcut⟩ := call10 hS10 hg1
  obtain ⟨r9, M9, hc9, K9, cs, e, rfl, hcl, hcp, hsp⟩ := call9 hS9 hg' hcut.small hcut.short
  refine RP.o1 (.assign rfl) rfl rfl ?_; refine RP.nil ?_; refine XP.seq ?_; refine XP.regionS ?_; refine RP.o1 (.callS rfl rfl (begun8 h8)) rfl rfl ?_; refine RP.o1 (.assign rfl) rfl rfl ?_; refine RP.nil ?_; refine XP.seq ?_; refine XP.seq ?_; refine XP.regionS ?_; refine RP.o1 (.move rfl) rfl rfl ?_; refine RP.o1 (.not_ rfl) rfl rfl ?_; refine RP.nil ?_
  refine XP.condS false rfl ?_  -- if t14
  refine XP.skip ?_; refine XP.seq ?_; refine XP.regionS ?_; refine RP.o1 (.loadE rfl (by first | assumption | (apply BoxIs.el; assumption)) lay25 (by rfl)) rfl rfl ?_
  refine RP.op (.callS rfl rfl hc10) rfl rfl K10.le ?_; refine RP.op (.callS rfl rfl hc9) rfl rfl K9.le ?_
  have K := (K.trans K10).trans K9
  have B1 := (B1.up K10).up K9
  have hk9 := K.le
  have K9o := K
  refine RP.o1 (.move rfl) rfl rfl ?_; refine RP.o1 (.extract rfl rfl) rfl rfl ?_; refine RP.o1 (.extract rfl rfl) rfl rfl ?_
  have hk2 := K.le
  have lt1 := B1.lt
  refine RP.alloc z31 rfl rfl fun M2 K2 B4 N2 => ?_
  have K := K.trans K2
  have B1 := B1.up K2
  refine RP.store rfl rfl lay31 hcl B4 rfl hcp rfl rfl fun M3 K3 B4 N3 => ?_
  have B4 : BoxIs M3 M9.next cs := by
    have h := B4
    rw [show (AV.agg cs).cells = cs from rfl, setL_all (by rw [hcl]; rfl)] at h
    exact h
  have KZ : Kp Nothing M9 M3 := Kp.young (.refl _) (K2.any.trans K3) (by rintro _ rfl; exact Nat.le_refl _)
  have K := K9o.trans KZ
  refine RP.o1 (.assign rfl) rfl rfl ?_; refine RP.nil ?_; refine XP.seq ?_; refine XP.seq ?_; refine XP.regionS ?_; refine RP.o1 (.move rfl) rfl rfl ?_; refine RP.o1 (.bin rfl rfl neq_is) rfl rfl ?_; refine RP.nil ?_
  refine XP.condN rfl (fun hc22 => ?_) (fun hc22 => ?_)  -- if t22
  · refine XP.skip ?_; refine XP.seq ?_
    obtain ⟨s, rs, hv, hr, hW, hT, hN, hG⟩ := hsp hc22
    injection hv with hv
    subst hv
    have hB := hW.small
    obtain ⟨r0, hr0e, hr0l⟩ := hW.first
    have hsn : s.n ≤ 23 := by show s.toks + 1 + s.nts ≤ 23; omega
    obtain ⟨v16, M16, hc16, K16, h16⟩ := call16 hS16 h64 (hr.up KZ) hB ⟨r0, hr0e⟩ hT hN
    obtain ⟨av, f, rfl, hf0, hf6⟩ : ∃ (av : AV) (f : Int), v16 = .tup [av, .int .i64 f] ∧ (f = 0 → ∃ ba lv gv iv L I R, av = .ptr ba 0 ∧ AuSt s Nothing (M3.next + 1) ba M16 lv gv iv L R I ∧ (s.g rs).IsAuto (symsN s.n) L I R ∧ L.length ≤ 120 ∧ (∀ k ∈ L, Kern rs k)) ∧ (f ≠ 0 → f = 6) := by
      rcases h16 with ⟨ba, lv, gv, iv, L, I, R, rfl, au, hau, hL, hkn⟩ | ⟨rfl, _⟩
      · exact ⟨_, 0, rfl, fun _ => ⟨ba, lv, gv, iv, L, I, R, rfl, au, hau, hL, hkn⟩, fun h => absurd rfl h⟩
      · exact ⟨_, 6, rfl, fun h => absurd h (by decide), fun _ => rfl⟩
    refine XP.regionS ?_; refine RP.o1 (.loadE rfl (by first | assumption | (apply BoxIs.el; assumption)) lay31 (by rfl)) rfl rfl ?_
    refine RP.op (.callS rfl rfl hc16) rfl rfl K16.le ?_
    have K := K.trans K16
    have B4 := B4.up K16
    have B4o := B4
    have K0 := K
    refine RP.o1 (.move rfl) rfl rfl ?_; refine RP.o1 (.extract rfl rfl) rfl rfl ?_; refine RP.o1 (.extract rfl rfl) rfl rfl ?_; refine RP.o1 (.assign rfl) rfl rfl ?_; refine RP.o1 (.assign rfl) rfl rfl ?_; refine RP.nil ?_; refine XP.seq ?_; refine XP.seq ?_; refine XP.regionS ?_; refine RP.o1 (.move rfl) rfl rfl ?_; refine RP.o1 (.bin rfl rfl neq_is) rfl rfl ?_; refine RP.nil ?_
    refine XP.condN rfl (fun hc29 => ?_) (fun hc29 => ?_)  -- if t29
    · refine XP.skip ?_; refine XP.seq ?_
      obtain ⟨ba, lv, gv, iv, L, I, R, rfl, au, hau, hL, hkn⟩ := hf0 hc29
      have hat := Steps_at hau.steps
      have hrn : ∀ r ∈ R, r.length = s.n := fun r hr => by rw [hat.2 r hr]; simp [symsN]
      have hRl : R.length = L.length := hau.steps.lens.2
      have hsc := hau.steps.scan.1
      refine XP.regionS ?_; refine RP.o1 (.assign rfl) rfl rfl ?_; refine RP.nil ?_; refine XP.seq ?_; refine XP.seq ?_; refine XP.regionS ?_; refine RP.o1 (.assign rfl) rfl rfl ?_; refine RP.nil ?_
      refine XP.block ?_  -- block 0
      refine XP.while (fun d t m1 => ∃ i nx t0, t = toT t0 [(9, .int .i64 (.ofNat i)), (8, .int .i64 (.ofNat nx)), (6, .ptr ba 0), (4, .ptr M9.next 0)] ∧ d = L.length - i ∧ i ≤ L.length ∧ Lr.scan (R.take i).flatten 1 = some (.ofNat nx) ∧ Kp Nothing M16 m1) ?_ L.length _ _ ?_
      rotate_left
      · exact ⟨0, 1, _, toT_less (.cons rfl (.cons rfl (.cons rfl (.cons rfl (.nil))))), rfl, Nat.zero_le _, rfl, .refl _⟩
      rintro d t M4 ⟨i, nx, t0, rfl, rfl, hin, hsi, KA⟩
      have K := K0.trans KA
      have B4 := B4o.up KA
      have auM := au.up KA
      refine XP.seq ?_; refine XP.seq ?_; refine XP.regionS ?_; refine RP.o1 (.move rfl) rfl rfl ?_; refine RP.o1 (.move rfl) rfl rfl ?_; refine RP.o1 (.callS rfl rfl (call12 hS12 auM)) rfl rfl ?_; refine RP.o1 (.bin rfl rfl (by first | exact lss_nat | exact lss_is)) rfl rfl ?_; refine RP.nil ?_
      refine XP.condD rfl (fun hc35 => ?_) (fun hc35 => ?_)  -- if t35
      · refine XP.skip ?_; refine XP.seq ?_
        refine XP.block ?_  -- block 1
        refine XP.seq ?_
        obtain ⟨r, hrr⟩ : ∃ r, R[i]? = some r := ⟨R[i]'(by omega), List.getElem?_eq_getElem _⟩
        have hrl := hrn r (List.mem_of_getElem? hrr)
        refine XP.regionS ?_; refine RP.o1 (.assign rfl) rfl rfl ?_; refine RP.nil ?_
        refine XP.block ?_  -- block 2
        refine XP.while (fun d t m1 => ∃ j nx t0, t = toT t0 [(10, .int .i64 (.ofNat j)), (9, .int .i64 (.ofNat i)), (8, .int .i64 (.ofNat nx)), (6, .ptr ba 0), (4, .ptr M9.next 0)] ∧ d = s.n - j ∧ j ≤ s.n ∧ Lr.scan ((R.take i).flatten ++ r.take j) 1 = some (.ofNat nx) ∧ Kp Nothing M16 m1) ?_ s.n _ _ ?_
        rotate_left
        · exact ⟨0, nx, _, toT_less (.cons rfl (.cons rfl (.cons rfl (.cons rfl (.cons rfl (.nil)))))), rfl, Nat.zero_le _, by rw [List.take_zero, List.append_nil]; exact hsi, KA⟩
        rintro d t M5 ⟨j, nx, t0, rfl, rfl, hjn, hsj, KB⟩
        have K := K0.trans KB
        have B4 := B4o.up KB
        have auN := au.up KB
        refine XP.seq ?_; refine XP.seq ?_; refine XP.regionS ?_; refine RP.o1 (.move rfl) rfl rfl ?_; refine RP.o1 (.fieldAddr rfl fa31_0) rfl rfl ?_
        refine RP.o1 (.load1 rfl lay3 (by first | (apply BoxIs.get; assumption; rfl) | (apply ElAt.get; assumption; rfl) | (apply ElAt.get0; assumption; rfl) | assumption)) rfl rfl ?_
        refine RP.o1 (.fieldAddr rfl fa31_1) rfl rfl ?_
        refine RP.o1 (.load1 rfl lay3 (by first | (apply BoxIs.get; assumption; rfl) | (apply ElAt.get; assumption; rfl) | (apply ElAt.get0; assumption; rfl) | assumption)) rfl rfl ?_
        refine RP.o1 (.bin rfl rfl (addN_is (by omega))) rfl rfl ?_; refine RP.o1 (.bin rfl rfl leq_is) rfl rfl ?_; refine RP.nil ?_
        refine XP.condN rfl (fun hc44 => ?_) (fun hc44 => ?_)  -- if t44
        · refine XP.exit ?_  -- 2
          have hc44 := Int.ofNat_lt.1 hc44
          have hse : Lr.scan (R.take (i + 1)).flatten 1 = some (.ofNat nx) := by
            rw [flat_take hrr]
            rw [show r.take j = r from List.take_of_length_le (by rw [hrl]; show s.toks + 1 + s.nts ≤ j; omega)] at hsj
            exact hsj
          refine XP.regionS ?_; refine RP.o1 (.move rfl) rfl rfl ?_
          refine RP.o1 (.bin rfl rfl (by first | exact inc_is (by omega) | exact add_is (by omega) (by omega))) rfl rfl ?_
          refine RP.o1 (.assign rfl) rfl rfl ?_; refine RP.nil ?_
          exact ⟨L.length - (i + 1), by omega, i + 1, nx, _, toT_less (.cons rfl (.cons rfl (.cons rfl (.cons rfl (.nil))))), rfl, by omega, hse, KB⟩
        · refine XP.skip ?_; refine XP.seq ?_
          refine XP.block ?_  -- block 3
          refine XP.seq ?_
          have hc44 : ¬ s.toks + s.nts < j := fun h => hc44 (Int.ofNat_lt.2 h)
          have hj : j < s.n := by show j < s.toks + 1 + s.nts; omega
          obtain ⟨y, hy⟩ : ∃ y, r[j]? = some y := ⟨r[j]'(by omega), List.getElem?_eq_getElem _⟩
          have hc15 := call15 hS15 auN hRl (.ofNat i) (.ofNat j)
          rw [goesTo_at hrr hy] at hc15
          obtain ⟨B, hB2⟩ := flat_split hrr hy
          have hst := scan_step (hB2 ▸ hsc) hsj
          have htk : r.take (j + 1) = r.take j ++ [y] := by rw [List.take_add_one, hy]; rfl
          have hnx : nx ≤ 120 := by
            have h1 : Lr.scan (((R.take i).flatten ++ r.take j) ++ y :: B) 1 = some (L.length : Int) := hB2 ▸ hsc
            rw [Lr.scan_append, hsj] at h1
            have := (Lr.scan_up _ _ _ h1).1
            have : (nx : Int) ≤ L.length := this
            omega
          refine XP.regionS ?_; refine RP.o1 (.move rfl) rfl rfl ?_; refine RP.o1 (.move rfl) rfl rfl ?_; refine RP.o1 (.move rfl) rfl rfl ?_; refine RP.o1 (.callS rfl rfl hc15) rfl rfl ?_; refine RP.o1 (.assign rfl) rfl rfl ?_; refine RP.nil ?_; refine XP.seq ?_; refine XP.seq ?_; refine XP.regionS ?_; refine RP.o1 (.move rfl) rfl rfl ?_; refine RP.o1 (.move rfl) rfl rfl ?_; refine RP.o1 (.bin (v := .bool false) rfl rfl (by rw [gtr_is, decide_eq_false hst.1])) rfl rfl ?_; refine RP.nil ?_
          refine XP.condS false rfl ?_  -- if t53
          refine XP.skip ?_; refine XP.seq ?_; refine XP.regionS ?_; refine RP.o1 (.move rfl) rfl rfl ?_; refine RP.o1 (.move rfl) rfl rfl ?_; refine RP.o1 (.bin rfl rfl eql_is) rfl rfl ?_; refine RP.nil ?_
          refine XP.condD rfl (fun hc56 => ?_) (fun hc56 => ?_)  -- if t56
          · refine XP.regionS ?_; refine RP.o1 (.move rfl) rfl rfl ?_
            refine RP.o1 (.bin rfl rfl (by first | exact inc_is (by omega) | exact add_is (by omega) (by omega))) rfl rfl ?_
            refine RP.o1 (.assign rfl) rfl rfl ?_; refine RP.nil ?_; refine XP.regionS ?_; refine RP.o1 (.move rfl) rfl rfl ?_
            refine RP.o1 (.bin rfl rfl (by first | exact inc_is (by omega) | exact add_is (by omega) (by omega))) rfl rfl ?_
            refine RP.o1 (.assign rfl) rfl rfl ?_; refine RP.nil ?_
            exact ⟨s.n - (j + 1), by omega, j + 1, nx + 1, _, toT_less (.cons rfl (.cons rfl (.cons rfl (.cons rfl (.cons rfl (.nil)))))), rfl, by omega, by rw [htk, ← List.append_assoc]; exact (hst.2.1 hc56).2, KB⟩
          · refine XP.skip ?_; refine XP.regionS ?_; refine RP.o1 (.move rfl) rfl rfl ?_
            refine RP.o1 (.bin rfl rfl (by first | exact inc_is (by omega) | exact add_is (by omega) (by omega))) rfl rfl ?_
            refine RP.o1 (.assign rfl) rfl rfl ?_; refine RP.nil ?_
            exact ⟨s.n - (j + 1), by omega, j + 1, nx, _, toT_less (.cons rfl (.cons rfl (.cons rfl (.cons rfl (.cons rfl (.nil)))))), rfl, by omega, by rw [htk, ← List.append_assoc]; exact hst.2.2 hc56, KB⟩
      · refine XP.exit ?_  -- 0
        refine XP.seq ?_
        have hnx : (.ofNat nx : Int) = .ofNat L.length := by
          rw [List.take_of_length_le (by omega)] at hsi
          rw [hsi] at hsc
          exact Option.some.inj hsc
        refine XP.regionS ?_; refine RP.o1 (.move rfl) rfl rfl ?_; refine RP.o1 (.move rfl) rfl rfl ?_; refine RP.o1 (.callS rfl rfl (call12 hS12 auM)) rfl rfl ?_; refine RP.o1 (.bin (v := .bool true) rfl rfl (by rw [hnx]; exact eql_self)) rfl rfl ?_
        refine RP.o1 (.assign rfl) rfl rfl ?_; refine RP.nil ?_
        exact XP.ret ⟨.inr rfl, _, _, oneRes rfl, rfl⟩
    · refine XP.seq ?_
      obtain rfl := hf6 hc29
      refine XP.regionS ?_; refine RP.o1 (.move rfl) rfl rfl ?_; refine RP.o1 (.bin rfl rfl eql_is) rfl rfl ?_; refine RP.o1 (.assign rfl) rfl rfl ?_; refine RP.nil ?_
      exact XP.ret ⟨.inr rfl, _, _, oneRes rfl, rfl⟩
  · refine XP.seq ?_; refine XP.regionS ?_; refine RP.o1 (.assign rfl) rfl rfl ?_; refine RP.nil ?_
    exact XP.ret ⟨.inr rfl, _, _, oneRes rfl, rfl⟩
end Go.Ev
end
section
namespace Go.Ev
set_option linter.all false
open Go.Proofs
set_option maxRecDepth 100000
variable {w : World} {H : Type} {enc : TypeId × Value → H} {sp : Nat → Bool} {held : Bool}
theorem law7 {r : Reach} {b0 : Nat} {v : Value} {d : DataW H} {p : List MemPlace} (hv : Value.okWide Tryz.prog w r b0 25 v) (h : DataW.Trod enc Tryz.prog w 0 sp held 25 v d p) :
    Calls Tryz.prog 7 #[v] w fun e w' => e = .returned (.bool true) ∧ RowKit.Below w.heap.size w w' :=
  gram_law (lawS_none (by decide) (by decide)) (fun I => call7 (lawS_plain (by decide)) rfl rfl I) hv h
end Go.Ev
end
