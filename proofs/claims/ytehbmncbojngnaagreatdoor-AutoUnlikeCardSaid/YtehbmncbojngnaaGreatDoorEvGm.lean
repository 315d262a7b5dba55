/- The walk of begun4 and begun5: the evaluator's run by the kernel, and its soundness. The walk of begun6: the evaluator's run by the kernel, and its soundness. The walk of begun7: the evaluator's run by the kernel, and its soundness. The walk of begun8: the evaluator's run by the kernel, and its soundness. The table of what the laws take for granted; AutoAll in any world. AutoAll in any world. AutoOrder: it answers true. AutoUnlike, the plain law: where a state leads, what it came from; which are led to. AutoUnlike: it answers true. AutoUnlike in any world. -/
import Derived.Test.YtehbmncbojngnaaGreatDoorEvGl
section
namespace Go.Ev
set_option linter.all false
open Go.Proofs
theorem run154 : okTrue (call Tryz.prog (sumsB []) 100000 154 [] ⟨0, .leaf⟩) = true := by kernel_rfl
theorem begun154 : SumOK Tryz.prog 154 begunSum := begun_of (fun f hf => by cases hf) (by kernel_rfl) run154
theorem run119 : okTrue (call Tryz.prog (sumsB [154]) 100000 119 [] ⟨0, .leaf⟩) = true := by kernel_rfl
theorem begun119 : SumOK Tryz.prog 119 begunSum := begun_of (l := [154]) (fun f hf => by simp at hf; subst hf; exact begun154) (by kernel_rfl) run119
end Go.Ev
end
section
namespace Go.Ev
set_option linter.all false
open Go.Proofs
theorem run84 : okTrue (call Tryz.prog (sumsB [154, 119]) 100000 84 [] ⟨0, .leaf⟩) = true := by kernel_rfl
theorem begun84 : SumOK Tryz.prog 84 begunSum := begun_of (l := [154, 119]) (fun f hf => by
  simp at hf
  rcases hf with rfl | rfl
  · exact begun154
  · exact begun119) (by kernel_rfl) run84
end Go.Ev
end
section
namespace Go.Ev
set_option linter.all false
open Go.Proofs
theorem run50 : okTrue (call Tryz.prog (sumsB [154, 119, 84]) 100000 50 [] ⟨0, .leaf⟩) = true := by kernel_rfl
theorem begun50 : SumOK Tryz.prog 50 begunSum := begun_of (l := [154, 119, 84]) (fun f hf => by
  simp at hf
  rcases hf with rfl | rfl | rfl
  · exact begun154
  · exact begun119
  · exact begun84) (by kernel_rfl) run50
end Go.Ev
end
section
namespace Go.Ev
set_option linter.all false
open Go.Proofs
theorem run19 : okTrue (call Tryz.prog (sumsB [154, 119, 84, 50]) 100000 19 [] ⟨0, .leaf⟩) = true := by kernel_rfl
theorem begun19 : SumOK Tryz.prog 19 begunSum := begun_of (l := [154, 119, 84, 50]) (fun f hf => by
  simp at hf
  rcases hf with rfl | rfl | rfl | rfl
  · exact begun154
  · exact begun119
  · exact begun84
  · exact begun50) (by kernel_rfl) run19
end Go.Ev
end
section
namespace Go.Ev
set_option linter.all false
open Go.Proofs
theorem run8 : okTrue (call Tryz.prog (sumsB [154, 119, 84, 50, 19]) 100000 8 [] ⟨0, .leaf⟩) = true := by kernel_rfl
theorem begun8K : SumOK Tryz.prog 8 begunSum := begun_of (l := [154, 119, 84, 50, 19]) (fun f hf => by
  simp at hf
  rcases hf with rfl | rfl | rfl | rfl | rfl
  · exact begun154
  · exact begun119
  · exact begun84
  · exact begun50
  · exact begun19) (by kernel_rfl) run8
noncomputable def lawS : Sums := fun f => if f = 64 then some insW else if f = 8 then some begunSum else none
theorem lawS_ok : SumsOK Tryz.prog lawS := by
  intro f s hs
  unfold lawS at hs
  split at hs
  · rename_i h
    subst h; cases hs
    exact insW_ok
  · split at hs
    · rename_i h
      subst h; cases hs
      exact begun8K
    · cases hs
theorem lawS_none {f : Nat} (h : f ≠ 64) (k : f ≠ 8) : lawS f = none := by unfold lawS; rw [if_neg h, if_neg k]
end Go.Ev
end
section
namespace Go.Ev
set_option linter.all false
open Go.Proofs
set_option maxRecDepth 100000
variable {w : World} {H : Type} {enc : TypeId × Value → H} {sp : Nat → Bool} {held : Bool}
theorem lawS_plain {l : List Nat} (h : l.all (fun f => !(f == 64) && !(f == 8)) = true) : Plain lawS l := fun f hf => by
  have := List.all_eq_true.1 h f hf
  simp only [Bool.and_eq_true, Bool.not_eq_true', beq_eq_false_iff_ne, ne_eq] at this
  exact lawS_none this.1 this.2
/-- A law over a grammar that answers true in every memory answers true in every world. -/
theorem gram_law {f : Nat} (hf : lawS f = none) (hc : ∀ {m : AMem} {vt vr : AV} {g : GrD}, GramIs m vt vr g → ∃ r m', CallTo Tryz.prog lawS f [gramV vt g vr] m r m' ∧ r = .bool true)
    {r : Reach} {b0 : Nat} {v : Value} {d : DataW H} {p : List MemPlace} (hv : Value.okWide Tryz.prog w r b0 25 v) (h : DataW.Trod enc Tryz.prog w 0 sp held 25 v d p) :
    Calls Tryz.prog f #[v] w fun e w' => e = .returned (.bool true) ∧ RowKit.Below w.heap.size w w' := by
  obtain ⟨ρ, m, vt, vr, g, R, I, V⟩ := gram_in hv h
  obtain ⟨x, m', hx, rfl⟩ := hc I
  obtain ⟨n, e⟩ := hx.run
  exact run_ro mixed lawS_ok hf R e (fun b h1 _ => R.fr b h1) (.cons _ _ _ _ V .nil)
end Go.Ev
end
section
namespace Go.Ev
set_option linter.all false
open Go.Proofs
set_option maxRecDepth 10000
set_option maxHeartbeats 4000000
theorem flat_take {α : Type} {R : List (List α)} {i : Nat} {r : List α} (h : R[i]? = some r) : (R.take (i + 1)).flatten = (R.take i).flatten ++ r := by
  rw [List.take_add_one, h, Option.toList_some, List.flatten_append, List.flatten_singleton]
theorem goesTo_at {R : List (List Int)} {i j : Nat} {r : List Int} {y : Int} (h : R[i]? = some r) (k : r[j]? = some y) : goesTo R (.ofNat i) (.ofNat j) = y := by
  unfold goesTo
  rw [if_pos ⟨ofNat_nn i, ofNat_nn j⟩, show (Int.ofNat i).toNat = i from rfl, show (Int.ofNat j).toNat = j from rfl, h]
  show (r[j]?).getD (-1) = y
  rw [k]; rfl
end Go.Ev
end
section
namespace Go.Ev
set_option linter.all false
open Go.Proofs
theorem Steps_to {g : Lr.Gr} {syms : List Int} {i : Nat} {L I : List (List (Int × Int))} {R : List (List Int)} (h : g.Steps syms i L I R) :
    ∀ (k : Nat) r c, R[k]? = some r → I[k]? = some c → ∀ (j : Nat) (s : Int), syms[j]? = some s → ∃ t, r[j]? = some t ∧ ((t = -1 ∧ g.beh c s = []) ∨ (0 ≤ t ∧ g.beh c s ≠ [] ∧ L[t.toNat]? = some (g.beh c s))) := by
  induction h with
  | zero => intro k r c hr; simp at hr
  | @succ i L I R c r L' k hs hk hc hr ih =>
    obtain ⟨_, _, pre⟩ := Lr.row_scan hr
    obtain ⟨u, rfl⟩ := pre
    intro n q d hq hd j s hj
    by_cases hn : n < I.length
    · rw [List.getElem?_append_left hn] at hd
      rw [List.getElem?_append_left (by rw [hs.lens.2, ← hs.lens.1]; exact hn)] at hq
      obtain ⟨t, h1, h2⟩ := ih n q d hq hd j s hj
      refine ⟨t, h1, ?_⟩
      rcases h2 with h2 | ⟨a, b, e⟩
      · exact .inl h2
      · exact .inr ⟨a, b, (List.getElem?_append_left (List.getElem?_eq_some_iff.1 e).1).trans e⟩
    · have hn2 : n = I.length := by have := (List.getElem?_eq_some_iff.1 hd).1; simp at this; omega
      subst hn2
      rw [List.getElem?_append_right (Nat.le_refl _), Nat.sub_self] at hd
      rw [show I.length = R.length by rw [hs.lens.1, hs.lens.2], List.getElem?_append_right (Nat.le_refl _), Nat.sub_self] at hq
      cases hd; cases hq
      exact (Lr.row_to hr).2 j s hj
theorem led_item {toks nts : Int} {rs : List Rl} {c : List (Int × Int)} (h : ItemsOf rs c) {s : Int} {y : Int × Int} (hy : y ∈ (grOf toks nts rs).beh c s) :
    ∃ (r d : Nat) (q : Rl), y = (Int.ofNat r, Int.ofNat (d + 1)) ∧ rs[r]? = some q ∧ q.right[d]? = some s := by
  obtain ⟨x, hx, hs, rfl⟩ := Lr.beh_mem hy
  obtain ⟨r, d, q, rfl, hq, hd⟩ := h x hx
  rw [grOf_sym hq] at hs
  exact ⟨r, d, q, rfl, hq, hs⟩
theorem clos_items {toks nts : Int} {rs : List Rl} {k c : List (Int × Int)} (hk : Kern rs k) (hcl : (grOf toks nts rs).IsClos k c) : ItemsOf rs c := fun x hx => by
  have := hcl.sound x hx
  induction this with
  | base h => exact hk.items _ h
  | @step x y _ hkid _ =>
    obtain ⟨_, _, y0, h0, r, hr, _⟩ := hkid
    have : (grOf toks nts rs).rules = rs.map fun r => (r.left, r.right) := rfl
    rw [this, List.getElem?_map] at hr
    cases e : rs[y.1.toNat]? with
    | none => rw [e] at hr; cases hr
    | some q => exact ⟨y.1.toNat, 0, q, Prod.ext (Int.toNat_of_nonneg h0).symm y0, e, Nat.zero_le _⟩
theorem symsN_at {n j : Nat} (h : j < n) : (symsN n)[j]? = some (Int.ofNat j) := by
  unfold symsN
  rw [List.getElem?_map, List.getElem?_range h]; rfl
/-- All that are led to are marked. -/
noncomputable def Led (l : List Int) (bs : List Bool) : Prop := ∀ t : Nat, Int.ofNat t ∈ l → bs[t]? = some true
theorem Led.neg {l : List Int} {bs : List Bool} {y : Int} (h : Led l bs) (hy : y < 0) : Led (l ++ [y]) bs := fun t ht => by
  rcases List.mem_append.1 ht with ht | ht
  · exact h t ht
  · rw [List.mem_singleton] at ht
    have := ofNat_nn t
    omega
theorem Led.set {l : List Int} {bs : List Bool} {k : Nat} (h : Led l bs) (hk : k < bs.length) : Led (l ++ [Int.ofNat k]) (bs.set k true) := fun t ht => by
  rw [List.getElem?_set]
  by_cases e : k = t
  · rw [if_pos e, if_pos hk]
  · rw [if_neg e]
    rcases List.mem_append.1 ht with ht | ht
    · exact h t ht
    · rw [List.mem_singleton] at ht
      exact absurd (Int.ofNat.inj ht).symm e
/-- In a scan that goes through, all but the first are met. -/
theorem scan_all {l : List Int} {n : Nat} (h : Lr.scan l 1 = some (n : Int)) {v : Nat} (h1 : 1 ≤ v) (h2 : v < n) : Int.ofNat v ∈ l :=
  (Lr.scan_up _ _ _ h).2 (Int.ofNat v) (by have : (1 : Int) ≤ (v : Int) := by omega
                                           exact this) (by have : (v : Int) < (n : Int) := by omega
                                                           exact this)
end Go.Ev
end
section
namespace Go.Ev
set_option linter.all false
open Go.Proofs
set_option maxRecDepth 10000
set_option maxHeartbeats 4000000
theorem nodup_inj {α : Type} {l : List α} (h : l.Nodup) {i j : Nat} {x : α} (hi : l[i]? = some x) (hj : l[j]? = some x) : i = j := by
  obtain ⟨h1, e1⟩ := List.getElem?_eq_some_iff.1 hi
  obtain ⟨h2, e2⟩ := List.getElem?_eq_some_iff.1 hj
  have P := List.pairwise_iff_getElem.1 h
  rcases Nat.lt_trichotomy i j with k | k | k
  · exact absurd (e1.trans e2.symm) (P i j h1 h2 k)
  · exact k
  · exact absurd (e2.trans e1.symm) (P j i h2 h1 k)
theorem geq_low {P : Program} {ty : TypeId} {lit : Bool} {a b : Nat} {m : AMem} (h : a < b) : aBin2 P .geq ty lit (.int .i64 (.ofNat a)) (.int .i64 (.ofNat b)) m = .mk (.bool false) m := by
  rw [geq_is, decide_eq_true (show Int.ofNat a < Int.ofNat b from Int.ofNat_lt.2 h)]; rfl
theorem lss_zero {P : Program} {ty : TypeId} {lit : Bool} {a : Nat} {m : AMem} : aBin2 P .lss ty lit (.int .i64 (.ofNat a)) (.int .i64 0) m = .mk (.bool false) m := by
  rw [lss_is, decide_eq_false (Int.not_lt.2 (ofNat_nn _))]
theorem lss_one {P : Program} {ty : TypeId} {lit : Bool} {a : Nat} {m : AMem} : aBin2 P .lss ty lit (.int .i64 (.ofNat (a + 1))) (.int .i64 1) m = .mk (.bool false) m := by
  rw [lss_is, decide_eq_false (fun h => by have := ofNat_nn a; have e : Int.ofNat (a + 1) = Int.ofNat a + 1 := rfl; omega)]
theorem gtr_low {P : Program} {ty : TypeId} {lit : Bool} {a b : Nat} {m : AMem} (h : a ≤ b) : aBin2 P .gtr ty lit (.int .i64 (.ofNat a)) (.int .i64 (.ofNat b)) m = .mk (.bool false) m := by
  rw [gtr_is, decide_eq_false (fun k => by have := Int.ofNat_lt.1 k; omega)]
theorem sub_one {P : Program} {ty : TypeId} {lit : Bool} {a : Nat} {m : AMem} (h : a < 4611686018427387904) : aBin2 P .sub ty lit (.int .i64 (.ofNat (a + 1))) (.int .i64 1) m = .mk (.int .i64 (.ofNat a)) m := by
  have e : Int.ofNat (a + 1) = Int.ofNat a + 1 := rfl
  have e2 : Int.ofNat a = (a : Int) := rfl
  rw [sub_is (by omega) (by omega)]
  congr 2
  omega
theorem call6 {S : Sums} (hS : Plain S lwF) (h64 : S 64 = some insW) (h8 : S 8 = some begunSum) {m : AMem} {vt vr : AV} {g : GrD} (hg : GramIs m vt vr g) :
    ∃ r m', CallTo Tryz.prog S 6 [gramV vt g vr] m r m' ∧ r = .bool true := by
  have hS10 : Plain S [10, 28] := fun f hf => hS f (by simp at hf ⊢; omega)
  have hS9 : Plain S ofF := fun f hf => hS f (by simp at hf ⊢; omega)
  have hS16 : Plain S buF := fun f hf => hS f (by simp at hf ⊢; omega)
  have hS12 : Plain S [12] := fun f hf => hS f (by simp at hf ⊢; omega)
  have hS13 : Plain S [12, 13, 31, 32] := fun f hf => hS f (by simp at hf ⊢; omega)
  have hS15 : Plain S [12, 15, 31] := fun f hf => hS f (by simp at hf ⊢; omega)
  have hS17 : Plain S [17] := fun f hf => hS f (by simp at hf ⊢; omega)
  obtain ⟨i51, e51, s51⟩ := ei51
  refine XP.call (hS 6 (by decide)) cd6 nt6 ?_
  show XP _ _ _ _ (toT .leaf [(0, gramV vt g vr)]) m _
  unfold Tryz.f6
  dsimp only [Option.getD_some]
  have K : Kp Nothing m m := .refl m
  refine XP.seq ?_; refine XP.regionS ?_
  have hk1 := K.le
  refine RP.box rfl rfl rfl rfl fun M1 K1 B1 N1 => ?_
  have K := K.trans K1
  have hg1 := hg.up K1
  obtain ⟨u10, M10, hc10, K10, g', vt', vr', rfl, hg', hcut⟩ := call10 hS10 hg1
  obtain ⟨r9, M9, hc9, K9, cs, e, rfl, hcl, hcp, hsp⟩ := call9 hS9 hg' hcut.small hcut.short
  refine RP.o1 (.assign rfl) rfl rfl ?_; refine RP.nil ?_; refine XP.seq ?_; refine XP.regionS ?_; refine RP.o1 (.callS rfl rfl (begun8 h8)) rfl rfl ?_; refine RP.o1 (.assign rfl) rfl rfl ?_; refine RP.nil ?_; refine XP.seq ?_; refine XP.seq ?_; refine XP.regionS ?_; refine RP.o1 (.move rfl) rfl rfl ?_; refine RP.o1 (.not_ rfl) rfl rfl ?_; refine RP.nil ?_
  refine XP.condS false rfl ?_  -- if t19
  refine XP.skip ?_; refine XP.seq ?_; refine XP.regionS ?_; refine RP.o1 (.loadE rfl (by first | assumption | (apply BoxIs.el; assumption)) lay25 (by rfl)) rfl rfl ?_
  refine RP.op (.callS rfl rfl hc10) rfl rfl K10.le ?_; refine RP.op (.callS rfl rfl hc9) rfl rfl K9.le ?_
  have K := (K.trans K10).trans K9
  have B1 := (B1.up K10).up K9
  have hk9 := K.le
  have K9o := K
  refine RP.o1 (.move rfl) rfl rfl ?_; refine RP.o1 (.extract rfl rfl) rfl rfl ?_; refine RP.o1 (.extract rfl rfl) rfl rfl ?_
  have hk2 := K.le
  have lt1 := B1.lt
  refine RP.alloc z31 rfl rfl fun M2 K2 B4 N2 => ?_
  have K := K.trans K2
  have B1 := B1.up K2
  refine RP.store rfl rfl lay31 hcl B4 rfl hcp rfl rfl fun M3 K3 B4 N3 => ?_
  have B4 : BoxIs M3 M9.next cs := by
    have h := B4
    rw [show (AV.agg cs).cells = cs from rfl, setL_all (by rw [hcl]; rfl)] at h
    exact h
  have KZ : Kp Nothing M9 M3 := Kp.young (.refl _) (K2.any.trans K3) (by rintro _ rfl; exact Nat.le_refl _)
  have K := K9o.trans KZ
  refine RP.o1 (.assign rfl) rfl rfl ?_; refine RP.nil ?_; refine XP.seq ?_; refine XP.seq ?_; refine XP.regionS ?_; refine RP.o1 (.move rfl) rfl rfl ?_; refine RP.o1 (.bin rfl rfl neq_is) rfl rfl ?_; refine RP.nil ?_
  refine XP.condN rfl (fun hc27 => ?_) (fun hc27 => ?_)  -- if t27
  · refine XP.skip ?_; refine XP.seq ?_
    obtain ⟨s, rs, hv, hr, hW, hT, hN, hG⟩ := hsp hc27
    injection hv with hv
    subst hv
    have hB := hW.small
    obtain ⟨r0, hr0e, hr0l⟩ := hW.first
    have hsn : s.n ≤ 23 := by show s.toks + 1 + s.nts ≤ 23; omega
    obtain ⟨v16, M16, hc16, K16, h16⟩ := call16 hS16 h64 (hr.up KZ) hB ⟨r0, hr0e⟩ hT hN
    obtain ⟨av, f, rfl, hf0, hf6⟩ : ∃ (av : AV) (f : Int), v16 = .tup [av, .int .i64 f] ∧ (f = 0 → ∃ ba lv gv iv L I R, av = .ptr ba 0 ∧ AuSt s Nothing (M3.next + 1) ba M16 lv gv iv L R I ∧ (s.g rs).IsAuto (symsN s.n) L I R ∧ L.length ≤ 120 ∧ (∀ k ∈ L, Kern rs k)) ∧ (f ≠ 0 → f = 6) := by
      rcases h16 with ⟨ba, lv, gv, iv, L, I, R, rfl, au, hau, hL, hkn⟩ | ⟨rfl, _⟩
      · exact ⟨_, 0, rfl, fun _ => ⟨ba, lv, gv, iv, L, I, R, rfl, au, hau, hL, hkn⟩, fun h => absurd rfl h⟩
      · exact ⟨_, 6, rfl, fun h => absurd h (by decide), fun _ => rfl⟩
    refine XP.regionS ?_; refine RP.o1 (.loadE rfl (by first | assumption | (apply BoxIs.el; assumption)) lay31 (by rfl)) rfl rfl ?_
    refine RP.op (.callS rfl rfl hc16) rfl rfl K16.le ?_
    have K := K.trans K16
    have B4 := B4.up K16
    have B4o := B4
    have K0 := K
    refine RP.o1 (.move rfl) rfl rfl ?_; refine RP.o1 (.extract rfl rfl) rfl rfl ?_; refine RP.o1 (.extract rfl rfl) rfl rfl ?_; refine RP.o1 (.assign rfl) rfl rfl ?_; refine RP.o1 (.assign rfl) rfl rfl ?_; refine RP.nil ?_; refine XP.seq ?_; refine XP.seq ?_; refine XP.regionS ?_; refine RP.o1 (.move rfl) rfl rfl ?_; refine RP.o1 (.bin rfl rfl neq_is) rfl rfl ?_; refine RP.nil ?_
    refine XP.condN rfl (fun hc34 => ?_) (fun hc34 => ?_)  -- if t34
    · refine XP.skip ?_; refine XP.seq ?_
      obtain ⟨ba, lv, gv, iv, L, I, R, rfl, au, hau, hL, hkn⟩ := hf0 hc34
      have hat := Steps_at hau.steps
      have hrn : ∀ r ∈ R, r.length = s.n := fun r hr => by rw [hat.2 r hr]; simp [symsN]
      have hRl : R.length = L.length := hau.steps.lens.2
      have hsc := hau.steps.scan.1
      have hLn := hau.steps.scan.2
      have hIl : I.length = L.length := hau.steps.lens.1
      have hLs : ∀ k ∈ L, k.length ≤ 1048576 := fun k hk => by have := hkn k hk; have := items_few hB this.items this.nodup; omega
      have hrM0 := (hr.up KZ).up K16
      refine XP.regionS ?_; refine RP.o1 (.move rfl) rfl rfl ?_; refine RP.o1 (.callS rfl rfl (call12 hS12 au)) rfl rfl ?_; refine RP.o1 (.assign rfl) rfl rfl ?_; refine RP.nil ?_; refine XP.seq ?_; refine XP.regionS ?_; refine RP.o1 (.move rfl) rfl rfl ?_; refine RP.make1 e51 s51 rfl rfl (by omega) rfl rfl fun MY KY BY NY => ?_
      have BY0 : BoxIs MY M16.next ((List.replicate L.length false).map AV.bool) := by rw [List.map_replicate]; exact BY
      have K := K.trans KY
      refine RP.o1 (.assign rfl) rfl rfl ?_; refine RP.nil ?_; refine XP.seq ?_; refine XP.seq ?_; refine XP.regionS ?_; refine RP.o1 (.assign rfl) rfl rfl ?_; refine RP.nil ?_
      refine XP.block ?_  -- block 0
      refine XP.while (fun d t m1 => ∃ i bs t0, t = toT t0 [(10, .int .i64 (.ofNat i)), (9, .slice M16.next 0 L.length (some L.length)), (8, .int .i64 (.ofNat L.length)), (6, .ptr ba 0), (4, .ptr M9.next 0)] ∧ d = L.length - i ∧ i ≤ L.length ∧ Led (R.take i).flatten bs ∧ bs.length = L.length ∧ BoxIs m1 M16.next (bs.map AV.bool) ∧ Kp Nothing M16 m1) ?_ L.length _ _ ?_
      rotate_left
      · exact ⟨0, _, _, toT_less (.cons rfl (.cons rfl (.cons rfl (.cons rfl (.cons rfl (.nil)))))), rfl, Nat.zero_le _, fun t ht => by simp at ht, by simp, BY0, KY⟩
      rintro d t M4 ⟨i, bs, t0, rfl, rfl, hin, hled, hbl, BY, KA⟩
      have K := K0.trans KA
      have B4 := B4o.up KA
      have auM := au.up KA
      refine XP.seq ?_; refine XP.seq ?_; refine XP.regionS ?_; refine RP.o1 (.move rfl) rfl rfl ?_; refine RP.o1 (.move rfl) rfl rfl ?_; refine RP.o1 (.bin rfl rfl (by first | exact lss_nat | exact lss_is)) rfl rfl ?_; refine RP.nil ?_
      refine XP.condD rfl (fun hc43 => ?_) (fun hc43 => ?_)  -- if t43
      · refine XP.skip ?_; refine XP.seq ?_
        refine XP.block ?_  -- block 1
        refine XP.seq ?_; refine XP.seq ?_
        obtain ⟨r, hrr⟩ : ∃ r, R[i]? = some r := ⟨R[i]'(by omega), List.getElem?_eq_getElem _⟩
        have hrl := hrn r (List.mem_of_getElem? hrr)
        obtain ⟨c, hci⟩ : ∃ c, I[i]? = some c := ⟨I[i]'(by omega), List.getElem?_eq_getElem _⟩
        obtain ⟨ki, hki, hcl⟩ := hat.1 i c hci
        have hcit : ItemsOf rs c := clos_items (hkn ki (List.mem_of_getElem? hki)) hcl
        have hto := Steps_to hau.steps i r c hrr hci
        refine XP.regionS ?_; refine RP.o1 (.assign rfl) rfl rfl ?_; refine RP.nil ?_
        refine XP.block ?_  -- block 2
        refine XP.while (fun d t m1 => ∃ k t0, t = toT t0 [(11, .int .i64 (.ofNat k)), (10, .int .i64 (.ofNat i)), (9, .slice M16.next 0 L.length (some L.length)), (8, .int .i64 (.ofNat L.length)), (6, .ptr ba 0), (4, .ptr M9.next 0)] ∧ d = i - k ∧ k ≤ i ∧ BoxIs m1 M16.next (bs.map AV.bool) ∧ Kp Nothing M16 m1) ?_ i _ _ ?_
        rotate_left
        · exact ⟨0, _, toT_less (.cons rfl (.cons rfl (.cons rfl (.cons rfl (.cons rfl (.cons rfl (.nil))))))), rfl, Nat.zero_le _, BY, KA⟩
        rintro d t M5 ⟨k, t0, rfl, rfl, hkn2, BY, KB⟩
        have K := K0.trans KB
        have B4 := B4o.up KB
        have auN := au.up KB
        refine XP.seq ?_; refine XP.seq ?_; refine XP.regionS ?_; refine RP.o1 (.move rfl) rfl rfl ?_; refine RP.o1 (.move rfl) rfl rfl ?_; refine RP.o1 (.bin rfl rfl (by first | exact lss_nat | exact lss_is)) rfl rfl ?_; refine RP.nil ?_
        refine XP.condD rfl (fun hc48 => ?_) (fun hc48 => ?_)  -- if t48
        · refine XP.skip ?_; refine XP.seq ?_
          refine XP.block ?_  -- block 3
          refine XP.seq ?_
          obtain ⟨kk, hkk⟩ : ∃ kk, L[k]? = some kk := ⟨L[k]'(by omega), List.getElem?_eq_getElem _⟩
          obtain ⟨u1, N1q, hc13, J1, R1⟩ := call13 hS13 auN hIl hLs (.ofNat i)
          rw [if_pos (ofNat_nn i), show (Int.ofNat i).toNat = i from rfl, hki] at R1
          have R1 : RowIs itC 2 N1q u1 ki := R1
          obtain ⟨u2, N2q, hc13b, J2, R2⟩ := call13 hS13 (auN.up J1) hIl hLs (.ofNat k)
          rw [if_pos (ofNat_nn k), show (Int.ofNat k).toNat = k from rfl, hkk] at R2
          have R2 : RowIs itC 2 N2q u2 kk := R2
          have hc17 := call17 hS17 (R1.up J2) R2 (by have := hLs ki (List.mem_of_getElem? hki); have := hkn ki (List.mem_of_getElem? hki); have := items_few hB this.items this.nodup; omega)
          have hne : ki ≠ kk := fun e => by
            have := nodup_inj hLn hki (e ▸ hkk)
            omega
          rw [decide_eq_false hne] at hc17
          have KC := (KB.trans J1).trans J2
          have BYc := (BY.up J1).up J2
          refine XP.regionS ?_; refine RP.o1 (.move rfl) rfl rfl ?_; refine RP.o1 (.move rfl) rfl rfl ?_; refine RP.op (.callS rfl rfl hc13) rfl rfl J1.le ?_; refine RP.o1 (.move rfl) rfl rfl ?_; refine RP.o1 (.move rfl) rfl rfl ?_; refine RP.op (.callS rfl rfl hc13b) rfl rfl J2.le ?_; refine RP.o1 (.callS rfl rfl hc17) rfl rfl ?_; refine RP.nil ?_
          refine XP.condS false rfl ?_  -- if t57
          refine XP.skip ?_; refine XP.regionS ?_; refine RP.o1 (.move rfl) rfl rfl ?_
          refine RP.o1 (.bin rfl rfl (by first | exact inc_is (by omega) | exact add_is (by omega) (by omega))) rfl rfl ?_
          refine RP.o1 (.assign rfl) rfl rfl ?_; refine RP.nil ?_
          exact ⟨i - (k + 1), by omega, k + 1, _, toT_less (.cons rfl (.cons rfl (.cons rfl (.cons rfl (.cons rfl (.cons rfl (.nil))))))), rfl, by omega, BYc, KC⟩
        · refine XP.exit ?_  -- 2
          refine XP.seq ?_; refine XP.regionS ?_; refine RP.o1 (.assign rfl) rfl rfl ?_; refine RP.nil ?_
          refine XP.block ?_  -- block 4
          refine XP.while (fun d t m1 => ∃ j bs t0, t = toT t0 [(12, .int .i64 (.ofNat j)), (10, .int .i64 (.ofNat i)), (9, .slice M16.next 0 L.length (some L.length)), (8, .int .i64 (.ofNat L.length)), (6, .ptr ba 0), (4, .ptr M9.next 0)] ∧ d = s.n - j ∧ j ≤ s.n ∧ Led ((R.take i).flatten ++ r.take j) bs ∧ bs.length = L.length ∧ BoxIs m1 M16.next (bs.map AV.bool) ∧ Kp Nothing M16 m1) ?_ s.n _ _ ?_
          rotate_left
          · exact ⟨0, bs, _, toT_less (.cons rfl (.cons rfl (.cons rfl (.cons rfl (.cons rfl (.cons rfl (.nil))))))), rfl, Nat.zero_le _, by rw [List.take_zero, List.append_nil]; exact hled, hbl, BY, KB⟩
          rintro d t M6 ⟨j, bs, t0, rfl, rfl, hjn, hled, hbl, BY, KC⟩
          have K := K0.trans KC
          have B4 := B4o.up KC
          have auN := au.up KC
          refine XP.seq ?_; refine XP.seq ?_; refine XP.regionS ?_; refine RP.o1 (.move rfl) rfl rfl ?_; refine RP.o1 (.fieldAddr rfl fa31_0) rfl rfl ?_
          refine RP.o1 (.load1 rfl lay3 (by first | (apply BoxIs.get; assumption; rfl) | (apply ElAt.get; assumption; rfl) | (apply ElAt.get0; assumption; rfl) | assumption)) rfl rfl ?_
          refine RP.o1 (.fieldAddr rfl fa31_1) rfl rfl ?_
          refine RP.o1 (.load1 rfl lay3 (by first | (apply BoxIs.get; assumption; rfl) | (apply ElAt.get; assumption; rfl) | (apply ElAt.get0; assumption; rfl) | assumption)) rfl rfl ?_
          refine RP.o1 (.bin rfl rfl (addN_is (by omega))) rfl rfl ?_; refine RP.o1 (.bin rfl rfl leq_is) rfl rfl ?_; refine RP.nil ?_
          refine XP.condN rfl (fun hc64 => ?_) (fun hc64 => ?_)  -- if t64
          · refine XP.exit ?_  -- 4
            have hc64 := Int.ofNat_lt.1 hc64
            have hle : Led (R.take (i + 1)).flatten bs := by
              rw [flat_take hrr]
              rw [show r.take j = r from List.take_of_length_le (by rw [hrl]; show s.toks + 1 + s.nts ≤ j; omega)] at hled
              exact hled
            refine XP.regionS ?_; refine RP.o1 (.move rfl) rfl rfl ?_
            refine RP.o1 (.bin rfl rfl (by first | exact inc_is (by omega) | exact add_is (by omega) (by omega))) rfl rfl ?_
            refine RP.o1 (.assign rfl) rfl rfl ?_; refine RP.nil ?_
            exact ⟨L.length - (i + 1), by omega, i + 1, bs, _, toT_less (.cons rfl (.cons rfl (.cons rfl (.cons rfl (.cons rfl (.nil)))))), rfl, by omega, hle, hbl, BY, KC⟩
          · refine XP.skip ?_; refine XP.seq ?_
            refine XP.block ?_  -- block 5
            refine XP.seq ?_
            have hc64 : ¬ s.toks + s.nts < j := fun h => hc64 (Int.ofNat_lt.2 h)
            have hj : j < s.n := by show j < s.toks + 1 + s.nts; omega
            obtain ⟨y, hy, hyw⟩ := hto j _ (symsN_at hj)
            have hc15 := call15 hS15 auN hRl (.ofNat i) (.ofNat j)
            rw [goesTo_at hrr hy] at hc15
            have htk : r.take (j + 1) = r.take j ++ [y] := by rw [List.take_add_one, hy]; rfl
            refine XP.regionS ?_; refine RP.o1 (.move rfl) rfl rfl ?_; refine RP.o1 (.move rfl) rfl rfl ?_; refine RP.o1 (.move rfl) rfl rfl ?_; refine RP.o1 (.callS rfl rfl hc15) rfl rfl ?_; refine RP.o1 (.assign rfl) rfl rfl ?_; refine RP.nil ?_; refine XP.seq ?_; refine XP.seq ?_; refine XP.regionS ?_; refine RP.o1 (.move rfl) rfl rfl ?_; refine RP.o1 (.bin rfl rfl (by first | exact lss_nat | exact lss_is)) rfl rfl ?_; refine RP.nil ?_
            refine XP.condD rfl (fun hc72 => ?_) (fun hc72 => ?_)  -- if t72
            · refine XP.exit ?_  -- 5
              refine XP.regionS ?_; refine RP.o1 (.move rfl) rfl rfl ?_
              refine RP.o1 (.bin rfl rfl (by first | exact inc_is (by omega) | exact add_is (by omega) (by omega))) rfl rfl ?_
              refine RP.o1 (.assign rfl) rfl rfl ?_; refine RP.nil ?_
              exact ⟨s.n - (j + 1), by omega, j + 1, bs, _, toT_less (.cons rfl (.cons rfl (.cons rfl (.cons rfl (.cons rfl (.cons rfl (.nil))))))), rfl, by omega, by rw [htk, ← List.append_assoc]; exact hled.neg hc72, hbl, BY, KC⟩
            · refine XP.skip ?_; refine XP.seq ?_; refine XP.seq ?_
              obtain ⟨yk, rfl⟩ : ∃ yk : Nat, y = .ofNat yk := ⟨y.toNat, (Int.toNat_of_nonneg (by omega)).symm⟩
              obtain ⟨_, hbne, hLy⟩ := hyw.resolve_left fun h => by have := ofNat_nn yk; omega
              have hLy : L[yk]? = some ((s.g rs).beh c (.ofNat j)) := hLy
              have hyk : yk < L.length := (List.getElem?_eq_some_iff.1 hLy).1
              refine XP.regionS ?_; refine RP.o1 (.move rfl) rfl rfl ?_; refine RP.o1 (.move rfl) rfl rfl ?_; refine RP.o1 (.bin (v := .bool false) rfl rfl (geq_low hyk)) rfl rfl ?_; refine RP.nil ?_
              refine XP.condS false rfl ?_  -- if t75
              refine XP.skip ?_; refine XP.seq ?_; refine XP.regionS ?_; refine RP.o1 (.move rfl) rfl rfl ?_; refine RP.o1 (.move rfl) rfl rfl ?_; refine RP.o1 (.indexAddr rfl rfl ix51 (by assumption)) rfl rfl ?_; refine RP.store rfl rfl lay4 rfl BY (Nat.ble_eq_true_of_le (by simp; omega)) rfl rfl rfl fun M7 K7 BY N7 => ?_
              have BY : BoxIs M7 M16.next ((bs.set yk true).map AV.bool) := by rw [← setL_bool (by omega)]; exact BY
              have KE := KC.young K7 (by rintro _ rfl; exact Nat.le_refl _)
              refine RP.nil ?_; refine XP.seq ?_
              obtain ⟨u3, N3q, hc13, J3, R3⟩ := call13 hS13 (au.up KE) hIl hLs (.ofNat yk)
              rw [if_pos (ofNat_nn yk), show (Int.ofNat yk).toNat = yk from rfl, hLy] at R3
              have R3 : RowIs itC 2 N3q u3 ((s.g rs).beh c (.ofNat j)) := R3
              have BYF := BY.up J3
              refine XP.regionS ?_; refine RP.o1 (.move rfl) rfl rfl ?_; refine RP.o1 (.move rfl) rfl rfl ?_; refine RP.op (.callS rfl rfl hc13) rfl rfl J3.le ?_; refine RP.o1 (.assign rfl) rfl rfl ?_; refine RP.nil ?_; refine XP.seq ?_; refine XP.regionS ?_; refine RP.o1 (.assign rfl) rfl rfl ?_; refine RP.nil ?_
              refine XP.block ?_  -- block 6
              refine XP.while (fun d t m1 => ∃ n t0, t = toT t0 [(15, .int .i64 (.ofNat n)), (14, u3), (12, .int .i64 (.ofNat j)), (10, .int .i64 (.ofNat i)), (9, .slice M16.next 0 L.length (some L.length)), (8, .int .i64 (.ofNat L.length)), (6, .ptr ba 0), (4, .ptr M9.next 0)] ∧ d = ((s.g rs).beh c (.ofNat j)).length - n ∧ n ≤ ((s.g rs).beh c (.ofNat j)).length ∧ Kp Nothing N3q m1) ?_ ((s.g rs).beh c (.ofNat j)).length _ _ ?_
              rotate_left
              · exact ⟨0, _, toT_less (.cons rfl (.cons rfl (.cons rfl (.cons rfl (.cons rfl (.cons rfl (.cons rfl (.cons rfl (.nil))))))))), rfl, Nat.zero_le _, .refl _⟩
              rintro d t M8 ⟨n, t0, rfl, rfl, hnn, KF⟩
              have KG := (KE.trans J3).trans KF
              have K := K0.trans KG
              have B4 := B4o.up KG
              have R3m := R3.up KF
              have hrM := hrM0.up KG
              refine XP.seq ?_; refine XP.seq ?_; refine XP.regionS ?_; refine RP.o1 (.move rfl) rfl rfl ?_; refine RP.o1 (.move rfl) rfl rfl ?_; refine RP.o1 (.len rfl (rowLen R3m)) rfl rfl ?_; refine RP.o1 (.bin rfl rfl (by first | exact lss_nat | exact lss_is)) rfl rfl ?_; refine RP.nil ?_
              refine XP.condD rfl (fun hc85 => ?_) (fun hc85 => ?_)  -- if t85
              · refine XP.skip ?_; refine XP.seq ?_
                refine XP.block ?_  -- block 7
                refine XP.seq ?_
                obtain ⟨it, hit⟩ : ∃ it, ((s.g rs).beh c (.ofNat j))[n]? = some it := ⟨_, List.getElem?_eq_getElem hc85⟩
                obtain ⟨ri, di, q, rfl, hq, hqd⟩ := led_item hcit (List.mem_of_getElem? hit)
                obtain ⟨bk, ok, ck, e8, _, EK⟩ := R3m.elem encIt (.refl _) hit
                subst e8
                obtain ⟨hri, _⟩ := List.getElem?_eq_some_iff.1 hq
                obtain ⟨hdi, _⟩ := List.getElem?_eq_some_iff.1 hqd
                obtain ⟨br, or_, cr, vq, e5, _, E1, RQ, _⟩ := hrM.elem (.refl _) hq
                have hvr : s.vr = .slice br or_ rs.length cr := e5
                have hB7 := B4.get (j := 7) (v := .slice br or_ rs.length cr) (by rw [← hvr]; rfl)
                obtain ⟨bq, oq, cq, e6, _, EQ⟩ := RQ.elem encI (.refl _) hqd
                rw [e6] at E1
                have hkb := hkn _ (List.mem_of_getElem? hLy)
                have hns := items_few hB hkb.items hkb.nodup
                have hqs := hB.short q (List.mem_of_getElem? hq)
                refine XP.drawnS (ms := [0, 0, 3, 7, 15, 31, 63, 127, 127, 511, 1023, 2047, 127, 4223, 12415, 32767, 65535, 131071, 262143, 262143, 1048575, 2097151, 4194303, 8388607, 16777215, 33554431, 67108863, 67108863, 268435455, 536870911, 1073741823, 67108863, 2214592511, 67108863, 67108863, 25836912639, 60196651007, 128916127743, 272797532159, 547675439103, 1097431252991, 2196942880767, 4398046511103, 8796093022207, 17592186044415, 35184372088831, 70368744177663, 35184372088831, 35184372088831, 457396837154815, 1020346790576127, 2146246697418751, 4503599627370495, 9007199254740991, 18014398509481983, 35184372088831, 35184372088831, 108121575428980735, 252236763504836607, 540467139656548351, 1116927891959971839, 2305843009213693951, 4611686018427387903, 35184372088831, 18446744073709551615, 36893488147419103231]) (by kernel_rfl) ?_; refine DP.pure (.move rfl) rfl rfl rfl ?_; refine DP.pure (.move rfl) rfl rfl rfl ?_; refine DP.pure (.indexAddr rfl rfl ix46 (by assumption)) rfl rfl rfl ?_; refine DP.pure (.fieldAddr rfl fa54_0) rfl rfl rfl ?_
                refine DP.read (fun _ => op_load1 (ev_is rfl) lay3 (by first | (apply BoxIs.get; assumption; rfl) | (apply ElAt.get; assumption; rfl) | (apply ElAt.get0; assumption; rfl) | assumption)) rfl rfl rfl (fun _ => op_load_leaf) (.inl (by kernel_rfl)) (fun _ => cuts_nil) ?_
                refine DP.pure (.bin (v := .bool false) rfl rfl lss_zero) rfl rfl rfl ?_; refine DP.pure (.move rfl) rfl rfl rfl ?_; refine DP.pure (.move rfl) rfl rfl ⟨_,_,_,rfl,rfl,rfl,rfl⟩ ?_; refine DP.pure (.move rfl) rfl rfl ⟨_,_,_,rfl,rfl,rfl,rfl⟩ ?_; refine DP.pure (.indexAddr rfl rfl ix46 (by assumption)) rfl rfl ⟨_,_,_,rfl,rfl,rfl,rfl⟩ ?_; refine DP.pure (.fieldAddr rfl fa54_0) rfl rfl ⟨_,_,_,rfl,rfl,rfl,rfl⟩ ?_
                refine DP.read (fun _ => op_load1 (ev_is rfl) lay3 (by first | (apply BoxIs.get; assumption; rfl) | (apply ElAt.get; assumption; rfl) | (apply ElAt.get0; assumption; rfl) | assumption)) rfl rfl ⟨_,_,_,rfl,rfl,rfl,rfl⟩ (fun _ => op_load_leaf) (.inl (by kernel_rfl)) (fun _ => cuts_nil) ?_
                refine DP.pure (.fieldAddr rfl fa31_7) rfl rfl ⟨_,_,_,rfl,rfl,rfl,rfl⟩ ?_; refine DP.read (fun _ => op_load1 (ev_is rfl) lay29 hB7) rfl rfl ⟨_,_,_,rfl,rfl,rfl,rfl⟩ (fun _ => op_load_leaf) (.inl (by kernel_rfl)) (fun _ => cuts_nil) ?_; refine DP.pure (.len rfl len29) rfl rfl ⟨_,_,_,rfl,rfl,rfl,rfl⟩ ?_; refine DP.pure (.bin (v := .bool false) rfl rfl (geq_low hri)) rfl rfl ⟨_,_,_,rfl,rfl,rfl,rfl⟩ ?_; refine DP.pure (.pick (b := false) rfl rfl) rfl rfl rfl ?_; refine DP.pure (.move rfl) rfl rfl rfl ?_; refine DP.pure (.move rfl) rfl rfl ⟨_,_,_,rfl,rfl,rfl,rfl⟩ ?_; refine DP.pure (.move rfl) rfl rfl ⟨_,_,_,rfl,rfl,rfl,rfl⟩ ?_; refine DP.pure (.indexAddr rfl rfl ix46 (by assumption)) rfl rfl ⟨_,_,_,rfl,rfl,rfl,rfl⟩ ?_; refine DP.pure (.fieldAddr rfl fa54_1) rfl rfl ⟨_,_,_,rfl,rfl,rfl,rfl⟩ ?_
                refine DP.read (fun _ => op_load1 (ev_is rfl) lay3 (by first | (apply BoxIs.get; assumption; rfl) | (apply ElAt.get; assumption; rfl) | (apply ElAt.get0; assumption; rfl) | assumption)) rfl rfl ⟨_,_,_,rfl,rfl,rfl,rfl⟩ (fun _ => op_load_leaf) (.inl (by kernel_rfl)) (fun _ => cuts_nil) ?_
                refine DP.pure (.bin (v := .bool false) rfl rfl lss_one) rfl rfl ⟨_,_,_,rfl,rfl,rfl,rfl⟩ ?_; refine DP.pure (.pick (b := false) rfl rfl) rfl rfl rfl ?_; refine DP.pure (.move rfl) rfl rfl rfl ?_; refine DP.pure (.move rfl) rfl rfl ⟨_,_,_,rfl,rfl,rfl,rfl⟩ ?_; refine DP.pure (.move rfl) rfl rfl ⟨_,_,_,rfl,rfl,rfl,rfl⟩ ?_; refine DP.pure (.indexAddr rfl rfl ix46 (by assumption)) rfl rfl ⟨_,_,_,rfl,rfl,rfl,rfl⟩ ?_; refine DP.pure (.fieldAddr rfl fa54_1) rfl rfl ⟨_,_,_,rfl,rfl,rfl,rfl⟩ ?_
                refine DP.read (fun _ => op_load1 (ev_is rfl) lay3 (by first | (apply BoxIs.get; assumption; rfl) | (apply ElAt.get; assumption; rfl) | (apply ElAt.get0; assumption; rfl) | assumption)) rfl rfl ⟨_,_,_,rfl,rfl,rfl,rfl⟩ (fun _ => op_load_leaf) (.inl (by kernel_rfl)) (fun _ => cuts_nil) ?_
                refine DP.pure (.fieldAddr rfl fa31_7) rfl rfl ⟨_,_,_,rfl,rfl,rfl,rfl⟩ ?_; refine DP.read (fun _ => op_load1 (ev_is rfl) lay29 hB7) rfl rfl ⟨_,_,_,rfl,rfl,rfl,rfl⟩ (fun _ => op_load_leaf) (.inl (by kernel_rfl)) (fun _ => cuts_nil) ?_; refine DP.pure (.move rfl) rfl rfl ⟨_,_,_,rfl,rfl,rfl,rfl⟩ ?_; refine DP.pure (.move rfl) rfl rfl ⟨_,_,_,rfl,rfl,rfl,rfl⟩ ?_; refine DP.pure (.indexAddr rfl rfl ix46 (by assumption)) rfl rfl ⟨_,_,_,rfl,rfl,rfl,rfl⟩ ?_; refine DP.pure (.fieldAddr rfl fa54_0) rfl rfl ⟨_,_,_,rfl,rfl,rfl,rfl⟩ ?_
                refine DP.read (fun _ => op_load1 (ev_is rfl) lay3 (by first | (apply BoxIs.get; assumption; rfl) | (apply ElAt.get; assumption; rfl) | (apply ElAt.get0; assumption; rfl) | assumption)) rfl rfl ⟨_,_,_,rfl,rfl,rfl,rfl⟩ (fun _ => op_load_leaf) (.inl (by kernel_rfl)) (fun _ => cuts_nil) ?_
                refine DP.pure (.indexAddr rfl rfl ix29 (by assumption)) rfl rfl ⟨_,_,_,rfl,rfl,rfl,rfl⟩ ?_; refine DP.pure (.fieldAddr rfl fa56_1) rfl rfl ⟨_,_,_,rfl,rfl,rfl,rfl⟩ ?_
                refine DP.read (fun _ => op_load1 (ev_is rfl) lay28 (by first | (apply BoxIs.get; assumption; rfl) | (apply ElAt.get; assumption; rfl) | (apply ElAt.get0; assumption; rfl) | assumption)) rfl rfl ⟨_,_,_,rfl,rfl,rfl,rfl⟩ (fun _ => op_load_leaf) (.inl (by kernel_rfl)) (fun _ => cuts_nil) ?_
                refine DP.pure (.len rfl len28) rfl rfl ⟨_,_,_,rfl,rfl,rfl,rfl⟩ ?_; refine DP.pure (.bin (v := .bool false) rfl rfl (gtr_low (by omega))) rfl rfl ⟨_,_,_,rfl,rfl,rfl,rfl⟩ ?_; refine DP.pure (.pick (b := false) rfl rfl) rfl rfl rfl ?_; refine DP.pure (.move rfl) rfl rfl rfl ?_; refine DP.pure (.fieldAddr rfl fa31_7) rfl rfl ⟨_,_,_,rfl,rfl,rfl,rfl⟩ ?_; refine DP.read (fun _ => op_load1 (ev_is rfl) lay29 hB7) rfl rfl ⟨_,_,_,rfl,rfl,rfl,rfl⟩ (fun _ => op_load_leaf) (.inl (by kernel_rfl)) (fun _ => cuts_nil) ?_; refine DP.pure (.move rfl) rfl rfl ⟨_,_,_,rfl,rfl,rfl,rfl⟩ ?_; refine DP.pure (.move rfl) rfl rfl ⟨_,_,_,rfl,rfl,rfl,rfl⟩ ?_; refine DP.pure (.indexAddr rfl rfl ix46 (by assumption)) rfl rfl ⟨_,_,_,rfl,rfl,rfl,rfl⟩ ?_; refine DP.pure (.fieldAddr rfl fa54_0) rfl rfl ⟨_,_,_,rfl,rfl,rfl,rfl⟩ ?_
                refine DP.read (fun _ => op_load1 (ev_is rfl) lay3 (by first | (apply BoxIs.get; assumption; rfl) | (apply ElAt.get; assumption; rfl) | (apply ElAt.get0; assumption; rfl) | assumption)) rfl rfl ⟨_,_,_,rfl,rfl,rfl,rfl⟩ (fun _ => op_load_leaf) (.inl (by kernel_rfl)) (fun _ => cuts_nil) ?_
                refine DP.pure (.indexAddr rfl rfl ix29 (by assumption)) rfl rfl ⟨_,_,_,rfl,rfl,rfl,rfl⟩ ?_; refine DP.pure (.fieldAddr rfl fa56_1) rfl rfl ⟨_,_,_,rfl,rfl,rfl,rfl⟩ ?_
                refine DP.read (fun _ => op_load1 (ev_is rfl) lay28 (by first | (apply BoxIs.get; assumption; rfl) | (apply ElAt.get; assumption; rfl) | (apply ElAt.get0; assumption; rfl) | assumption)) rfl rfl ⟨_,_,_,rfl,rfl,rfl,rfl⟩ (fun _ => op_load_leaf) (.inl (by kernel_rfl)) (fun _ => cuts_nil) ?_
                refine DP.pure (.move rfl) rfl rfl ⟨_,_,_,rfl,rfl,rfl,rfl⟩ ?_; refine DP.pure (.move rfl) rfl rfl ⟨_,_,_,rfl,rfl,rfl,rfl⟩ ?_; refine DP.pure (.indexAddr rfl rfl ix46 (by assumption)) rfl rfl ⟨_,_,_,rfl,rfl,rfl,rfl⟩ ?_; refine DP.pure (.fieldAddr rfl fa54_1) rfl rfl ⟨_,_,_,rfl,rfl,rfl,rfl⟩ ?_
                refine DP.read (fun _ => op_load1 (ev_is rfl) lay3 (by first | (apply BoxIs.get; assumption; rfl) | (apply ElAt.get; assumption; rfl) | (apply ElAt.get0; assumption; rfl) | assumption)) rfl rfl ⟨_,_,_,rfl,rfl,rfl,rfl⟩ (fun _ => op_load_leaf) (.inl (by kernel_rfl)) (fun _ => cuts_nil) ?_
                refine DP.pure (.bin (v := .int .i64 (.ofNat di)) rfl rfl (sub_one (by omega))) rfl rfl ⟨_,_,_,rfl,rfl,rfl,rfl⟩ ?_; refine DP.pure (.indexAddr rfl rfl ix28 (by assumption)) rfl rfl ⟨_,_,_,rfl,rfl,rfl,rfl⟩ ?_
                refine DP.read (fun _ => op_load1 (ev_is rfl) lay3 (by first | (apply BoxIs.get; assumption; rfl) | (apply ElAt.get; assumption; rfl) | (apply ElAt.get0; assumption; rfl) | assumption)) rfl rfl ⟨_,_,_,rfl,rfl,rfl,rfl⟩ (fun _ => op_load_leaf) (.inl (by kernel_rfl)) (fun _ => cuts_nil) ?_
                refine DP.pure (.move rfl) rfl rfl ⟨_,_,_,rfl,rfl,rfl,rfl⟩ ?_; refine DP.pure (.bin (v := .bool false) rfl rfl neq_self) rfl rfl ⟨_,_,_,rfl,rfl,rfl,rfl⟩ ?_; refine DP.pure (.pick (b := false) rfl rfl) rfl rfl rfl ?_; refine DP.nil ?_
                refine XP.condS false rfl ?_  -- if t153
                refine XP.skip ?_; refine XP.regionS ?_; refine RP.o1 (.move rfl) rfl rfl ?_
                refine RP.o1 (.bin rfl rfl (by first | exact inc_is (by omega) | exact add_is (by omega) (by omega))) rfl rfl ?_
                refine RP.o1 (.assign rfl) rfl rfl ?_; refine RP.nil ?_
                exact ⟨((s.g rs).beh c (.ofNat j)).length - (n + 1), by omega, n + 1, _, toT_less (.cons rfl (.cons rfl (.cons rfl (.cons rfl (.cons rfl (.cons rfl (.cons rfl (.cons rfl (.nil))))))))), rfl, by omega, KF⟩
              · refine XP.exit ?_  -- 6
                refine XP.regionS ?_; refine RP.o1 (.move rfl) rfl rfl ?_
                refine RP.o1 (.bin rfl rfl (by first | exact inc_is (by omega) | exact add_is (by omega) (by omega))) rfl rfl ?_
                refine RP.o1 (.assign rfl) rfl rfl ?_; refine RP.nil ?_
                exact ⟨s.n - (j + 1), by omega, j + 1, bs.set yk true, _, toT_less (.cons rfl (.cons rfl (.cons rfl (.cons rfl (.cons rfl (.cons rfl (.nil))))))), rfl, by omega, by rw [htk, ← List.append_assoc]; exact hled.set (by omega), by simp [hbl], BYF.up KF, (KE.trans J3).trans KF⟩
      · refine XP.exit ?_  -- 0
        refine XP.seq ?_; refine XP.seq ?_
        have hled : Led R.flatten bs := by
          rw [List.take_of_length_le (by omega)] at hled
          exact hled
        have hpos : 0 < L.length := by
          rcases Nat.lt_or_ge 0 L.length with h | h
          · exact h
          · have h1 := hau.steps
            rw [show L.length = 0 by omega] at h1
            cases h1
            simp at h
        refine XP.regionS ?_; refine RP.o1 (.assign rfl) rfl rfl ?_; refine RP.nil ?_
        refine XP.block ?_  -- block 8
        refine XP.while (fun d t m1 => ∃ n t0, t = toT t0 [(16, .int .i64 (.ofNat n)), (9, .slice M16.next 0 L.length (some L.length)), (8, .int .i64 (.ofNat L.length))] ∧ d = L.length - n ∧ 1 ≤ n ∧ n ≤ L.length ∧ BoxIs m1 M16.next (bs.map AV.bool) ∧ Kp Nothing M16 m1) ?_ (L.length - 1) _ _ ?_
        rotate_left
        · exact ⟨1, _, toT_less (.cons rfl (.cons rfl (.cons rfl (.nil)))), rfl, Nat.le_refl _, hpos, BY, KA⟩
        rintro d t M9 ⟨n, t0, rfl, rfl, hn1, hnn, BY, KH⟩
        have K := K0.trans KH
        refine XP.seq ?_; refine XP.seq ?_; refine XP.regionS ?_; refine RP.o1 (.move rfl) rfl rfl ?_; refine RP.o1 (.move rfl) rfl rfl ?_; refine RP.o1 (.bin rfl rfl (by first | exact lss_nat | exact lss_is)) rfl rfl ?_; refine RP.nil ?_
        refine XP.condD rfl (fun hc156 => ?_) (fun hc156 => ?_)  -- if t156
        · refine XP.skip ?_; refine XP.seq ?_
          refine XP.block ?_  -- block 9
          refine XP.seq ?_
          have hbv := BY.get (bool_at (hled n (scan_all hsc hn1 hc156)))
          refine XP.regionS ?_; refine RP.o1 (.move rfl) rfl rfl ?_; refine RP.o1 (.move rfl) rfl rfl ?_; refine RP.o1 (.indexAddr rfl rfl ix51 (by assumption)) rfl rfl ?_; refine RP.o1 (.load1 rfl lay4 hbv) rfl rfl ?_; refine RP.o1 (.not_ rfl) rfl rfl ?_; refine RP.nil ?_
          refine XP.condS false rfl ?_  -- if t163
          refine XP.skip ?_; refine XP.regionS ?_; refine RP.o1 (.move rfl) rfl rfl ?_
          refine RP.o1 (.bin rfl rfl (by first | exact inc_is (by omega) | exact add_is (by omega) (by omega))) rfl rfl ?_
          refine RP.o1 (.assign rfl) rfl rfl ?_; refine RP.nil ?_
          exact ⟨L.length - (n + 1), by omega, n + 1, _, toT_less (.cons rfl (.cons rfl (.cons rfl (.nil)))), rfl, by omega, by omega, BY, KH⟩
        · refine XP.exit ?_  -- 8
          refine XP.seq ?_; refine XP.regionS ?_; refine RP.o1 (.assign rfl) rfl rfl ?_; refine RP.nil ?_
          exact XP.ret ⟨.inr rfl, _, _, oneRes rfl, rfl⟩
    · refine XP.seq ?_
      obtain rfl := hf6 hc34
      refine XP.regionS ?_; refine RP.o1 (.move rfl) rfl rfl ?_; refine RP.o1 (.bin rfl rfl eql_is) rfl rfl ?_; refine RP.o1 (.assign rfl) rfl rfl ?_; refine RP.nil ?_
      exact XP.ret ⟨.inr rfl, _, _, oneRes rfl, rfl⟩
  · refine XP.seq ?_; refine XP.regionS ?_; refine RP.o1 (.assign rfl) rfl rfl ?_; refine RP.nil ?_
    exact XP.ret ⟨.inr rfl, _, _, oneRes rfl, rfl⟩
end Go.Ev
end
section
namespace Go.Ev
set_option linter.all false
open Go.Proofs
set_option maxRecDepth 100000
variable {w : World} {H : Type} {enc : TypeId × Value → H} {sp : Nat → Bool} {held : Bool}
theorem law6 {r : Reach} {b0 : Nat} {v : Value} {d : DataW H} {p : List MemPlace} (hv : Value.okWide Tryz.prog w r b0 25 v) (h : DataW.Trod enc Tryz.prog w 0 sp held 25 v d p) :
    Calls Tryz.prog 6 #[v] w fun e w' => e = .returned (.bool true) ∧ RowKit.Below w.heap.size w w' :=
  gram_law (lawS_none (by decide) (by decide)) (fun I => call6 (lawS_plain (by decide)) rfl rfl I) hv h
end Go.Ev
end
