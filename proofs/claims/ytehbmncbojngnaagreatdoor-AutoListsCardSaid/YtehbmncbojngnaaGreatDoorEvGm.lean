/- The document's May: what it lets through. What stands in memory while a grammar by numbers is made. -/
import Derived.Test.YtehbmncbojngnaaGreatDoorEvGl
section
namespace Go.Ev
set_option linter.all false
open Go.Proofs
set_option maxRecDepth 10000
set_option maxHeartbeats 8000000
theorem XP.join {P : Program} {S : Sums} {nt : Nat} {a : Code} {t : T AV} {m : AMem} {Q : X → T AV → AMem → Prop} (J : T AV → AMem → Prop) (h : XP P S nt a t m fun x t m => x = .norm ∧ J t m) (k : ∀ t m, J t m → Q .norm t m) : XP P S nt a t m Q := by
  obtain ⟨x, t', m', e, rfl, j⟩ := h
  exact ⟨_, t', m', e, k t' m' j⟩
theorem OpTo.indexArr {P : Program} {S : Sums} {t0 : T AV} {σ : List (Nat × AV)} {m : AMem} {ty : TypeId} {x i : Operand} {b off n j : Nat} {k : IntKind} (hx : ev σ x = some (.ptr b off)) (hi : ev σ i = some (.int k (.ofNat j))) (ht : ixOf P ty = .arr n 1) (hj : j < n) :
    OpTo P S (.indexAddr ty x i) (toT t0 σ) m (.ptr b (off + j * 1)) m := OpTo.of fun call => by
  show evK (toT t0 σ) x (fun x => evK (toT t0 σ) i fun i => aIndexAddr P ty x i m) = _
  rw [evK_eq, evK_eq, ev_is hx, ev_is hi]
  show @Ix.rec (fun _ => OR) (.fail 57) (fun n size => bif2 (Nat.blt j n) (fNat (Nat.add off (Nat.mul j size)) fun o => .mk (.ptr b o) m) (.fail 56)) (fun size => _) (ixOf P ty) = _
  rw [ht]
  show bif2 (Nat.blt j n) (fNat (Nat.add off (Nat.mul j 1)) fun o => OR.mk (.ptr b o) m) (.fail 56) = _
  rw [bif2_eq, if_pos (by simpa [Nat.blt_eq] using hj), fNat_eq]; rfl
theorem op_max {P : Program} {call : Call} {t0 : T AV} {σ : List (Nat × AV)} {m : AMem} {x y : Operand} {t1 t2 : TypeId} {a b : Int} (hx : ev σ x = some (.int .i64 a)) (hy : ev σ y = some (.int .i64 b)) : opTab (.call ⟨.builtin .max, #[x, y], #[t1, t2]⟩) P call (toT t0 σ) m = .mk (.int .i64 (if a < b then b else a)) m := by
  show evsK (toT t0 σ) [x, y] (fun vs => builtinA P .max #[t1, t2] vs m) = _
  rw [evsK_eq]
  show aMM true (evA (toT t0 σ) x) [evA (toT t0 σ) y] m = _
  rw [ev_is hx, ev_is hy]
  show bif2 (iLt a b) (OR.mk (.int .i64 b) m) (OR.mk (.int .i64 a) m) = _
  rw [iLt_eq, bif2_eq]
  by_cases h : a < b
  · rw [if_pos h, if_pos (decide_eq_true h)]
  · rw [if_neg h, if_neg (by rw [decide_eq_false h]; decide)]
theorem int_at {l : List Int} {i : Nat} {b : Int} (h : l[i]? = some b) : (l.map (AV.int .i64))[0 + i * 1]? = some (.int .i64 b) := by
  rw [List.getElem?_map, show 0 + i * 1 = i by omega, h]; rfl
theorem setL_int {l : List Int} {i : Nat} {x : Int} (hi : i < l.length) : setL (l.map (AV.int .i64)) (0 + i * 1) [.int .i64 x] = (l.set i x).map (AV.int .i64) := by
  apply List.ext_getElem?
  intro j
  rw [setL_get (by simp; omega)]
  simp only [List.length_singleton, List.getElem?_map, List.getElem?_set]
  by_cases h : j = i
  · subst h
    rw [if_pos (by omega), if_pos rfl, if_pos hi, show j - (0 + j * 1) = 0 by omega]; rfl
  · rw [if_neg (by omega), if_neg (fun e => h e.symm)]
/-- Names are short enough to be asked. -/
structure GShort (g : GrD) : Prop where
  s : g.start.length < 100000
  t : ∀ t ∈ g.toks, t.name.length < 100000
  l : ∀ r ∈ g.rules, r.left.length < 100000
  p : ∀ r ∈ g.rules, r.prec.length < 100000
  r : ∀ r ∈ g.rules, ∀ x ∈ r.right, x.length < 100000
theorem call20 {S : Sums} (hS : Plain S [20, 37, 38, 56, 57]) {m : AMem} {vt vr : AV} {g : GrD} (hg : GramIs m vt vr g) (hl : GSmall g) (hs : GShort g) :
    ∃ r m', CallTo Tryz.prog S 20 [gramV vt g vr] m r m' ∧ ∃ b : Bool, r = .bool b ∧ Kp Nothing m m' ∧ (b = true → ∀ r ∈ g.rules, r.left ≠ []) := by
  have hS37 : Plain S [37, 56, 57] := fun f hf => hS f (by simp at hf ⊢; omega)
  have hS38 : Plain S [38] := fun f hf => hS f (by simp at hf ⊢; omega)
  have hlr := hl.r
  have hlt := hl.t
  refine XP.call (hS 20 (by decide)) cd20 nt20 ?_
  show XP _ _ _ _ (toT .leaf [(0, gramV vt g vr)]) m _
  unfold Tryz.f20
  dsimp only [Option.getD_some]
  have K : Kp Nothing m m := .refl m
  refine XP.seq ?_; refine XP.regionS ?_
  have hk1 := K.le
  refine RP.box rfl rfl rfl rfl fun M1 K1 B1 N1 => ?_
  have K := K.trans K1
  have B1o := B1
  have hg0 := hg.up K1
  have hk0 := K1.le
  obtain ⟨w0, M0, hc0, b0, rfl, K0, _⟩ := call37 hS37 (m := M1) (s := g.start) hs.s
  refine RP.o1 (.assign rfl) rfl rfl ?_; refine RP.nil ?_; refine XP.seq ?_; refine XP.seq ?_; refine XP.join (fun t mj => ∃ t0 bj, t = toT t0 [(41, .bool bj), (1, .ptr m.next 0)] ∧ Kp Nothing M1 mj) ?_ ?_
  · refine XP.regionS ?_; refine RP.o1 (.fieldAddr rfl fa25_0) rfl rfl ?_
    refine RP.o1 (.load1 rfl lay22 (by first | (apply BoxIs.get; assumption; rfl) | (apply ElAt.get; assumption; rfl) | (apply ElAt.get0; assumption; rfl) | assumption)) rfl rfl ?_
    refine RP.o1 (.len rfl (rowLen22 hg0.t)) rfl rfl ?_; refine RP.o1 (.bin rfl rfl gtr_is) rfl rfl ?_; refine RP.o1 (.move rfl) rfl rfl ?_
    rcases Decidable.em ((40 : Int) < Int.ofNat g.toks.length) with hp15 | hp15
    · simp only [decide_eq_true hp15]
      refine RP.skip ⟨_,_,_,rfl,rfl,rfl,rfl⟩ rfl ?_; refine RP.skip ⟨_,_,_,rfl,rfl,rfl,rfl⟩ rfl ?_; refine RP.skip ⟨_,_,_,rfl,rfl,rfl,rfl⟩ rfl ?_; refine RP.skip ⟨_,_,_,rfl,rfl,rfl,rfl⟩ rfl ?_; refine RP.o1 (.pick (b := true) rfl rfl) rfl rfl ?_; refine RP.o1 (.move rfl) rfl rfl ?_; refine RP.skip ⟨_,_,_,rfl,rfl,rfl,rfl⟩ rfl ?_; refine RP.skip ⟨_,_,_,rfl,rfl,rfl,rfl⟩ rfl ?_; refine RP.skip ⟨_,_,_,rfl,rfl,rfl,rfl⟩ rfl ?_; refine RP.o1 (.pick (b := true) rfl rfl) rfl rfl ?_; refine RP.o1 (.move rfl) rfl rfl ?_; refine RP.skip ⟨_,_,_,rfl,rfl,rfl,rfl⟩ rfl ?_; refine RP.skip ⟨_,_,_,rfl,rfl,rfl,rfl⟩ rfl ?_; refine RP.skip ⟨_,_,_,rfl,rfl,rfl,rfl⟩ rfl ?_; refine RP.o1 (.pick (b := true) rfl rfl) rfl rfl ?_; refine RP.o1 (.move rfl) rfl rfl ?_; refine RP.skip ⟨_,_,_,rfl,rfl,rfl,rfl⟩ rfl ?_; refine RP.skip ⟨_,_,_,rfl,rfl,rfl,rfl⟩ rfl ?_; refine RP.skip ⟨_,_,_,rfl,rfl,rfl,rfl⟩ rfl ?_; refine RP.skip ⟨_,_,_,rfl,rfl,rfl,rfl⟩ rfl ?_; refine RP.skipU ⟨_, _, rfl, rfl, rfl⟩ rfl ?_; refine RP.skipU ⟨_, _, rfl, rfl, rfl⟩ rfl ?_; refine RP.skipU ⟨_, _, rfl, rfl, rfl⟩ rfl ?_; refine RP.skipU ⟨_, _, rfl, rfl, rfl⟩ rfl ?_; refine RP.skip ⟨_,_,_,rfl,rfl,rfl,rfl⟩ rfl ?_; refine RP.o1 (.pick (b := true) rfl rfl) rfl rfl ?_; refine RP.nil ?_
      first
      | exact ⟨(by first | rfl | trivial), _, _, toT_less (.cons rfl (.cons rfl (.nil))), .refl _⟩
      | exact ⟨(by first | rfl | trivial), _, _, toT_less (.cons rfl (.cons rfl (.nil))), K0⟩
    · simp only [decide_eq_false hp15]
      refine RP.o1 (.fieldAddr rfl fa25_3) rfl ⟨_,_,_,rfl,rfl,rfl,rfl⟩ ?_
      refine RP.o1 (.load1 rfl lay23 (by first | (apply BoxIs.get; assumption; rfl) | (apply ElAt.get; assumption; rfl) | (apply ElAt.get0; assumption; rfl) | assumption)) rfl ⟨_,_,_,rfl,rfl,rfl,rfl⟩ ?_
      refine RP.o1 (.len rfl (rowLen23 hg0.r)) rfl ⟨_,_,_,rfl,rfl,rfl,rfl⟩ ?_; refine RP.o1 (.bin rfl rfl gtr_is) rfl ⟨_,_,_,rfl,rfl,rfl,rfl⟩ ?_; refine RP.o1 (.pick (b := false) rfl rfl) rfl rfl ?_; refine RP.o1 (.move rfl) rfl rfl ?_
      rcases Decidable.em ((100 : Int) < Int.ofNat g.rules.length) with hp21 | hp21
      · simp only [decide_eq_true hp21]
        refine RP.skip ⟨_,_,_,rfl,rfl,rfl,rfl⟩ rfl ?_; refine RP.skip ⟨_,_,_,rfl,rfl,rfl,rfl⟩ rfl ?_; refine RP.skip ⟨_,_,_,rfl,rfl,rfl,rfl⟩ rfl ?_; refine RP.o1 (.pick (b := true) rfl rfl) rfl rfl ?_; refine RP.o1 (.move rfl) rfl rfl ?_; refine RP.skip ⟨_,_,_,rfl,rfl,rfl,rfl⟩ rfl ?_; refine RP.skip ⟨_,_,_,rfl,rfl,rfl,rfl⟩ rfl ?_; refine RP.skip ⟨_,_,_,rfl,rfl,rfl,rfl⟩ rfl ?_; refine RP.o1 (.pick (b := true) rfl rfl) rfl rfl ?_; refine RP.o1 (.move rfl) rfl rfl ?_; refine RP.skip ⟨_,_,_,rfl,rfl,rfl,rfl⟩ rfl ?_; refine RP.skip ⟨_,_,_,rfl,rfl,rfl,rfl⟩ rfl ?_; refine RP.skip ⟨_,_,_,rfl,rfl,rfl,rfl⟩ rfl ?_; refine RP.skip ⟨_,_,_,rfl,rfl,rfl,rfl⟩ rfl ?_; refine RP.skipU ⟨_, _, rfl, rfl, rfl⟩ rfl ?_; refine RP.skipU ⟨_, _, rfl, rfl, rfl⟩ rfl ?_; refine RP.skipU ⟨_, _, rfl, rfl, rfl⟩ rfl ?_; refine RP.skipU ⟨_, _, rfl, rfl, rfl⟩ rfl ?_; refine RP.skip ⟨_,_,_,rfl,rfl,rfl,rfl⟩ rfl ?_; refine RP.o1 (.pick (b := true) rfl rfl) rfl rfl ?_; refine RP.nil ?_
        first
        | exact ⟨(by first | rfl | trivial), _, _, toT_less (.cons rfl (.cons rfl (.nil))), .refl _⟩
        | exact ⟨(by first | rfl | trivial), _, _, toT_less (.cons rfl (.cons rfl (.nil))), K0⟩
      · simp only [decide_eq_false hp21]
        refine RP.o1 (.fieldAddr rfl fa25_2) rfl ⟨_,_,_,rfl,rfl,rfl,rfl⟩ ?_
        refine RP.o1 (.load1 rfl lay3 (by first | (apply BoxIs.get; assumption; rfl) | (apply ElAt.get; assumption; rfl) | (apply ElAt.get0; assumption; rfl) | assumption)) rfl ⟨_,_,_,rfl,rfl,rfl,rfl⟩ ?_
        refine RP.o1 (.bin rfl rfl (by first | exact lss_nat | exact lss_is)) rfl ⟨_,_,_,rfl,rfl,rfl,rfl⟩ ?_; refine RP.o1 (.pick (b := false) rfl rfl) rfl rfl ?_; refine RP.o1 (.move rfl) rfl rfl ?_
        rcases Decidable.em (g.expect < 0) with hp26 | hp26
        · simp only [decide_eq_true hp26]
          refine RP.skip ⟨_,_,_,rfl,rfl,rfl,rfl⟩ rfl ?_; refine RP.skip ⟨_,_,_,rfl,rfl,rfl,rfl⟩ rfl ?_; refine RP.skip ⟨_,_,_,rfl,rfl,rfl,rfl⟩ rfl ?_; refine RP.o1 (.pick (b := true) rfl rfl) rfl rfl ?_; refine RP.o1 (.move rfl) rfl rfl ?_; refine RP.skip ⟨_,_,_,rfl,rfl,rfl,rfl⟩ rfl ?_; refine RP.skip ⟨_,_,_,rfl,rfl,rfl,rfl⟩ rfl ?_; refine RP.skip ⟨_,_,_,rfl,rfl,rfl,rfl⟩ rfl ?_; refine RP.skip ⟨_,_,_,rfl,rfl,rfl,rfl⟩ rfl ?_; refine RP.skipU ⟨_, _, rfl, rfl, rfl⟩ rfl ?_; refine RP.skipU ⟨_, _, rfl, rfl, rfl⟩ rfl ?_; refine RP.skipU ⟨_, _, rfl, rfl, rfl⟩ rfl ?_; refine RP.skipU ⟨_, _, rfl, rfl, rfl⟩ rfl ?_; refine RP.skip ⟨_,_,_,rfl,rfl,rfl,rfl⟩ rfl ?_; refine RP.o1 (.pick (b := true) rfl rfl) rfl rfl ?_; refine RP.nil ?_
          first
          | exact ⟨(by first | rfl | trivial), _, _, toT_less (.cons rfl (.cons rfl (.nil))), .refl _⟩
          | exact ⟨(by first | rfl | trivial), _, _, toT_less (.cons rfl (.cons rfl (.nil))), K0⟩
        · simp only [decide_eq_false hp26]
          refine RP.o1 (.fieldAddr rfl fa25_2) rfl ⟨_,_,_,rfl,rfl,rfl,rfl⟩ ?_
          refine RP.o1 (.load1 rfl lay3 (by first | (apply BoxIs.get; assumption; rfl) | (apply ElAt.get; assumption; rfl) | (apply ElAt.get0; assumption; rfl) | assumption)) rfl ⟨_,_,_,rfl,rfl,rfl,rfl⟩ ?_
          refine RP.o1 (.bin rfl rfl gtr_is) rfl ⟨_,_,_,rfl,rfl,rfl,rfl⟩ ?_; refine RP.o1 (.pick (b := false) rfl rfl) rfl rfl ?_; refine RP.o1 (.move rfl) rfl rfl ?_
          rcases Decidable.em ((9999 : Int) < g.expect) with hp31 | hp31
          · simp only [decide_eq_true hp31]
            refine RP.skip ⟨_,_,_,rfl,rfl,rfl,rfl⟩ rfl ?_; refine RP.skip ⟨_,_,_,rfl,rfl,rfl,rfl⟩ rfl ?_; refine RP.skip ⟨_,_,_,rfl,rfl,rfl,rfl⟩ rfl ?_; refine RP.skip ⟨_,_,_,rfl,rfl,rfl,rfl⟩ rfl ?_; refine RP.skipU ⟨_, _, rfl, rfl, rfl⟩ rfl ?_; refine RP.skipU ⟨_, _, rfl, rfl, rfl⟩ rfl ?_; refine RP.skipU ⟨_, _, rfl, rfl, rfl⟩ rfl ?_; refine RP.skipU ⟨_, _, rfl, rfl, rfl⟩ rfl ?_; refine RP.skip ⟨_,_,_,rfl,rfl,rfl,rfl⟩ rfl ?_; refine RP.o1 (.pick (b := true) rfl rfl) rfl rfl ?_; refine RP.nil ?_
            first
            | exact ⟨(by first | rfl | trivial), _, _, toT_less (.cons rfl (.cons rfl (.nil))), .refl _⟩
            | exact ⟨(by first | rfl | trivial), _, _, toT_less (.cons rfl (.cons rfl (.nil))), K0⟩
          · simp only [decide_eq_false hp31]
            refine RP.o1 (.fieldAddr rfl fa25_1) rfl ⟨_,_,_,rfl,rfl,rfl,rfl⟩ ?_
            refine RP.o1 (.load1 rfl lay9 (by first | (apply BoxIs.get; assumption; rfl) | (apply ElAt.get; assumption; rfl) | (apply ElAt.get0; assumption; rfl) | assumption)) rfl ⟨_,_,_,rfl,rfl,rfl,rfl⟩ ?_
            refine RP.o1 (.bin rfl rfl neqS) rfl ⟨_,_,_,rfl,rfl,rfl,rfl⟩ ?_; refine RP.o1 (.move rfl) rfl ⟨_,_,_,rfl,rfl,rfl,rfl⟩ ?_
            rcases Decidable.em (g.start = List.map UInt8.toNat []) with hp35 | hp35
            · simp only [decide_eq_true hp35]; simp only [Bool.not_true]
              refine RP.skip ⟨_,_,_,rfl,rfl,rfl,rfl⟩ rfl ?_; refine RP.skip ⟨_,_,_,rfl,rfl,rfl,rfl⟩ rfl ?_; refine RP.skip ⟨_,_,_,rfl,rfl,rfl,rfl⟩ rfl ?_; refine RP.skip ⟨_,_,_,rfl,rfl,rfl,rfl⟩ rfl ?_; refine RP.o1 (.pick (b := false) rfl rfl) rfl ⟨_,_,_,rfl,rfl,rfl,rfl⟩ ?_; refine RP.o1 (.pick (b := false) rfl rfl) rfl rfl ?_; refine RP.nil ?_
              first
              | exact ⟨(by first | rfl | trivial), _, _, toT_less (.cons rfl (.cons rfl (.nil))), .refl _⟩
              | exact ⟨(by first | rfl | trivial), _, _, toT_less (.cons rfl (.cons rfl (.nil))), K0⟩
            · simp only [decide_eq_false hp35]; simp only [Bool.not_false]
              refine RP.o1 (.fieldAddr rfl fa25_1) rfl ⟨_,_,_,rfl,rfl,rfl,rfl⟩ ?_
              refine RP.o1 (.load1 rfl lay9 (by first | (apply BoxIs.get; assumption; rfl) | (apply ElAt.get; assumption; rfl) | (apply ElAt.get0; assumption; rfl) | assumption)) rfl ⟨_,_,_,rfl,rfl,rfl,rfl⟩ ?_
              refine RP.op (.callS rfl rfl hc0) rfl ⟨_,_,_,rfl,rfl,rfl,rfl⟩ K0.le ?_; refine RP.o1 (.not_ rfl) rfl ⟨_,_,_,rfl,rfl,rfl,rfl⟩ ?_; refine RP.o1 (.pick (b := true) rfl rfl) rfl ⟨_,_,_,rfl,rfl,rfl,rfl⟩ ?_; refine RP.o1 (.pick (b := false) rfl rfl) rfl rfl ?_; refine RP.nil ?_
              first
              | exact ⟨(by first | rfl | trivial), _, _, toT_less (.cons rfl (.cons rfl (.nil))), .refl _⟩
              | exact ⟨(by first | rfl | trivial), _, _, toT_less (.cons rfl (.cons rfl (.nil))), K0⟩
  rintro t M2 ⟨t0, bj, rfl, KQ⟩
  have K := K1.trans KQ
  have B1 := B1o.up KQ
  have hkq := KQ.le
  refine XP.condB rfl (fun hc41 => ?_) (fun hc41 => ?_)  -- if t41
  · refine XP.seq ?_; refine XP.regionS ?_; refine RP.o1 (.assign rfl) rfl rfl ?_; refine RP.nil ?_
    first
    | exact XP.ret ⟨.inr rfl, _, _, oneRes rfl, false, rfl, K, fun h => by cases h⟩
    | exact XP.ret ⟨.inr rfl, _, _, oneRes rfl, true, rfl, K, fun _ r hr => by
        obtain ⟨n, hn⟩ := List.getElem?_of_mem hr
        exact hgood n r (by have := (List.getElem?_eq_some_iff.1 hn).1; omega) hn⟩
  · refine XP.skip ?_; refine XP.seq ?_; refine XP.regionS ?_
    have hk3 := K.le
    have lt1 := B1.lt
    refine RP.alloc z77 rfl rfl fun M3 K3 B3 N3 => ?_
    have K := K.trans K3
    have B1 := B1.up K3
    have B3 : BoxIs M3 M2.next ((List.replicate 9 (0 : Int)).map (AV.int .i64)) := B3
    refine RP.nil ?_; refine XP.seq ?_; refine XP.regionS ?_; refine RP.o1 (.assign rfl) rfl rfl ?_; refine RP.nil ?_; refine XP.seq ?_; refine XP.seq ?_; refine XP.regionS ?_; refine RP.o1 (.assign rfl) rfl rfl ?_; refine RP.nil ?_
    refine XP.block ?_  -- block 0
    refine XP.while (fun d t m1 => ∃ i t0 mx asg, t = toT t0 [(5, .int .i64 (.ofNat i)), (4, .int .i64 mx), (3, .ptr M2.next 0), (1, .ptr m.next 0)] ∧ d = g.toks.length - i ∧ i ≤ g.toks.length ∧ Kp Nothing M2 m1 ∧ BoxIs m1 M2.next ((asg : List Int).map (AV.int .i64)) ∧ asg.length = 9 ∧ mx ≤ 8) ?_ g.toks.length _ _ ?_
    rotate_left
    · exact ⟨0, _, 0, _, toT_less (.cons rfl (.cons rfl (.cons rfl (.cons rfl (.nil))))), rfl, Nat.zero_le _, K3, B3, rfl, by decide⟩
    rintro d t M4 ⟨i, t0, mx, asg, rfl, rfl, hin, KA, B3, has, hmx⟩
    have KC := KQ.trans KA
    have K := K1.trans KC
    have B1 := B1o.up KC
    have hgM := hg0.up KC
    have hKC := KC.le
    refine XP.seq ?_; refine XP.seq ?_; refine XP.regionS ?_; refine RP.o1 (.move rfl) rfl rfl ?_; refine RP.o1 (.fieldAddr rfl fa25_0) rfl rfl ?_
    refine RP.o1 (.load1 rfl lay22 (by first | (apply BoxIs.get; assumption; rfl) | (apply ElAt.get; assumption; rfl) | (apply ElAt.get0; assumption; rfl) | assumption)) rfl rfl ?_
    refine RP.o1 (.len rfl (rowLen22 hgM.t)) rfl rfl ?_; refine RP.o1 (.bin rfl rfl (by first | exact lss_nat | exact lss_is)) rfl rfl ?_; refine RP.nil ?_
    refine XP.condD rfl (fun hc46 => ?_) (fun hc46 => ?_)  -- if t46
    · refine XP.skip ?_; refine XP.seq ?_
      refine XP.block ?_  -- block 1
      refine XP.seq ?_
      obtain ⟨tk, htk⟩ : ∃ tk, g.toks[i]? = some tk := ⟨g.toks[i]'hc46, List.getElem?_eq_getElem _⟩
      obtain ⟨bt, ot, ct, e5, _, E1⟩ := hgM.t.elem encTok (.refl _) htk
      have hB10 : BoxIs M4 m.next [vt, .str g.start, .int .i64 g.expect, vr] := B1
      rw [e5] at hB10
      have hb3l := B3.lt
      have hm3 : M2.next < M4.next := hb3l
      refine XP.regionS ?_; refine RP.o1 (.fieldAddr rfl fa25_0) rfl rfl ?_; refine RP.o1 (.load1 rfl lay22 (hB10.get (j := 0) rfl)) rfl rfl ?_; refine RP.o1 (.move rfl) rfl rfl ?_; refine RP.o1 (.indexAddr rfl rfl ix22 (by assumption)) rfl rfl ?_; refine RP.o1 (.loadE rfl (by first | assumption | (apply BoxIs.el; assumption)) lay40 (by rfl)) rfl rfl ?_
      have hk5 := K.le
      have lt1 := B1.lt
      have lt3 := B3.lt
      refine RP.alloc z40 rfl rfl fun M5 K5 B6 N5 => ?_
      have K := K.trans K5
      have B1 := B1.up K5
      have B3 := B3.up K5
      refine RP.store rfl rfl lay40 rfl B6 rfl rfl rfl rfl fun M6 K6 B6 N6 => ?_
      have K := K.young K6 (by rintro _ rfl; omega)
      have B1 := B1.keep K6 (by first | exact Nat.ne_of_lt (by assumption) | exact Nat.ne_of_gt (by assumption) | (intro e; omega))
      have B3 := B3.keep K6 (by first | exact Nat.ne_of_lt (by assumption) | exact Nat.ne_of_gt (by assumption) | (intro e; omega))
      refine RP.nil ?_; refine XP.seq ?_; refine XP.seq ?_
      have B6 : BoxIs M6 M4.next [.str tk.name, .int .i64 tk.level, .int .i64 tk.assoc] := B6
      have KX : Kp Nothing M4 M6 := Kp.young (.refl _) (K5.any.trans K6) (by rintro _ rfl; exact Nat.le_refl _)
      have KC := KC.trans KX
      have hgM := hg0.up KC
      have B1 := B1o.up KC
      obtain ⟨w5, M5', hc5, b5, rfl, K5', _⟩ := call37 hS37 (m := M6) (s := tk.name) (hs.t tk (List.mem_of_getElem? htk))
      obtain ⟨w6, M6', hc6, rfl, K6'⟩ := call38 hS38 (hgM.up K5') hl (s := tk.name)
      refine XP.join (fun t mj => ∃ t0 bj, t = toT t0 [(100, .bool bj), (6, .ptr M4.next 0), (5, .int .i64 (.ofNat i)), (4, .int .i64 mx), (3, .ptr M2.next 0), (1, .ptr m.next 0)] ∧ Kp Nothing M6 mj ∧ (bj = false → 0 ≤ tk.level ∧ tk.level ≤ 8)) ?_ ?_
      · refine XP.regionS ?_; refine RP.o1 (.fieldAddr rfl fa40_0) rfl rfl ?_
        refine RP.o1 (.load1 rfl lay9 (by first | (apply BoxIs.get; assumption; rfl) | (apply ElAt.get; assumption; rfl) | (apply ElAt.get0; assumption; rfl) | assumption)) rfl rfl ?_
        refine RP.op (.callS rfl rfl hc5) rfl rfl K5'.le ?_
        have B6 := B6.up K5'
        have B1 := B1.up K5'
        refine RP.o1 (.not_ rfl) rfl rfl ?_; refine RP.o1 (.move rfl) rfl rfl ?_
        rcases Bool.eq_false_or_eq_true ((!b5)) with hp58 | hp58
        · simp only [hp58]
          refine RP.skip ⟨_,_,_,rfl,rfl,rfl,rfl⟩ rfl ?_; refine RP.skip ⟨_,_,_,rfl,rfl,rfl,rfl⟩ rfl ?_; refine RP.skip ⟨_,_,_,rfl,rfl,rfl,rfl⟩ rfl ?_; refine RP.skip ⟨_,_,_,rfl,rfl,rfl,rfl⟩ rfl ?_; refine RP.skip ⟨_,_,_,rfl,rfl,rfl,rfl⟩ rfl ?_; refine RP.skip ⟨_,_,_,rfl,rfl,rfl,rfl⟩ rfl ?_; refine RP.o1 (.pick (b := true) rfl rfl) rfl rfl ?_; refine RP.o1 (.move rfl) rfl rfl ?_; refine RP.skip ⟨_,_,_,rfl,rfl,rfl,rfl⟩ rfl ?_; refine RP.skip ⟨_,_,_,rfl,rfl,rfl,rfl⟩ rfl ?_; refine RP.skip ⟨_,_,_,rfl,rfl,rfl,rfl⟩ rfl ?_; refine RP.o1 (.pick (b := true) rfl rfl) rfl rfl ?_; refine RP.o1 (.move rfl) rfl rfl ?_; refine RP.skip ⟨_,_,_,rfl,rfl,rfl,rfl⟩ rfl ?_; refine RP.skip ⟨_,_,_,rfl,rfl,rfl,rfl⟩ rfl ?_; refine RP.skip ⟨_,_,_,rfl,rfl,rfl,rfl⟩ rfl ?_; refine RP.o1 (.pick (b := true) rfl rfl) rfl rfl ?_; refine RP.o1 (.move rfl) rfl rfl ?_; refine RP.skip ⟨_,_,_,rfl,rfl,rfl,rfl⟩ rfl ?_; refine RP.skip ⟨_,_,_,rfl,rfl,rfl,rfl⟩ rfl ?_; refine RP.skip ⟨_,_,_,rfl,rfl,rfl,rfl⟩ rfl ?_; refine RP.skip ⟨_,_,_,rfl,rfl,rfl,rfl⟩ rfl ?_; refine RP.skipU ⟨_, _, rfl, rfl, rfl⟩ rfl ?_; refine RP.skipU ⟨_, _, rfl, rfl, rfl⟩ rfl ?_; refine RP.skipU ⟨_, _, rfl, rfl, rfl⟩ rfl ?_; refine RP.skip ⟨_,_,_,rfl,rfl,rfl,rfl⟩ rfl ?_; refine RP.o1 (.pick (b := true) rfl rfl) rfl rfl ?_; refine RP.o1 (.move rfl) rfl rfl ?_; refine RP.skip ⟨_,_,_,rfl,rfl,rfl,rfl⟩ rfl ?_; refine RP.skip ⟨_,_,_,rfl,rfl,rfl,rfl⟩ rfl ?_; refine RP.skip ⟨_,_,_,rfl,rfl,rfl,rfl⟩ rfl ?_; refine RP.skip ⟨_,_,_,rfl,rfl,rfl,rfl⟩ rfl ?_; refine RP.skipU ⟨_, _, rfl, rfl, rfl⟩ rfl ?_; refine RP.skipU ⟨_, _, rfl, rfl, rfl⟩ rfl ?_; refine RP.skipU ⟨_, _, rfl, rfl, rfl⟩ rfl ?_; refine RP.skipU ⟨_, _, rfl, rfl, rfl⟩ rfl ?_; refine RP.skipU ⟨_, _, rfl, rfl, rfl⟩ rfl ?_; refine RP.skipU ⟨_, _, rfl, rfl, rfl⟩ rfl ?_; refine RP.skipU ⟨_, _, rfl, rfl, rfl⟩ rfl ?_; refine RP.skipU ⟨_, _, rfl, rfl, rfl⟩ rfl ?_; refine RP.skip ⟨_,_,_,rfl,rfl,rfl,rfl⟩ rfl ?_; refine RP.o1 (.pick (b := true) rfl rfl) rfl rfl ?_; refine RP.nil ?_
          first
          | exact ⟨(by first | rfl | trivial), _, true, toT_less (.cons rfl (.cons rfl (.cons rfl (.cons rfl (.cons rfl (.cons rfl (.nil))))))), K5', fun h => by cases h⟩
          | exact ⟨(by first | rfl | trivial), _, true, toT_less (.cons rfl (.cons rfl (.cons rfl (.cons rfl (.cons rfl (.cons rfl (.nil))))))), K5'.trans K6', fun h => by cases h⟩
          | exact ⟨(by first | rfl | trivial), _, _, toT_less (.cons rfl (.cons rfl (.cons rfl (.cons rfl (.cons rfl (.cons rfl (.nil))))))), K5'.trans K6', fun _ => ⟨by omega, by omega⟩⟩
        · simp only [hp58]
          refine RP.o1 (.loadE rfl (by first | assumption | (apply BoxIs.el; assumption)) lay25 (by rfl)) rfl ⟨_,_,_,rfl,rfl,rfl,rfl⟩ ?_
          refine RP.o1 (.fieldAddr rfl fa40_0) rfl ⟨_,_,_,rfl,rfl,rfl,rfl⟩ ?_
          refine RP.o1 (.load1 rfl lay9 (by first | (apply BoxIs.get; assumption; rfl) | (apply ElAt.get; assumption; rfl) | (apply ElAt.get0; assumption; rfl) | assumption)) rfl ⟨_,_,_,rfl,rfl,rfl,rfl⟩ ?_
          refine RP.op (.callS rfl rfl hc6) rfl ⟨_,_,_,rfl,rfl,rfl,rfl⟩ K6'.le ?_
          have B6 := B6.up K6'
          refine RP.o1 (.move rfl) rfl ⟨_,_,_,rfl,rfl,rfl,rfl⟩ ?_; refine RP.o1 (.bin rfl rfl neq_is) rfl ⟨_,_,_,rfl,rfl,rfl,rfl⟩ ?_; refine RP.o1 (.pick (b := false) rfl rfl) rfl rfl ?_; refine RP.o1 (.move rfl) rfl rfl ?_
          rcases Decidable.em (placeI (g.toks.map (·.name)) tk.name = Int.ofNat i) with hp66 | hp66
          · simp only [decide_eq_true hp66]; simp only [Bool.not_true]
            refine RP.o1 (.fieldAddr rfl fa40_1) rfl ⟨_,_,_,rfl,rfl,rfl,rfl⟩ ?_
            refine RP.o1 (.load1 rfl lay3 (by first | (apply BoxIs.get; assumption; rfl) | (apply ElAt.get; assumption; rfl) | (apply ElAt.get0; assumption; rfl) | assumption)) rfl ⟨_,_,_,rfl,rfl,rfl,rfl⟩ ?_
            refine RP.o1 (.bin rfl rfl (by first | exact lss_nat | exact lss_is)) rfl ⟨_,_,_,rfl,rfl,rfl,rfl⟩ ?_; refine RP.o1 (.pick (b := false) rfl rfl) rfl rfl ?_; refine RP.o1 (.move rfl) rfl rfl ?_
            rcases Decidable.em (tk.level < 0) with hp71 | hp71
            · simp only [decide_eq_true hp71]
              refine RP.skip ⟨_,_,_,rfl,rfl,rfl,rfl⟩ rfl ?_; refine RP.skip ⟨_,_,_,rfl,rfl,rfl,rfl⟩ rfl ?_; refine RP.skip ⟨_,_,_,rfl,rfl,rfl,rfl⟩ rfl ?_; refine RP.o1 (.pick (b := true) rfl rfl) rfl rfl ?_; refine RP.o1 (.move rfl) rfl rfl ?_; refine RP.skip ⟨_,_,_,rfl,rfl,rfl,rfl⟩ rfl ?_; refine RP.skip ⟨_,_,_,rfl,rfl,rfl,rfl⟩ rfl ?_; refine RP.skip ⟨_,_,_,rfl,rfl,rfl,rfl⟩ rfl ?_; refine RP.skip ⟨_,_,_,rfl,rfl,rfl,rfl⟩ rfl ?_; refine RP.skipU ⟨_, _, rfl, rfl, rfl⟩ rfl ?_; refine RP.skipU ⟨_, _, rfl, rfl, rfl⟩ rfl ?_; refine RP.skipU ⟨_, _, rfl, rfl, rfl⟩ rfl ?_; refine RP.skip ⟨_,_,_,rfl,rfl,rfl,rfl⟩ rfl ?_; refine RP.o1 (.pick (b := true) rfl rfl) rfl rfl ?_; refine RP.o1 (.move rfl) rfl rfl ?_; refine RP.skip ⟨_,_,_,rfl,rfl,rfl,rfl⟩ rfl ?_; refine RP.skip ⟨_,_,_,rfl,rfl,rfl,rfl⟩ rfl ?_; refine RP.skip ⟨_,_,_,rfl,rfl,rfl,rfl⟩ rfl ?_; refine RP.skip ⟨_,_,_,rfl,rfl,rfl,rfl⟩ rfl ?_; refine RP.skipU ⟨_, _, rfl, rfl, rfl⟩ rfl ?_; refine RP.skipU ⟨_, _, rfl, rfl, rfl⟩ rfl ?_; refine RP.skipU ⟨_, _, rfl, rfl, rfl⟩ rfl ?_; refine RP.skipU ⟨_, _, rfl, rfl, rfl⟩ rfl ?_; refine RP.skipU ⟨_, _, rfl, rfl, rfl⟩ rfl ?_; refine RP.skipU ⟨_, _, rfl, rfl, rfl⟩ rfl ?_; refine RP.skipU ⟨_, _, rfl, rfl, rfl⟩ rfl ?_; refine RP.skipU ⟨_, _, rfl, rfl, rfl⟩ rfl ?_; refine RP.skip ⟨_,_,_,rfl,rfl,rfl,rfl⟩ rfl ?_; refine RP.o1 (.pick (b := true) rfl rfl) rfl rfl ?_; refine RP.nil ?_
              first
              | exact ⟨(by first | rfl | trivial), _, true, toT_less (.cons rfl (.cons rfl (.cons rfl (.cons rfl (.cons rfl (.cons rfl (.nil))))))), K5', fun h => by cases h⟩
              | exact ⟨(by first | rfl | trivial), _, true, toT_less (.cons rfl (.cons rfl (.cons rfl (.cons rfl (.cons rfl (.cons rfl (.nil))))))), K5'.trans K6', fun h => by cases h⟩
              | exact ⟨(by first | rfl | trivial), _, _, toT_less (.cons rfl (.cons rfl (.cons rfl (.cons rfl (.cons rfl (.cons rfl (.nil))))))), K5'.trans K6', fun _ => ⟨by omega, by omega⟩⟩
            · simp only [decide_eq_false hp71]
              refine RP.o1 (.fieldAddr rfl fa40_1) rfl ⟨_,_,_,rfl,rfl,rfl,rfl⟩ ?_
              refine RP.o1 (.load1 rfl lay3 (by first | (apply BoxIs.get; assumption; rfl) | (apply ElAt.get; assumption; rfl) | (apply ElAt.get0; assumption; rfl) | assumption)) rfl ⟨_,_,_,rfl,rfl,rfl,rfl⟩ ?_
              refine RP.o1 (.bin rfl rfl gtr_is) rfl ⟨_,_,_,rfl,rfl,rfl,rfl⟩ ?_; refine RP.o1 (.pick (b := false) rfl rfl) rfl rfl ?_; refine RP.o1 (.move rfl) rfl rfl ?_
              rcases Decidable.em ((8 : Int) < tk.level) with hp76 | hp76
              · simp only [decide_eq_true hp76]
                refine RP.skip ⟨_,_,_,rfl,rfl,rfl,rfl⟩ rfl ?_; refine RP.skip ⟨_,_,_,rfl,rfl,rfl,rfl⟩ rfl ?_; refine RP.skip ⟨_,_,_,rfl,rfl,rfl,rfl⟩ rfl ?_; refine RP.skip ⟨_,_,_,rfl,rfl,rfl,rfl⟩ rfl ?_; refine RP.skipU ⟨_, _, rfl, rfl, rfl⟩ rfl ?_; refine RP.skipU ⟨_, _, rfl, rfl, rfl⟩ rfl ?_; refine RP.skipU ⟨_, _, rfl, rfl, rfl⟩ rfl ?_; refine RP.skip ⟨_,_,_,rfl,rfl,rfl,rfl⟩ rfl ?_; refine RP.o1 (.pick (b := true) rfl rfl) rfl rfl ?_; refine RP.o1 (.move rfl) rfl rfl ?_; refine RP.skip ⟨_,_,_,rfl,rfl,rfl,rfl⟩ rfl ?_; refine RP.skip ⟨_,_,_,rfl,rfl,rfl,rfl⟩ rfl ?_; refine RP.skip ⟨_,_,_,rfl,rfl,rfl,rfl⟩ rfl ?_; refine RP.skip ⟨_,_,_,rfl,rfl,rfl,rfl⟩ rfl ?_; refine RP.skipU ⟨_, _, rfl, rfl, rfl⟩ rfl ?_; refine RP.skipU ⟨_, _, rfl, rfl, rfl⟩ rfl ?_; refine RP.skipU ⟨_, _, rfl, rfl, rfl⟩ rfl ?_; refine RP.skipU ⟨_, _, rfl, rfl, rfl⟩ rfl ?_; refine RP.skipU ⟨_, _, rfl, rfl, rfl⟩ rfl ?_; refine RP.skipU ⟨_, _, rfl, rfl, rfl⟩ rfl ?_; refine RP.skipU ⟨_, _, rfl, rfl, rfl⟩ rfl ?_; refine RP.skipU ⟨_, _, rfl, rfl, rfl⟩ rfl ?_; refine RP.skip ⟨_,_,_,rfl,rfl,rfl,rfl⟩ rfl ?_; refine RP.o1 (.pick (b := true) rfl rfl) rfl rfl ?_; refine RP.nil ?_
                first
                | exact ⟨(by first | rfl | trivial), _, true, toT_less (.cons rfl (.cons rfl (.cons rfl (.cons rfl (.cons rfl (.cons rfl (.nil))))))), K5', fun h => by cases h⟩
                | exact ⟨(by first | rfl | trivial), _, true, toT_less (.cons rfl (.cons rfl (.cons rfl (.cons rfl (.cons rfl (.cons rfl (.nil))))))), K5'.trans K6', fun h => by cases h⟩
                | exact ⟨(by first | rfl | trivial), _, _, toT_less (.cons rfl (.cons rfl (.cons rfl (.cons rfl (.cons rfl (.cons rfl (.nil))))))), K5'.trans K6', fun _ => ⟨by omega, by omega⟩⟩
              · simp only [decide_eq_false hp76]
                refine RP.o1 (.fieldAddr rfl fa40_1) rfl ⟨_,_,_,rfl,rfl,rfl,rfl⟩ ?_
                refine RP.o1 (.load1 rfl lay3 (by first | (apply BoxIs.get; assumption; rfl) | (apply ElAt.get; assumption; rfl) | (apply ElAt.get0; assumption; rfl) | assumption)) rfl ⟨_,_,_,rfl,rfl,rfl,rfl⟩ ?_
                refine RP.o1 (.bin rfl rfl eql_is) rfl ⟨_,_,_,rfl,rfl,rfl,rfl⟩ ?_; refine RP.o1 (.move rfl) rfl ⟨_,_,_,rfl,rfl,rfl,rfl⟩ ?_
                rcases Decidable.em (tk.level = 0) with hp80 | hp80
                · simp only [decide_eq_true hp80]
                  refine RP.o1 (.fieldAddr rfl fa40_2) rfl ⟨_,_,_,rfl,rfl,rfl,rfl⟩ ?_
                  refine RP.o1 (.load1 rfl lay3 (by first | (apply BoxIs.get; assumption; rfl) | (apply ElAt.get; assumption; rfl) | (apply ElAt.get0; assumption; rfl) | assumption)) rfl ⟨_,_,_,rfl,rfl,rfl,rfl⟩ ?_
                  refine RP.o1 (.bin rfl rfl neq_is) rfl ⟨_,_,_,rfl,rfl,rfl,rfl⟩ ?_; refine RP.o1 (.pick (b := true) rfl rfl) rfl ⟨_,_,_,rfl,rfl,rfl,rfl⟩ ?_; refine RP.o1 (.pick (b := false) rfl rfl) rfl rfl ?_; refine RP.o1 (.move rfl) rfl rfl ?_
                  rcases Decidable.em (tk.assoc = 0) with hp86 | hp86
                  · simp only [decide_eq_true hp86]; simp only [Bool.not_true]
                    refine RP.o1 (.fieldAddr rfl fa40_1) rfl ⟨_,_,_,rfl,rfl,rfl,rfl⟩ ?_
                    refine RP.o1 (.load1 rfl lay3 (by first | (apply BoxIs.get; assumption; rfl) | (apply ElAt.get; assumption; rfl) | (apply ElAt.get0; assumption; rfl) | assumption)) rfl ⟨_,_,_,rfl,rfl,rfl,rfl⟩ ?_
                    refine RP.o1 (.bin rfl rfl gtr_is) rfl ⟨_,_,_,rfl,rfl,rfl,rfl⟩ ?_; refine RP.o1 (.move rfl) rfl ⟨_,_,_,rfl,rfl,rfl,rfl⟩ ?_
                    rcases Decidable.em ((0 : Int) < tk.level) with hp90 | hp90
                    · simp only [decide_eq_true hp90]
                      refine RP.o1 (.fieldAddr rfl fa40_2) rfl ⟨_,_,_,rfl,rfl,rfl,rfl⟩ ?_
                      refine RP.o1 (.load1 rfl lay3 (by first | (apply BoxIs.get; assumption; rfl) | (apply ElAt.get; assumption; rfl) | (apply ElAt.get0; assumption; rfl) | assumption)) rfl ⟨_,_,_,rfl,rfl,rfl,rfl⟩ ?_
                      refine RP.o1 (.bin rfl rfl (by first | exact lss_nat | exact lss_is)) rfl ⟨_,_,_,rfl,rfl,rfl,rfl⟩ ?_; refine RP.o1 (.move rfl) rfl ⟨_,_,_,rfl,rfl,rfl,rfl⟩ ?_
                      rcases Decidable.em (tk.assoc < 1) with hp94 | hp94
                      · simp only [decide_eq_true hp94]
                        refine RP.skip ⟨_,_,_,rfl,rfl,rfl,rfl⟩ rfl ?_; refine RP.skip ⟨_,_,_,rfl,rfl,rfl,rfl⟩ rfl ?_; refine RP.skip ⟨_,_,_,rfl,rfl,rfl,rfl⟩ rfl ?_; refine RP.o1 (.pick (b := true) rfl rfl) rfl ⟨_,_,_,rfl,rfl,rfl,rfl⟩ ?_; refine RP.o1 (.pick (b := true) rfl rfl) rfl ⟨_,_,_,rfl,rfl,rfl,rfl⟩ ?_; refine RP.o1 (.pick (b := false) rfl rfl) rfl rfl ?_; refine RP.nil ?_
                        first
                        | exact ⟨(by first | rfl | trivial), _, true, toT_less (.cons rfl (.cons rfl (.cons rfl (.cons rfl (.cons rfl (.cons rfl (.nil))))))), K5', fun h => by cases h⟩
                        | exact ⟨(by first | rfl | trivial), _, true, toT_less (.cons rfl (.cons rfl (.cons rfl (.cons rfl (.cons rfl (.cons rfl (.nil))))))), K5'.trans K6', fun h => by cases h⟩
                        | exact ⟨(by first | rfl | trivial), _, _, toT_less (.cons rfl (.cons rfl (.cons rfl (.cons rfl (.cons rfl (.cons rfl (.nil))))))), K5'.trans K6', fun _ => ⟨by omega, by omega⟩⟩
                      · simp only [decide_eq_false hp94]
                        refine RP.o1 (.fieldAddr rfl fa40_2) rfl ⟨_,_,_,rfl,rfl,rfl,rfl⟩ ?_
                        refine RP.o1 (.load1 rfl lay3 (by first | (apply BoxIs.get; assumption; rfl) | (apply ElAt.get; assumption; rfl) | (apply ElAt.get0; assumption; rfl) | assumption)) rfl ⟨_,_,_,rfl,rfl,rfl,rfl⟩ ?_
                        refine RP.o1 (.bin rfl rfl gtr_is) rfl ⟨_,_,_,rfl,rfl,rfl,rfl⟩ ?_; refine RP.o1 (.pick (b := false) rfl rfl) rfl ⟨_,_,_,rfl,rfl,rfl,rfl⟩ ?_; refine RP.o1 (.pick (b := true) rfl rfl) rfl ⟨_,_,_,rfl,rfl,rfl,rfl⟩ ?_; refine RP.o1 (.pick (b := false) rfl rfl) rfl rfl ?_; refine RP.nil ?_
                        first
                        | exact ⟨(by first | rfl | trivial), _, true, toT_less (.cons rfl (.cons rfl (.cons rfl (.cons rfl (.cons rfl (.cons rfl (.nil))))))), K5', fun h => by cases h⟩
                        | exact ⟨(by first | rfl | trivial), _, true, toT_less (.cons rfl (.cons rfl (.cons rfl (.cons rfl (.cons rfl (.cons rfl (.nil))))))), K5'.trans K6', fun h => by cases h⟩
                        | exact ⟨(by first | rfl | trivial), _, _, toT_less (.cons rfl (.cons rfl (.cons rfl (.cons rfl (.cons rfl (.cons rfl (.nil))))))), K5'.trans K6', fun _ => ⟨by omega, by omega⟩⟩
                    · simp only [decide_eq_false hp90]
                      refine RP.skip ⟨_,_,_,rfl,rfl,rfl,rfl⟩ rfl ?_; refine RP.skip ⟨_,_,_,rfl,rfl,rfl,rfl⟩ rfl ?_; refine RP.skip ⟨_,_,_,rfl,rfl,rfl,rfl⟩ rfl ?_; refine RP.skip ⟨_,_,_,rfl,rfl,rfl,rfl⟩ rfl ?_; refine RP.skipU ⟨_, _, rfl, rfl, rfl⟩ rfl ?_; refine RP.skipU ⟨_, _, rfl, rfl, rfl⟩ rfl ?_; refine RP.skipU ⟨_, _, rfl, rfl, rfl⟩ rfl ?_; refine RP.skip ⟨_,_,_,rfl,rfl,rfl,rfl⟩ rfl ?_; refine RP.o1 (.pick (b := false) rfl rfl) rfl ⟨_,_,_,rfl,rfl,rfl,rfl⟩ ?_; refine RP.o1 (.pick (b := false) rfl rfl) rfl rfl ?_; refine RP.nil ?_
                      first
                      | exact ⟨(by first | rfl | trivial), _, true, toT_less (.cons rfl (.cons rfl (.cons rfl (.cons rfl (.cons rfl (.cons rfl (.nil))))))), K5', fun h => by cases h⟩
                      | exact ⟨(by first | rfl | trivial), _, true, toT_less (.cons rfl (.cons rfl (.cons rfl (.cons rfl (.cons rfl (.cons rfl (.nil))))))), K5'.trans K6', fun h => by cases h⟩
                      | exact ⟨(by first | rfl | trivial), _, _, toT_less (.cons rfl (.cons rfl (.cons rfl (.cons rfl (.cons rfl (.cons rfl (.nil))))))), K5'.trans K6', fun _ => ⟨by omega, by omega⟩⟩
                  · simp only [decide_eq_false hp86]; simp only [Bool.not_false]
                    refine RP.skip ⟨_,_,_,rfl,rfl,rfl,rfl⟩ rfl ?_; refine RP.skip ⟨_,_,_,rfl,rfl,rfl,rfl⟩ rfl ?_; refine RP.skip ⟨_,_,_,rfl,rfl,rfl,rfl⟩ rfl ?_; refine RP.skip ⟨_,_,_,rfl,rfl,rfl,rfl⟩ rfl ?_; refine RP.skipU ⟨_, _, rfl, rfl, rfl⟩ rfl ?_; refine RP.skipU ⟨_, _, rfl, rfl, rfl⟩ rfl ?_; refine RP.skipU ⟨_, _, rfl, rfl, rfl⟩ rfl ?_; refine RP.skipU ⟨_, _, rfl, rfl, rfl⟩ rfl ?_; refine RP.skipU ⟨_, _, rfl, rfl, rfl⟩ rfl ?_; refine RP.skipU ⟨_, _, rfl, rfl, rfl⟩ rfl ?_; refine RP.skipU ⟨_, _, rfl, rfl, rfl⟩ rfl ?_; refine RP.skipU ⟨_, _, rfl, rfl, rfl⟩ rfl ?_; refine RP.skip ⟨_,_,_,rfl,rfl,rfl,rfl⟩ rfl ?_; refine RP.o1 (.pick (b := true) rfl rfl) rfl rfl ?_; refine RP.nil ?_
                    first
                    | exact ⟨(by first | rfl | trivial), _, true, toT_less (.cons rfl (.cons rfl (.cons rfl (.cons rfl (.cons rfl (.cons rfl (.nil))))))), K5', fun h => by cases h⟩
                    | exact ⟨(by first | rfl | trivial), _, true, toT_less (.cons rfl (.cons rfl (.cons rfl (.cons rfl (.cons rfl (.cons rfl (.nil))))))), K5'.trans K6', fun h => by cases h⟩
                    | exact ⟨(by first | rfl | trivial), _, _, toT_less (.cons rfl (.cons rfl (.cons rfl (.cons rfl (.cons rfl (.cons rfl (.nil))))))), K5'.trans K6', fun _ => ⟨by omega, by omega⟩⟩
                · simp only [decide_eq_false hp80]
                  refine RP.skip ⟨_,_,_,rfl,rfl,rfl,rfl⟩ rfl ?_; refine RP.skip ⟨_,_,_,rfl,rfl,rfl,rfl⟩ rfl ?_; refine RP.skip ⟨_,_,_,rfl,rfl,rfl,rfl⟩ rfl ?_; refine RP.o1 (.pick (b := false) rfl rfl) rfl ⟨_,_,_,rfl,rfl,rfl,rfl⟩ ?_; refine RP.o1 (.pick (b := false) rfl rfl) rfl rfl ?_; refine RP.o1 (.move rfl) rfl rfl ?_; refine RP.o1 (.fieldAddr rfl fa40_1) rfl ⟨_,_,_,rfl,rfl,rfl,rfl⟩ ?_
                  refine RP.o1 (.load1 rfl lay3 (by first | (apply BoxIs.get; assumption; rfl) | (apply ElAt.get; assumption; rfl) | (apply ElAt.get0; assumption; rfl) | assumption)) rfl ⟨_,_,_,rfl,rfl,rfl,rfl⟩ ?_
                  refine RP.o1 (.bin rfl rfl gtr_is) rfl ⟨_,_,_,rfl,rfl,rfl,rfl⟩ ?_; refine RP.o1 (.move rfl) rfl ⟨_,_,_,rfl,rfl,rfl,rfl⟩ ?_
                  rcases Decidable.em ((0 : Int) < tk.level) with hp90 | hp90
                  · simp only [decide_eq_true hp90]
                    refine RP.o1 (.fieldAddr rfl fa40_2) rfl ⟨_,_,_,rfl,rfl,rfl,rfl⟩ ?_
                    refine RP.o1 (.load1 rfl lay3 (by first | (apply BoxIs.get; assumption; rfl) | (apply ElAt.get; assumption; rfl) | (apply ElAt.get0; assumption; rfl) | assumption)) rfl ⟨_,_,_,rfl,rfl,rfl,rfl⟩ ?_
                    refine RP.o1 (.bin rfl rfl (by first | exact lss_nat | exact lss_is)) rfl ⟨_,_,_,rfl,rfl,rfl,rfl⟩ ?_; refine RP.o1 (.move rfl) rfl ⟨_,_,_,rfl,rfl,rfl,rfl⟩ ?_
                    rcases Decidable.em (tk.assoc < 1) with hp94 | hp94
                    · simp only [decide_eq_true hp94]
                      refine RP.skip ⟨_,_,_,rfl,rfl,rfl,rfl⟩ rfl ?_; refine RP.skip ⟨_,_,_,rfl,rfl,rfl,rfl⟩ rfl ?_; refine RP.skip ⟨_,_,_,rfl,rfl,rfl,rfl⟩ rfl ?_; refine RP.o1 (.pick (b := true) rfl rfl) rfl ⟨_,_,_,rfl,rfl,rfl,rfl⟩ ?_; refine RP.o1 (.pick (b := true) rfl rfl) rfl ⟨_,_,_,rfl,rfl,rfl,rfl⟩ ?_; refine RP.o1 (.pick (b := false) rfl rfl) rfl rfl ?_; refine RP.nil ?_
                      first
                      | exact ⟨(by first | rfl | trivial), _, true, toT_less (.cons rfl (.cons rfl (.cons rfl (.cons rfl (.cons rfl (.cons rfl (.nil))))))), K5', fun h => by cases h⟩
                      | exact ⟨(by first | rfl | trivial), _, true, toT_less (.cons rfl (.cons rfl (.cons rfl (.cons rfl (.cons rfl (.cons rfl (.nil))))))), K5'.trans K6', fun h => by cases h⟩
                      | exact ⟨(by first | rfl | trivial), _, _, toT_less (.cons rfl (.cons rfl (.cons rfl (.cons rfl (.cons rfl (.cons rfl (.nil))))))), K5'.trans K6', fun _ => ⟨by omega, by omega⟩⟩
                    · simp only [decide_eq_false hp94]
                      refine RP.o1 (.fieldAddr rfl fa40_2) rfl ⟨_,_,_,rfl,rfl,rfl,rfl⟩ ?_
                      refine RP.o1 (.load1 rfl lay3 (by first | (apply BoxIs.get; assumption; rfl) | (apply ElAt.get; assumption; rfl) | (apply ElAt.get0; assumption; rfl) | assumption)) rfl ⟨_,_,_,rfl,rfl,rfl,rfl⟩ ?_
                      refine RP.o1 (.bin rfl rfl gtr_is) rfl ⟨_,_,_,rfl,rfl,rfl,rfl⟩ ?_; refine RP.o1 (.pick (b := false) rfl rfl) rfl ⟨_,_,_,rfl,rfl,rfl,rfl⟩ ?_; refine RP.o1 (.pick (b := true) rfl rfl) rfl ⟨_,_,_,rfl,rfl,rfl,rfl⟩ ?_; refine RP.o1 (.pick (b := false) rfl rfl) rfl rfl ?_; refine RP.nil ?_
                      first
                      | exact ⟨(by first | rfl | trivial), _, true, toT_less (.cons rfl (.cons rfl (.cons rfl (.cons rfl (.cons rfl (.cons rfl (.nil))))))), K5', fun h => by cases h⟩
                      | exact ⟨(by first | rfl | trivial), _, true, toT_less (.cons rfl (.cons rfl (.cons rfl (.cons rfl (.cons rfl (.cons rfl (.nil))))))), K5'.trans K6', fun h => by cases h⟩
                      | exact ⟨(by first | rfl | trivial), _, _, toT_less (.cons rfl (.cons rfl (.cons rfl (.cons rfl (.cons rfl (.cons rfl (.nil))))))), K5'.trans K6', fun _ => ⟨by omega, by omega⟩⟩
                  · simp only [decide_eq_false hp90]
                    refine RP.skip ⟨_,_,_,rfl,rfl,rfl,rfl⟩ rfl ?_; refine RP.skip ⟨_,_,_,rfl,rfl,rfl,rfl⟩ rfl ?_; refine RP.skip ⟨_,_,_,rfl,rfl,rfl,rfl⟩ rfl ?_; refine RP.skip ⟨_,_,_,rfl,rfl,rfl,rfl⟩ rfl ?_; refine RP.skipU ⟨_, _, rfl, rfl, rfl⟩ rfl ?_; refine RP.skipU ⟨_, _, rfl, rfl, rfl⟩ rfl ?_; refine RP.skipU ⟨_, _, rfl, rfl, rfl⟩ rfl ?_; refine RP.skip ⟨_,_,_,rfl,rfl,rfl,rfl⟩ rfl ?_; refine RP.o1 (.pick (b := false) rfl rfl) rfl ⟨_,_,_,rfl,rfl,rfl,rfl⟩ ?_; refine RP.o1 (.pick (b := false) rfl rfl) rfl rfl ?_; refine RP.nil ?_
                    first
                    | exact ⟨(by first | rfl | trivial), _, true, toT_less (.cons rfl (.cons rfl (.cons rfl (.cons rfl (.cons rfl (.cons rfl (.nil))))))), K5', fun h => by cases h⟩
                    | exact ⟨(by first | rfl | trivial), _, true, toT_less (.cons rfl (.cons rfl (.cons rfl (.cons rfl (.cons rfl (.cons rfl (.nil))))))), K5'.trans K6', fun h => by cases h⟩
                    | exact ⟨(by first | rfl | trivial), _, _, toT_less (.cons rfl (.cons rfl (.cons rfl (.cons rfl (.cons rfl (.cons rfl (.nil))))))), K5'.trans K6', fun _ => ⟨by omega, by omega⟩⟩
          · simp only [decide_eq_false hp66]; simp only [Bool.not_false]
            refine RP.skip ⟨_,_,_,rfl,rfl,rfl,rfl⟩ rfl ?_; refine RP.skip ⟨_,_,_,rfl,rfl,rfl,rfl⟩ rfl ?_; refine RP.skip ⟨_,_,_,rfl,rfl,rfl,rfl⟩ rfl ?_; refine RP.o1 (.pick (b := true) rfl rfl) rfl rfl ?_; refine RP.o1 (.move rfl) rfl rfl ?_; refine RP.skip ⟨_,_,_,rfl,rfl,rfl,rfl⟩ rfl ?_; refine RP.skip ⟨_,_,_,rfl,rfl,rfl,rfl⟩ rfl ?_; refine RP.skip ⟨_,_,_,rfl,rfl,rfl,rfl⟩ rfl ?_; refine RP.o1 (.pick (b := true) rfl rfl) rfl rfl ?_; refine RP.o1 (.move rfl) rfl rfl ?_; refine RP.skip ⟨_,_,_,rfl,rfl,rfl,rfl⟩ rfl ?_; refine RP.skip ⟨_,_,_,rfl,rfl,rfl,rfl⟩ rfl ?_; refine RP.skip ⟨_,_,_,rfl,rfl,rfl,rfl⟩ rfl ?_; refine RP.skip ⟨_,_,_,rfl,rfl,rfl,rfl⟩ rfl ?_; refine RP.skipU ⟨_, _, rfl, rfl, rfl⟩ rfl ?_; refine RP.skipU ⟨_, _, rfl, rfl, rfl⟩ rfl ?_; refine RP.skipU ⟨_, _, rfl, rfl, rfl⟩ rfl ?_; refine RP.skip ⟨_,_,_,rfl,rfl,rfl,rfl⟩ rfl ?_; refine RP.o1 (.pick (b := true) rfl rfl) rfl rfl ?_; refine RP.o1 (.move rfl) rfl rfl ?_; refine RP.skip ⟨_,_,_,rfl,rfl,rfl,rfl⟩ rfl ?_; refine RP.skip ⟨_,_,_,rfl,rfl,rfl,rfl⟩ rfl ?_; refine RP.skip ⟨_,_,_,rfl,rfl,rfl,rfl⟩ rfl ?_; refine RP.skip ⟨_,_,_,rfl,rfl,rfl,rfl⟩ rfl ?_; refine RP.skipU ⟨_, _, rfl, rfl, rfl⟩ rfl ?_; refine RP.skipU ⟨_, _, rfl, rfl, rfl⟩ rfl ?_; refine RP.skipU ⟨_, _, rfl, rfl, rfl⟩ rfl ?_; refine RP.skipU ⟨_, _, rfl, rfl, rfl⟩ rfl ?_; refine RP.skipU ⟨_, _, rfl, rfl, rfl⟩ rfl ?_; refine RP.skipU ⟨_, _, rfl, rfl, rfl⟩ rfl ?_; refine RP.skipU ⟨_, _, rfl, rfl, rfl⟩ rfl ?_; refine RP.skipU ⟨_, _, rfl, rfl, rfl⟩ rfl ?_; refine RP.skip ⟨_,_,_,rfl,rfl,rfl,rfl⟩ rfl ?_; refine RP.o1 (.pick (b := true) rfl rfl) rfl rfl ?_; refine RP.nil ?_
            first
            | exact ⟨(by first | rfl | trivial), _, true, toT_less (.cons rfl (.cons rfl (.cons rfl (.cons rfl (.cons rfl (.cons rfl (.nil))))))), K5', fun h => by cases h⟩
            | exact ⟨(by first | rfl | trivial), _, true, toT_less (.cons rfl (.cons rfl (.cons rfl (.cons rfl (.cons rfl (.cons rfl (.nil))))))), K5'.trans K6', fun h => by cases h⟩
            | exact ⟨(by first | rfl | trivial), _, _, toT_less (.cons rfl (.cons rfl (.cons rfl (.cons rfl (.cons rfl (.cons rfl (.nil))))))), K5'.trans K6', fun _ => ⟨by omega, by omega⟩⟩
      rintro t M7 ⟨t0, bj, rfl, KY, hbj⟩
      have KC := KC.trans KY
      have K := K1.trans KC
      have B1 := B1o.up KC
      have B6 := B6.up KY
      have B3 := B3.up KY
      refine XP.condB rfl (fun hc100 => ?_) (fun hc100 => ?_)  -- if t100
      · refine XP.seq ?_; refine XP.regionS ?_; refine RP.o1 (.assign rfl) rfl rfl ?_; refine RP.nil ?_
        first
        | exact XP.ret ⟨.inr rfl, _, _, oneRes rfl, false, rfl, K, fun h => by cases h⟩
        | exact XP.ret ⟨.inr rfl, _, _, oneRes rfl, true, rfl, K, fun _ r hr => by
            obtain ⟨n, hn⟩ := List.getElem?_of_mem hr
            exact hgood n r (by have := (List.getElem?_eq_some_iff.1 hn).1; omega) hn⟩
      · refine XP.skip ?_; refine XP.seq ?_; refine XP.seq ?_
        obtain ⟨hlv0, hlv8⟩ := hbj hc100
        obtain ⟨ln, hln⟩ : ∃ ln : Nat, tk.level = Int.ofNat ln := ⟨_, (Int.toNat_of_nonneg hlv0).symm⟩
        rw [hln] at B6 hlv8
        have hln9 : ln < 9 := by have e : (Int.ofNat ln : Int) = ln := rfl; omega
        obtain ⟨av, hav⟩ : ∃ av, asg[ln]? = some av := ⟨asg[ln]'(by omega), List.getElem?_eq_getElem _⟩
        have hA := B3.get (int_at hav)
        refine XP.join (fun t mj => ∃ t0 bk, t = toT t0 [(119, .bool bk), (6, .ptr M4.next 0), (5, .int .i64 (.ofNat i)), (4, .int .i64 mx), (3, .ptr M2.next 0), (1, .ptr m.next 0)] ∧ mj = M7) ?_ ?_
        · refine XP.drawnS (ms := [0, 1, 3, 7, 15, 31, 63, 127, 255, 511, 1023, 2047, 4095, 8191, 16383, 2047, 34815, 131071, 262143]) (by kernel_rfl) ?_; refine DP.pure (.fieldAddr rfl fa40_1) rfl rfl rfl ?_
          refine DP.read (fun _ => op_load1 (ev_is rfl) lay3 (by first | (apply BoxIs.get; assumption; rfl) | (apply ElAt.get; assumption; rfl) | (apply ElAt.get0; assumption; rfl) | assumption)) rfl rfl rfl (fun _ => op_load_leaf) (.inl (by kernel_rfl)) (fun _ => cuts_nil) ?_
          refine DP.pure (.bin rfl rfl gtr_is) rfl rfl rfl ?_; refine DP.pure (.move rfl) rfl rfl rfl ?_
          rcases Decidable.em ((0 : Int) < Int.ofNat ln) with hp104 | hp104
          · simp only [decide_eq_true hp104]
            refine DP.pure (.fieldAddr rfl fa40_1) rfl rfl ⟨_,_,_,rfl,rfl,rfl,rfl⟩ ?_
            refine DP.read (fun _ => op_load1 (ev_is rfl) lay3 (by first | (apply BoxIs.get; assumption; rfl) | (apply ElAt.get; assumption; rfl) | (apply ElAt.get0; assumption; rfl) | assumption)) rfl rfl ⟨_,_,_,rfl,rfl,rfl,rfl⟩ (fun _ => op_load_leaf) (.inl (by kernel_rfl)) (fun _ => cuts_nil) ?_
            refine DP.pure (.indexArr rfl rfl ix77 hln9) rfl rfl ⟨_,_,_,rfl,rfl,rfl,rfl⟩ ?_; refine DP.read (fun _ => op_load1 (ev_is rfl) lay3 hA) rfl rfl ⟨_,_,_,rfl,rfl,rfl,rfl⟩ (fun _ => op_load_leaf) (.inl (by kernel_rfl)) (fun _ => cuts_nil) ?_; refine DP.pure (.bin rfl rfl neq_is) rfl rfl ⟨_,_,_,rfl,rfl,rfl,rfl⟩ ?_; refine DP.pure (.pick (b := true) rfl rfl) rfl rfl rfl ?_; refine DP.pure (.move rfl) rfl rfl rfl ?_
            rcases Decidable.em (av = 0) with hp111 | hp111
            · simp only [decide_eq_true hp111]; simp only [Bool.not_true]
              refine DP.skip ⟨_,_,_,rfl,rfl,rfl,rfl⟩ rfl ?_; refine DP.skip ⟨_,_,_,rfl,rfl,rfl,rfl⟩ rfl ?_; refine DP.skip ⟨_,_,_,rfl,rfl,rfl,rfl⟩ rfl ?_; refine DP.skip ⟨_,_,_,rfl,rfl,rfl,rfl⟩ rfl ?_; refine DP.skip ⟨_,_,_,rfl,rfl,rfl,rfl⟩ rfl ?_; refine DP.skip ⟨_,_,_,rfl,rfl,rfl,rfl⟩ rfl ?_; refine DP.skip ⟨_,_,_,rfl,rfl,rfl,rfl⟩ rfl ?_; refine DP.pure (.pick (b := false) rfl rfl) rfl rfl rfl ?_; refine DP.nil ?_
              exact ⟨(by first | rfl | trivial), _, _, toT_less (.cons rfl (.cons rfl (.cons rfl (.cons rfl (.cons rfl (.cons rfl (.nil))))))), rfl⟩
            · simp only [decide_eq_false hp111]; simp only [Bool.not_false]
              refine DP.pure (.fieldAddr rfl fa40_1) rfl rfl ⟨_,_,_,rfl,rfl,rfl,rfl⟩ ?_
              refine DP.read (fun _ => op_load1 (ev_is rfl) lay3 (by first | (apply BoxIs.get; assumption; rfl) | (apply ElAt.get; assumption; rfl) | (apply ElAt.get0; assumption; rfl) | assumption)) rfl rfl ⟨_,_,_,rfl,rfl,rfl,rfl⟩ (fun _ => op_load_leaf) (.inl (by kernel_rfl)) (fun _ => cuts_nil) ?_
              refine DP.pure (.indexArr rfl rfl ix77 hln9) rfl rfl ⟨_,_,_,rfl,rfl,rfl,rfl⟩ ?_; refine DP.read (fun _ => op_load1 (ev_is rfl) lay3 hA) rfl rfl ⟨_,_,_,rfl,rfl,rfl,rfl⟩ (fun _ => op_load_leaf) (.inl (by kernel_rfl)) (fun _ => cuts_nil) ?_; refine DP.pure (.fieldAddr rfl fa40_2) rfl rfl ⟨_,_,_,rfl,rfl,rfl,rfl⟩ ?_
              refine DP.read (fun _ => op_load1 (ev_is rfl) lay3 (by first | (apply BoxIs.get; assumption; rfl) | (apply ElAt.get; assumption; rfl) | (apply ElAt.get0; assumption; rfl) | assumption)) rfl rfl ⟨_,_,_,rfl,rfl,rfl,rfl⟩ (fun _ => op_load_leaf) (.inl (by kernel_rfl)) (fun _ => cuts_nil) ?_
              refine DP.pure (.bin rfl rfl neq_is) rfl rfl ⟨_,_,_,rfl,rfl,rfl,rfl⟩ ?_; refine DP.pure (.pick (b := true) rfl rfl) rfl rfl rfl ?_; refine DP.nil ?_
              exact ⟨(by first | rfl | trivial), _, _, toT_less (.cons rfl (.cons rfl (.cons rfl (.cons rfl (.cons rfl (.cons rfl (.nil))))))), rfl⟩
          · simp only [decide_eq_false hp104]
            refine DP.skip ⟨_,_,_,rfl,rfl,rfl,rfl⟩ rfl ?_; refine DP.skip ⟨_,_,_,rfl,rfl,rfl,rfl⟩ rfl ?_; refine DP.skip ⟨_,_,_,rfl,rfl,rfl,rfl⟩ rfl ?_; refine DP.skip ⟨_,_,_,rfl,rfl,rfl,rfl⟩ rfl ?_; refine DP.skip ⟨_,_,_,rfl,rfl,rfl,rfl⟩ rfl ?_; refine DP.pure (.pick (b := false) rfl rfl) rfl rfl rfl ?_; refine DP.pure (.move rfl) rfl rfl rfl ?_; refine DP.skip ⟨_,_,_,rfl,rfl,rfl,rfl⟩ rfl ?_; refine DP.skip ⟨_,_,_,rfl,rfl,rfl,rfl⟩ rfl ?_; refine DP.skip ⟨_,_,_,rfl,rfl,rfl,rfl⟩ rfl ?_; refine DP.skip ⟨_,_,_,rfl,rfl,rfl,rfl⟩ rfl ?_; refine DP.skip ⟨_,_,_,rfl,rfl,rfl,rfl⟩ rfl ?_; refine DP.skip ⟨_,_,_,rfl,rfl,rfl,rfl⟩ rfl ?_; refine DP.skip ⟨_,_,_,rfl,rfl,rfl,rfl⟩ rfl ?_; refine DP.pure (.pick (b := false) rfl rfl) rfl rfl rfl ?_; refine DP.nil ?_
            exact ⟨(by first | rfl | trivial), _, _, toT_less (.cons rfl (.cons rfl (.cons rfl (.cons rfl (.cons rfl (.cons rfl (.nil))))))), rfl⟩
        rintro t M8 ⟨t0, bk, rfl, hmj⟩
        subst hmj
        refine XP.condB rfl (fun hc119 => ?_) (fun hc119 => ?_)  -- if t119
        · refine XP.seq ?_; refine XP.regionS ?_; refine RP.o1 (.assign rfl) rfl rfl ?_; refine RP.nil ?_
          first
          | exact XP.ret ⟨.inr rfl, _, _, oneRes rfl, false, rfl, K, fun h => by cases h⟩
          | exact XP.ret ⟨.inr rfl, _, _, oneRes rfl, true, rfl, K, fun _ r hr => by
              obtain ⟨n, hn⟩ := List.getElem?_of_mem hr
              exact hgood n r (by have := (List.getElem?_eq_some_iff.1 hn).1; omega) hn⟩
        · refine XP.skip ?_; refine XP.seq ?_; refine XP.regionS ?_; refine RP.o1 (.fieldAddr rfl fa40_1) rfl rfl ?_
          refine RP.o1 (.load1 rfl lay3 (by first | (apply BoxIs.get; assumption; rfl) | (apply ElAt.get; assumption; rfl) | (apply ElAt.get0; assumption; rfl) | assumption)) rfl rfl ?_
          refine RP.o1 (.fieldAddr rfl fa40_2) rfl rfl ?_
          refine RP.o1 (.load1 rfl lay3 (by first | (apply BoxIs.get; assumption; rfl) | (apply ElAt.get; assumption; rfl) | (apply ElAt.get0; assumption; rfl) | assumption)) rfl rfl ?_
          refine RP.o1 (.indexArr rfl rfl ix77 hln9) rfl rfl ?_; refine RP.store rfl rfl lay3 rfl B3 (Nat.ble_eq_true_of_le (by simp; omega)) rfl rfl rfl fun M9 K9 B3 N9 => ?_
          have B3 : BoxIs M9 M2.next ((asg.set ln tk.assoc).map (AV.int .i64)) := by rw [← setL_int (by omega)]; exact B3
          have hne34 : M4.next ≠ M2.next := by omega
          have B6 := B6.keep K9 hne34
          have KA2 : Kp Nothing M2 M9 := (((KA.trans KX).trans KY)).young K9 (by rintro _ rfl; exact Nat.le_refl _)
          refine RP.nil ?_; refine XP.regionS ?_; refine RP.o1 (.move rfl) rfl rfl ?_; refine RP.o1 (.fieldAddr rfl fa40_1) rfl rfl ?_
          refine RP.o1 (.load1 rfl lay3 (by first | (apply BoxIs.get; assumption; rfl) | (apply ElAt.get; assumption; rfl) | (apply ElAt.get0; assumption; rfl) | assumption)) rfl rfl ?_
          refine RP.o1 (OpTo.of fun _ => op_max rfl rfl) rfl rfl ?_; refine RP.o1 (.assign rfl) rfl rfl ?_; refine RP.nil ?_; refine XP.regionS ?_; refine RP.o1 (.move rfl) rfl rfl ?_
          refine RP.o1 (.bin rfl rfl (by first | exact inc_is (by omega) | exact add_is (by omega) (by omega))) rfl rfl ?_
          refine RP.o1 (.assign rfl) rfl rfl ?_; refine RP.nil ?_
          exact ⟨g.toks.length - (i + 1), by omega, i + 1, _, _, _, toT_less (.cons rfl (.cons rfl (.cons rfl (.cons rfl (.nil))))), rfl, by omega, KA2, B3, by simp [has], by split; exact hlv8; exact hmx⟩
    · refine XP.exit ?_  -- 0
      refine XP.seq ?_; refine XP.seq ?_; refine XP.regionS ?_; refine RP.o1 (.assign rfl) rfl rfl ?_; refine RP.nil ?_
      refine XP.block ?_  -- block 2
      refine XP.while (fun d t m1 => ∃ j t0, t = toT t0 [(7, .int .i64 (.ofNat j)), (4, .int .i64 mx), (3, .ptr M2.next 0), (1, .ptr m.next 0)] ∧ d = 10 - j ∧ m1 = M4) ?_ 9 _ _ ?_
      rotate_left
      · exact ⟨1, _, toT_less (.cons rfl (.cons rfl (.cons rfl (.cons rfl (.nil))))), rfl, rfl⟩
      rintro d t M10 ⟨j, t0, rfl, rfl, hm16⟩
      subst hm16
      refine XP.seq ?_; refine XP.seq ?_; refine XP.regionS ?_; refine RP.o1 (.move rfl) rfl rfl ?_; refine RP.o1 (.move rfl) rfl rfl ?_; refine RP.o1 (.bin rfl rfl leq_is) rfl rfl ?_; refine RP.nil ?_
      refine XP.condN rfl (fun hc131 => ?_) (fun hc131 => ?_)  -- if t131
      · refine XP.exit ?_  -- 2
        refine XP.seq ?_; refine XP.seq ?_; refine XP.regionS ?_; refine RP.o1 (.assign rfl) rfl rfl ?_; refine RP.nil ?_
        refine XP.block ?_  -- block 4
        refine XP.while (fun d t m1 => ∃ q t0, t = toT t0 [(8, .int .i64 (.ofNat q)), (1, .ptr m.next 0)] ∧ d = g.rules.length - q ∧ q ≤ g.rules.length ∧ Kp Nothing M1 m1 ∧ ∀ (n : Nat) r, n < q → g.rules[n]? = some r → r.left ≠ []) ?_ g.rules.length _ _ ?_
        rotate_left
        · exact ⟨0, _, toT_less (.cons rfl (.cons rfl (.nil))), rfl, Nat.zero_le _, KC, fun n r h => absurd h (Nat.not_lt_zero _)⟩
        rintro d t M11 ⟨q, t0, rfl, rfl, hqn, KC, hgood⟩
        have K := K1.trans KC
        have B1 := B1o.up KC
        have hgM := hg0.up KC
        have hKC := KC.le
        refine XP.seq ?_; refine XP.seq ?_; refine XP.regionS ?_; refine RP.o1 (.move rfl) rfl rfl ?_; refine RP.o1 (.fieldAddr rfl fa25_3) rfl rfl ?_
        refine RP.o1 (.load1 rfl lay23 (by first | (apply BoxIs.get; assumption; rfl) | (apply ElAt.get; assumption; rfl) | (apply ElAt.get0; assumption; rfl) | assumption)) rfl rfl ?_
        refine RP.o1 (.len rfl (rowLen23 hgM.r)) rfl rfl ?_; refine RP.o1 (.bin rfl rfl (by first | exact lss_nat | exact lss_is)) rfl rfl ?_; refine RP.nil ?_
        refine XP.condD rfl (fun hc142 => ?_) (fun hc142 => ?_)  -- if t142
        · refine XP.skip ?_; refine XP.seq ?_
          refine XP.block ?_  -- block 5
          refine XP.seq ?_
          obtain ⟨r, hr⟩ : ∃ r, g.rules[q]? = some r := ⟨g.rules[q]'hc142, List.getElem?_eq_getElem _⟩
          obtain ⟨br, or_, cr, vq, e5, _, E1, RQ, hpl⟩ := hgM.r.elem (.refl _) hr
          have hB13 : BoxIs M11 m.next [vt, .str g.start, .int .i64 g.expect, vr] := B1
          rw [e5] at hB13
          have hrm := List.mem_of_getElem? hr
          refine XP.regionS ?_; refine RP.o1 (.fieldAddr rfl fa25_3) rfl rfl ?_; refine RP.o1 (.load1 rfl lay23 (hB13.get (j := 3) rfl)) rfl rfl ?_; refine RP.o1 (.move rfl) rfl rfl ?_; refine RP.o1 (.indexAddr rfl rfl ix23 (by assumption)) rfl rfl ?_; refine RP.o1 (.loadE rfl (by first | assumption | (apply BoxIs.el; assumption)) lay42 (by rfl)) rfl rfl ?_
          have hk12 := K.le
          have lt1 := B1.lt
          refine RP.alloc z42 rfl rfl fun M12 K12 B9 N12 => ?_
          have K := K.trans K12
          have B1 := B1.up K12
          refine RP.store rfl rfl lay42 rfl B9 rfl hpl rfl rfl fun M13 K13 B9 N13 => ?_
          have K := K.young K13 (by rintro _ rfl; omega)
          have B1 := B1.keep K13 (by first | exact Nat.ne_of_lt (by assumption) | exact Nat.ne_of_gt (by assumption) | (intro e; omega))
          refine RP.nil ?_; refine XP.seq ?_; refine XP.seq ?_
          have B9 : BoxIs M13 M11.next [.str r.left, vq, .str r.prec] := B9
          have KX : Kp Nothing M11 M13 := Kp.young (.refl _) (K12.any.trans K13) (by rintro _ rfl; exact Nat.le_refl _)
          obtain ⟨w7, M7', hc7, b7, rfl, K7', hb7⟩ := call37 hS37 (m := M13) (s := r.left) (hs.l r hrm)
          obtain ⟨w8, M8', hc8, b8, rfl, K8', _⟩ := call37 hS37 (m := M7') (s := r.prec) (hs.p r hrm)
          have RQ := (RQ.up KX)
          have hrr := hl.rr r hrm
          refine XP.join (fun t mj => ∃ t0 bj, t = toT t0 [(170, .bool bj), (9, .ptr M11.next 0), (8, .int .i64 (.ofNat q)), (1, .ptr m.next 0)] ∧ Kp Nothing M13 mj ∧ (bj = false → r.left ≠ [])) ?_ ?_
          · refine XP.regionS ?_; refine RP.o1 (.fieldAddr rfl fa42_0) rfl rfl ?_
            refine RP.o1 (.load1 rfl lay9 (by first | (apply BoxIs.get; assumption; rfl) | (apply ElAt.get; assumption; rfl) | (apply ElAt.get0; assumption; rfl) | assumption)) rfl rfl ?_
            refine RP.op (.callS rfl rfl hc7) rfl rfl K7'.le ?_
            have B9 := B9.up K7'
            have RQ := RQ.up K7'
            refine RP.o1 (.not_ rfl) rfl rfl ?_; refine RP.o1 (.move rfl) rfl rfl ?_
            rcases Bool.eq_false_or_eq_true ((!b7)) with hp154 | hp154
            · simp only [hp154]
              refine RP.skip ⟨_,_,_,rfl,rfl,rfl,rfl⟩ rfl ?_; refine RP.skip ⟨_,_,_,rfl,rfl,rfl,rfl⟩ rfl ?_; refine RP.skip ⟨_,_,_,rfl,rfl,rfl,rfl⟩ rfl ?_; refine RP.skip ⟨_,_,_,rfl,rfl,rfl,rfl⟩ rfl ?_; refine RP.o1 (.pick (b := true) rfl rfl) rfl rfl ?_; refine RP.o1 (.move rfl) rfl rfl ?_; refine RP.skip ⟨_,_,_,rfl,rfl,rfl,rfl⟩ rfl ?_; refine RP.skip ⟨_,_,_,rfl,rfl,rfl,rfl⟩ rfl ?_; refine RP.skip ⟨_,_,_,rfl,rfl,rfl,rfl⟩ rfl ?_; refine RP.skip ⟨_,_,_,rfl,rfl,rfl,rfl⟩ rfl ?_; refine RP.skipU ⟨_, _, rfl, rfl, rfl⟩ rfl ?_; refine RP.skipU ⟨_, _, rfl, rfl, rfl⟩ rfl ?_; refine RP.skipU ⟨_, _, rfl, rfl, rfl⟩ rfl ?_; refine RP.skipU ⟨_, _, rfl, rfl, rfl⟩ rfl ?_; refine RP.skip ⟨_,_,_,rfl,rfl,rfl,rfl⟩ rfl ?_; refine RP.o1 (.pick (b := true) rfl rfl) rfl rfl ?_; refine RP.nil ?_
              first
              | exact ⟨(by first | rfl | trivial), _, true, toT_less (.cons rfl (.cons rfl (.cons rfl (.cons rfl (.nil))))), K7', fun h => by cases h⟩
              | exact ⟨(by first | rfl | trivial), _, _, toT_less (.cons rfl (.cons rfl (.cons rfl (.cons rfl (.nil))))), K7', fun _ => hb7 (by simpa using hp154)⟩
              | exact ⟨(by first | rfl | trivial), _, _, toT_less (.cons rfl (.cons rfl (.cons rfl (.cons rfl (.nil))))), K7'.trans K8', fun _ => hb7 (by simpa using hp154)⟩
            · simp only [hp154]
              refine RP.o1 (.fieldAddr rfl fa42_1) rfl ⟨_,_,_,rfl,rfl,rfl,rfl⟩ ?_
              refine RP.o1 (.load1 rfl lay27 (by first | (apply BoxIs.get; assumption; rfl) | (apply ElAt.get; assumption; rfl) | (apply ElAt.get0; assumption; rfl) | assumption)) rfl ⟨_,_,_,rfl,rfl,rfl,rfl⟩ ?_
              refine RP.o1 (.len rfl (rowLen27 RQ)) rfl ⟨_,_,_,rfl,rfl,rfl,rfl⟩ ?_; refine RP.o1 (.bin rfl rfl gtr_is) rfl ⟨_,_,_,rfl,rfl,rfl,rfl⟩ ?_; refine RP.o1 (.pick (b := false) rfl rfl) rfl rfl ?_; refine RP.o1 (.move rfl) rfl rfl ?_
              rcases Decidable.em ((20 : Int) < Int.ofNat r.right.length) with hp160 | hp160
              · simp only [decide_eq_true hp160]
                refine RP.skip ⟨_,_,_,rfl,rfl,rfl,rfl⟩ rfl ?_; refine RP.skip ⟨_,_,_,rfl,rfl,rfl,rfl⟩ rfl ?_; refine RP.skip ⟨_,_,_,rfl,rfl,rfl,rfl⟩ rfl ?_; refine RP.skip ⟨_,_,_,rfl,rfl,rfl,rfl⟩ rfl ?_; refine RP.skipU ⟨_, _, rfl, rfl, rfl⟩ rfl ?_; refine RP.skipU ⟨_, _, rfl, rfl, rfl⟩ rfl ?_; refine RP.skipU ⟨_, _, rfl, rfl, rfl⟩ rfl ?_; refine RP.skipU ⟨_, _, rfl, rfl, rfl⟩ rfl ?_; refine RP.skip ⟨_,_,_,rfl,rfl,rfl,rfl⟩ rfl ?_; refine RP.o1 (.pick (b := true) rfl rfl) rfl rfl ?_; refine RP.nil ?_
                first
                | exact ⟨(by first | rfl | trivial), _, true, toT_less (.cons rfl (.cons rfl (.cons rfl (.cons rfl (.nil))))), K7', fun h => by cases h⟩
                | exact ⟨(by first | rfl | trivial), _, _, toT_less (.cons rfl (.cons rfl (.cons rfl (.cons rfl (.nil))))), K7', fun _ => hb7 (by simpa using hp154)⟩
                | exact ⟨(by first | rfl | trivial), _, _, toT_less (.cons rfl (.cons rfl (.cons rfl (.cons rfl (.nil))))), K7'.trans K8', fun _ => hb7 (by simpa using hp154)⟩
              · simp only [decide_eq_false hp160]
                refine RP.o1 (.fieldAddr rfl fa42_2) rfl ⟨_,_,_,rfl,rfl,rfl,rfl⟩ ?_
                refine RP.o1 (.load1 rfl lay9 (by first | (apply BoxIs.get; assumption; rfl) | (apply ElAt.get; assumption; rfl) | (apply ElAt.get0; assumption; rfl) | assumption)) rfl ⟨_,_,_,rfl,rfl,rfl,rfl⟩ ?_
                refine RP.o1 (.bin rfl rfl neqS) rfl ⟨_,_,_,rfl,rfl,rfl,rfl⟩ ?_; refine RP.o1 (.move rfl) rfl ⟨_,_,_,rfl,rfl,rfl,rfl⟩ ?_
                rcases Decidable.em (r.prec = List.map UInt8.toNat []) with hp164 | hp164
                · simp only [decide_eq_true hp164]; simp only [Bool.not_true]
                  refine RP.skip ⟨_,_,_,rfl,rfl,rfl,rfl⟩ rfl ?_; refine RP.skip ⟨_,_,_,rfl,rfl,rfl,rfl⟩ rfl ?_; refine RP.skip ⟨_,_,_,rfl,rfl,rfl,rfl⟩ rfl ?_; refine RP.skip ⟨_,_,_,rfl,rfl,rfl,rfl⟩ rfl ?_; refine RP.o1 (.pick (b := false) rfl rfl) rfl ⟨_,_,_,rfl,rfl,rfl,rfl⟩ ?_; refine RP.o1 (.pick (b := false) rfl rfl) rfl rfl ?_; refine RP.nil ?_
                  first
                  | exact ⟨(by first | rfl | trivial), _, true, toT_less (.cons rfl (.cons rfl (.cons rfl (.cons rfl (.nil))))), K7', fun h => by cases h⟩
                  | exact ⟨(by first | rfl | trivial), _, _, toT_less (.cons rfl (.cons rfl (.cons rfl (.cons rfl (.nil))))), K7', fun _ => hb7 (by simpa using hp154)⟩
                  | exact ⟨(by first | rfl | trivial), _, _, toT_less (.cons rfl (.cons rfl (.cons rfl (.cons rfl (.nil))))), K7'.trans K8', fun _ => hb7 (by simpa using hp154)⟩
                · simp only [decide_eq_false hp164]; simp only [Bool.not_false]
                  refine RP.o1 (.fieldAddr rfl fa42_2) rfl ⟨_,_,_,rfl,rfl,rfl,rfl⟩ ?_
                  refine RP.o1 (.load1 rfl lay9 (by first | (apply BoxIs.get; assumption; rfl) | (apply ElAt.get; assumption; rfl) | (apply ElAt.get0; assumption; rfl) | assumption)) rfl ⟨_,_,_,rfl,rfl,rfl,rfl⟩ ?_
                  refine RP.op (.callS rfl rfl hc8) rfl ⟨_,_,_,rfl,rfl,rfl,rfl⟩ K8'.le ?_; refine RP.o1 (.not_ rfl) rfl ⟨_,_,_,rfl,rfl,rfl,rfl⟩ ?_; refine RP.o1 (.pick (b := true) rfl rfl) rfl ⟨_,_,_,rfl,rfl,rfl,rfl⟩ ?_; refine RP.o1 (.pick (b := false) rfl rfl) rfl rfl ?_; refine RP.nil ?_
                  first
                  | exact ⟨(by first | rfl | trivial), _, true, toT_less (.cons rfl (.cons rfl (.cons rfl (.cons rfl (.nil))))), K7', fun h => by cases h⟩
                  | exact ⟨(by first | rfl | trivial), _, _, toT_less (.cons rfl (.cons rfl (.cons rfl (.cons rfl (.nil))))), K7', fun _ => hb7 (by simpa using hp154)⟩
                  | exact ⟨(by first | rfl | trivial), _, _, toT_less (.cons rfl (.cons rfl (.cons rfl (.cons rfl (.nil))))), K7'.trans K8', fun _ => hb7 (by simpa using hp154)⟩
          rintro t M14 ⟨t0, bj, rfl, KY, hbj⟩
          have KC := KC.trans (KX.trans KY)
          have K := K1.trans KC
          have B1 := B1o.up KC
          have B9 := B9.up KY
          have RQ := RQ.up KY
          refine XP.condB rfl (fun hc170 => ?_) (fun hc170 => ?_)  -- if t170
          · refine XP.seq ?_; refine XP.regionS ?_; refine RP.o1 (.assign rfl) rfl rfl ?_; refine RP.nil ?_
            first
            | exact XP.ret ⟨.inr rfl, _, _, oneRes rfl, false, rfl, K, fun h => by cases h⟩
            | exact XP.ret ⟨.inr rfl, _, _, oneRes rfl, true, rfl, K, fun _ r hr => by
                obtain ⟨n, hn⟩ := List.getElem?_of_mem hr
                exact hgood n r (by have := (List.getElem?_eq_some_iff.1 hn).1; omega) hn⟩
          · refine XP.skip ?_; refine XP.seq ?_
            have hleft := hbj hc170
            refine XP.regionS ?_; refine RP.o1 (.assign rfl) rfl rfl ?_; refine RP.nil ?_
            refine XP.block ?_  -- block 6
            refine XP.while (fun d t m1 => ∃ k t0, t = toT t0 [(10, .int .i64 (.ofNat k)), (9, .ptr M11.next 0), (8, .int .i64 (.ofNat q)), (1, .ptr m.next 0)] ∧ d = r.right.length - k ∧ k ≤ r.right.length ∧ Kp Nothing M14 m1) ?_ r.right.length _ _ ?_
            rotate_left
            · exact ⟨0, _, toT_less (.cons rfl (.cons rfl (.cons rfl (.cons rfl (.nil))))), rfl, Nat.zero_le _, .refl _⟩
            rintro d t M15 ⟨k, t0, rfl, rfl, hkn, KZ⟩
            have KC := KC.trans KZ
            have K := K1.trans KC
            have B9 := B9.up KZ
            have RQ := RQ.up KZ
            refine XP.seq ?_; refine XP.seq ?_; refine XP.regionS ?_; refine RP.o1 (.move rfl) rfl rfl ?_; refine RP.o1 (.fieldAddr rfl fa42_1) rfl rfl ?_
            refine RP.o1 (.load1 rfl lay27 (by first | (apply BoxIs.get; assumption; rfl) | (apply ElAt.get; assumption; rfl) | (apply ElAt.get0; assumption; rfl) | assumption)) rfl rfl ?_
            refine RP.o1 (.len rfl (rowLen27 RQ)) rfl rfl ?_; refine RP.o1 (.bin rfl rfl (by first | exact lss_nat | exact lss_is)) rfl rfl ?_; refine RP.nil ?_
            refine XP.condD rfl (fun hc175 => ?_) (fun hc175 => ?_)  -- if t175
            · refine XP.skip ?_; refine XP.seq ?_
              refine XP.block ?_  -- block 7
              refine XP.seq ?_
              obtain ⟨x, hx⟩ : ∃ x, r.right[k]? = some x := ⟨r.right[k]'hc175, List.getElem?_eq_getElem _⟩
              obtain ⟨bx, ox, cx, e6, _, EX⟩ := RQ.elem encStr (.refl _) hx
              rw [e6] at B9
              obtain ⟨w9, M9', hc9, b9, rfl, K9', _⟩ := call37 hS37 (m := M15) (s := x) (hs.r r hrm x (List.mem_of_getElem? hx))
              refine XP.regionS ?_; refine RP.o1 (.fieldAddr rfl fa42_1) rfl rfl ?_
              refine RP.o1 (.load1 rfl lay27 (by first | (apply BoxIs.get; assumption; rfl) | (apply ElAt.get; assumption; rfl) | (apply ElAt.get0; assumption; rfl) | assumption)) rfl rfl ?_
              refine RP.o1 (.move rfl) rfl rfl ?_; refine RP.o1 (.indexAddr rfl rfl ix27 (by assumption)) rfl rfl ?_
              refine RP.o1 (.load1 rfl lay9 (by first | (apply BoxIs.get; assumption; rfl) | (apply ElAt.get; assumption; rfl) | (apply ElAt.get0; assumption; rfl) | assumption)) rfl rfl ?_
              refine RP.op (.callS rfl rfl hc9) rfl rfl K9'.le ?_
              have K := K.trans K9'
              have KZ := KZ.trans K9'
              refine RP.o1 (.not_ rfl) rfl rfl ?_; refine RP.nil ?_
              refine XP.condB rfl (fun hc184 => ?_) (fun hc184 => ?_)  -- if t184
              · refine XP.seq ?_; refine XP.regionS ?_; refine RP.o1 (.assign rfl) rfl rfl ?_; refine RP.nil ?_
                first
                | exact XP.ret ⟨.inr rfl, _, _, oneRes rfl, false, rfl, K, fun h => by cases h⟩
                | exact XP.ret ⟨.inr rfl, _, _, oneRes rfl, true, rfl, K, fun _ r hr => by
                    obtain ⟨n, hn⟩ := List.getElem?_of_mem hr
                    exact hgood n r (by have := (List.getElem?_eq_some_iff.1 hn).1; omega) hn⟩
              · refine XP.skip ?_; refine XP.regionS ?_; refine RP.o1 (.move rfl) rfl rfl ?_
                refine RP.o1 (.bin rfl rfl (by first | exact inc_is (by omega) | exact add_is (by omega) (by omega))) rfl rfl ?_
                refine RP.o1 (.assign rfl) rfl rfl ?_; refine RP.nil ?_
                exact ⟨r.right.length - (k + 1), by omega, k + 1, _, toT_less (.cons rfl (.cons rfl (.cons rfl (.cons rfl (.nil))))), rfl, by omega, KZ⟩
            · refine XP.exit ?_  -- 6
              refine XP.regionS ?_; refine RP.o1 (.move rfl) rfl rfl ?_
              refine RP.o1 (.bin rfl rfl (by first | exact inc_is (by omega) | exact add_is (by omega) (by omega))) rfl rfl ?_
              refine RP.o1 (.assign rfl) rfl rfl ?_; refine RP.nil ?_
              refine ⟨g.rules.length - (q + 1), by omega, q + 1, _, toT_less (.cons rfl (.cons rfl (.nil))), rfl, by omega, KC, fun n z hn hz => ?_⟩
              rcases Nat.lt_or_ge n q with h | h
              · exact hgood n z h hz
              · obtain rfl : n = q := by omega
                rw [hr] at hz; cases hz; exact hleft
        · refine XP.exit ?_  -- 4
          refine XP.seq ?_; refine XP.regionS ?_; refine RP.o1 (.assign rfl) rfl rfl ?_; refine RP.nil ?_
          first
          | exact XP.ret ⟨.inr rfl, _, _, oneRes rfl, false, rfl, K, fun h => by cases h⟩
          | exact XP.ret ⟨.inr rfl, _, _, oneRes rfl, true, rfl, K, fun _ r hr => by
              obtain ⟨n, hn⟩ := List.getElem?_of_mem hr
              exact hgood n r (by have := (List.getElem?_eq_some_iff.1 hn).1; omega) hn⟩
      · refine XP.skip ?_; refine XP.seq ?_
        refine XP.block ?_  -- block 3
        refine XP.seq ?_
        have hj9 : j < 9 := by have e : (Int.ofNat j : Int) = j := rfl; omega
        obtain ⟨av, hav⟩ : ∃ av, asg[j]? = some av := ⟨asg[j]'(by omega), List.getElem?_eq_getElem _⟩
        have hA := B3.get (int_at hav)
        refine XP.regionS ?_; refine RP.o1 (.move rfl) rfl rfl ?_; refine RP.o1 (.indexArr rfl rfl ix77 hj9) rfl rfl ?_; refine RP.o1 (.load1 rfl lay3 hA) rfl rfl ?_; refine RP.o1 (.bin rfl rfl eql_is) rfl rfl ?_; refine RP.nil ?_
        refine XP.condD rfl (fun hc137 => ?_) (fun hc137 => ?_)  -- if t137
        · refine XP.seq ?_; refine XP.regionS ?_; refine RP.o1 (.assign rfl) rfl rfl ?_; refine RP.nil ?_
          first
          | exact XP.ret ⟨.inr rfl, _, _, oneRes rfl, false, rfl, K, fun h => by cases h⟩
          | exact XP.ret ⟨.inr rfl, _, _, oneRes rfl, true, rfl, K, fun _ r hr => by
              obtain ⟨n, hn⟩ := List.getElem?_of_mem hr
              exact hgood n r (by have := (List.getElem?_eq_some_iff.1 hn).1; omega) hn⟩
        · refine XP.skip ?_; refine XP.regionS ?_; refine RP.o1 (.move rfl) rfl rfl ?_
          refine RP.o1 (.bin rfl rfl (by first | exact inc_is (by omega) | exact add_is (by omega) (by omega))) rfl rfl ?_
          refine RP.o1 (.assign rfl) rfl rfl ?_; refine RP.nil ?_
          exact ⟨10 - (j + 1), by omega, j + 1, _, toT_less (.cons rfl (.cons rfl (.cons rfl (.cons rfl (.nil))))), rfl, rfl⟩
end Go.Ev
end
section
namespace Go.Ev
set_option linter.all false
open Go.Proofs
abbrev strPV (s : List Nat) : PV := ⟨.str s, rfl⟩
abbrev intPV (x : Int) : PV := ⟨.int .i64 x, rfl⟩
theorem rowStr {m : AMem} {v : AV} {xs : List (List Nat)} (h : RowIs pvC 1 m v (xs.map strPV)) : RowIs strC 1 m v xs := by
  rcases h with ⟨e, h⟩ | ⟨e, h⟩ | ⟨b, o, c, e, R⟩
  · exact .inl ⟨e, by simpa using h⟩
  · exact .inr (.inl ⟨e, by simpa using h⟩)
  · refine .inr (.inr ⟨b, o, c, by rw [e, List.length_map], R.lt, by have := R.blk; rwa [List.length_map] at this, fun i x hx j hj => ?_⟩)
    exact R.at_ i (strPV x) (by rw [List.getElem?_map, hx]; rfl) j hj
theorem strRow {m : AMem} {v : AV} {xs : List (List Nat)} (h : RowIs strC 1 m v xs) : RowIs pvC 1 m v (xs.map strPV) := by
  rcases h with ⟨e, rfl⟩ | ⟨e, rfl⟩ | ⟨b, o, c, e, R⟩
  · exact .inl ⟨e, rfl⟩
  · exact .inr (.inl ⟨e, rfl⟩)
  · refine .inr (.inr ⟨b, o, c, by rw [e, List.length_map], R.lt, by have := R.blk; rwa [List.length_map], fun i x hx j hj => ?_⟩)
    rw [List.getElem?_map] at hx
    cases e2 : xs[i]? with
    | none => rw [e2] at hx; cases hx
    | some y => rw [e2] at hx; cases hx; exact R.at_ i y e2 j hj
/-- Three rows that grow. -/
structure Tri (lo : Nat) (m : AMem) (x y z : AV) (xs ys zs : List PV) : Prop where
  gx : GrowIs pvC 1 lo m x xs
  gy : GrowIs pvC 1 lo m y ys
  gz : GrowIs pvC 1 lo m z zs
  xy : ∀ b, Blk1 x b → ¬ Blk1 y b
  yz : ∀ b, Blk1 y b → ¬ Blk1 z b
  zx : ∀ b, Blk1 z b → ¬ Blk1 x b
theorem Tri.rot {lo : Nat} {m : AMem} {x y z : AV} {xs ys zs : List PV} (h : Tri lo m x y z xs ys zs) : Tri lo m y z x ys zs xs := ⟨h.gy, h.gz, h.gx, h.yz, h.zx, h.xy⟩
/-- One of them has grown, and was laid into its struct. -/
theorem Tri.app {lo b5 : Nat} {m m' m2 : AMem} {x y z u : AV} {xs ys zs xs' : List PV} (h : Tri lo m x y z xs ys zs) (k : Kp (Blk1 x) m m') (G : GrowIs pvC 1 lo m' u xs') (new : ∀ b, Blk1 u b → m.next ≤ b ∨ u = x) (k2 : Kp (fun b => b = b5) m' m2) (hb : b5 < lo) : Tri lo m2 u y z xs' ys zs := by
  have lw : ∀ {v : AV} {l : List PV} {M : AMem}, GrowIs pvC 1 lo M v l → ∀ b, Blk1 v b → ¬ b = b5 := fun G b hb' e => by have := G.low hb'; omega
  refine ⟨G.stays k2 (lw G), (h.gy.stays k fun b hb e => h.xy b e hb).stays k2 (lw h.gy), (h.gz.stays k fun b hb e => h.zx b hb e).stays k2 (lw h.gz), fun b hb hy => ?_, h.yz, fun b hz hu => ?_⟩
  · rcases new b hb with q | rfl
    · have := h.gy.row.under hy; omega
    · exact h.xy b hb hy
  · rcases new b hu with q | rfl
    · have := h.gz.row.under hz; omega
    · exact h.zx b hz hu
/-- append_one, the new row's place told. -/
theorem append1 {α : Type} {enc : α → List AV} {sz : Nat} {P : Program} {st : TypeId} {xt : Option TypeId} {i : TypeInfo} {z : List AV} {lo : Nat} {m : AMem} {v : AV} {xs : List α} {x : α} (he : Enc enc sz) (hz : 0 < sz) (hi : elemInfo P st = some (i, z)) (hs : i.size = sz) (ha : appendable P xt = true)
    (h : GrowIs enc sz lo m v xs) (hlo : lo ≤ m.next) (hx : xs.length < 1048576) :
    ∃ u m', aAppend P st xt v (.slice m.next 0 1 (some 1)) (m.new false sz (enc x)) = .mk u m' ∧ (m.new false sz (enc x)).next ≤ m'.next ∧ GrowIs enc sz lo m' u (xs ++ [x]) ∧ Kp (Blk1 v) m m' ∧ (∀ b, Blk1 u b → m.next ≤ b) := by
  obtain ⟨u, m', e, hn, G, _, old, new⟩ := append_one (x := x) he hz hi hs ha h hlo hx
  exact ⟨u, m', e, hn, G, ⟨Nat.le_trans (Nat.le_succ _) hn, fun b hb hd => old b hb fun o n c q => hd ⟨o, n, c, q⟩⟩, fun b hb => by obtain ⟨o, n, c, q⟩ := hb; exact new b o n c q⟩
theorem Kp.youngD {D D2 : Nat → Prop} {m M M' : AMem} (h : Kp D m M) (k : Kp D2 M M') (hd : ∀ b, D2 b → D b ∨ m.next ≤ b) : Kp D m M' :=
  ⟨Nat.le_trans h.le k.le, fun b hb hn => (k.old b (Nat.lt_of_lt_of_le hb h.le) fun d => by
    rcases hd b d with q | q
    · exact hn q
    · omega).trans (h.old b hb hn)⟩
abbrev RR := Int × PV × Int × Int
abbrev rrC (q : RR) : List AV := [.int .i64 q.1, q.2.1.1, .int .i64 q.2.2.1, .int .i64 q.2.2.2]
theorem encRR : Enc rrC 4 := ⟨fun _ => rfl, fun q => by show (true && (q.2.1.1.plain && (true && (true && true)))) = true; rw [q.2.1.2]; rfl⟩
theorem fill29 {a b c d : AV} : fillA (fun j => some (Nat.mul j 4, 4)) (repA [.int .i64 (.ofNat 0), .nils, .int .i64 (.ofNat 0), .int .i64 (.ofNat 0)] 1) [(0, .agg [a, b, c, d])] = some [a, b, c, d] := rfl
theorem ap29 : appendable Tryz.prog (some 29) = true := by kernel_rfl
/-- Rules that grow. -/
noncomputable def RG (lo b5 : Nat) (m : AMem) (rv : AV) (rules : List Rl) : Prop := ∃ raw : List RR, GrowIs rrC 4 lo m rv raw ∧ raw.length = rules.length ∧ ∀ (i : Nat) q r, raw[i]? = some q → rules[i]? = some r → q.1 = r.left ∧ q.2.2.1 = r.level ∧ q.2.2.2 = r.assoc ∧ RowIs intC 1 m q.2.1.1 r.right ∧ ∀ b, Blk1 q.2.1.1 b → b5 < b ∧ ¬ Blk1 rv b
theorem RG.plain {lo b5 : Nat} {m : AMem} {rv : AV} {rules : List Rl} (h : RG lo b5 m rv rules) : rv.plain = true := let ⟨_, h, _⟩ := h; h.row.plain
theorem RG.low {lo b5 : Nat} {m : AMem} {rv : AV} {rules : List Rl} (h : RG lo b5 m rv rules) {b : Nat} (hb : Blk1 rv b) : lo ≤ b := let ⟨_, h, _⟩ := h; h.low hb
theorem RG.under {lo b5 : Nat} {m : AMem} {rv : AV} {rules : List Rl} (h : RG lo b5 m rv rules) {b : Nat} (hb : Blk1 rv b) : b < m.next := let ⟨_, h, _⟩ := h; h.row.under hb
theorem RG.eqv {lo b5 : Nat} {m : AMem} {rv : AV} {rules : List Rl} (h : RG lo b5 m rv rules) {n : Nat} : eqV (n + 1) rv rv = true := let ⟨_, h, _⟩ := h; eqV_row h.row
theorem RG.up {lo b5 : Nat} {m m' : AMem} {rv : AV} {rules : List Rl} (h : RG lo b5 m rv rules) (k : Kp Nothing m m') : RG lo b5 m' rv rules := by
  obtain ⟨raw, h1, h2, h3⟩ := h
  exact ⟨raw, h1.up k, h2, fun i q r hq hr => let ⟨a, b, c, d, e⟩ := h3 i q r hq hr; ⟨a, b, c, d.up k, e⟩⟩
theorem RG.rules {lo b5 : Nat} {m : AMem} {rv : AV} {rules : List Rl} (h : RG lo b5 m rv rules) : RulesIs m rv rules := by
  obtain ⟨raw, h1, h2, h3⟩ := h
  refine ⟨raw.map fun q => (q.1, q.2.1.1, q.2.2.1, q.2.2.2), ?_, by rw [List.length_map, h2], fun i p r hp hr => ?_⟩
  · rcases h1.row with ⟨e, rfl⟩ | ⟨e, rfl⟩ | ⟨b, o, c, e, R⟩
    · exact .inl ⟨e, rfl⟩
    · exact .inr (.inl ⟨e, rfl⟩)
    · refine .inr (.inr ⟨b, o, c, by rw [e, List.length_map], R.lt, by have := R.blk; rwa [List.length_map], fun i x hx j hj => ?_⟩)
      rw [List.getElem?_map] at hx
      cases e2 : raw[i]? with
      | none => rw [e2] at hx; cases hx
      | some y => rw [e2] at hx; cases hx; exact R.at_ i y e2 j hj
  · rw [List.getElem?_map] at hp
    cases e2 : raw[i]? with
    | none => rw [e2] at hp; cases hp
    | some y =>
      rw [e2] at hp; cases hp
      obtain ⟨a, b, c, d, _⟩ := h3 i y r e2 hr
      exact ⟨a, b, c, d⟩
theorem RG.rest {lo b5 : Nat} {m m' : AMem} {rv : AV} {rules : List Rl} {D : Nat → Prop} (h : RG lo b5 m rv rules) (k : Kp D m m') (hD : ∀ b, D b → b ≤ b5) (hlo : b5 < lo) : RG lo b5 m' rv rules := by
  obtain ⟨raw, h1, h2, h3⟩ := h
  exact ⟨raw, h1.stays k fun b hb d => by have := h1.low hb; have := hD b d; omega, h2, fun i q r hq hr => let ⟨x1, x2, x3, d, e⟩ := h3 i q r hq hr; ⟨x1, x2, x3, d.stays k fun b hb q => by have := (e b hb).1; have := hD b q; omega, e⟩⟩
theorem RG.nil {lo b5 : Nat} {m : AMem} : RG lo b5 m .nils [] := ⟨[], .inl ⟨rfl, rfl⟩, rfl, fun i q r hq => by simp at hq⟩
theorem RG.app {P : Program} {st : TypeId} {xt : Option TypeId} {i : TypeInfo} {z : List AV} {lo b5 : Nat} {m : AMem} {rv : AV} {rules : List Rl} (hi : elemInfo P st = some (i, z)) (hs : i.size = 4) (hap : appendable P xt = true) (h : RG lo b5 m rv rules) {a : Int} {w : AV} {l s : Int} {rt : List Int} (hw : RowIs intC 1 m w rt)
    (hd : ∀ b, Blk1 w b → b5 < b ∧ ¬ Blk1 rv b) (hb5 : b5 < lo) (hlo : lo ≤ m.next) (hl : rules.length < 1048576) :
    ∃ u m', aAppend P st xt rv (.slice m.next 0 1 (some 1)) (m.new false 4 [.int .i64 a, w, .int .i64 l, .int .i64 s]) = .mk u m' ∧ (m.new false 4 [.int .i64 a, w, .int .i64 l, .int .i64 s]).next ≤ m'.next ∧ Kp (Blk1 rv) m m' ∧ (∀ b, Blk1 u b → m.next ≤ b) ∧ u.plain = true ∧
      ∀ m2, Kp (fun b => b = b5) m' m2 → RG lo b5 m2 u (rules ++ [⟨a, rt, l, s⟩]) := by
  obtain ⟨raw, h1, h2, h3⟩ := h
  obtain ⟨u, m', e, hn, G, K, new⟩ := append1 (x := ((a, ⟨w, hw.plain⟩, l, s) : RR)) encRR (by decide) hi hs hap h1 hlo (by omega)
  refine ⟨u, m', e, hn, K, new, G.row.plain, fun m2 K2 => ⟨_, G.stays K2 fun b hb e => by have := G.low hb; omega, by simp [h2], fun j q r hq hr => ?_⟩⟩
  by_cases hj : j < raw.length
  · rw [List.getElem?_append_left hj] at hq
    rw [List.getElem?_append_left (by omega)] at hr
    obtain ⟨x1, x2, x3, R, d⟩ := h3 j q r hq hr
    exact ⟨x1, x2, x3, (R.stays K fun b hb q => (d b hb).2 q).stays K2 fun b hb q => Nat.ne_of_gt (d b hb).1 q, fun b hb => ⟨(d b hb).1, fun q => by have := new b q; have := R.under hb; omega⟩⟩
  · have hj2 : j = raw.length := by have := (List.getElem?_eq_some_iff.1 hq).1; simp at this; omega
    subst hj2
    rw [List.getElem?_append_right (Nat.le_refl _), Nat.sub_self] at hq
    rw [h2, List.getElem?_append_right (Nat.le_refl _), Nat.sub_self] at hr
    cases hq; cases hr
    exact ⟨rfl, rfl, rfl, (hw.stays K fun b hb q => (hd b hb).2 q).stays K2 fun b hb q => Nat.ne_of_gt (hd b hb).1 q, fun b hb => ⟨(hd b hb).1, fun q => by have := new b q; have := hw.under hb; omega⟩⟩
theorem resCellTmp {P : Program} {t0 : T AV} {σ : List (Nat × AV)} {m : AMem} {i j : Nat} {ty : TypeId} {b k : Nat} {cs : List AV} {v : AV} (h : look σ i = some (.ptr b 0)) (hl : layout P ty = some (true, k)) (hk : cs.length = k) (E : ElAt m b 0 cs) (h2 : look σ j = some v) : resultsA P [.cell i ty, .tmp j] (toT t0 σ) m (fun l => one l m) = .mk (.tup [.agg cs, v]) m := by
  show evK (toT t0 σ) (.tmp i) (fun a => match aLoad P ty a m with | .mk v _ => resultsA P [.tmp j] (toT t0 σ) m fun vs => one (v :: vs) m | .fail c => .fail c) = _
  rw [evK_eq, ev_is (x := .tmp i) h]
  have e : aLoad P ty (.ptr b 0) m = .mk (.agg cs) m := by
    show @Option.rec (Bool × Nat) (fun _ => OR) (.fail 37) (loadL m b 0) (layout P ty) = _
    rw [hl]
    show bif2 true (loadK m b 0 k fun l => .mk (.agg l) m) (load1 m b 0) = _
    obtain ⟨_, _, h1, h2⟩ := E.blk
    rw [bif2_eq, if_pos rfl, ← hk, loadK_is E.at_ h1 h2]
  rw [e]
  show resultsA P [.tmp j] (toT t0 σ) m (fun vs => one (.agg cs :: vs) m) = _
  rw [res1, res0, ev_is (x := .tmp j) h2]
  rfl
theorem build31 {a b c : Int} {m : AMem} : aBuild Tryz.prog 31 [(0, .int .i64 a), (1, .int .i64 b), (3, .int .i64 c)] m = .mk (.agg [.int .i64 a, .int .i64 b, .int .i64 (.ofNat 0), .int .i64 c, .nils, .nils, .nils, .nils]) m := by kernel_rfl
theorem build31e {m : AMem} : aBuild Tryz.prog 31 [] m = .mk (.agg [.int .i64 (.ofNat 0), .int .i64 (.ofNat 0), .int .i64 (.ofNat 0), .int .i64 (.ofNat 0), .nils, .nils, .nils, .nils]) m := by kernel_rfl
theorem build56s {x : Int} {b o n : Nat} {c : Option Nat} {m : AMem} : aBuild Tryz.prog 56 [(0, .int .i64 x), (1, .slice b o n c)] m = .mk (.agg [.int .i64 x, .slice b o n c, .int .i64 (.ofNat 0), .int .i64 (.ofNat 0)]) m := by kernel_rfl
/-- All names of a grammar by numbers. -/
noncomputable def allNames (g : GrD) : List (List Nat) := g.toks.map (·.name) ++ [[]] ++ leftsL g.rules
/-- The rules by numbers, but for what binds. -/
structure RulesOf (g : GrD) (st : Int) (rules : List Rl) (i : Nat) : Prop where
  len : rules.length = i + 1
  first : ∃ q, rules[0]? = some q ∧ q.left = -1 ∧ q.right = [st]
  rest : ∀ (j : Nat) r q, j < i → g.rules[j]? = some r → rules[j + 1]? = some q → q.left = placeI (allNames g) r.left ∧ q.right = r.right.map (placeI (allNames g))
theorem RulesOf.snoc {g : GrD} {st : Int} {rules : List Rl} {i : Nat} (h : RulesOf g st rules i) {r : RuleD} (hr : g.rules[i]? = some r) {l s : Int} : RulesOf g st (rules ++ [⟨placeI (allNames g) r.left, r.right.map (placeI (allNames g)), l, s⟩]) (i + 1) := by
  obtain ⟨q, h1, h2, h3⟩ := h.first
  refine ⟨by simp [h.len], ⟨q, by rw [List.getElem?_append_left (by rw [h.len]; omega)]; exact h1, h2, h3⟩, fun j r' q' hj hr' hq' => ?_⟩
  by_cases hj2 : j < i
  · rw [List.getElem?_append_left (by rw [h.len]; omega)] at hq'
    exact h.rest j r' q' hj2 hr' hq'
  · obtain rfl : j = i := by omega
    rw [List.getElem?_append_right (by rw [h.len]; omega), h.len, Nat.sub_self] at hq'
    cases hq'
    rw [hr] at hr'; cases hr'
    exact ⟨rfl, rfl⟩
/-- What comes of it means something. -/
theorem rules_wf {g : GrD} {rules : List Rl} {p : Nat} (hL : GLim g) (hN : GNam g) (hM : ∀ r ∈ g.rules, r.left ≠ []) (hp : p < (leftsL g.rules).length) (h : RulesOf g (Int.ofNat (g.toks.length + 1 + p)) rules g.rules.length) :
    WfR (.ofNat g.toks.length) rules ∧ SymOK (g.toks.length + 1 + (leftsL g.rules).length) (Int.ofNat (g.toks.length + 1 + p)) rules ∧ 1 ≤ rules.length := by
  obtain ⟨q0, h1, h2, h3⟩ := h.first
  have hal : (allNames g).length = g.toks.length + 1 + (leftsL g.rules).length := by simp [allNames]; omega
  have hin : ∀ x, x ∈ allNames g → ∃ k : Nat, placeI (allNames g) x = Int.ofNat k ∧ k < g.toks.length + 1 + (leftsL g.rules).length := fun x hx => by
    obtain ⟨i, e, hi⟩ := (placeI_mem (l := allNames g) (s := x)).2.1 hx
    exact ⟨i, e, by have := (List.getElem?_eq_some_iff.1 hi).1; omega⟩
  have hidx : ∀ (j : Nat) q, 1 ≤ j → rules[j]? = some q → ∃ r, g.rules[j - 1]? = some r ∧ q.left = placeI (allNames g) r.left ∧ q.right = r.right.map (placeI (allNames g)) := fun j q hj hq => by
    have hl := (List.getElem?_eq_some_iff.1 hq).1
    rw [h.len] at hl
    obtain ⟨r, hr⟩ : ∃ r, g.rules[j - 1]? = some r := ⟨g.rules[j - 1], List.getElem?_eq_getElem (by omega)⟩
    obtain ⟨a, b⟩ := h.rest (j - 1) r q (by omega) hr (by rw [show j - 1 + 1 = j by omega]; exact hq)
    exact ⟨r, hr, a, b⟩
  have hleft : ∀ r ∈ g.rules, r.left ∈ leftsL g.rules := fun r hr => by
    obtain ⟨n, hn⟩ := List.getElem?_of_mem hr
    have := lefts_mem (rs := g.rules) g.rules.length n r (List.getElem?_eq_some_iff.1 hn).1 hn
    rwa [List.take_length] at this
  have hlr := hL.r
  refine ⟨⟨⟨by rw [h.len]; omega, fun r hr => ?_⟩, ofNat_nn _, ⟨q0, h1, by rw [h2]; decide⟩, fun r hr e => ?_⟩, ⟨⟨_, rfl, by omega⟩, fun j q hj hq => ?_, fun j q hj hq x hx => ?_⟩, by rw [h.len]; omega⟩
  · obtain ⟨j, hj⟩ := List.getElem?_of_mem hr
    by_cases h0 : j = 0
    · subst h0; rw [h1] at hj; cases hj; rw [h3]; simp
    · obtain ⟨r', hr', _, e⟩ := hidx j r (by omega) hj
      rw [e, List.length_map]
      exact hL.rr r' (List.mem_of_getElem? hr')
  · obtain ⟨j, hj⟩ := List.getElem?_of_mem hr
    by_cases h0 : j = 0
    · subst h0; rw [h1] at hj; cases hj; rw [h2] at e; exact absurd e (by intro e; have : (0 : Int) ≤ Int.ofNat g.toks.length := ofNat_nn _; omega)
    · obtain ⟨r', hr', e2, _⟩ := hidx j r (by omega) hj
      have hm := List.mem_of_getElem? hr'
      obtain ⟨i, e3, hi⟩ := (placeI_mem (l := allNames g) (s := r'.left)).2.1 (by simp only [allNames, List.mem_append]; exact .inr (hleft r' hm))
      rw [e2, e3] at e
      have := Int.ofNat.inj e
      subst this
      have : (allNames g)[g.toks.length]? = some [] := by
        simp only [allNames]
        rw [List.getElem?_append_left (by simp), List.getElem?_append_right (by simp)]; simp
      rw [this] at hi
      exact hM r' hm (Option.some.inj hi).symm
  · obtain ⟨r', hr', e2, _⟩ := hidx j q hj hq
    rw [e2]
    exact hin _ (by simp only [allNames, List.mem_append]; exact .inr (hleft r' (List.mem_of_getElem? hr')))
  · obtain ⟨r', hr', _, e2⟩ := hidx j q hj hq
    rw [e2] at hx
    obtain ⟨y, hy, rfl⟩ := List.mem_map.1 hx
    refine hin _ ?_
    simp only [allNames, List.mem_append]
    rcases hN.rr r' (List.mem_of_getElem? hr') y hy with q | q
    · exact .inr q
    · exact .inl (.inl q)
end Go.Ev
end
