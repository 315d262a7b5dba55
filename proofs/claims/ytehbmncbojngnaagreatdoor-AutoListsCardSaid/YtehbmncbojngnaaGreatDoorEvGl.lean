/- The document's named. The document's Yields, Reached: they come to an end. The document's rule: a rule by numbers. -/
import Derived.Test.YtehbmncbojngnaaGreatDoorEvGk
section
namespace Go.Ev
set_option linter.all false
open Go.Proofs
set_option maxRecDepth 10000
set_option maxHeartbeats 4000000
noncomputable def namesT (g : GrD) : List (List Nat) := g.toks.map (·.name)
/-- All names stand for something. -/
structure GNam (g : GrD) : Prop where
  rr : ∀ r ∈ g.rules, ∀ x ∈ r.right, x ∈ leftsL g.rules ∨ x ∈ namesT g
  ne : g.rules ≠ []
  st : g.start = [] ∨ g.start ∈ leftsL g.rules
theorem call22 {S : Sums} (hS : Plain S [22, 23, 24, 38]) {m : AMem} {vt vr : AV} {g : GrD} (hg : GramIs m vt vr g) (hl : GSmall g) :
    ∃ r m', CallTo Tryz.prog S 22 [gramV vt g vr] m r m' ∧ ∃ b : Bool, r = .bool b ∧ Kp Nothing m m' ∧ (b = true → GNam g) := by
  have hS23 : Plain S [23, 24] := fun f hf => hS f (by simp at hf ⊢; omega)
  have hS24 : Plain S [24] := fun f hf => hS f (by simp at hf ⊢; omega)
  have hS38 : Plain S [38] := fun f hf => hS f (by simp at hf ⊢; omega)
  have hlr := hl.r
  have hlt := hl.t
  have hll : (leftsL g.rules).length < 100000 := by have := lefts_len g.rules g.rules.length; rw [List.take_length] at this; omega
  refine XP.call (hS 22 (by decide)) cd22 nt22 ?_
  show XP _ _ _ _ (toT .leaf [(0, gramV vt g vr)]) m _
  unfold Tryz.f22
  dsimp only [Option.getD_some]
  have K : Kp Nothing m m := .refl m
  refine XP.seq ?_; refine XP.regionS ?_
  have hk1 := K.le
  refine RP.box rfl rfl rfl rfl fun M1 K1 B1 N1 => ?_
  have K := K.trans K1
  have hg0 := hg.up K1
  obtain ⟨lu, MA, hc23, KA, GA⟩ := call23 hS23 hg0 hl
  have hGl := GA.row
  refine RP.o1 (.assign rfl) rfl rfl ?_; refine RP.nil ?_; refine XP.seq ?_; refine XP.regionS ?_; refine RP.o1 (.loadE rfl (by first | assumption | (apply BoxIs.el; assumption)) lay25 (by rfl)) rfl rfl ?_
  refine RP.op (.callS rfl rfl hc23) rfl rfl KA.le ?_
  have K := K.trans KA
  have B1 := B1.up KA
  have B1o := B1
  have KM := K
  have hgo := hg0.up KA
  refine RP.o1 (.assign rfl) rfl rfl ?_; refine RP.nil ?_; refine XP.seq ?_; refine XP.seq ?_; refine XP.regionS ?_; refine RP.o1 (.assign rfl) rfl rfl ?_; refine RP.nil ?_
  refine XP.block ?_  -- block 0
  refine XP.while (fun d t m1 => ∃ i t0, t = toT t0 [(4, .int .i64 (.ofNat i)), (3, lu), (1, .ptr m.next 0)] ∧ d = g.toks.length - i ∧ i ≤ g.toks.length ∧ Kp Nothing MA m1) ?_ g.toks.length _ _ ?_
  rotate_left
  · exact ⟨0, _, toT_less (.cons rfl (.cons rfl (.cons rfl (.nil)))), rfl, Nat.zero_le _, .refl _⟩
  rintro d t M2 ⟨i, t0, rfl, rfl, hin, KQ⟩
  have K := KM.trans KQ
  have B1 := B1o.up KQ
  have hgM := hgo.up KQ
  have hGM := hGl.up KQ
  refine XP.seq ?_; refine XP.seq ?_; refine XP.regionS ?_; refine RP.o1 (.move rfl) rfl rfl ?_; refine RP.o1 (.fieldAddr rfl fa25_0) rfl rfl ?_
  refine RP.o1 (.load1 rfl lay22 (by first | (apply BoxIs.get; assumption; rfl) | (apply ElAt.get; assumption; rfl) | (apply ElAt.get0; assumption; rfl) | assumption)) rfl rfl ?_
  refine RP.o1 (.len rfl (rowLen22 hgM.t)) rfl rfl ?_; refine RP.o1 (.bin rfl rfl (by first | exact lss_nat | exact lss_is)) rfl rfl ?_; refine RP.nil ?_
  refine XP.condD rfl (fun hc14 => ?_) (fun hc14 => ?_)  -- if t14
  · refine XP.skip ?_; refine XP.seq ?_
    refine XP.block ?_  -- block 1
    refine XP.seq ?_
    obtain ⟨x, hx⟩ : ∃ x, g.toks[i]? = some x := ⟨g.toks[i]'hc14, List.getElem?_eq_getElem _⟩
    obtain ⟨b, o, c, e5, _, E1⟩ := hgM.t.elem encTok (.refl _) hx
    subst e5
    refine XP.regionS ?_; refine RP.o1 (.move rfl) rfl rfl ?_; refine RP.o1 (.fieldAddr rfl fa25_0) rfl rfl ?_
    refine RP.o1 (.load1 rfl lay22 (by first | (apply BoxIs.get; assumption; rfl) | (apply ElAt.get; assumption; rfl) | (apply ElAt.get0; assumption; rfl) | assumption)) rfl rfl ?_
    refine RP.o1 (.move rfl) rfl rfl ?_; refine RP.o1 (.indexAddr rfl rfl ix22 (by assumption)) rfl rfl ?_; refine RP.o1 (.fieldAddr rfl fa40_0) rfl rfl ?_
    refine RP.o1 (.load1 rfl lay9 (by first | (apply BoxIs.get; assumption; rfl) | (apply ElAt.get; assumption; rfl) | (apply ElAt.get0; assumption; rfl) | assumption)) rfl rfl ?_
    refine RP.o1 (.callS rfl rfl (call24 hS24 hGM (by omega))) rfl rfl ?_; refine RP.o1 (.bin rfl rfl geq_is) rfl rfl ?_; refine RP.nil ?_
    refine XP.condN rfl (fun hc25 => ?_) (fun hc25 => ?_)  -- if t25
    · refine XP.skip ?_; refine XP.regionS ?_; refine RP.o1 (.move rfl) rfl rfl ?_
      refine RP.o1 (.bin rfl rfl (by first | exact inc_is (by omega) | exact add_is (by omega) (by omega))) rfl rfl ?_
      refine RP.o1 (.assign rfl) rfl rfl ?_; refine RP.nil ?_
      exact ⟨g.toks.length - (i + 1), by omega, i + 1, _, toT_less (.cons rfl (.cons rfl (.cons rfl (.nil)))), rfl, by omega, KQ⟩
    · refine XP.seq ?_; refine XP.regionS ?_; refine RP.o1 (.assign rfl) rfl rfl ?_; refine RP.nil ?_
      first
      | exact XP.ret ⟨.inr rfl, _, _, oneRes rfl, false, rfl, K, fun h => by cases h⟩
      | exact XP.ret ⟨.inr rfl, _, _, oneRes rfl, true, rfl, K, fun _ => ⟨hall, fun e => by rw [e] at hp77; exact absurd hp77 (by decide), .inl hp81⟩⟩
      | exact XP.ret ⟨.inr rfl, _, _, oneRes rfl, _, rfl, K, fun h => ⟨hall, fun e => by rw [e] at hp77; exact absurd hp77 (by decide), .inr (placeI_mem.1.1 (by
          by_cases q : placeI (leftsL g.rules) g.start < 0
          · rw [decide_eq_true q] at h; cases h
          · exact Int.not_lt.1 q))⟩⟩
  · refine XP.exit ?_  -- 0
    refine XP.seq ?_; refine XP.seq ?_; refine XP.regionS ?_; refine RP.o1 (.assign rfl) rfl rfl ?_; refine RP.nil ?_
    refine XP.block ?_  -- block 2
    refine XP.while (fun d t m1 => ∃ j t0, t = toT t0 [(5, .int .i64 (.ofNat j)), (3, lu), (1, .ptr m.next 0)] ∧ d = g.rules.length - j ∧ j ≤ g.rules.length ∧ Kp Nothing MA m1 ∧ ∀ (q : Nat) r, q < j → g.rules[q]? = some r → ∀ x ∈ r.right, x ∈ leftsL g.rules ∨ x ∈ namesT g) ?_ g.rules.length _ _ ?_
    rotate_left
    · exact ⟨0, _, toT_less (.cons rfl (.cons rfl (.cons rfl (.nil)))), rfl, Nat.zero_le _, KQ, fun q r hq => absurd hq (Nat.not_lt_zero _)⟩
    rintro d t M3 ⟨j, t0, rfl, rfl, hjn, KQ, hgood⟩
    have K := KM.trans KQ
    have B1 := B1o.up KQ
    have hgM := hgo.up KQ
    have hGM := hGl.up KQ
    refine XP.seq ?_; refine XP.seq ?_; refine XP.regionS ?_; refine RP.o1 (.move rfl) rfl rfl ?_; refine RP.o1 (.fieldAddr rfl fa25_3) rfl rfl ?_
    refine RP.o1 (.load1 rfl lay23 (by first | (apply BoxIs.get; assumption; rfl) | (apply ElAt.get; assumption; rfl) | (apply ElAt.get0; assumption; rfl) | assumption)) rfl rfl ?_
    refine RP.o1 (.len rfl (rowLen23 hgM.r)) rfl rfl ?_; refine RP.o1 (.bin rfl rfl (by first | exact lss_nat | exact lss_is)) rfl rfl ?_; refine RP.nil ?_
    refine XP.condD rfl (fun hc30 => ?_) (fun hc30 => ?_)  -- if t30
    · refine XP.skip ?_; refine XP.seq ?_
      refine XP.block ?_  -- block 3
      refine XP.seq ?_
      obtain ⟨r, hr⟩ : ∃ r, g.rules[j]? = some r := ⟨g.rules[j]'hc30, List.getElem?_eq_getElem _⟩
      obtain ⟨b, o, c, vq, e5, _, E1, RQ, hpl⟩ := hgM.r.elem (.refl _) hr
      subst e5
      have hrr := hl.rr r (List.mem_of_getElem? hr)
      refine XP.regionS ?_; refine RP.o1 (.fieldAddr rfl fa25_3) rfl rfl ?_
      refine RP.o1 (.load1 rfl lay23 (by first | (apply BoxIs.get; assumption; rfl) | (apply ElAt.get; assumption; rfl) | (apply ElAt.get0; assumption; rfl) | assumption)) rfl rfl ?_
      refine RP.o1 (.move rfl) rfl rfl ?_; refine RP.o1 (.indexAddr rfl rfl ix23 (by assumption)) rfl rfl ?_; refine RP.o1 (.loadE rfl (by first | assumption | (apply BoxIs.el; assumption)) lay42 (by rfl)) rfl rfl ?_
      have hk4 := K.le
      have lt1 := B1.lt
      refine RP.alloc z42 rfl rfl fun M4 K4 B6 N4 => ?_
      have K := K.trans K4
      have B1 := B1.up K4
      refine RP.store rfl rfl lay42 rfl B6 rfl hpl rfl rfl fun M5 K5 B6 N5 => ?_
      have K := K.young K5 (by rintro _ rfl; omega)
      have B1 := B1.keep K5 (by first | exact Nat.ne_of_lt (by assumption) | exact Nat.ne_of_gt (by assumption) | (intro e; omega))
      refine RP.nil ?_; refine XP.seq ?_; refine XP.seq ?_
      have KX : Kp Nothing M3 M5 := Kp.young (.refl _) (K4.any.trans K5) (by rintro _ rfl; exact Nat.le_refl _)
      have KQR := KQ.trans KX
      have RQ0 := RQ
      refine XP.regionS ?_; refine RP.o1 (.assign rfl) rfl rfl ?_; refine RP.nil ?_
      refine XP.block ?_  -- block 4
      refine XP.while (fun d t m1 => ∃ k t0, t = toT t0 [(7, .int .i64 (.ofNat k)), (6, .ptr M3.next 0), (5, .int .i64 (.ofNat j)), (3, lu), (1, .ptr m.next 0)] ∧ d = r.right.length - k ∧ k ≤ r.right.length ∧ Kp Nothing M5 m1 ∧ ∀ (q : Nat) x, q < k → r.right[q]? = some x → x ∈ leftsL g.rules ∨ x ∈ namesT g) ?_ r.right.length _ _ ?_
      rotate_left
      · exact ⟨0, _, toT_less (.cons rfl (.cons rfl (.cons rfl (.cons rfl (.cons rfl (.nil)))))), rfl, Nat.zero_le _, .refl _, fun q x hq => absurd hq (Nat.not_lt_zero _)⟩
      rintro d t M6 ⟨k, t0, rfl, rfl, hkn, KR, hgx⟩
      have B6 := B6.up KR
      have KQ := KQR.trans KR
      have K := KM.trans KQ
      have B1 := B1o.up KQ
      have hgM := hgo.up KQ
      have hGM := hGl.up KQ
      have RQ := (RQ0.up KX).up KR
      refine XP.seq ?_; refine XP.seq ?_; refine XP.regionS ?_; refine RP.o1 (.move rfl) rfl rfl ?_; refine RP.o1 (.fieldAddr rfl fa42_1) rfl rfl ?_
      refine RP.o1 (.load1 rfl lay27 (by first | (apply BoxIs.get; assumption; rfl) | (apply ElAt.get; assumption; rfl) | (apply ElAt.get0; assumption; rfl) | assumption)) rfl rfl ?_
      refine RP.o1 (.len rfl (rowLen27 RQ)) rfl rfl ?_; refine RP.o1 (.bin rfl rfl (by first | exact lss_nat | exact lss_is)) rfl rfl ?_; refine RP.nil ?_
      refine XP.condD rfl (fun hc42 => ?_) (fun hc42 => ?_)  -- if t42
      · refine XP.skip ?_; refine XP.seq ?_
        refine XP.block ?_  -- block 5
        refine XP.seq ?_
        obtain ⟨x, hx⟩ : ∃ x, r.right[k]? = some x := ⟨r.right[k]'hc42, List.getElem?_eq_getElem _⟩
        obtain ⟨b2, o2, c2, e6, _, E2⟩ := RQ.elem encStr (.refl _) hx
        have B6 : BoxIs M6 _ [.str r.left, vq, .str r.prec] := B6
        rw [e6] at B6
        have hc24 := call24 hS24 hGM (s := x) (by omega)
        obtain ⟨w38, M38, hc38, rfl, K38⟩ := call38 hS38 hgM hl (s := x)
        refine XP.drawnS (ms := [0, 0, 2, 0, 14, 30, 63, 127, 255, 511, 511, 1535, 511, 7679, 15871, 32767, 65535, 131071]) (by kernel_rfl) ?_; refine DP.pure (.move rfl) rfl rfl rfl ?_; refine DP.pure (.fieldAddr rfl fa42_1) rfl rfl rfl ?_
        refine DP.read (fun _ => op_load1 (ev_is rfl) lay27 (by first | (apply BoxIs.get; assumption; rfl) | (apply ElAt.get; assumption; rfl) | (apply ElAt.get0; assumption; rfl) | assumption)) rfl rfl rfl (fun _ => op_load_leaf) (.inl (by kernel_rfl)) (fun _ => cuts_nil) ?_
        refine DP.pure (.move rfl) rfl rfl rfl ?_; refine DP.pure (.indexAddr rfl rfl ix27 (by assumption)) rfl rfl rfl ?_
        refine DP.read (fun _ => op_load1 (ev_is rfl) lay9 (by first | (apply BoxIs.get; assumption; rfl) | (apply ElAt.get; assumption; rfl) | (apply ElAt.get0; assumption; rfl) | assumption)) rfl rfl rfl (fun _ => op_load_leaf) (.inl (by kernel_rfl)) (fun _ => cuts_nil) ?_
        refine DP.heavy (.callS rfl rfl hc24) rfl rfl rfl (by kernel_rfl) (by kernel_rfl) (Nat.le_refl _) (pk_drop (by kernel_rfl) (pk_drop (by kernel_rfl) pk_nil)) ?_; refine DP.pure (.bin rfl rfl (by first | exact lss_nat | exact lss_is)) rfl rfl rfl ?_; refine DP.pure (.move rfl) rfl rfl rfl ?_
        rcases Decidable.em (placeI (leftsL g.rules) x < 0) with hp53 | hp53
        · simp only [decide_eq_true hp53]
          refine DP.read (fun _ => op_loadE rfl (by first | assumption | (apply BoxIs.el; assumption)) lay25 (by rfl)) rfl rfl ⟨_,_,_,rfl,rfl,rfl,rfl⟩ (fun _ => op_load_leaf) (.inl (by kernel_rfl)) (fun _ => cuts_skip (by kernel_rfl) cuts_nil) ?_
          refine DP.pure (.fieldAddr rfl fa42_1) rfl rfl ⟨_,_,_,rfl,rfl,rfl,rfl⟩ ?_
          refine DP.read (fun _ => op_load1 (ev_is rfl) lay27 (by first | (apply BoxIs.get; assumption; rfl) | (apply ElAt.get; assumption; rfl) | (apply ElAt.get0; assumption; rfl) | assumption)) rfl rfl ⟨_,_,_,rfl,rfl,rfl,rfl⟩ (fun _ => op_load_leaf) (.inl (by kernel_rfl)) (fun _ => cuts_skip (by kernel_rfl) cuts_nil) ?_
          refine DP.pure (.move rfl) rfl rfl ⟨_,_,_,rfl,rfl,rfl,rfl⟩ ?_; refine DP.pure (.indexAddr rfl rfl ix27 (by assumption)) rfl rfl ⟨_,_,_,rfl,rfl,rfl,rfl⟩ ?_
          refine DP.read (fun _ => op_load1 (ev_is rfl) lay9 (by first | (apply BoxIs.get; assumption; rfl) | (apply ElAt.get; assumption; rfl) | (apply ElAt.get0; assumption; rfl) | assumption)) rfl rfl ⟨_,_,_,rfl,rfl,rfl,rfl⟩ (fun _ => op_load_leaf) (.inl (by kernel_rfl)) (fun _ => cuts_skip (by kernel_rfl) cuts_nil) ?_
          refine DP.heavy (.callS rfl rfl hc38) rfl rfl ⟨_,_,_,rfl,rfl,rfl,rfl⟩ (by kernel_rfl) (by kernel_rfl) K38.le (pk_drop (by kernel_rfl) (pk_drop (by kernel_rfl) (pk_drop (by kernel_rfl) pk_nil))) ?_
          have K := K.trans K38
          have KR := KR.trans K38
          refine DP.pure (.bin rfl rfl (by first | exact lss_nat | exact lss_is)) rfl rfl ⟨_,_,_,rfl,rfl,rfl,rfl⟩ ?_; refine DP.pure (.pick (b := true) rfl rfl) rfl rfl rfl ?_; refine DP.nil ?_
          refine XP.condD rfl (fun hc62 => ?_) (fun hc62 => ?_)  -- if t62
          · refine XP.seq ?_; refine XP.regionS ?_; refine RP.o1 (.assign rfl) rfl rfl ?_; refine RP.nil ?_
            first
            | exact XP.ret ⟨.inr rfl, _, _, oneRes rfl, false, rfl, K, fun h => by cases h⟩
            | exact XP.ret ⟨.inr rfl, _, _, oneRes rfl, true, rfl, K, fun _ => ⟨hall, fun e => by rw [e] at hp77; exact absurd hp77 (by decide), .inl hp81⟩⟩
            | exact XP.ret ⟨.inr rfl, _, _, oneRes rfl, _, rfl, K, fun h => ⟨hall, fun e => by rw [e] at hp77; exact absurd hp77 (by decide), .inr (placeI_mem.1.1 (by
                by_cases q : placeI (leftsL g.rules) g.start < 0
                · rw [decide_eq_true q] at h; cases h
                · exact Int.not_lt.1 q))⟩⟩
          · refine XP.skip ?_; refine XP.regionS ?_; refine RP.o1 (.move rfl) rfl rfl ?_
            refine RP.o1 (.bin rfl rfl (by first | exact inc_is (by omega) | exact add_is (by omega) (by omega))) rfl rfl ?_
            refine RP.o1 (.assign rfl) rfl rfl ?_; refine RP.nil ?_
            refine ⟨r.right.length - (k + 1), by omega, k + 1, _, toT_less (.cons rfl (.cons rfl (.cons rfl (.cons rfl (.cons rfl (.nil)))))), rfl, by omega, KR, fun q y hq hy => ?_⟩
            rcases Nat.lt_or_ge q k with h | h
            · exact hgx q y h hy
            · obtain rfl : q = k := by omega
              rw [hx] at hy; cases hy
              first
              | exact .inl (placeI_mem.1.1 (Int.not_lt.1 hp53))
              | exact .inr (placeI_mem.1.1 (Int.not_lt.1 hc62))
        · simp only [decide_eq_false hp53]
          refine DP.skip ⟨_,_,_,rfl,rfl,rfl,rfl⟩ rfl ?_; refine DP.skip ⟨_,_,_,rfl,rfl,rfl,rfl⟩ rfl ?_; refine DP.skip ⟨_,_,_,rfl,rfl,rfl,rfl⟩ rfl ?_; refine DP.skip ⟨_,_,_,rfl,rfl,rfl,rfl⟩ rfl ?_; refine DP.skip ⟨_,_,_,rfl,rfl,rfl,rfl⟩ rfl ?_; refine DP.skip ⟨_,_,_,rfl,rfl,rfl,rfl⟩ rfl ?_; refine DP.skip ⟨_,_,_,rfl,rfl,rfl,rfl⟩ rfl ?_; refine DP.skip ⟨_,_,_,rfl,rfl,rfl,rfl⟩ rfl ?_; refine DP.pure (.pick (b := false) rfl rfl) rfl rfl rfl ?_; refine DP.nil ?_
          refine XP.condS false rfl ?_  -- if t62
          refine XP.skip ?_; refine XP.regionS ?_; refine RP.o1 (.move rfl) rfl rfl ?_
          refine RP.o1 (.bin rfl rfl (by first | exact inc_is (by omega) | exact add_is (by omega) (by omega))) rfl rfl ?_
          refine RP.o1 (.assign rfl) rfl rfl ?_; refine RP.nil ?_
          refine ⟨r.right.length - (k + 1), by omega, k + 1, _, toT_less (.cons rfl (.cons rfl (.cons rfl (.cons rfl (.cons rfl (.nil)))))), rfl, by omega, KR, fun q y hq hy => ?_⟩
          rcases Nat.lt_or_ge q k with h | h
          · exact hgx q y h hy
          · obtain rfl : q = k := by omega
            rw [hx] at hy; cases hy
            first
            | exact .inl (placeI_mem.1.1 (Int.not_lt.1 hp53))
            | exact .inr (placeI_mem.1.1 (Int.not_lt.1 hc62))
      · refine XP.exit ?_  -- 4
        refine XP.seq ?_
        have B6 : BoxIs M6 _ [.str r.left, vq, .str r.prec] := B6
        obtain ⟨w39, M39, hc39, rfl, K39⟩ := call38 hS38 hgM hl (s := r.prec)
        refine XP.regionS ?_; refine RP.o1 (.fieldAddr rfl fa42_2) rfl rfl ?_
        refine RP.o1 (.load1 rfl lay9 (by first | (apply BoxIs.get; assumption; rfl) | (apply ElAt.get; assumption; rfl) | (apply ElAt.get0; assumption; rfl) | assumption)) rfl rfl ?_
        refine RP.o1 (.bin rfl rfl neqS) rfl rfl ?_; refine RP.o1 (.move rfl) rfl rfl ?_
        rcases Decidable.em (r.prec = List.map UInt8.toNat []) with hp66 | hp66
        · simp only [decide_eq_true hp66]; simp only [Bool.not_true]
          refine RP.skip ⟨_,_,_,rfl,rfl,rfl,rfl⟩ rfl ?_; refine RP.skip ⟨_,_,_,rfl,rfl,rfl,rfl⟩ rfl ?_; refine RP.skip ⟨_,_,_,rfl,rfl,rfl,rfl⟩ rfl ?_; refine RP.skip ⟨_,_,_,rfl,rfl,rfl,rfl⟩ rfl ?_; refine RP.skip ⟨_,_,_,rfl,rfl,rfl,rfl⟩ rfl ?_; refine RP.o1 (.pick (b := false) rfl rfl) rfl rfl ?_; refine RP.nil ?_
          refine XP.condS false rfl ?_  -- if t72
          refine XP.skip ?_; refine XP.regionS ?_; refine RP.o1 (.move rfl) rfl rfl ?_
          refine RP.o1 (.bin rfl rfl (by first | exact inc_is (by omega) | exact add_is (by omega) (by omega))) rfl rfl ?_
          refine RP.o1 (.assign rfl) rfl rfl ?_; refine RP.nil ?_
          refine ⟨g.rules.length - (j + 1), by omega, j + 1, _, toT_less (.cons rfl (.cons rfl (.cons rfl (.nil)))), rfl, by omega, KQ, fun q y hq hy => ?_⟩
          rcases Nat.lt_or_ge q j with h | h
          · exact hgood q y h hy
          · obtain rfl : q = j := by omega
            rw [hr] at hy; cases hy
            intro z hz
            obtain ⟨n, hn⟩ := List.getElem?_of_mem hz
            exact hgx n z (by have := (List.getElem?_eq_some_iff.1 hn).1; omega) hn
        · simp only [decide_eq_false hp66]; simp only [Bool.not_false]
          refine RP.o1 (.loadE rfl (by first | assumption | (apply BoxIs.el; assumption)) lay25 (by rfl)) rfl ⟨_,_,_,rfl,rfl,rfl,rfl⟩ ?_
          refine RP.o1 (.fieldAddr rfl fa42_2) rfl ⟨_,_,_,rfl,rfl,rfl,rfl⟩ ?_
          refine RP.o1 (.load1 rfl lay9 (by first | (apply BoxIs.get; assumption; rfl) | (apply ElAt.get; assumption; rfl) | (apply ElAt.get0; assumption; rfl) | assumption)) rfl ⟨_,_,_,rfl,rfl,rfl,rfl⟩ ?_
          refine RP.op (.callS rfl rfl hc39) rfl ⟨_,_,_,rfl,rfl,rfl,rfl⟩ K39.le ?_
          have K := K.trans K39
          have KQ := KQ.trans K39
          refine RP.o1 (.bin rfl rfl (by first | exact lss_nat | exact lss_is)) rfl ⟨_,_,_,rfl,rfl,rfl,rfl⟩ ?_; refine RP.o1 (.pick (b := true) rfl rfl) rfl rfl ?_; refine RP.nil ?_
          refine XP.condD rfl (fun hc72 => ?_) (fun hc72 => ?_)  -- if t72
          · refine XP.seq ?_; refine XP.regionS ?_; refine RP.o1 (.assign rfl) rfl rfl ?_; refine RP.nil ?_
            first
            | exact XP.ret ⟨.inr rfl, _, _, oneRes rfl, false, rfl, K, fun h => by cases h⟩
            | exact XP.ret ⟨.inr rfl, _, _, oneRes rfl, true, rfl, K, fun _ => ⟨hall, fun e => by rw [e] at hp77; exact absurd hp77 (by decide), .inl hp81⟩⟩
            | exact XP.ret ⟨.inr rfl, _, _, oneRes rfl, _, rfl, K, fun h => ⟨hall, fun e => by rw [e] at hp77; exact absurd hp77 (by decide), .inr (placeI_mem.1.1 (by
                by_cases q : placeI (leftsL g.rules) g.start < 0
                · rw [decide_eq_true q] at h; cases h
                · exact Int.not_lt.1 q))⟩⟩
          · refine XP.skip ?_; refine XP.regionS ?_; refine RP.o1 (.move rfl) rfl rfl ?_
            refine RP.o1 (.bin rfl rfl (by first | exact inc_is (by omega) | exact add_is (by omega) (by omega))) rfl rfl ?_
            refine RP.o1 (.assign rfl) rfl rfl ?_; refine RP.nil ?_
            refine ⟨g.rules.length - (j + 1), by omega, j + 1, _, toT_less (.cons rfl (.cons rfl (.cons rfl (.nil)))), rfl, by omega, KQ, fun q y hq hy => ?_⟩
            rcases Nat.lt_or_ge q j with h | h
            · exact hgood q y h hy
            · obtain rfl : q = j := by omega
              rw [hr] at hy; cases hy
              intro z hz
              obtain ⟨n, hn⟩ := List.getElem?_of_mem hz
              exact hgx n z (by have := (List.getElem?_eq_some_iff.1 hn).1; omega) hn
    · refine XP.exit ?_  -- 2
      refine XP.seq ?_
      have hall : ∀ r ∈ g.rules, ∀ x ∈ r.right, x ∈ leftsL g.rules ∨ x ∈ namesT g := fun r hr => by
        obtain ⟨n, hn⟩ := List.getElem?_of_mem hr
        exact hgood n r (by have := (List.getElem?_eq_some_iff.1 hn).1; omega) hn
      refine XP.regionS ?_; refine RP.o1 (.fieldAddr rfl fa25_3) rfl rfl ?_
      refine RP.o1 (.load1 rfl lay23 (by first | (apply BoxIs.get; assumption; rfl) | (apply ElAt.get; assumption; rfl) | (apply ElAt.get0; assumption; rfl) | assumption)) rfl rfl ?_
      refine RP.o1 (.len rfl (rowLen23 hgM.r)) rfl rfl ?_; refine RP.o1 (.bin rfl rfl gtr_is) rfl rfl ?_; refine RP.o1 (.move rfl) rfl rfl ?_
      rcases Decidable.em ((0 : Int) < Int.ofNat g.rules.length) with hp77 | hp77
      · simp only [decide_eq_true hp77]
        refine RP.o1 (.fieldAddr rfl fa25_1) rfl ⟨_,_,_,rfl,rfl,rfl,rfl⟩ ?_
        refine RP.o1 (.load1 rfl lay9 (by first | (apply BoxIs.get; assumption; rfl) | (apply ElAt.get; assumption; rfl) | (apply ElAt.get0; assumption; rfl) | assumption)) rfl ⟨_,_,_,rfl,rfl,rfl,rfl⟩ ?_
        refine RP.o1 (.bin rfl rfl eqlS) rfl ⟨_,_,_,rfl,rfl,rfl,rfl⟩ ?_; refine RP.o1 (.move rfl) rfl ⟨_,_,_,rfl,rfl,rfl,rfl⟩ ?_
        rcases Decidable.em (g.start = List.map UInt8.toNat []) with hp81 | hp81
        · simp only [decide_eq_true hp81]
          refine RP.skip ⟨_,_,_,rfl,rfl,rfl,rfl⟩ rfl ?_; refine RP.skip ⟨_,_,_,rfl,rfl,rfl,rfl⟩ rfl ?_; refine RP.skip ⟨_,_,_,rfl,rfl,rfl,rfl⟩ rfl ?_; refine RP.skip ⟨_,_,_,rfl,rfl,rfl,rfl⟩ rfl ?_; refine RP.skip ⟨_,_,_,rfl,rfl,rfl,rfl⟩ rfl ?_; refine RP.o1 (.pick (b := true) rfl rfl) rfl ⟨_,_,_,rfl,rfl,rfl,rfl⟩ ?_; refine RP.o1 (.pick (b := true) rfl rfl) rfl rfl ?_; refine RP.o1 (.assign rfl) rfl rfl ?_; refine RP.nil ?_
          first
          | exact XP.ret ⟨.inr rfl, _, _, oneRes rfl, false, rfl, K, fun h => by cases h⟩
          | exact XP.ret ⟨.inr rfl, _, _, oneRes rfl, true, rfl, K, fun _ => ⟨hall, fun e => by rw [e] at hp77; exact absurd hp77 (by decide), .inl hp81⟩⟩
          | exact XP.ret ⟨.inr rfl, _, _, oneRes rfl, _, rfl, K, fun h => ⟨hall, fun e => by rw [e] at hp77; exact absurd hp77 (by decide), .inr (placeI_mem.1.1 (by
              by_cases q : placeI (leftsL g.rules) g.start < 0
              · rw [decide_eq_true q] at h; cases h
              · exact Int.not_lt.1 q))⟩⟩
        · simp only [decide_eq_false hp81]
          refine RP.o1 (.move rfl) rfl ⟨_,_,_,rfl,rfl,rfl,rfl⟩ ?_; refine RP.o1 (.fieldAddr rfl fa25_1) rfl ⟨_,_,_,rfl,rfl,rfl,rfl⟩ ?_
          refine RP.o1 (.load1 rfl lay9 (by first | (apply BoxIs.get; assumption; rfl) | (apply ElAt.get; assumption; rfl) | (apply ElAt.get0; assumption; rfl) | assumption)) rfl ⟨_,_,_,rfl,rfl,rfl,rfl⟩ ?_
          refine RP.o1 (.callS rfl rfl (call24 hS24 hGM (by omega))) rfl ⟨_,_,_,rfl,rfl,rfl,rfl⟩ ?_; refine RP.o1 (.bin rfl rfl geq_is) rfl ⟨_,_,_,rfl,rfl,rfl,rfl⟩ ?_; refine RP.o1 (.pick (b := false) rfl rfl) rfl ⟨_,_,_,rfl,rfl,rfl,rfl⟩ ?_; refine RP.o1 (.pick (b := true) rfl rfl) rfl rfl ?_; refine RP.o1 (.assign rfl) rfl rfl ?_; refine RP.nil ?_
          first
          | exact XP.ret ⟨.inr rfl, _, _, oneRes rfl, false, rfl, K, fun h => by cases h⟩
          | exact XP.ret ⟨.inr rfl, _, _, oneRes rfl, true, rfl, K, fun _ => ⟨hall, fun e => by rw [e] at hp77; exact absurd hp77 (by decide), .inl hp81⟩⟩
          | exact XP.ret ⟨.inr rfl, _, _, oneRes rfl, _, rfl, K, fun h => ⟨hall, fun e => by rw [e] at hp77; exact absurd hp77 (by decide), .inr (placeI_mem.1.1 (by
              by_cases q : placeI (leftsL g.rules) g.start < 0
              · rw [decide_eq_true q] at h; cases h
              · exact Int.not_lt.1 q))⟩⟩
      · simp only [decide_eq_false hp77]
        refine RP.skip ⟨_,_,_,rfl,rfl,rfl,rfl⟩ rfl ?_; refine RP.skip ⟨_,_,_,rfl,rfl,rfl,rfl⟩ rfl ?_; refine RP.skip ⟨_,_,_,rfl,rfl,rfl,rfl⟩ rfl ?_; refine RP.skip ⟨_,_,_,rfl,rfl,rfl,rfl⟩ rfl ?_; refine RP.skipU ⟨_, _, rfl, rfl, rfl⟩ rfl ?_; refine RP.skipU ⟨_, _, rfl, rfl, rfl⟩ rfl ?_; refine RP.skipU ⟨_, _, rfl, rfl, rfl⟩ rfl ?_; refine RP.skipU ⟨_, _, rfl, rfl, rfl⟩ rfl ?_; refine RP.skipU ⟨_, _, rfl, rfl, rfl⟩ rfl ?_; refine RP.skip ⟨_,_,_,rfl,rfl,rfl,rfl⟩ rfl ?_; refine RP.o1 (.pick (b := false) rfl rfl) rfl rfl ?_; refine RP.o1 (.assign rfl) rfl rfl ?_; refine RP.nil ?_
        first
        | exact XP.ret ⟨.inr rfl, _, _, oneRes rfl, false, rfl, K, fun h => by cases h⟩
        | exact XP.ret ⟨.inr rfl, _, _, oneRes rfl, true, rfl, K, fun _ => ⟨hall, fun e => by rw [e] at hp77; exact absurd hp77 (by decide), .inl hp81⟩⟩
        | exact XP.ret ⟨.inr rfl, _, _, oneRes rfl, _, rfl, K, fun h => ⟨hall, fun e => by rw [e] at hp77; exact absurd hp77 (by decide), .inr (placeI_mem.1.1 (by
            by_cases q : placeI (leftsL g.rules) g.start < 0
            · rw [decide_eq_true q] at h; cases h
            · exact Int.not_lt.1 q))⟩⟩
end Go.Ev
end
section
namespace Go.Ev
set_option linter.all false
open Go.Proofs
set_option maxRecDepth 10000
set_option maxHeartbeats 4000000
theorem ei51x : (elemInfo Tryz.prog 51).map (fun p => (p.1.size, p.2)) = some (1, [.bool false]) := by kernel_rfl
theorem ei51 : ∃ i : TypeInfo, elemInfo Tryz.prog 51 = some (i, [.bool false]) ∧ i.size = 1 := elemInfo_of ei51x
/-- make of single values. -/
theorem RP.make1 {P : Program} {S : Sums} {nt : Nat} {all : Array Oper} {dst : Option Tmp} {ty : TypeId} {pos : String} {af : Array Edge} {g : Option (Nat × Bool)} {l : List Oper} {t0 : T AV} {σ : List (Nat × AV)} {m : AMem} {Q : T AV → AMem → Prop}
    {st : TypeId} {i : TypeInfo} {z : AV} {x y : Operand} {n : Nat} {kk kk2 : IntKind} (hi : elemInfo P st = some (i, [z])) (hs : i.size = 1) (hx : ev σ x = some (.int kk (.ofNat n))) (hy : ev σ y = some (.int kk2 (.ofNat n))) (hn : n ≤ 65536) (hd : dstOk nt dst = true) (hg : WP all σ g true)
    (k : ∀ m', Kp Nothing m m' → BoxIs m' m.next (List.replicate n z) → m'.next = m.next + 1 → RP P S nt all l t0 (putS dst (.slice m.next 0 n (some n)) σ) m' Q) :
    RP P S nt all (⟨dst, .makeSlice st x y, ty, pos, af, g⟩ :: l) t0 σ m Q := by
  have e : ∀ n, repA [z] n = List.replicate n z := by
    intro n
    induction n with
    | zero => rfl
    | succ n ih => show [z] ++ repA _ n = _; rw [ih, List.replicate_succ]; rfl
  refine RP.op (v := .slice m.next 0 n (some n)) (m1 := m.new false 1 (repA [z] n)) (OpTo.of fun call => ?_) hd hg (Nat.le_succ _) (k _ ((Kp.refl m).new _ _ _) (by rw [← e]; exact BoxIs.new) rfl)
  show evK (toT t0 σ) x (fun l => evK (toT t0 σ) y fun c => aMakeSlice P st l c m) = _
  rw [evK_eq, evK_eq, ev_is hx, ev_is hy]
  unfold aMakeSlice
  rw [hi]
  simp only
  rw [bif2_eq, if_pos (by rw [Nat.ble_eq_true_of_le (Nat.le_refl n), Nat.ble_eq_true_of_le hn]; rfl), hs]
  exact newBlk_is _ _ _ _ _
noncomputable def falses : List Bool → Nat
  | [] => 0
  | true :: l => falses l
  | false :: l => falses l + 1
theorem falses_set : ∀ (l : List Bool) (i : Nat), falses (l.set i true) ≤ falses l ∧ (l[i]? = some false → falses (l.set i true) < falses l)
  | [], i => ⟨Nat.le_refl _, fun h => by simp at h⟩
  | b :: l, 0 => by
    cases b
    · exact ⟨Nat.le_succ _, fun _ => Nat.lt_succ_self _⟩
    · exact ⟨Nat.le_refl _, fun h => by simp at h⟩
  | b :: l, i + 1 => by
    obtain ⟨h1, h2⟩ := falses_set l i
    cases b
    · exact ⟨Nat.succ_le_succ h1, fun h => Nat.succ_lt_succ (h2 h)⟩
    · exact ⟨h1, fun h => h2 h⟩
theorem setL_bool {l : List Bool} {i : Nat} (hi : i < l.length) : setL (l.map AV.bool) (0 + i * 1) [.bool true] = (l.set i true).map AV.bool := by
  apply List.ext_getElem?
  intro j
  rw [setL_get (by simp; omega)]
  simp only [List.length_singleton, List.getElem?_map, List.getElem?_set]
  by_cases h : j = i
  · subst h
    rw [if_pos (by omega), if_pos rfl, if_pos hi, show j - (0 + j * 1) = 0 by omega]; rfl
  · rw [if_neg (by omega), if_neg (fun e => h e.symm)]
theorem bool_at {l : List Bool} {i : Nat} {b : Bool} (h : l[i]? = some b) : (l.map AV.bool)[0 + i * 1]? = some (.bool b) := by
  rw [List.getElem?_map, show 0 + i * 1 = i by omega, h]; rfl
/-- All numbers are symbols. -/
structure SymOK (n : Nat) (start : Int) (rs : List Rl) : Prop where
  start : ∃ k : Nat, start = Int.ofNat k ∧ k < n
  left : ∀ (i : Nat) r, 1 ≤ i → rs[i]? = some r → ∃ k : Nat, r.left = Int.ofNat k ∧ k < n
  right : ∀ (i : Nat) r, 1 ≤ i → rs[i]? = some r → ∀ x ∈ r.right, ∃ k : Nat, x = Int.ofNat k ∧ k < n
theorem call26 {S : Sums} (hS : Plain S [26]) {m : AMem} {s : SpV} {rs : List Rl} (hr : RulesIs m s.vr rs) (hB : Small rs) (hT : s.toks ≤ 12) (hN : s.nts ≤ 10) (hO : SymOK s.n s.start rs) (h1 : 1 ≤ rs.length) :
    ∃ r m', CallTo Tryz.prog S 26 [s.v] m r m' ∧ Kp Nothing m m' ∧ ∃ (b : Nat) (bs : List Bool), r = .slice b 0 s.n (some s.n) ∧ bs.length = s.n ∧ BoxIs m' b (bs.map AV.bool) := by
  have hsn : s.n ≤ 23 := by show s.toks + 1 + s.nts ≤ 23; omega
  have hsn2 : s.toks < s.n := by show s.toks < s.toks + 1 + s.nts; omega
  have hfew := hB.few
  obtain ⟨i51, e51, s51⟩ := ei51
  refine XP.call (hS 26 (by decide)) cd26 nt26 ?_
  show XP _ _ _ _ (toT .leaf [(0, s.v)]) m _
  unfold Tryz.f26
  dsimp only [Option.getD_some]
  have K : Kp Nothing m m := .refl m
  refine XP.seq ?_; refine XP.regionS ?_
  have hk1 := K.le
  refine RP.box rfl rfl rfl rfl fun M1 K1 B1 N1 => ?_
  have K := K.trans K1
  have B1o := B1
  have hr0 := hr.up K1
  have hk0 := K1.le
  refine RP.o1 (.assign rfl) rfl rfl ?_; refine RP.nil ?_; refine XP.seq ?_; refine XP.regionS ?_; refine RP.o1 (.fieldAddr rfl fa31_0) rfl rfl ?_
  refine RP.o1 (.load1 rfl lay3 (by first | (apply BoxIs.get; assumption; rfl) | (apply ElAt.get; assumption; rfl) | (apply ElAt.get0; assumption; rfl) | assumption)) rfl rfl ?_
  refine RP.o1 (.bin rfl rfl (by first | exact inc_is (by omega) | exact add_is (by omega) (by omega))) rfl rfl ?_
  refine RP.o1 (.fieldAddr rfl fa31_1) rfl rfl ?_
  refine RP.o1 (.load1 rfl lay3 (by first | (apply BoxIs.get; assumption; rfl) | (apply ElAt.get; assumption; rfl) | (apply ElAt.get0; assumption; rfl) | assumption)) rfl rfl ?_
  refine RP.o1 (.bin rfl rfl (addN_is (by omega))) rfl rfl ?_; refine RP.make1 e51 s51 rfl rfl (by omega) rfl rfl fun MY KY BY NY => ?_
  have BY0 : BoxIs MY M1.next ((List.replicate s.n false).map AV.bool) := by rw [List.map_replicate]; exact BY
  refine RP.o1 (.assign rfl) rfl rfl ?_; refine RP.nil ?_; refine XP.seq ?_; refine XP.seq ?_; refine XP.regionS ?_; refine RP.o1 (.assign rfl) rfl rfl ?_; refine RP.nil ?_
  refine XP.block ?_  -- block 0
  refine XP.while (fun d t m1 => ∃ i t0 bs, t = toT t0 [(4, .int .i64 (.ofNat i)), (3, .slice M1.next 0 s.n (some s.n)), (1, .ptr m.next 0)] ∧ d = s.toks - i ∧ i ≤ s.toks ∧ Kp Nothing M1 m1 ∧ BoxIs m1 M1.next ((bs : List Bool).map AV.bool) ∧ bs.length = s.n) ?_ s.toks _ _ ?_
  rotate_left
  · exact ⟨0, _, List.replicate s.n false, toT_less (.cons rfl (.cons rfl (.cons rfl (.nil)))), rfl, Nat.zero_le _, KY, BY0, by simp⟩
  rintro d t M2 ⟨i, t0, bs, rfl, rfl, hin, KQ, BY, hbl⟩
  have K := K1.trans KQ
  have B1 := B1o.up KQ
  refine XP.seq ?_; refine XP.seq ?_; refine XP.regionS ?_; refine RP.o1 (.move rfl) rfl rfl ?_; refine RP.o1 (.fieldAddr rfl fa31_0) rfl rfl ?_
  refine RP.o1 (.load1 rfl lay3 (by first | (apply BoxIs.get; assumption; rfl) | (apply ElAt.get; assumption; rfl) | (apply ElAt.get0; assumption; rfl) | assumption)) rfl rfl ?_
  refine RP.o1 (.bin rfl rfl (by first | exact lss_nat | exact lss_is)) rfl rfl ?_; refine RP.nil ?_
  refine XP.condD rfl (fun hc19 => ?_) (fun hc19 => ?_)  -- if t19
  · refine XP.skip ?_; refine XP.seq ?_
    refine XP.block ?_  -- block 1
    have hi3 : i < s.n := by omega
    refine XP.regionS ?_; refine RP.o1 (.move rfl) rfl rfl ?_; refine RP.o1 (.move rfl) rfl rfl ?_; refine RP.o1 (.indexAddr rfl rfl ix51 (by assumption)) rfl rfl ?_; refine RP.store rfl rfl lay4 rfl BY (Nat.ble_eq_true_of_le (by simp; omega)) rfl rfl rfl fun M3 K3 BY N3 => ?_
    have BY : BoxIs M3 M1.next ((bs.set i true).map AV.bool) := by rw [← setL_bool (by omega)]; exact BY
    have KQ := KQ.young K3 (by rintro _ rfl; exact Nat.le_refl _)
    refine RP.nil ?_; refine XP.regionS ?_; refine RP.o1 (.move rfl) rfl rfl ?_
    refine RP.o1 (.bin rfl rfl (by first | exact inc_is (by omega) | exact add_is (by omega) (by omega))) rfl rfl ?_
    refine RP.o1 (.assign rfl) rfl rfl ?_; refine RP.nil ?_
    exact ⟨s.toks - (i + 1), by omega, i + 1, _, _, toT_less (.cons rfl (.cons rfl (.cons rfl (.nil)))), rfl, by omega, KQ, BY, by simp [hbl]⟩
  · refine XP.exit ?_  -- 0
    refine XP.seq ?_; refine XP.seq ?_; refine XP.regionS ?_; refine RP.o1 (.assign rfl) rfl rfl ?_; refine RP.nil ?_
    refine XP.block ?_  -- block 2
    refine XP.while (fun d t m1 => ∃ more t0 bs, t = toT t0 [(5, .bool more), (3, .slice M1.next 0 s.n (some s.n)), (1, .ptr m.next 0)] ∧ d = 2 * falses bs + more.toNat ∧ Kp Nothing M1 m1 ∧ BoxIs m1 M1.next ((bs : List Bool).map AV.bool) ∧ bs.length = s.n) ?_ (2 * falses bs + true.toNat) _ _ ?_
    rotate_left
    · exact ⟨true, _, bs, toT_less (.cons rfl (.cons rfl (.cons rfl (.nil)))), rfl, KQ, BY, hbl⟩
    rintro d t M4 ⟨more, t0, bs, rfl, rfl, KQ, BY, hbl⟩
    have K := K1.trans KQ
    have B1 := B1o.up KQ
    refine XP.seq ?_; refine XP.seq ?_; refine XP.regionS ?_; refine RP.o1 (.move rfl) rfl rfl ?_; refine RP.nil ?_
    refine XP.condB rfl (fun hc25 => ?_) (fun hc25 => ?_)  -- if t25
    · refine XP.skip ?_
      refine XP.block ?_  -- block 3
      refine XP.seq ?_; refine XP.regionS ?_; refine RP.o1 (.assign rfl) rfl rfl ?_; refine RP.nil ?_; refine XP.seq ?_; refine XP.regionS ?_; refine RP.o1 (.assign rfl) rfl rfl ?_; refine RP.nil ?_
      refine XP.block ?_  -- block 4
      refine XP.while (fun d t m1 => ∃ i t0 b2 mo, t = toT t0 [(6, .int .i64 (.ofNat i)), (5, .bool mo), (3, .slice M1.next 0 s.n (some s.n)), (1, .ptr m.next 0)] ∧ d = rs.length - i ∧ 1 ≤ i ∧ i ≤ rs.length ∧ Kp Nothing M1 m1 ∧ BoxIs m1 M1.next ((b2 : List Bool).map AV.bool) ∧ b2.length = s.n ∧ falses b2 ≤ falses bs ∧ (mo = true → falses b2 < falses bs)) ?_ (rs.length - 1) _ _ ?_
      rotate_left
      · exact ⟨1, _, bs, false, toT_less (.cons rfl (.cons rfl (.cons rfl (.cons rfl (.nil))))), rfl, Nat.le_refl _, h1, KQ, BY, hbl, Nat.le_refl _, fun h => by cases h⟩
      rintro d t M5 ⟨i, t0, b2, mo, rfl, rfl, hi1, hin, KC, BY, hb2, hfa, hmo⟩
      have K := K1.trans KC
      have B1 := B1o.up KC
      have hrM := hr0.up KC
      refine XP.seq ?_; refine XP.seq ?_; refine XP.regionS ?_; refine RP.o1 (.move rfl) rfl rfl ?_; refine RP.o1 (.fieldAddr rfl fa31_7) rfl rfl ?_
      refine RP.o1 (.load1 rfl lay29 (by first | (apply BoxIs.get; assumption; rfl) | (apply ElAt.get; assumption; rfl) | (apply ElAt.get0; assumption; rfl) | assumption)) rfl rfl ?_
      refine RP.o1 (.len rfl (rowLen29 hrM)) rfl rfl ?_; refine RP.o1 (.bin rfl rfl (by first | exact lss_nat | exact lss_is)) rfl rfl ?_; refine RP.nil ?_
      refine XP.condD rfl (fun hc30 => ?_) (fun hc30 => ?_)  -- if t30
      · refine XP.skip ?_; refine XP.seq ?_
        refine XP.block ?_  -- block 5
        refine XP.seq ?_
        obtain ⟨q, hq⟩ : ∃ q, rs[i]? = some q := ⟨rs[i]'hc30, List.getElem?_eq_getElem _⟩
        have hqs := hB.short q (List.mem_of_getElem? hq)
        obtain ⟨lk, hlk, hlkn⟩ := hO.left i q hi1 hq
        refine XP.regionS ?_; refine RP.o1 (.assign rfl) rfl rfl ?_; refine RP.nil ?_; refine XP.seq ?_; refine XP.seq ?_; refine XP.regionS ?_; refine RP.o1 (.assign rfl) rfl rfl ?_; refine RP.nil ?_
        refine XP.block ?_  -- block 6
        refine XP.while (fun d t m1 => ∃ k t0 al, t = toT t0 [(8, .int .i64 (.ofNat k)), (7, .bool al), (6, .int .i64 (.ofNat i)), (5, .bool mo), (3, .slice M1.next 0 s.n (some s.n)), (1, .ptr m.next 0)] ∧ d = q.right.length - k ∧ k ≤ q.right.length ∧ m1 = M5) ?_ q.right.length _ _ ?_
        rotate_left
        · exact ⟨0, _, true, toT_less (.cons rfl (.cons rfl (.cons rfl (.cons rfl (.cons rfl (.cons rfl (.nil))))))), rfl, Nat.zero_le _, rfl⟩
        rintro d t M6 ⟨k, t0, al, rfl, rfl, hkn, hm14⟩
        subst hm14
        have B1 := B1
        obtain ⟨br, or_, cr, vq, e5, hri, E1, RQ, _⟩ := hrM.elem (.refl _) hq
        rw [hlk] at E1
        have hvr : s.vr = .slice br or_ rs.length cr := e5
        have hB7 := B1.get (j := 7) (v := .slice br or_ rs.length cr) (by rw [← hvr]; rfl)
        refine XP.seq ?_; refine XP.seq ?_; refine XP.regionS ?_; refine RP.o1 (.move rfl) rfl rfl ?_; refine RP.o1 (.fieldAddr rfl fa31_7) rfl rfl ?_; refine RP.o1 (.load1 rfl lay29 hB7) rfl rfl ?_; refine RP.o1 (.move rfl) rfl rfl ?_; refine RP.o1 (.indexAddr rfl rfl ix29 (by assumption)) rfl rfl ?_; refine RP.o1 (.fieldAddr rfl fa56_1) rfl rfl ?_
        refine RP.o1 (.load1 rfl lay28 (by first | (apply BoxIs.get; assumption; rfl) | (apply ElAt.get; assumption; rfl) | (apply ElAt.get0; assumption; rfl) | assumption)) rfl rfl ?_
        refine RP.o1 (.len rfl (rowLen28 RQ)) rfl rfl ?_; refine RP.o1 (.bin rfl rfl (by first | exact lss_nat | exact lss_is)) rfl rfl ?_; refine RP.nil ?_
        refine XP.condD rfl (fun hc41 => ?_) (fun hc41 => ?_)  -- if t41
        · refine XP.skip ?_; refine XP.seq ?_
          refine XP.block ?_  -- block 7
          refine XP.regionS ?_; refine RP.o1 (.move rfl) rfl rfl ?_; refine RP.o1 (.move rfl) rfl rfl ?_
          rcases Bool.eq_false_or_eq_true (al) with hp45 | hp45
          · simp only [hp45]
            refine RP.o1 (.move rfl) rfl ⟨_,_,_,rfl,rfl,rfl,rfl⟩ ?_
            obtain ⟨x, hx⟩ : ∃ x, q.right[k]? = some x := ⟨q.right[k]'hc41, List.getElem?_eq_getElem _⟩
            obtain ⟨xk, hxk, hxn⟩ := hO.right i q hi1 hq x (List.mem_of_getElem? hx)
            subst hxk
            obtain ⟨bq, oq, cq, e6, _, EQ⟩ := RQ.elem encI (.refl _) hx
            rw [e6] at E1
            obtain ⟨yb, hyb⟩ : ∃ yb, b2[xk]? = some yb := ⟨b2[xk]'(by omega), List.getElem?_eq_getElem _⟩
            have hY := BY.get (bool_at hyb)
            refine RP.o1 (.fieldAddr rfl fa31_7) rfl ⟨_,_,_,rfl,rfl,rfl,rfl⟩ ?_; refine RP.o1 (.load1 rfl lay29 hB7) rfl ⟨_,_,_,rfl,rfl,rfl,rfl⟩ ?_; refine RP.o1 (.move rfl) rfl ⟨_,_,_,rfl,rfl,rfl,rfl⟩ ?_; refine RP.o1 (.indexAddr rfl rfl ix29 (by assumption)) rfl ⟨_,_,_,rfl,rfl,rfl,rfl⟩ ?_; refine RP.o1 (.fieldAddr rfl fa56_1) rfl ⟨_,_,_,rfl,rfl,rfl,rfl⟩ ?_
            refine RP.o1 (.load1 rfl lay28 (by first | (apply BoxIs.get; assumption; rfl) | (apply ElAt.get; assumption; rfl) | (apply ElAt.get0; assumption; rfl) | assumption)) rfl ⟨_,_,_,rfl,rfl,rfl,rfl⟩ ?_
            refine RP.o1 (.move rfl) rfl ⟨_,_,_,rfl,rfl,rfl,rfl⟩ ?_; refine RP.o1 (.indexAddr rfl rfl ix28 (by assumption)) rfl ⟨_,_,_,rfl,rfl,rfl,rfl⟩ ?_
            refine RP.o1 (.load1 rfl lay3 (by first | (apply BoxIs.get; assumption; rfl) | (apply ElAt.get; assumption; rfl) | (apply ElAt.get0; assumption; rfl) | assumption)) rfl ⟨_,_,_,rfl,rfl,rfl,rfl⟩ ?_
            refine RP.o1 (.indexAddr rfl rfl ix51 (by assumption)) rfl ⟨_,_,_,rfl,rfl,rfl,rfl⟩ ?_; refine RP.o1 (.load1 rfl lay4 hY) rfl ⟨_,_,_,rfl,rfl,rfl,rfl⟩ ?_; refine RP.o1 (.pick (b := true) rfl rfl) rfl rfl ?_; refine RP.o1 (.assign rfl) rfl rfl ?_; refine RP.nil ?_; refine XP.regionS ?_; refine RP.o1 (.move rfl) rfl rfl ?_
            refine RP.o1 (.bin rfl rfl (by first | exact inc_is (by omega) | exact add_is (by omega) (by omega))) rfl rfl ?_
            refine RP.o1 (.assign rfl) rfl rfl ?_; refine RP.nil ?_
            exact ⟨q.right.length - (k + 1), by omega, k + 1, _, _, toT_less (.cons rfl (.cons rfl (.cons rfl (.cons rfl (.cons rfl (.cons rfl (.nil))))))), rfl, by omega, rfl⟩
          · simp only [hp45]
            refine RP.skip ⟨_,_,_,rfl,rfl,rfl,rfl⟩ rfl ?_; refine RP.skip ⟨_,_,_,rfl,rfl,rfl,rfl⟩ rfl ?_; refine RP.skip ⟨_,_,_,rfl,rfl,rfl,rfl⟩ rfl ?_; refine RP.skip ⟨_,_,_,rfl,rfl,rfl,rfl⟩ rfl ?_; refine RP.skip ⟨_,_,_,rfl,rfl,rfl,rfl⟩ rfl ?_; refine RP.skip ⟨_,_,_,rfl,rfl,rfl,rfl⟩ rfl ?_; refine RP.skip ⟨_,_,_,rfl,rfl,rfl,rfl⟩ rfl ?_; refine RP.skip ⟨_,_,_,rfl,rfl,rfl,rfl⟩ rfl ?_; refine RP.skip ⟨_,_,_,rfl,rfl,rfl,rfl⟩ rfl ?_; refine RP.skip ⟨_,_,_,rfl,rfl,rfl,rfl⟩ rfl ?_; refine RP.skip ⟨_,_,_,rfl,rfl,rfl,rfl⟩ rfl ?_; refine RP.skip ⟨_,_,_,rfl,rfl,rfl,rfl⟩ rfl ?_; refine RP.o1 (.pick (b := false) rfl rfl) rfl rfl ?_; refine RP.o1 (.assign rfl) rfl rfl ?_; refine RP.nil ?_; refine XP.regionS ?_; refine RP.o1 (.move rfl) rfl rfl ?_
            refine RP.o1 (.bin rfl rfl (by first | exact inc_is (by omega) | exact add_is (by omega) (by omega))) rfl rfl ?_
            refine RP.o1 (.assign rfl) rfl rfl ?_; refine RP.nil ?_
            exact ⟨q.right.length - (k + 1), by omega, k + 1, _, _, toT_less (.cons rfl (.cons rfl (.cons rfl (.cons rfl (.cons rfl (.cons rfl (.nil))))))), rfl, by omega, rfl⟩
        · refine XP.exit ?_  -- 6
          refine XP.seq ?_
          obtain ⟨zb, hzb⟩ : ∃ zb, b2[lk]? = some zb := ⟨b2[lk]'(by omega), List.getElem?_eq_getElem _⟩
          have hZ := BY.get (bool_at hzb)
          refine XP.regionS ?_; refine RP.o1 (.move rfl) rfl rfl ?_; refine RP.o1 (.move rfl) rfl rfl ?_
          rcases Bool.eq_false_or_eq_true (al) with hp60 | hp60
          · simp only [hp60]
            refine RP.o1 (.move rfl) rfl ⟨_,_,_,rfl,rfl,rfl,rfl⟩ ?_; refine RP.o1 (.fieldAddr rfl fa31_7) rfl ⟨_,_,_,rfl,rfl,rfl,rfl⟩ ?_; refine RP.o1 (.load1 rfl lay29 hB7) rfl ⟨_,_,_,rfl,rfl,rfl,rfl⟩ ?_; refine RP.o1 (.move rfl) rfl ⟨_,_,_,rfl,rfl,rfl,rfl⟩ ?_; refine RP.o1 (.indexAddr rfl rfl ix29 (by assumption)) rfl ⟨_,_,_,rfl,rfl,rfl,rfl⟩ ?_; refine RP.o1 (.fieldAddr rfl fa56_0) rfl ⟨_,_,_,rfl,rfl,rfl,rfl⟩ ?_
            refine RP.o1 (.load1 rfl lay3 (by first | (apply BoxIs.get; assumption; rfl) | (apply ElAt.get; assumption; rfl) | (apply ElAt.get0; assumption; rfl) | assumption)) rfl ⟨_,_,_,rfl,rfl,rfl,rfl⟩ ?_
            refine RP.o1 (.indexAddr rfl rfl ix51 (by assumption)) rfl ⟨_,_,_,rfl,rfl,rfl,rfl⟩ ?_; refine RP.o1 (.load1 rfl lay4 hZ) rfl ⟨_,_,_,rfl,rfl,rfl,rfl⟩ ?_; refine RP.o1 (.not_ rfl) rfl ⟨_,_,_,rfl,rfl,rfl,rfl⟩ ?_; refine RP.o1 (.pick (b := true) rfl rfl) rfl rfl ?_; refine RP.nil ?_
            refine XP.condB rfl (fun hc71 => ?_) (fun hc71 => ?_)  -- if t71
            · refine XP.regionS ?_; refine RP.o1 (.move rfl) rfl rfl ?_; refine RP.o1 (.fieldAddr rfl fa31_7) rfl rfl ?_; refine RP.o1 (.load1 rfl lay29 hB7) rfl rfl ?_; refine RP.o1 (.move rfl) rfl rfl ?_; refine RP.o1 (.indexAddr rfl rfl ix29 (by assumption)) rfl rfl ?_; refine RP.o1 (.fieldAddr rfl fa56_0) rfl rfl ?_
              refine RP.o1 (.load1 rfl lay3 (by first | (apply BoxIs.get; assumption; rfl) | (apply ElAt.get; assumption; rfl) | (apply ElAt.get0; assumption; rfl) | assumption)) rfl rfl ?_
              refine RP.o1 (.indexAddr rfl rfl ix51 (by assumption)) rfl rfl ?_; refine RP.store rfl rfl lay4 rfl BY (Nat.ble_eq_true_of_le (by simp; omega)) rfl rfl rfl fun M7 K7 BY N7 => ?_
              have BY : BoxIs M7 M1.next ((b2.set lk true).map AV.bool) := by rw [← setL_bool (by omega)]; exact BY
              have KC := KC.young K7 (by rintro _ rfl; exact Nat.le_refl _)
              have hfs := falses_set b2 lk
              refine RP.o1 (.assign rfl) rfl rfl ?_; refine RP.nil ?_; refine XP.regionS ?_; refine RP.o1 (.move rfl) rfl rfl ?_
              refine RP.o1 (.bin rfl rfl (by first | exact inc_is (by omega) | exact add_is (by omega) (by omega))) rfl rfl ?_
              refine RP.o1 (.assign rfl) rfl rfl ?_; refine RP.nil ?_
              first
              | exact ⟨rs.length - (i + 1), by omega, i + 1, _, _, true, toT_less (.cons rfl (.cons rfl (.cons rfl (.cons rfl (.nil))))), rfl, by omega, by omega, KC, BY, by simp [hb2], by omega, fun _ => by
                  have hz : zb = false := by cases zb with
                    | false => rfl
                    | true => exact absurd hc71 (by decide)
                  rw [hz] at hzb
                  have := hfs.2 hzb; omega⟩
              | exact ⟨rs.length - (i + 1), by omega, i + 1, _, b2, mo, toT_less (.cons rfl (.cons rfl (.cons rfl (.cons rfl (.nil))))), rfl, by omega, by omega, KC, BY, hb2, hfa, hmo⟩
            · refine XP.skip ?_; refine XP.regionS ?_; refine RP.o1 (.move rfl) rfl rfl ?_
              refine RP.o1 (.bin rfl rfl (by first | exact inc_is (by omega) | exact add_is (by omega) (by omega))) rfl rfl ?_
              refine RP.o1 (.assign rfl) rfl rfl ?_; refine RP.nil ?_
              first
              | exact ⟨rs.length - (i + 1), by omega, i + 1, _, _, true, toT_less (.cons rfl (.cons rfl (.cons rfl (.cons rfl (.nil))))), rfl, by omega, by omega, KC, BY, by simp [hb2], by omega, fun _ => by
                  have hz : zb = false := by cases zb with
                    | false => rfl
                    | true => exact absurd hc71 (by decide)
                  rw [hz] at hzb
                  have := hfs.2 hzb; omega⟩
              | exact ⟨rs.length - (i + 1), by omega, i + 1, _, b2, mo, toT_less (.cons rfl (.cons rfl (.cons rfl (.cons rfl (.nil))))), rfl, by omega, by omega, KC, BY, hb2, hfa, hmo⟩
          · simp only [hp60]
            refine RP.skip ⟨_,_,_,rfl,rfl,rfl,rfl⟩ rfl ?_; refine RP.skip ⟨_,_,_,rfl,rfl,rfl,rfl⟩ rfl ?_; refine RP.skip ⟨_,_,_,rfl,rfl,rfl,rfl⟩ rfl ?_; refine RP.skip ⟨_,_,_,rfl,rfl,rfl,rfl⟩ rfl ?_; refine RP.skip ⟨_,_,_,rfl,rfl,rfl,rfl⟩ rfl ?_; refine RP.skip ⟨_,_,_,rfl,rfl,rfl,rfl⟩ rfl ?_; refine RP.skip ⟨_,_,_,rfl,rfl,rfl,rfl⟩ rfl ?_; refine RP.skip ⟨_,_,_,rfl,rfl,rfl,rfl⟩ rfl ?_; refine RP.skip ⟨_,_,_,rfl,rfl,rfl,rfl⟩ rfl ?_; refine RP.skip ⟨_,_,_,rfl,rfl,rfl,rfl⟩ rfl ?_; refine RP.o1 (.pick (b := false) rfl rfl) rfl rfl ?_; refine RP.nil ?_
            refine XP.condS false rfl ?_  -- if t71
            refine XP.skip ?_; refine XP.regionS ?_; refine RP.o1 (.move rfl) rfl rfl ?_
            refine RP.o1 (.bin rfl rfl (by first | exact inc_is (by omega) | exact add_is (by omega) (by omega))) rfl rfl ?_
            refine RP.o1 (.assign rfl) rfl rfl ?_; refine RP.nil ?_
            first
            | exact ⟨rs.length - (i + 1), by omega, i + 1, _, _, true, toT_less (.cons rfl (.cons rfl (.cons rfl (.cons rfl (.nil))))), rfl, by omega, by omega, KC, BY, by simp [hb2], by omega, fun _ => by
                have hz : zb = false := by cases zb with
                  | false => rfl
                  | true => exact absurd hc71 (by decide)
                rw [hz] at hzb
                have := hfs.2 hzb; omega⟩
            | exact ⟨rs.length - (i + 1), by omega, i + 1, _, b2, mo, toT_less (.cons rfl (.cons rfl (.cons rfl (.cons rfl (.nil))))), rfl, by omega, by omega, KC, BY, hb2, hfa, hmo⟩
      · refine XP.exit ?_  -- 4
        refine ⟨_, ?_, mo, _, b2, toT_less (.cons rfl (.cons rfl (.cons rfl (.nil)))), rfl, KC, BY, hb2⟩
        rw [hc25]
        show 2 * falses b2 + mo.toNat < 2 * falses bs + 1
        cases mo with
        | true => have := hmo rfl; show 2 * falses b2 + 1 < _; omega
        | false => show 2 * falses b2 + 0 < _; omega
    · refine XP.exit ?_  -- 2
      refine XP.seq ?_; refine XP.regionS ?_; refine RP.o1 (.move rfl) rfl rfl ?_; refine RP.o1 (.assign rfl) rfl rfl ?_; refine RP.nil ?_
      exact XP.ret ⟨.inr rfl, _, _, oneRes rfl, K, M1.next, bs, rfl, hbl, BY⟩
theorem call27 {S : Sums} (hS : Plain S [27]) {m : AMem} {s : SpV} {rs : List Rl} (hr : RulesIs m s.vr rs) (hB : Small rs) (hT : s.toks ≤ 12) (hN : s.nts ≤ 10) (hO : SymOK s.n s.start rs) (h1 : 1 ≤ rs.length) :
    ∃ r m', CallTo Tryz.prog S 27 [s.v] m r m' ∧ Kp Nothing m m' ∧ ∃ (b : Nat) (bs : List Bool), r = .slice b 0 s.n (some s.n) ∧ bs.length = s.n ∧ BoxIs m' b (bs.map AV.bool) := by
  have hsn : s.n ≤ 23 := by show s.toks + 1 + s.nts ≤ 23; omega
  have hfew := hB.few
  obtain ⟨i51, e51, s51⟩ := ei51
  obtain ⟨sk, hsk, hskn⟩ := hO.start
  refine XP.call (hS 27 (by decide)) cd27 nt27 ?_
  show XP _ _ _ _ (toT .leaf [(0, s.v)]) m _
  unfold Tryz.f27
  dsimp only [Option.getD_some]
  have K : Kp Nothing m m := .refl m
  refine XP.seq ?_; refine XP.regionS ?_
  have hk1 := K.le
  refine RP.box rfl rfl rfl rfl fun M1 K1 B1 N1 => ?_
  have K := K.trans K1
  have B1o := B1
  have hr0 := hr.up K1
  have hk0 := K1.le
  refine RP.o1 (.assign rfl) rfl rfl ?_; refine RP.nil ?_; refine XP.seq ?_; refine XP.regionS ?_; refine RP.o1 (.fieldAddr rfl fa31_0) rfl rfl ?_
  refine RP.o1 (.load1 rfl lay3 (by first | (apply BoxIs.get; assumption; rfl) | (apply ElAt.get; assumption; rfl) | (apply ElAt.get0; assumption; rfl) | assumption)) rfl rfl ?_
  refine RP.o1 (.bin rfl rfl (by first | exact inc_is (by omega) | exact add_is (by omega) (by omega))) rfl rfl ?_
  refine RP.o1 (.fieldAddr rfl fa31_1) rfl rfl ?_
  refine RP.o1 (.load1 rfl lay3 (by first | (apply BoxIs.get; assumption; rfl) | (apply ElAt.get; assumption; rfl) | (apply ElAt.get0; assumption; rfl) | assumption)) rfl rfl ?_
  refine RP.o1 (.bin rfl rfl (addN_is (by omega))) rfl rfl ?_; refine RP.make1 e51 s51 rfl rfl (by omega) rfl rfl fun MY KY BY NY => ?_
  have BY0 : BoxIs MY M1.next ((List.replicate s.n false).map AV.bool) := by rw [List.map_replicate]; exact BY
  have B1 := B1o.up KY
  have K := K.trans KY
  refine RP.o1 (.assign rfl) rfl rfl ?_; refine RP.nil ?_; refine XP.seq ?_; refine XP.regionS ?_; refine RP.o1 (.move rfl) rfl rfl ?_; refine RP.o1 (.fieldAddr rfl fa31_2) rfl rfl ?_; refine RP.o1 (.load1 rfl lay3 (B1.get (j := 2) (v := .int .i64 (.ofNat sk)) (by rw [← hsk]; rfl))) rfl rfl ?_
  refine RP.o1 (.indexAddr rfl rfl ix51 (by assumption)) rfl rfl ?_; refine RP.store rfl rfl lay4 rfl BY0 (Nat.ble_eq_true_of_le (by simp; omega)) rfl rfl rfl fun M2 K2 BY0 N2 => ?_
  have BY : BoxIs M2 M1.next (((List.replicate s.n false).set sk true).map AV.bool) := by rw [← setL_bool (by simp; omega)]; exact BY0
  have KQ := KY.young K2 (by rintro _ rfl; exact Nat.le_refl _)
  refine RP.nil ?_; refine XP.seq ?_; refine XP.seq ?_; refine XP.regionS ?_; refine RP.o1 (.assign rfl) rfl rfl ?_; refine RP.nil ?_
  refine XP.block ?_  -- block 0
  refine XP.while (fun d t m1 => ∃ more t0 bs, t = toT t0 [(4, .bool more), (3, .slice M1.next 0 s.n (some s.n)), (1, .ptr m.next 0)] ∧ d = 2 * falses bs + more.toNat ∧ Kp Nothing M1 m1 ∧ BoxIs m1 M1.next ((bs : List Bool).map AV.bool) ∧ bs.length = s.n) ?_ (2 * falses ((List.replicate s.n false).set sk true) + true.toNat) _ _ ?_
  rotate_left
  · exact ⟨true, _, _, toT_less (.cons rfl (.cons rfl (.cons rfl (.nil)))), rfl, KQ, BY, by simp⟩
  rintro d t M3 ⟨more, t0, bs, rfl, rfl, KQ, BY, hbl⟩
  have K := K1.trans KQ
  have B1 := B1o.up KQ
  refine XP.seq ?_; refine XP.seq ?_; refine XP.regionS ?_; refine RP.o1 (.move rfl) rfl rfl ?_; refine RP.nil ?_
  refine XP.condB rfl (fun hc19 => ?_) (fun hc19 => ?_)  -- if t19
  · refine XP.skip ?_
    refine XP.block ?_  -- block 1
    refine XP.seq ?_; refine XP.regionS ?_; refine RP.o1 (.assign rfl) rfl rfl ?_; refine RP.nil ?_; refine XP.seq ?_; refine XP.regionS ?_; refine RP.o1 (.assign rfl) rfl rfl ?_; refine RP.nil ?_
    refine XP.block ?_  -- block 2
    refine XP.while (fun d t m1 => ∃ i t0 b2 mo, t = toT t0 [(5, .int .i64 (.ofNat i)), (4, .bool mo), (3, .slice M1.next 0 s.n (some s.n)), (1, .ptr m.next 0)] ∧ d = rs.length - i ∧ 1 ≤ i ∧ i ≤ rs.length ∧ Kp Nothing M1 m1 ∧ BoxIs m1 M1.next ((b2 : List Bool).map AV.bool) ∧ b2.length = s.n ∧ falses b2 ≤ falses bs ∧ (mo = true → falses b2 < falses bs)) ?_ (rs.length - 1) _ _ ?_
    rotate_left
    · exact ⟨1, _, bs, false, toT_less (.cons rfl (.cons rfl (.cons rfl (.cons rfl (.nil))))), rfl, Nat.le_refl _, h1, KQ, BY, hbl, Nat.le_refl _, fun h => by cases h⟩
    rintro d t M4 ⟨i, t0, b2, mo, rfl, rfl, hi1, hin, KC, BY, hb2, hfa, hmo⟩
    have K := K1.trans KC
    have B1 := B1o.up KC
    have hrM := hr0.up KC
    refine XP.seq ?_; refine XP.seq ?_; refine XP.regionS ?_; refine RP.o1 (.move rfl) rfl rfl ?_; refine RP.o1 (.fieldAddr rfl fa31_7) rfl rfl ?_
    refine RP.o1 (.load1 rfl lay29 (by first | (apply BoxIs.get; assumption; rfl) | (apply ElAt.get; assumption; rfl) | (apply ElAt.get0; assumption; rfl) | assumption)) rfl rfl ?_
    refine RP.o1 (.len rfl (rowLen29 hrM)) rfl rfl ?_; refine RP.o1 (.bin rfl rfl (by first | exact lss_nat | exact lss_is)) rfl rfl ?_; refine RP.nil ?_
    refine XP.condD rfl (fun hc24 => ?_) (fun hc24 => ?_)  -- if t24
    · refine XP.skip ?_; refine XP.seq ?_
      refine XP.block ?_  -- block 3
      refine XP.seq ?_
      obtain ⟨q, hq⟩ : ∃ q, rs[i]? = some q := ⟨rs[i]'hc24, List.getElem?_eq_getElem _⟩
      have hqs := hB.short q (List.mem_of_getElem? hq)
      obtain ⟨lk, hlk, hlkn⟩ := hO.left i q hi1 hq
      refine XP.regionS ?_; refine RP.o1 (.assign rfl) rfl rfl ?_; refine RP.nil ?_
      refine XP.block ?_  -- block 4
      refine XP.while (fun d t m1 => ∃ k t0 b3 mo3, t = toT t0 [(6, .int .i64 (.ofNat k)), (5, .int .i64 (.ofNat i)), (4, .bool mo3), (3, .slice M1.next 0 s.n (some s.n)), (1, .ptr m.next 0)] ∧ d = q.right.length - k ∧ k ≤ q.right.length ∧ Kp Nothing M1 m1 ∧ BoxIs m1 M1.next ((b3 : List Bool).map AV.bool) ∧ b3.length = s.n ∧ falses b3 ≤ falses bs ∧ (mo3 = true → falses b3 < falses bs)) ?_ q.right.length _ _ ?_
      rotate_left
      · exact ⟨0, _, b2, mo, toT_less (.cons rfl (.cons rfl (.cons rfl (.cons rfl (.cons rfl (.nil)))))), rfl, Nat.zero_le _, KC, BY, hb2, hfa, hmo⟩
      rintro d t M5 ⟨k, t0, b3, mo3, rfl, rfl, hkn, KD, BY, hb3, hfa3, hmo3⟩
      have K := K1.trans KD
      have B1 := B1o.up KD
      have hrM := hr0.up KD
      obtain ⟨br, or_, cr, vq, e5, hri, E1, RQ, _⟩ := hrM.elem (.refl _) hq
      rw [hlk] at E1
      have hvr : s.vr = .slice br or_ rs.length cr := e5
      have hB7 := B1.get (j := 7) (v := .slice br or_ rs.length cr) (by rw [← hvr]; rfl)
      obtain ⟨rb, hrb⟩ : ∃ rb, b3[lk]? = some rb := ⟨b3[lk]'(by omega), List.getElem?_eq_getElem _⟩
      have hY := BY.get (bool_at hrb)
      refine XP.seq ?_; refine XP.seq ?_; refine XP.regionS ?_; refine RP.o1 (.move rfl) rfl rfl ?_; refine RP.o1 (.fieldAddr rfl fa31_7) rfl rfl ?_; refine RP.o1 (.load1 rfl lay29 hB7) rfl rfl ?_; refine RP.o1 (.move rfl) rfl rfl ?_; refine RP.o1 (.indexAddr rfl rfl ix29 (by assumption)) rfl rfl ?_; refine RP.o1 (.fieldAddr rfl fa56_0) rfl rfl ?_
      refine RP.o1 (.load1 rfl lay3 (by first | (apply BoxIs.get; assumption; rfl) | (apply ElAt.get; assumption; rfl) | (apply ElAt.get0; assumption; rfl) | assumption)) rfl rfl ?_
      refine RP.o1 (.indexAddr rfl rfl ix51 (by assumption)) rfl rfl ?_; refine RP.o1 (.load1 rfl lay4 hY) rfl rfl ?_; refine RP.o1 (.move rfl) rfl rfl ?_
      rcases Bool.eq_false_or_eq_true (rb) with hp36 | hp36
      · simp only [hp36]
        refine RP.o1 (.move rfl) rfl ⟨_,_,_,rfl,rfl,rfl,rfl⟩ ?_; refine RP.o1 (.fieldAddr rfl fa31_7) rfl ⟨_,_,_,rfl,rfl,rfl,rfl⟩ ?_; refine RP.o1 (.load1 rfl lay29 hB7) rfl ⟨_,_,_,rfl,rfl,rfl,rfl⟩ ?_; refine RP.o1 (.move rfl) rfl ⟨_,_,_,rfl,rfl,rfl,rfl⟩ ?_; refine RP.o1 (.indexAddr rfl rfl ix29 (by assumption)) rfl ⟨_,_,_,rfl,rfl,rfl,rfl⟩ ?_; refine RP.o1 (.fieldAddr rfl fa56_1) rfl ⟨_,_,_,rfl,rfl,rfl,rfl⟩ ?_
        refine RP.o1 (.load1 rfl lay28 (by first | (apply BoxIs.get; assumption; rfl) | (apply ElAt.get; assumption; rfl) | (apply ElAt.get0; assumption; rfl) | assumption)) rfl ⟨_,_,_,rfl,rfl,rfl,rfl⟩ ?_
        refine RP.o1 (.len rfl (rowLen28 RQ)) rfl ⟨_,_,_,rfl,rfl,rfl,rfl⟩ ?_; refine RP.o1 (.bin rfl rfl (by first | exact lss_nat | exact lss_is)) rfl ⟨_,_,_,rfl,rfl,rfl,rfl⟩ ?_; refine RP.o1 (.pick (b := true) rfl rfl) rfl rfl ?_; refine RP.nil ?_
        refine XP.condD rfl (fun hc46 => ?_) (fun hc46 => ?_)  -- if t46
        · refine XP.skip ?_; refine XP.seq ?_
          refine XP.block ?_  -- block 5
          refine XP.seq ?_
          obtain ⟨x, hx⟩ : ∃ x, q.right[k]? = some x := ⟨q.right[k]'hc46, List.getElem?_eq_getElem _⟩
          obtain ⟨xk, hxk, hxn⟩ := hO.right i q hi1 hq x (List.mem_of_getElem? hx)
          subst hxk
          obtain ⟨bq, oq, cq, e6, _, EQ⟩ := RQ.elem encI (.refl _) hx
          rw [e6] at E1
          obtain ⟨zb, hzb⟩ : ∃ zb, b3[xk]? = some zb := ⟨b3[xk]'(by omega), List.getElem?_eq_getElem _⟩
          have hZ := BY.get (bool_at hzb)
          refine XP.regionS ?_; refine RP.o1 (.fieldAddr rfl fa31_7) rfl rfl ?_; refine RP.o1 (.load1 rfl lay29 hB7) rfl rfl ?_; refine RP.o1 (.move rfl) rfl rfl ?_; refine RP.o1 (.indexAddr rfl rfl ix29 (by assumption)) rfl rfl ?_; refine RP.o1 (.fieldAddr rfl fa56_1) rfl rfl ?_
          refine RP.o1 (.load1 rfl lay28 (by first | (apply BoxIs.get; assumption; rfl) | (apply ElAt.get; assumption; rfl) | (apply ElAt.get0; assumption; rfl) | assumption)) rfl rfl ?_
          refine RP.o1 (.move rfl) rfl rfl ?_; refine RP.o1 (.indexAddr rfl rfl ix28 (by assumption)) rfl rfl ?_
          refine RP.o1 (.load1 rfl lay3 (by first | (apply BoxIs.get; assumption; rfl) | (apply ElAt.get; assumption; rfl) | (apply ElAt.get0; assumption; rfl) | assumption)) rfl rfl ?_
          refine RP.o1 (.assign rfl) rfl rfl ?_; refine RP.nil ?_; refine XP.seq ?_; refine XP.regionS ?_; refine RP.o1 (.move rfl) rfl rfl ?_; refine RP.o1 (.move rfl) rfl rfl ?_; refine RP.o1 (.indexAddr rfl rfl ix51 (by assumption)) rfl rfl ?_; refine RP.o1 (.load1 rfl lay4 hZ) rfl rfl ?_; refine RP.o1 (.not_ rfl) rfl rfl ?_; refine RP.nil ?_
          refine XP.condB rfl (fun hc62 => ?_) (fun hc62 => ?_)  -- if t62
          · refine XP.regionS ?_; refine RP.o1 (.move rfl) rfl rfl ?_; refine RP.o1 (.move rfl) rfl rfl ?_; refine RP.o1 (.indexAddr rfl rfl ix51 (by assumption)) rfl rfl ?_; refine RP.store rfl rfl lay4 rfl BY (Nat.ble_eq_true_of_le (by simp; omega)) rfl rfl rfl fun M6 K6 BY N6 => ?_
            have BY : BoxIs M6 M1.next ((b3.set xk true).map AV.bool) := by rw [← setL_bool (by omega)]; exact BY
            have KD := KD.young K6 (by rintro _ rfl; exact Nat.le_refl _)
            have hfs := falses_set b3 xk
            refine RP.o1 (.assign rfl) rfl rfl ?_; refine RP.nil ?_; refine XP.regionS ?_; refine RP.o1 (.move rfl) rfl rfl ?_
            refine RP.o1 (.bin rfl rfl (by first | exact inc_is (by omega) | exact add_is (by omega) (by omega))) rfl rfl ?_
            refine RP.o1 (.assign rfl) rfl rfl ?_; refine RP.nil ?_
            first
            | exact ⟨q.right.length - (k + 1), by omega, k + 1, _, _, true, toT_less (.cons rfl (.cons rfl (.cons rfl (.cons rfl (.cons rfl (.nil)))))), rfl, by omega, KD, BY, by simp [hb3], by omega, fun _ => by
                have hz : zb = false := by cases zb with
                  | false => rfl
                  | true => exact absurd hc62 (by decide)
                rw [hz] at hzb
                have := hfs.2 hzb; omega⟩
            | exact ⟨q.right.length - (k + 1), by omega, k + 1, _, b3, mo3, toT_less (.cons rfl (.cons rfl (.cons rfl (.cons rfl (.cons rfl (.nil)))))), rfl, by omega, KD, BY, hb3, hfa3, hmo3⟩
          · refine XP.skip ?_; refine XP.regionS ?_; refine RP.o1 (.move rfl) rfl rfl ?_
            refine RP.o1 (.bin rfl rfl (by first | exact inc_is (by omega) | exact add_is (by omega) (by omega))) rfl rfl ?_
            refine RP.o1 (.assign rfl) rfl rfl ?_; refine RP.nil ?_
            first
            | exact ⟨q.right.length - (k + 1), by omega, k + 1, _, _, true, toT_less (.cons rfl (.cons rfl (.cons rfl (.cons rfl (.cons rfl (.nil)))))), rfl, by omega, KD, BY, by simp [hb3], by omega, fun _ => by
                have hz : zb = false := by cases zb with
                  | false => rfl
                  | true => exact absurd hc62 (by decide)
                rw [hz] at hzb
                have := hfs.2 hzb; omega⟩
            | exact ⟨q.right.length - (k + 1), by omega, k + 1, _, b3, mo3, toT_less (.cons rfl (.cons rfl (.cons rfl (.cons rfl (.cons rfl (.nil)))))), rfl, by omega, KD, BY, hb3, hfa3, hmo3⟩
        · refine XP.exit ?_  -- 4
          refine XP.regionS ?_; refine RP.o1 (.move rfl) rfl rfl ?_
          refine RP.o1 (.bin rfl rfl (by first | exact inc_is (by omega) | exact add_is (by omega) (by omega))) rfl rfl ?_
          refine RP.o1 (.assign rfl) rfl rfl ?_; refine RP.nil ?_
          exact ⟨rs.length - (i + 1), by omega, i + 1, _, b3, mo3, toT_less (.cons rfl (.cons rfl (.cons rfl (.cons rfl (.nil))))), rfl, by omega, by omega, KD, BY, hb3, hfa3, hmo3⟩
      · simp only [hp36]
        refine RP.skip ⟨_,_,_,rfl,rfl,rfl,rfl⟩ rfl ?_; refine RP.skip ⟨_,_,_,rfl,rfl,rfl,rfl⟩ rfl ?_; refine RP.skip ⟨_,_,_,rfl,rfl,rfl,rfl⟩ rfl ?_; refine RP.skip ⟨_,_,_,rfl,rfl,rfl,rfl⟩ rfl ?_; refine RP.skip ⟨_,_,_,rfl,rfl,rfl,rfl⟩ rfl ?_; refine RP.skip ⟨_,_,_,rfl,rfl,rfl,rfl⟩ rfl ?_; refine RP.skip ⟨_,_,_,rfl,rfl,rfl,rfl⟩ rfl ?_; refine RP.skip ⟨_,_,_,rfl,rfl,rfl,rfl⟩ rfl ?_; refine RP.skip ⟨_,_,_,rfl,rfl,rfl,rfl⟩ rfl ?_; refine RP.o1 (.pick (b := false) rfl rfl) rfl rfl ?_; refine RP.nil ?_
        refine XP.condS false rfl ?_  -- if t46
        refine XP.exit ?_  -- 4
        refine XP.regionS ?_; refine RP.o1 (.move rfl) rfl rfl ?_
        refine RP.o1 (.bin rfl rfl (by first | exact inc_is (by omega) | exact add_is (by omega) (by omega))) rfl rfl ?_
        refine RP.o1 (.assign rfl) rfl rfl ?_; refine RP.nil ?_
        exact ⟨rs.length - (i + 1), by omega, i + 1, _, b3, mo3, toT_less (.cons rfl (.cons rfl (.cons rfl (.cons rfl (.nil))))), rfl, by omega, by omega, KD, BY, hb3, hfa3, hmo3⟩
    · refine XP.exit ?_  -- 2
      refine ⟨_, ?_, mo, _, b2, toT_less (.cons rfl (.cons rfl (.cons rfl (.nil)))), rfl, KC, BY, hb2⟩
      rw [hc19]
      show 2 * falses b2 + mo.toNat < 2 * falses bs + 1
      cases mo with
      | true => have := hmo rfl; show 2 * falses b2 + 1 < _; omega
      | false => show 2 * falses b2 + 0 < _; omega
  · refine XP.exit ?_  -- 0
    refine XP.seq ?_; refine XP.regionS ?_; refine RP.o1 (.move rfl) rfl rfl ?_; refine RP.o1 (.assign rfl) rfl rfl ?_; refine RP.nil ?_
    exact XP.ret ⟨.inr rfl, _, _, oneRes rfl, K, M1.next, bs, rfl, hbl, BY⟩
end Go.Ev
end
section
namespace Go.Ev
set_option linter.all false
open Go.Proofs
set_option maxRecDepth 10000
set_option maxHeartbeats 4000000
theorem ElAt.stays {m m' : AMem} {b o : Nat} {cs : List AV} {D : Nat → Prop} (h : ElAt m b o cs) (k : Kp D m m') (hd : ¬ D b) : ElAt m' b o cs := by
  have e := k.old b h.lt hd
  obtain ⟨E, N, h1, h2⟩ := h.blk
  exact ⟨fun j hj => (AMem.cell_of e _).trans (h.at_ j hj), ⟨E, N, AMem.blk_of h1 e, h2⟩, Nat.lt_of_lt_of_le h.lt k.le⟩
theorem DP.storeK {P : Program} {S : Sums} {nt : Nat} {all : Array Oper} {dst : Option Tmp} {ty : TypeId} {pos : String} {af : Array Edge} {g : Option (Nat × Bool)} {l : List Oper} {a : Nat} {ms : List Nat} {j : Nat} {t0 : T AV} {σ : List (Nat × AV)} {m : AMem} {d : DSt} {Q : T AV → AMem → Prop}
    {ty' : TypeId} {p x : Operand} {b o k : Nat} {v : AV} {lc : List AV} {ag : Bool} {pend : List Pend} (ha : ev σ p = some (.ptr b o)) (hx : ev σ x = some v) (hl : layout P ty' = some (ag, k)) (hc : v.cells.length = k) (B : BoxIs m b lc) (hn : Nat.ble (o + k) lc.length = true) (hp : v.cells.all AV.plain = true)
    (hd : dstOk nt dst = true) (hg : WP all σ g true) (hh : subA d.hv a = true) (hal : subA d.als a = true)
    (hpk : ∀ m', Kp (fun c => c = b) m m' → ∀ (call : Call) (k : List Pend → Res), pendK P call a m' d.pend k = k pend)
    (kk : ∀ m', Kp (fun c => c = b) m m' → BoxIs m' b (setL lc o v.cells) → m'.next = m.next → DP P S nt all l ms (j + 1) t0 (putS dst .undef σ) m' ⟨d.als, 0, Nat.lor d.hv (Nat.shiftLeft 1 j), m', (j, d.base) :: d.st, pend⟩ Q) :
    DP P S nt all (⟨dst, .store ty' p x, ty, pos, af, g⟩ :: l) (a :: ms) j t0 σ m d Q := by
  have hn := Nat.le_of_ble_eq_true hn
  have K1 : Kp (fun c => c = b) m (m.write b o v.cells) := (Kp.refl m).write (.inr rfl)
  exact DP.heavy (.store ha hx hl hc B.own hn hp) hd rfl hg hh hal (by rw [AMem.write_next]; exact Nat.le_refl _) (hpk _ K1) (kk _ K1 (B.set (by rw [hc]; exact hn)) (AMem.write_next _ _ _ _))
theorem resCell {P : Program} {t0 : T AV} {σ : List (Nat × AV)} {m : AMem} {i : Nat} {ty : TypeId} {b k : Nat} {cs : List AV} (h : look σ i = some (.ptr b 0)) (hl : layout P ty = some (true, k)) (hk : cs.length = k) (E : ElAt m b 0 cs) : resultsA P [.cell i ty] (toT t0 σ) m (fun l => one l m) = .mk (.agg cs) m := by
  show evK (toT t0 σ) (.tmp i) (fun a => match aLoad P ty a m with | .mk v _ => resultsA P [] (toT t0 σ) m fun vs => one (v :: vs) m | .fail c => .fail c) = _
  rw [evK_eq, ev_is (x := .tmp i) h]
  have e : aLoad P ty (.ptr b 0) m = .mk (.agg cs) m := by
    show @Option.rec (Bool × Nat) (fun _ => OR) (.fail 37) (loadL m b 0) (layout P ty) = _
    rw [hl]
    show bif2 true (loadK m b 0 k fun l => .mk (.agg l) m) (load1 m b 0) = _
    obtain ⟨_, _, h1, h2⟩ := E.blk
    rw [bif2_eq, if_pos rfl, ← hk, loadK_is E.at_ h1 h2]
  rw [e]
  rfl
theorem build56 {x : Int} {m : AMem} : aBuild Tryz.prog 56 [(0, .int .i64 x)] m = .mk (.agg [.int .i64 x, .nils, .int .i64 (.ofNat 0), .int .i64 (.ofNat 0)]) m := by kernel_rfl
abbrev srC (a : Int) (rv : AV) (l s : Int) : List AV := [.int .i64 a, rv, .int .i64 l, .int .i64 s]
theorem call25 {S : Sums} (hS : Plain S [24, 25, 38]) {m : AMem} {vt vr vq : AV} {g : GrD} {s : SpV} {r : RuleD} {ns : List (List Nat)} (hg : GramIs m vt vr g) (hl : GSmall g) (hn : RowIs strC 1 m s.vn ns) (hnl : ns.length < 100000) (hq : RowIs strC 1 m vq r.right) (hrl : r.right.length < 100000) (hT : s.toks = g.toks.length) :
    ∃ u m', CallTo Tryz.prog S 25 [gramV vt g vr, s.v, .agg [.str r.left, vq, .str r.prec]] m u m' ∧ Kp Nothing m m' ∧ ∃ rv lv sa, u = .agg (srC (placeI ns r.left) rv lv sa) ∧ RowIs intC 1 m' rv (r.right.map (placeI ns)) ∧ (∀ b, Blk1 rv b → m.next ≤ b) := by
  have hS24 : Plain S [24] := fun f hf => hS f (by simp at hf ⊢; omega)
  have hS38 : Plain S [38] := fun f hf => hS f (by simp at hf ⊢; omega)
  have hlt := hl.t
  obtain ⟨i28, e28, s28⟩ := ei28
  refine XP.call (hS 25 (by decide)) cd25 nt25 ?_
  show XP _ _ _ _ (toT .leaf [(2, .agg [.str r.left, vq, .str r.prec]), (1, s.v), (0, gramV vt g vr)]) m _
  unfold Tryz.f25
  dsimp only [Option.getD_some]
  have K : Kp Nothing m m := .refl m
  refine XP.seq ?_; refine XP.regionS ?_
  have hk1 := K.le
  refine RP.box rfl rfl rfl rfl fun M1 K1 B3 N1 => ?_
  have K := K.trans K1
  have hk2 := K.le
  have lt3 := B3.lt
  refine RP.box rfl rfl rfl rfl fun M2 K2 B4 N2 => ?_
  have K := K.trans K2
  have B3 := B3.up K2
  have hk3 := K.le
  have lt3 := B3.lt
  have lt4 := B4.lt
  refine RP.box rfl rfl rfl rfl fun M3 K3 B5 N3 => ?_
  have K := K.trans K3
  have B3 := B3.up K3
  have B4 := B4.up K3
  have hk4 := K.le
  have lt3 := B3.lt
  have lt4 := B4.lt
  have lt5 := B5.lt
  refine RP.alloc z56 rfl rfl fun M4 K4 B6 N4 => ?_
  have K := K.trans K4
  have B3 := B3.up K4
  have B4 := B4.up K4
  have B5 := B5.up K4
  refine RP.nil ?_; refine XP.seq ?_
  have hg4 := hg.up K
  have hn4 := hn.up K
  have hq4 := hq.up K
  have hk4 := K.le
  have hc24 := call24 hS24 hn4 (s := r.left) (by omega)
  have K40 := K
  have B3o := B3
  have B4o := B4
  have B5o := B5
  have B6o := B6
  refine XP.regionS ?_; refine RP.o1 (.fieldAddr rfl fa31_4) rfl rfl ?_
  refine RP.o1 (.load1 rfl lay27 (by first | (apply BoxIs.get; assumption; rfl) | (apply ElAt.get; assumption; rfl) | (apply ElAt.get0; assumption; rfl) | assumption)) rfl rfl ?_
  refine RP.o1 (.fieldAddr rfl fa42_0) rfl rfl ?_
  refine RP.o1 (.load1 rfl lay9 (by first | (apply BoxIs.get; assumption; rfl) | (apply ElAt.get; assumption; rfl) | (apply ElAt.get0; assumption; rfl) | assumption)) rfl rfl ?_
  refine RP.o1 (.callS rfl rfl hc24) rfl rfl ?_; refine RP.o1 (.build rfl build56) rfl rfl ?_
  have hk5 := K.le
  have lt3 := B3.lt
  have lt4 := B4.lt
  have lt5 := B5.lt
  have lt6 := B6.lt
  refine RP.alloc z56 rfl rfl fun M5 K5 B7 N5 => ?_
  have K := K.trans K5
  have B3 := B3.up K5
  have B4 := B4.up K5
  have B5 := B5.up K5
  have B6 := B6.up K5
  refine RP.store rfl rfl lay56 rfl B7 rfl rfl rfl rfl fun M6 K6 B7 N6 => ?_
  have K := K.young K6 (by rintro _ rfl; omega)
  have B3 := B3.keep K6 (by first | exact Nat.ne_of_lt (by assumption) | exact Nat.ne_of_gt (by assumption) | (intro e; omega))
  have B4 := B4.keep K6 (by first | exact Nat.ne_of_lt (by assumption) | exact Nat.ne_of_gt (by assumption) | (intro e; omega))
  have B5 := B5.keep K6 (by first | exact Nat.ne_of_lt (by assumption) | exact Nat.ne_of_gt (by assumption) | (intro e; omega))
  have B6 := B6.keep K6 (by first | exact Nat.ne_of_lt (by assumption) | exact Nat.ne_of_gt (by assumption) | (intro e; omega))
  refine RP.nil ?_; refine XP.seq ?_
  have KQ0 : Kp Nothing M4 M6 := Kp.young (.refl _) (K5.any.trans K6) (by rintro _ rfl; exact Nat.le_refl _)
  refine XP.regionS ?_; refine RP.o1 (.assign rfl) rfl rfl ?_; refine RP.nil ?_; refine XP.seq ?_; refine XP.seq ?_; refine XP.regionS ?_; refine RP.o1 (.assign rfl) rfl rfl ?_; refine RP.nil ?_
  refine XP.block ?_  -- block 0
  refine XP.while (fun d t m1 => ∃ k t0 by_ rv, t = toT t0 [(9, .int .i64 (.ofNat k)), (8, .int .i64 by_), (7, .ptr M4.next 0), (6, .ptr M3.next 0), (5, .ptr M2.next 0), (4, .ptr M1.next 0), (3, .ptr m.next 0)] ∧ d = r.right.length - k ∧ k ≤ r.right.length ∧ Kp Nothing M4 m1 ∧ BoxIs m1 M4.next (srC (placeI ns r.left) rv 0 0) ∧ GrowIs intC 1 M5.next m1 rv ((r.right.take k).map (placeI ns)) ∧ by_ < g.toks.length) ?_ r.right.length _ _ ?_
  rotate_left
  · exact ⟨0, _, -1, .nils, toT_less (.cons rfl (.cons rfl (.cons rfl (.cons rfl (.cons rfl (.cons rfl (.cons rfl (.nil)))))))), rfl, Nat.zero_le _, KQ0, B7, .inl ⟨rfl, rfl⟩, by omega⟩
  rintro d t M7 ⟨k, t0, by_, rv, rfl, rfl, hkn, KQ, B7, G, hby⟩
  have K := K40.trans KQ
  have B3 := B3o.up KQ
  have B4 := B4o.up KQ
  have B5 := B5o.up KQ
  have B6 := B6o.up KQ
  have hgM := hg4.up KQ
  have hnM := hn4.up KQ
  have hqM := hq4.up KQ
  have hKQ := KQ.le
  have hrvp := G.row.plain
  have hB7l := B7.lt
  refine XP.seq ?_; refine XP.seq ?_; refine XP.regionS ?_; refine RP.o1 (.move rfl) rfl rfl ?_; refine RP.o1 (.fieldAddr rfl fa42_1) rfl rfl ?_
  refine RP.o1 (.load1 rfl lay27 (by first | (apply BoxIs.get; assumption; rfl) | (apply ElAt.get; assumption; rfl) | (apply ElAt.get0; assumption; rfl) | assumption)) rfl rfl ?_
  refine RP.o1 (.len rfl (rowLen27 hqM)) rfl rfl ?_; refine RP.o1 (.bin rfl rfl (by first | exact lss_nat | exact lss_is)) rfl rfl ?_; refine RP.nil ?_
  refine XP.condD rfl (fun hc21 => ?_) (fun hc21 => ?_)  -- if t21
  · refine XP.skip ?_; refine XP.seq ?_
    refine XP.block ?_  -- block 1
    refine XP.seq ?_
    obtain ⟨x, hx⟩ : ∃ x, r.right[k]? = some x := ⟨r.right[k]'hc21, List.getElem?_eq_getElem _⟩
    obtain ⟨b2, o2, c2, e6, _, E2⟩ := hqM.elem encStr (.refl _) hx
    have hB51 : BoxIs M7 M2.next [.str r.left, vq, .str r.prec] := B5
    rw [e6] at hB51
    have hcx := call24 hS24 hnM (s := x) (by omega)
    have htk : (r.right.take (k + 1)).map (placeI ns) = (r.right.take k).map (placeI ns) ++ [placeI ns x] := by
      obtain ⟨hi, he⟩ := List.getElem?_eq_some_iff.1 hx
      rw [List.take_succ_eq_append_getElem hi, he]; simp
    obtain ⟨u2, MU, ha, hmu, G2, KU, oldU, newU⟩ := append_one (x := placeI ns x) encI (by decide) e28 s28 ap28 G (by omega) (by simp; omega)
    have KUb : Kp (fun b => M5.next ≤ b) M7 MU := KU
    have B7r := B7
    have B7 := B7.keep KUb (by show ¬ M5.next ≤ M4.next; omega)
    have hu2 := G2.row.plain
    refine XP.drawnS (ms := [0, 1, 0, 4, 0, 28, 60, 127, 255]) (by kernel_rfl) ?_; refine DP.pure (.fieldAddr rfl fa31_4) rfl rfl rfl ?_
    refine DP.read (fun _ => op_load1 (ev_is rfl) lay27 (by first | (apply BoxIs.get; assumption; rfl) | (apply ElAt.get; assumption; rfl) | (apply ElAt.get0; assumption; rfl) | assumption)) rfl rfl rfl (fun _ => op_load_leaf) (.inl (by kernel_rfl)) (fun _ => cuts_nil) ?_
    refine DP.pure (.fieldAddr rfl fa42_1) rfl rfl rfl ?_; refine DP.read (fun _ => op_load1 (ev_is rfl) lay27 (hB51.get (j := 1) rfl)) rfl rfl rfl (fun _ => op_load_leaf) (.inl (by kernel_rfl)) (fun _ => cuts_nil) ?_; refine DP.pure (.move rfl) rfl rfl rfl ?_; refine DP.pure (.indexAddr rfl rfl ix27 (by assumption)) rfl rfl rfl ?_
    refine DP.read (fun _ => op_load1 (ev_is rfl) lay9 (by first | (apply BoxIs.get; assumption; rfl) | (apply ElAt.get; assumption; rfl) | (apply ElAt.get0; assumption; rfl) | assumption)) rfl rfl rfl (fun _ => op_load_leaf) (.inl (by kernel_rfl)) (fun _ => cuts_nil) ?_
    refine DP.heavy (.callS rfl rfl hcx) rfl rfl rfl (by kernel_rfl) (by kernel_rfl) (Nat.le_refl _) (pk_drop (by kernel_rfl) (pk_drop (by kernel_rfl) (pk_drop (by kernel_rfl) pk_nil))) ?_; refine DP.pure (.assign rfl) rfl rfl rfl ?_; refine DP.nil ?_; refine XP.seq ?_; refine XP.regionS ?_; refine RP.o1 (.fieldAddr rfl fa56_1) rfl rfl ?_; refine RP.o1 (.load1 rfl lay28 (B7r.get (j := 1) rfl)) rfl rfl ?_; refine RP.o1 (.move rfl) rfl rfl ?_; refine RP.op (.buildSlice rfl e28 (by rw [s28]; rfl) (by rw [s28]; exact fill28)) rfl rfl (Nat.le_succ _) ?_
    rw [s28]
    refine RP.op (OpTo.of fun _ => op_append rfl rfl ha) rfl rfl hmu ?_; refine RP.o1 (.fieldAddr rfl fa56_1) rfl rfl ?_; refine RP.storeP rfl rfl lay28 hu2 B7 rfl rfl rfl fun M8 K8 B7 N8 => ?_
    have B7 : BoxIs M8 M4.next (srC (placeI ns r.left) u2 0 0) := B7
    have KQ := (KQ.young KUb (fun b h => by have : M5.next ≤ b := h; omega)).young K8 (by rintro _ rfl; exact Nat.le_refl _)
    have G := G2.stays K8 (fun b hb e => by have := G2.low hb; omega)
    have B4 := B4o.up KQ
    refine RP.nil ?_; refine XP.seq ?_; refine XP.regionS ?_; refine RP.o1 (.move rfl) rfl rfl ?_; refine RP.o1 (.fieldAddr rfl fa31_0) rfl rfl ?_
    refine RP.o1 (.load1 rfl lay3 (by first | (apply BoxIs.get; assumption; rfl) | (apply ElAt.get; assumption; rfl) | (apply ElAt.get0; assumption; rfl) | assumption)) rfl rfl ?_
    refine RP.o1 (.bin rfl rfl (by first | exact lss_nat | exact lss_is)) rfl rfl ?_; refine RP.nil ?_
    refine XP.condD rfl (fun hc41 => ?_) (fun hc41 => ?_)  -- if t41
    · refine XP.regionS ?_; refine RP.o1 (.move rfl) rfl rfl ?_; refine RP.o1 (.assign rfl) rfl rfl ?_; refine RP.nil ?_; refine XP.regionS ?_; refine RP.o1 (.move rfl) rfl rfl ?_
      refine RP.o1 (.bin rfl rfl (by first | exact inc_is (by omega) | exact add_is (by omega) (by omega))) rfl rfl ?_
      refine RP.o1 (.assign rfl) rfl rfl ?_; refine RP.nil ?_
      first
      | exact ⟨r.right.length - (k + 1), by omega, k + 1, _, placeI ns x, u2, toT_less (.cons rfl (.cons rfl (.cons rfl (.cons rfl (.cons rfl (.cons rfl (.cons rfl (.nil)))))))), rfl, by omega, KQ, B7, by rw [htk]; exact G, by have h : placeI ns x < Int.ofNat s.toks := hc41; have e : (Int.ofNat s.toks : Int) = s.toks := rfl; omega⟩
      | exact ⟨r.right.length - (k + 1), by omega, k + 1, _, by_, u2, toT_less (.cons rfl (.cons rfl (.cons rfl (.cons rfl (.cons rfl (.cons rfl (.cons rfl (.nil)))))))), rfl, by omega, KQ, B7, by rw [htk]; exact G, hby⟩
    · refine XP.skip ?_; refine XP.regionS ?_; refine RP.o1 (.move rfl) rfl rfl ?_
      refine RP.o1 (.bin rfl rfl (by first | exact inc_is (by omega) | exact add_is (by omega) (by omega))) rfl rfl ?_
      refine RP.o1 (.assign rfl) rfl rfl ?_; refine RP.nil ?_
      first
      | exact ⟨r.right.length - (k + 1), by omega, k + 1, _, placeI ns x, u2, toT_less (.cons rfl (.cons rfl (.cons rfl (.cons rfl (.cons rfl (.cons rfl (.cons rfl (.nil)))))))), rfl, by omega, KQ, B7, by rw [htk]; exact G, by have h : placeI ns x < Int.ofNat s.toks := hc41; have e : (Int.ofNat s.toks : Int) = s.toks := rfl; omega⟩
      | exact ⟨r.right.length - (k + 1), by omega, k + 1, _, by_, u2, toT_less (.cons rfl (.cons rfl (.cons rfl (.cons rfl (.cons rfl (.cons rfl (.cons rfl (.nil)))))))), rfl, by omega, KQ, B7, by rw [htk]; exact G, hby⟩
  · refine XP.exit ?_  -- 0
    refine XP.seq ?_; refine XP.seq ?_
    obtain rfl : k = r.right.length := by omega
    rw [List.take_length] at G
    refine XP.regionS ?_; refine RP.o1 (.fieldAddr rfl fa42_2) rfl rfl ?_
    refine RP.o1 (.load1 rfl lay9 (by first | (apply BoxIs.get; assumption; rfl) | (apply ElAt.get; assumption; rfl) | (apply ElAt.get0; assumption; rfl) | assumption)) rfl rfl ?_
    refine RP.o1 (.bin rfl rfl neqS) rfl rfl ?_; refine RP.nil ?_
    refine XP.condN rfl (fun hc45 => ?_) (fun hc45 => ?_)  -- if t45
    · refine XP.skip ?_; refine XP.seq ?_; refine XP.seq ?_; refine XP.regionS ?_; refine RP.o1 (.move rfl) rfl rfl ?_; refine RP.o1 (.bin rfl rfl geq_is) rfl rfl ?_; refine RP.nil ?_
      refine XP.condN rfl (fun hc51 => ?_) (fun hc51 => ?_)  -- if t51
      · refine XP.skip ?_; refine XP.seq ?_; refine XP.regionS ?_; refine RP.o1 (.loadE rfl (B7.el) lay56 (by rfl)) rfl rfl ?_; refine RP.store rfl rfl lay56 rfl B6 rfl (by show (true && (rv.plain && (true && (true && true)))) = true; rw [hrvp]; rfl) rfl rfl fun MRET KRET B6 NRET => ?_
        refine RP.nil ?_
        have hz : M3.next ≠ M4.next := by have := B6o.lt; omega
        refine XP.ret ⟨.inr rfl, _, _, resCell rfl lay56 rfl B6.el, ?_, rv, _, _, rfl, (G.stays KRET (fun b hb e => by have := G.low hb; omega)).row, fun b hb => by have := G.low hb; omega⟩
        exact (K40.trans KQ).young KRET (by rintro _ rfl; omega)
      · obtain ⟨bn, hbn⟩ : ∃ bn : Nat, _ = Int.ofNat bn := ⟨_, (Int.toNat_of_nonneg (Int.not_lt.1 hc51)).symm⟩
        rw [hbn] at hby ⊢
        obtain ⟨tk, htk⟩ : ∃ tk, g.toks[bn]? = some tk := ⟨g.toks[bn]'(by have e : (Int.ofNat bn : Int) = bn := rfl; omega), List.getElem?_eq_getElem _⟩
        obtain ⟨bt, ot, ct, e7, hbt, ET⟩ := hgM.t.elem encTok (.refl _) htk
        have hB30 : BoxIs _ m.next [vt, .str g.start, .int .i64 g.expect, vr] := B3
        rw [e7] at hB30
        have htb : bt ≠ M4.next := by have := hg4.t.under (b := bt) ⟨_, _, _, e7⟩; omega
        have h3b : m.next ≠ M4.next := by have := B3o.lt; omega
        refine XP.drawnS (ms := [0, 1, 0, 7, 15, 31, 0, 64, 0, 448, 960, 1984, 63, 4159, 16383, 32767]) (by kernel_rfl) ?_; refine DP.pure (.fieldAddr rfl fa25_0) rfl rfl rfl ?_; refine DP.read (fun _ => op_load1 (ev_is rfl) lay22 (hB30.get (j := 0) rfl)) rfl rfl rfl (fun _ => op_load_leaf) (.inl (by kernel_rfl)) (fun _ => cuts_nil) ?_; refine DP.pure (.move rfl) rfl rfl rfl ?_; refine DP.pure (.indexAddr rfl rfl ix22 (by assumption)) rfl rfl rfl ?_; refine DP.pure (.fieldAddr rfl fa40_1) rfl rfl rfl ?_
        refine DP.read (fun _ => op_load1 (ev_is rfl) lay3 (by first | (apply BoxIs.get; assumption; rfl) | (apply ElAt.get; assumption; rfl) | (apply ElAt.get0; assumption; rfl) | assumption)) rfl rfl rfl (fun _ => op_load_leaf) (.inl (by kernel_rfl)) (fun _ => cuts_nil) ?_
        refine DP.pure (.fieldAddr rfl fa25_0) rfl rfl rfl ?_; refine DP.read (fun _ => op_load1 (ev_is rfl) lay22 (hB30.get (j := 0) rfl)) rfl rfl rfl (fun _ => op_load_leaf) (.inl (by kernel_rfl)) (fun _ => cuts_nil) ?_; refine DP.pure (.move rfl) rfl rfl rfl ?_; refine DP.pure (.indexAddr rfl rfl ix22 (by assumption)) rfl rfl rfl ?_; refine DP.pure (.fieldAddr rfl fa40_2) rfl rfl rfl ?_
        refine DP.read (fun _ => op_load1 (ev_is rfl) lay3 (by first | (apply BoxIs.get; assumption; rfl) | (apply ElAt.get; assumption; rfl) | (apply ElAt.get0; assumption; rfl) | assumption)) rfl rfl rfl (fun _ => op_load_leaf) (.inl (by kernel_rfl)) (fun _ => cuts_nil) ?_
        refine DP.pure (.fieldAddr rfl fa56_2) rfl rfl rfl ?_; refine DP.storeK rfl rfl lay3 rfl B7 rfl rfl rfl rfl (by kernel_rfl) (by kernel_rfl) (fun mq kq => pk_keep (by kernel_rfl) (fun call => reads_of (op_load1 (ev_is rfl) lay3 ((ET.stays kq htb).get (j := 2) rfl)) eqV_int) (pk_keep (by kernel_rfl) (fun call => reads_of (op_load1 (ev_is rfl) lay22 ((hB30.keep kq h3b).get (j := 0) rfl)) (e7 ▸ eqV_row hgM.t)) (pk_drop (by kernel_rfl) (pk_drop (by kernel_rfl) pk_nil)))) fun MX KX BX NX => ?_; refine DP.pure (.fieldAddr rfl fa56_3) rfl rfl rfl ?_; refine DP.storeK rfl rfl lay3 rfl BX rfl rfl rfl rfl (by kernel_rfl) (by kernel_rfl) (fun mq kq => pk_drop (by kernel_rfl) (pk_drop (by kernel_rfl) pk_nil)) fun MZ KZ BZ NZ => ?_
        have B7 : BoxIs MZ M4.next (srC (placeI ns r.left) rv tk.level tk.assoc) := BZ
        have KQ := (KQ.young KX (by rintro _ rfl; exact Nat.le_refl _)).young KZ (by rintro _ rfl; exact Nat.le_refl _)
        have G := (G.stays KX (fun b hb e => by have := G.low hb; omega)).stays KZ (fun b hb e => by have := G.low hb; omega)
        have B6 := B6o.up KQ
        refine DP.nil ?_; refine XP.seq ?_; refine XP.regionS ?_; refine RP.o1 (.loadE rfl (B7.el) lay56 (by rfl)) rfl rfl ?_; refine RP.store rfl rfl lay56 rfl B6 rfl (by show (true && (rv.plain && (true && (true && true)))) = true; rw [hrvp]; rfl) rfl rfl fun MRET KRET B6 NRET => ?_
        refine RP.nil ?_
        have hz : M3.next ≠ M4.next := by have := B6o.lt; omega
        refine XP.ret ⟨.inr rfl, _, _, resCell rfl lay56 rfl B6.el, ?_, rv, _, _, rfl, (G.stays KRET (fun b hb e => by have := G.low hb; omega)).row, fun b hb => by have := G.low hb; omega⟩
        exact (K40.trans KQ).young KRET (by rintro _ rfl; omega)
    · obtain ⟨w38, M38, hc38, rfl, K38⟩ := call38 hS38 hgM hl (s := r.prec)
      refine XP.regionS ?_; refine RP.o1 (.loadE rfl (by first | assumption | (apply BoxIs.el; assumption)) lay25 (by rfl)) rfl rfl ?_
      refine RP.o1 (.fieldAddr rfl fa42_2) rfl rfl ?_
      refine RP.o1 (.load1 rfl lay9 (by first | (apply BoxIs.get; assumption; rfl) | (apply ElAt.get; assumption; rfl) | (apply ElAt.get0; assumption; rfl) | assumption)) rfl rfl ?_
      refine RP.op (.callS rfl rfl hc38) rfl rfl K38.le ?_
      have hpm := (placeI_mem (l := g.toks.map (·.name)) (s := r.prec)).2.2
      have hby : placeI (g.toks.map (·.name)) r.prec < g.toks.length := by simpa using hpm
      have KQ := KQ.trans K38
      have B7 := B7.up K38
      have B3 := B3o.up KQ
      have B6 := B6o.up KQ
      have hgM := hg4.up KQ
      have G := G.up K38
      refine RP.o1 (.assign rfl) rfl rfl ?_; refine RP.nil ?_; refine XP.seq ?_; refine XP.seq ?_; refine XP.regionS ?_; refine RP.o1 (.move rfl) rfl rfl ?_; refine RP.o1 (.bin rfl rfl geq_is) rfl rfl ?_; refine RP.nil ?_
      refine XP.condN rfl (fun hc51 => ?_) (fun hc51 => ?_)  -- if t51
      · refine XP.skip ?_; refine XP.seq ?_; refine XP.regionS ?_; refine RP.o1 (.loadE rfl (B7.el) lay56 (by rfl)) rfl rfl ?_; refine RP.store rfl rfl lay56 rfl B6 rfl (by show (true && (rv.plain && (true && (true && true)))) = true; rw [hrvp]; rfl) rfl rfl fun MRET KRET B6 NRET => ?_
        refine RP.nil ?_
        have hz : M3.next ≠ M4.next := by have := B6o.lt; omega
        refine XP.ret ⟨.inr rfl, _, _, resCell rfl lay56 rfl B6.el, ?_, rv, _, _, rfl, (G.stays KRET (fun b hb e => by have := G.low hb; omega)).row, fun b hb => by have := G.low hb; omega⟩
        exact (K40.trans KQ).young KRET (by rintro _ rfl; omega)
      · obtain ⟨bn, hbn⟩ : ∃ bn : Nat, _ = Int.ofNat bn := ⟨_, (Int.toNat_of_nonneg (Int.not_lt.1 hc51)).symm⟩
        rw [hbn] at hby ⊢
        obtain ⟨tk, htk⟩ : ∃ tk, g.toks[bn]? = some tk := ⟨g.toks[bn]'(by have e : (Int.ofNat bn : Int) = bn := rfl; omega), List.getElem?_eq_getElem _⟩
        obtain ⟨bt, ot, ct, e7, hbt, ET⟩ := hgM.t.elem encTok (.refl _) htk
        have hB30 : BoxIs _ m.next [vt, .str g.start, .int .i64 g.expect, vr] := B3
        rw [e7] at hB30
        have htb : bt ≠ M4.next := by have := hg4.t.under (b := bt) ⟨_, _, _, e7⟩; omega
        have h3b : m.next ≠ M4.next := by have := B3o.lt; omega
        refine XP.drawnS (ms := [0, 1, 0, 7, 15, 31, 0, 64, 0, 448, 960, 1984, 63, 4159, 16383, 32767]) (by kernel_rfl) ?_; refine DP.pure (.fieldAddr rfl fa25_0) rfl rfl rfl ?_; refine DP.read (fun _ => op_load1 (ev_is rfl) lay22 (hB30.get (j := 0) rfl)) rfl rfl rfl (fun _ => op_load_leaf) (.inl (by kernel_rfl)) (fun _ => cuts_nil) ?_; refine DP.pure (.move rfl) rfl rfl rfl ?_; refine DP.pure (.indexAddr rfl rfl ix22 (by assumption)) rfl rfl rfl ?_; refine DP.pure (.fieldAddr rfl fa40_1) rfl rfl rfl ?_
        refine DP.read (fun _ => op_load1 (ev_is rfl) lay3 (by first | (apply BoxIs.get; assumption; rfl) | (apply ElAt.get; assumption; rfl) | (apply ElAt.get0; assumption; rfl) | assumption)) rfl rfl rfl (fun _ => op_load_leaf) (.inl (by kernel_rfl)) (fun _ => cuts_nil) ?_
        refine DP.pure (.fieldAddr rfl fa25_0) rfl rfl rfl ?_; refine DP.read (fun _ => op_load1 (ev_is rfl) lay22 (hB30.get (j := 0) rfl)) rfl rfl rfl (fun _ => op_load_leaf) (.inl (by kernel_rfl)) (fun _ => cuts_nil) ?_; refine DP.pure (.move rfl) rfl rfl rfl ?_; refine DP.pure (.indexAddr rfl rfl ix22 (by assumption)) rfl rfl rfl ?_; refine DP.pure (.fieldAddr rfl fa40_2) rfl rfl rfl ?_
        refine DP.read (fun _ => op_load1 (ev_is rfl) lay3 (by first | (apply BoxIs.get; assumption; rfl) | (apply ElAt.get; assumption; rfl) | (apply ElAt.get0; assumption; rfl) | assumption)) rfl rfl rfl (fun _ => op_load_leaf) (.inl (by kernel_rfl)) (fun _ => cuts_nil) ?_
        refine DP.pure (.fieldAddr rfl fa56_2) rfl rfl rfl ?_; refine DP.storeK rfl rfl lay3 rfl B7 rfl rfl rfl rfl (by kernel_rfl) (by kernel_rfl) (fun mq kq => pk_keep (by kernel_rfl) (fun call => reads_of (op_load1 (ev_is rfl) lay3 ((ET.stays kq htb).get (j := 2) rfl)) eqV_int) (pk_keep (by kernel_rfl) (fun call => reads_of (op_load1 (ev_is rfl) lay22 ((hB30.keep kq h3b).get (j := 0) rfl)) (e7 ▸ eqV_row hgM.t)) (pk_drop (by kernel_rfl) (pk_drop (by kernel_rfl) pk_nil)))) fun MX KX BX NX => ?_; refine DP.pure (.fieldAddr rfl fa56_3) rfl rfl rfl ?_; refine DP.storeK rfl rfl lay3 rfl BX rfl rfl rfl rfl (by kernel_rfl) (by kernel_rfl) (fun mq kq => pk_drop (by kernel_rfl) (pk_drop (by kernel_rfl) pk_nil)) fun MZ KZ BZ NZ => ?_
        have B7 : BoxIs MZ M4.next (srC (placeI ns r.left) rv tk.level tk.assoc) := BZ
        have KQ := (KQ.young KX (by rintro _ rfl; exact Nat.le_refl _)).young KZ (by rintro _ rfl; exact Nat.le_refl _)
        have G := (G.stays KX (fun b hb e => by have := G.low hb; omega)).stays KZ (fun b hb e => by have := G.low hb; omega)
        have B6 := B6o.up KQ
        refine DP.nil ?_; refine XP.seq ?_; refine XP.regionS ?_; refine RP.o1 (.loadE rfl (B7.el) lay56 (by rfl)) rfl rfl ?_; refine RP.store rfl rfl lay56 rfl B6 rfl (by show (true && (rv.plain && (true && (true && true)))) = true; rw [hrvp]; rfl) rfl rfl fun MRET KRET B6 NRET => ?_
        refine RP.nil ?_
        have hz : M3.next ≠ M4.next := by have := B6o.lt; omega
        refine XP.ret ⟨.inr rfl, _, _, resCell rfl lay56 rfl B6.el, ?_, rv, _, _, rfl, (G.stays KRET (fun b hb e => by have := G.low hb; omega)).row, fun b hb => by have := G.low hb; omega⟩
        exact (K40.trans KQ).young KRET (by rintro _ rfl; omega)
end Go.Ev
end
