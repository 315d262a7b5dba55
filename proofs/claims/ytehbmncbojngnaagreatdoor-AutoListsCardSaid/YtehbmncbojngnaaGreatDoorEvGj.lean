/- The document's put. The document's next. The document's Closure. The document's find. What stands in memory while the document makes its states. -/
import Derived.Test.YtehbmncbojngnaaGreatDoorEvGi
section
namespace Go.Ev
set_option linter.all false
open Go.Proofs
set_option maxRecDepth 10000
set_option maxHeartbeats 2000000
theorem call41 {S : Sums} (hS : Plain S [41, 58]) {m : AMem} {v : AV} {xs : List (Int × Int)} (hv : RowG itC 2 m v xs) (hx : xs.length < 1000000) (x : Int × Int) :
    ∃ u m', CallTo Tryz.prog S 41 [v, itV x] m u m' ∧ Kp Nothing m m' ∧ RowG itC 2 m' u (Lr.put xs x) ∧ (∀ b, Blk1 u b → m.next ≤ b ∨ u = v) := by
  have hS58 : Plain S [58] := fun f hf => hS f (by simp at hf ⊢; omega)
  obtain ⟨i46, e46, s46⟩ := ei46
  obtain ⟨j54, hi54, siz54⟩ := inf54
  have hv00 := hv
  have hvu : ∀ b, Blk1 v b → b < m.next := fun b h => hv.row.under h
  refine XP.call (hS 41 (by decide)) cd41 nt41 ?_
  show XP _ _ _ _ (toT .leaf [(1, itV x), (0, v)]) m _
  unfold Tryz.f41
  dsimp only [Option.getD_some]
  have K : Kp Nothing m m := .refl m
  refine XP.seq ?_; refine XP.regionS ?_
  have hk1 := K.le
  refine RP.box rfl rfl rfl rfl fun M1 K1 B3 N1 => ?_
  have K := K.trans K1
  have hv := hv.up K1
  have B3 : BoxIs M1 m.next (itC x) := B3
  have B3o := B3
  have hv0 := hv
  have hKb := K.le
  refine RP.o1 (.assign rfl) rfl rfl ?_; refine RP.nil ?_; refine XP.seq ?_; refine XP.regionS ?_; refine RP.o1 (.assign rfl) rfl rfl ?_; refine RP.nil ?_; refine XP.seq ?_
  refine XP.block ?_  -- block 0
  refine XP.while (fun d t m1 => ∃ i t0, t = toT t0 [(5, .int .i64 (.ofNat i)), (3, .ptr m.next 0), (0, v)] ∧ d = xs.length - i ∧ i ≤ xs.length ∧ Kp Nothing M1 m1 ∧ ∀ k y, k < i → xs[k]? = some y → Lr.lt y x) ?_ xs.length _ _ ?_
  rotate_left
  · exact ⟨0, _, toT_less (.cons rfl (.cons rfl (.cons rfl (.nil)))), rfl, Nat.zero_le _, .refl _, fun k y hk => absurd hk (Nat.not_lt_zero _)⟩
  rintro d t M2 ⟨i, t0, rfl, rfl, hin, KQ, hlow⟩
  have K := K1.trans KQ
  have B3 := B3o.up KQ
  have hv := hv0.up KQ
  refine XP.seq ?_; refine XP.seq ?_; refine XP.drawnS (ms := [0, 0, 2, 7, 15, 31, 31, 127, 255, 31, 1023, 2047]) (by kernel_rfl) ?_; refine DP.pure (.move rfl) rfl rfl rfl ?_; refine DP.pure (.move rfl) rfl rfl rfl ?_; refine DP.pure (.len rfl (rowLen hv.row)) rfl rfl rfl ?_; refine DP.pure (.bin rfl rfl (by first | exact lss_nat | exact lss_is)) rfl rfl rfl ?_; refine DP.pure (.move rfl) rfl rfl rfl ?_
  rcases Decidable.em (i < xs.length) with hp11 | hp11
  · simp only [decide_eq_true hp11]
    refine DP.pure (.move rfl) rfl rfl ⟨_,_,_,rfl,rfl,rfl,rfl⟩ ?_
    obtain ⟨y, hy⟩ : ∃ y, xs[i]? = some y := ⟨xs[i]'hp11, List.getElem?_eq_getElem _⟩
    obtain ⟨b, o, c, rfl, _, E1⟩ := hv.row.elem encIt (.refl _) hy
    obtain ⟨rb, M5, hc58, rfl, K5⟩ := call58 hS58 y x (m := M2)
    refine DP.pure (.move rfl) rfl rfl ⟨_,_,_,rfl,rfl,rfl,rfl⟩ ?_; refine DP.pure (.indexAddr rfl rfl ix46 (by assumption)) rfl rfl ⟨_,_,_,rfl,rfl,rfl,rfl⟩ ?_; refine DP.read (fun _ => op_loadE rfl (by first | assumption | (apply BoxIs.el; assumption)) lay54 (by rfl)) rfl rfl ⟨_,_,_,rfl,rfl,rfl,rfl⟩ (fun _ => op_load_leaf) (.inl (by kernel_rfl)) (fun _ => cuts_nil) ?_
    refine DP.read (fun _ => op_loadE rfl (by first | assumption | (apply BoxIs.el; assumption)) lay54 (by rfl)) rfl rfl ⟨_,_,_,rfl,rfl,rfl,rfl⟩ (fun _ => op_load_leaf) (.inl (by kernel_rfl)) (fun _ => cuts_nil) ?_
    refine DP.heavy (.callS rfl rfl hc58) rfl rfl ⟨_,_,_,rfl,rfl,rfl,rfl⟩ (by kernel_rfl) (by kernel_rfl) K5.le (pk_drop (by kernel_rfl) (pk_drop (by kernel_rfl) pk_nil)) ?_
    have K := K.trans K5
    have KQ := KQ.trans K5
    have B3 := B3.up K5
    have hv := hv.up K5
    refine DP.pure (.pick (b := true) rfl rfl) rfl rfl rfl ?_; refine DP.nil ?_
    refine XP.condD rfl (fun hc18 => ?_) (fun hc18 => ?_)  -- if t18
    · refine XP.skip ?_
      refine XP.block ?_  -- block 1
      refine XP.regionS ?_; refine RP.o1 (.move rfl) rfl rfl ?_
      refine RP.o1 (.bin rfl rfl (by first | exact inc_is (by omega) | exact add_is (by omega) (by omega))) rfl rfl ?_
      refine RP.o1 (.assign rfl) rfl rfl ?_; refine RP.nil ?_
      refine ⟨xs.length - (i + 1), by omega, i + 1, _, toT_less (.cons rfl (.cons rfl (.cons rfl (.nil)))), rfl, by omega, KQ, fun k z hk hz => ?_⟩
      rcases Nat.lt_or_ge k i with h | h
      · exact hlow k z h hz
      · obtain rfl : k = i := by omega
        rw [hy] at hz; cases hz; exact hc18
    · refine XP.exit ?_  -- 0
      refine XP.seq ?_; refine XP.seq ?_
      have hstop : ∀ z, xs[i]? = some z → ¬ Lr.lt z x := by
        intro z hz
        first
        | (rw [hy] at hz; cases hz; exact hc18)
        | (exact absurd (List.getElem?_eq_some_iff.1 hz).1 hp11)
      have hput := put_cut hlow hstop (by omega)
      have hm5 := K.le
      refine XP.drawnS (ms := [0, 0, 2, 7, 15, 31, 31, 127, 255, 511, 31, 1055, 4095, 8191, 16383, 32767, 32767, 131071, 262143, 524287, 32767, 1081343, 4194303, 8388607]) (by kernel_rfl) ?_; refine DP.pure (.move rfl) rfl rfl rfl ?_; refine DP.pure (.move rfl) rfl rfl rfl ?_; refine DP.pure (.len rfl (rowLen hv.row)) rfl rfl rfl ?_; refine DP.pure (.bin rfl rfl (by first | exact lss_nat | exact lss_is)) rfl rfl rfl ?_; refine DP.pure (.move rfl) rfl rfl rfl ?_
      rcases Decidable.em (i < xs.length) with hp25 | hp25
      · simp only [decide_eq_true hp25]
        refine DP.pure (.move rfl) rfl rfl ⟨_,_,_,rfl,rfl,rfl,rfl⟩ ?_
        obtain ⟨y, hy⟩ : ∃ y, xs[i]? = some y := ⟨xs[i]'hp25, List.getElem?_eq_getElem _⟩
        obtain ⟨b, o, c, e1, _, E1⟩ := hv.row.elem encIt (.refl _) hy
        first | subst e1 | (injection e1 with q1 q2 q3 q4; subst q1; subst q2; subst q4)
        refine DP.pure (.move rfl) rfl rfl ⟨_,_,_,rfl,rfl,rfl,rfl⟩ ?_; refine DP.pure (.indexAddr rfl rfl ix46 (by assumption)) rfl rfl ⟨_,_,_,rfl,rfl,rfl,rfl⟩ ?_; refine DP.pure (.fieldAddr rfl fa54_0) rfl rfl ⟨_,_,_,rfl,rfl,rfl,rfl⟩ ?_
        refine DP.read (fun _ => op_load1 (ev_is rfl) lay3 (by first | (apply BoxIs.get; assumption; rfl) | (apply ElAt.get; assumption; rfl) | (apply ElAt.get0; assumption; rfl) | assumption)) rfl rfl ⟨_,_,_,rfl,rfl,rfl,rfl⟩ (fun _ => op_load_leaf) (.inl (by kernel_rfl)) (fun _ => cuts_nil) ?_
        refine DP.pure (.fieldAddr rfl fa54_0) rfl rfl ⟨_,_,_,rfl,rfl,rfl,rfl⟩ ?_
        refine DP.read (fun _ => op_load1 (ev_is rfl) lay3 (by first | (apply BoxIs.get; assumption; rfl) | (apply ElAt.get; assumption; rfl) | (apply ElAt.get0; assumption; rfl) | assumption)) rfl rfl ⟨_,_,_,rfl,rfl,rfl,rfl⟩ (fun _ => op_load_leaf) (.inl (by kernel_rfl)) (fun _ => cuts_nil) ?_
        refine DP.pure (.bin rfl rfl eql_is) rfl rfl ⟨_,_,_,rfl,rfl,rfl,rfl⟩ ?_; refine DP.pure (.pick (b := true) rfl rfl) rfl rfl rfl ?_; refine DP.pure (.move rfl) rfl rfl rfl ?_
        rcases Decidable.em (y.1 = x.1) with hp35 | hp35
        · simp only [decide_eq_true hp35]
          refine DP.pure (.move rfl) rfl rfl ⟨_,_,_,rfl,rfl,rfl,rfl⟩ ?_; refine DP.pure (.move rfl) rfl rfl ⟨_,_,_,rfl,rfl,rfl,rfl⟩ ?_; refine DP.pure (.indexAddr rfl rfl ix46 (by assumption)) rfl rfl ⟨_,_,_,rfl,rfl,rfl,rfl⟩ ?_; refine DP.pure (.fieldAddr rfl fa54_1) rfl rfl ⟨_,_,_,rfl,rfl,rfl,rfl⟩ ?_
          refine DP.read (fun _ => op_load1 (ev_is rfl) lay3 (by first | (apply BoxIs.get; assumption; rfl) | (apply ElAt.get; assumption; rfl) | (apply ElAt.get0; assumption; rfl) | assumption)) rfl rfl ⟨_,_,_,rfl,rfl,rfl,rfl⟩ (fun _ => op_load_leaf) (.inl (by kernel_rfl)) (fun _ => cuts_nil) ?_
          refine DP.pure (.fieldAddr rfl fa54_1) rfl rfl ⟨_,_,_,rfl,rfl,rfl,rfl⟩ ?_
          refine DP.read (fun _ => op_load1 (ev_is rfl) lay3 (by first | (apply BoxIs.get; assumption; rfl) | (apply ElAt.get; assumption; rfl) | (apply ElAt.get0; assumption; rfl) | assumption)) rfl rfl ⟨_,_,_,rfl,rfl,rfl,rfl⟩ (fun _ => op_load_leaf) (.inl (by kernel_rfl)) (fun _ => cuts_nil) ?_
          refine DP.pure (.bin rfl rfl eql_is) rfl rfl ⟨_,_,_,rfl,rfl,rfl,rfl⟩ ?_; refine DP.pure (.pick (b := true) rfl rfl) rfl rfl rfl ?_; refine DP.nil ?_
          refine XP.condD rfl (fun hc44 => ?_) (fun hc44 => ?_)  -- if t44
          · refine XP.seq ?_
            rw [if_pos (by rw [hy, Prod.ext hp35 hc44])] at hput
            refine XP.regionS ?_; refine RP.o1 (.move rfl) rfl rfl ?_; refine RP.o1 (.assign rfl) rfl rfl ?_; refine RP.nil ?_
            first
            | exact XP.ret ⟨.inr rfl, _, _, oneRes rfl, K, by rw [hput]; exact hv, fun _ _ => .inr rfl⟩
            | exact XP.ret ⟨.inr rfl, _, _, oneRes rfl, K7m.young K8 (fun b h => by obtain ⟨o, n, c, e⟩ := h; have := new7 b o n c e; have := K6m.le; omega), by rw [hput]; exact G3.cut, fun b h => .inl (G3.low h)⟩
          · refine XP.skip ?_; refine XP.seq ?_
            have hne : xs[i]? ≠ some x := by
              intro e
              first
              | (rw [hy] at e; cases e; exact hc44 rfl)
              | (rw [hy] at e; cases e; exact hp35 rfl)
              | (exact hp25 (List.getElem?_eq_some_iff.1 e).1)
            rw [if_neg hne] at hput
            obtain ⟨w1, hsl, hw1⟩ := cut_to (k := .i64) (P := Tryz.prog) und46 hi54 siz54 hv hin
            obtain ⟨u1, N1', ha1, hm1, G1, K6, new6⟩ := append_rows (lo := m.next) (xs := ([] : List (Int × Int))) (v := .nils) encIt (by decide) e46 s46 ap46 (.inl ⟨rfl, rfl⟩) hw1 hm5 (by simp) (by simp; omega)
            rw [List.nil_append] at G1
            have K6 : Kp Nothing _ N1' := K6.mono fun b _ h => by obtain ⟨_, _, _, e⟩ := h; cases e
            have B3 := B3.up K6
            have hv := hv.up K6
            have hle := K6.le
            obtain ⟨u2, N2', ha2, hm2, G2, K7, old7, new7⟩ := append_one (x := x) encIt (by decide) e46 s46 ap46 G1 (by omega) (by simp; omega)
            have K6m := K.trans K6
            have K7m : Kp Nothing m N2' := K6m.young K7 (fun _ h => h)
            have hv2 := hv00.up K7m
            have hsame : ∀ b, b < m.next → N2'.t.get b = N1'.t.get b := fun b hb => by rw [K7m.old b hb id, K6m.old b hb id]
            refine XP.regionS ?_; refine RP.o1 (.move rfl) rfl rfl ?_; refine RP.o1 (.move rfl) rfl rfl ?_; refine RP.o1 (OpTo.of fun _ => op_slice rfl rfl (map_some rfl) rfl (hsl _)) rfl rfl ?_; refine RP.op (OpTo.of fun _ => op_append rfl rfl ha1) rfl rfl hm1 ?_; refine RP.o1 (.assign rfl) rfl rfl ?_; refine RP.nil ?_; refine XP.seq ?_; refine XP.drawnS (ms := [0, 0, 2, 7, 0, 0, 48, 127, 255]) (by kernel_rfl) ?_; refine DP.pure (.move rfl) rfl rfl rfl ?_; refine DP.read (fun _ => op_loadE rfl (by first | assumption | (apply BoxIs.el; assumption)) lay54 (by rfl)) rfl rfl rfl (fun _ => op_load_leaf) (.inl (by kernel_rfl)) (fun _ => cuts_nil) ?_
            refine DP.make (.buildSlice rfl e46 (by rw [s46]; rfl) (by rw [s46]; exact fill46 (x := x))) rfl rfl rfl ?_
            rw [s46]
            refine DP.heavy (OpTo.of fun _ => op_append rfl rfl ha2) rfl rfl rfl (by kernel_rfl) (by kernel_rfl) hm2 (pk_drop (by kernel_rfl) pk_nil) ?_; refine DP.pure (.move rfl) rfl rfl rfl ?_; refine DP.pure (.move rfl) rfl rfl rfl ?_; refine DP.cutFrom und46 hi54 siz54 rfl rfl hv2 hin rfl rfl (by kernel_rfl) (fun q hq b hb => by simp only [List.mem_singleton] at hq; subst hq; exact (hsame b (hvu b hb)).symm) fun w2 pd hw2 hpd => ?_
            obtain ⟨u3, N3', ha3, hm3, G3, K8, new8⟩ := append_rows (lo := m.next) encIt (by decide) e46 s46 ap46 G2 hw2 (by have := K7m.le; omega) (by simp; omega) (by simp; omega)
            refine DP.heavy (pend := []) (OpTo.of fun _ => op_append rfl rfl ha3) rfl rfl rfl (by kernel_rfl) (by kernel_rfl) hm3 (by rcases hpd with rfl | ⟨p, hp, rfl⟩; exact pk_nil; exact pk_drop (by rw [hp]; kernel_rfl) pk_nil) ?_
            refine DP.pure (.assign rfl) rfl rfl rfl ?_; refine DP.nil ?_
            first
            | exact XP.ret ⟨.inr rfl, _, _, oneRes rfl, K, by rw [hput]; exact hv, fun _ _ => .inr rfl⟩
            | exact XP.ret ⟨.inr rfl, _, _, oneRes rfl, K7m.young K8 (fun b h => by obtain ⟨o, n, c, e⟩ := h; have := new7 b o n c e; have := K6m.le; omega), by rw [hput]; exact G3.cut, fun b h => .inl (G3.low h)⟩
        · simp only [decide_eq_false hp35]
          refine DP.skip ⟨_,_,_,rfl,rfl,rfl,rfl⟩ rfl ?_; refine DP.skip ⟨_,_,_,rfl,rfl,rfl,rfl⟩ rfl ?_; refine DP.skip ⟨_,_,_,rfl,rfl,rfl,rfl⟩ rfl ?_; refine DP.skip ⟨_,_,_,rfl,rfl,rfl,rfl⟩ rfl ?_; refine DP.skip ⟨_,_,_,rfl,rfl,rfl,rfl⟩ rfl ?_; refine DP.skip ⟨_,_,_,rfl,rfl,rfl,rfl⟩ rfl ?_; refine DP.skip ⟨_,_,_,rfl,rfl,rfl,rfl⟩ rfl ?_; refine DP.skip ⟨_,_,_,rfl,rfl,rfl,rfl⟩ rfl ?_; refine DP.pure (.pick (b := false) rfl rfl) rfl rfl rfl ?_; refine DP.nil ?_
          refine XP.condS false rfl ?_  -- if t44
          refine XP.skip ?_; refine XP.seq ?_
          have hne : xs[i]? ≠ some x := by
            intro e
            first
            | (rw [hy] at e; cases e; exact hc44 rfl)
            | (rw [hy] at e; cases e; exact hp35 rfl)
            | (exact hp25 (List.getElem?_eq_some_iff.1 e).1)
          rw [if_neg hne] at hput
          obtain ⟨w1, hsl, hw1⟩ := cut_to (k := .i64) (P := Tryz.prog) und46 hi54 siz54 hv hin
          obtain ⟨u1, N1', ha1, hm1, G1, K6, new6⟩ := append_rows (lo := m.next) (xs := ([] : List (Int × Int))) (v := .nils) encIt (by decide) e46 s46 ap46 (.inl ⟨rfl, rfl⟩) hw1 hm5 (by simp) (by simp; omega)
          rw [List.nil_append] at G1
          have K6 : Kp Nothing _ N1' := K6.mono fun b _ h => by obtain ⟨_, _, _, e⟩ := h; cases e
          have B3 := B3.up K6
          have hv := hv.up K6
          have hle := K6.le
          obtain ⟨u2, N2', ha2, hm2, G2, K7, old7, new7⟩ := append_one (x := x) encIt (by decide) e46 s46 ap46 G1 (by omega) (by simp; omega)
          have K6m := K.trans K6
          have K7m : Kp Nothing m N2' := K6m.young K7 (fun _ h => h)
          have hv2 := hv00.up K7m
          have hsame : ∀ b, b < m.next → N2'.t.get b = N1'.t.get b := fun b hb => by rw [K7m.old b hb id, K6m.old b hb id]
          refine XP.regionS ?_; refine RP.o1 (.move rfl) rfl rfl ?_; refine RP.o1 (.move rfl) rfl rfl ?_; refine RP.o1 (OpTo.of fun _ => op_slice rfl rfl (map_some rfl) rfl (hsl _)) rfl rfl ?_; refine RP.op (OpTo.of fun _ => op_append rfl rfl ha1) rfl rfl hm1 ?_; refine RP.o1 (.assign rfl) rfl rfl ?_; refine RP.nil ?_; refine XP.seq ?_; refine XP.drawnS (ms := [0, 0, 2, 7, 0, 0, 48, 127, 255]) (by kernel_rfl) ?_; refine DP.pure (.move rfl) rfl rfl rfl ?_; refine DP.read (fun _ => op_loadE rfl (by first | assumption | (apply BoxIs.el; assumption)) lay54 (by rfl)) rfl rfl rfl (fun _ => op_load_leaf) (.inl (by kernel_rfl)) (fun _ => cuts_nil) ?_
          refine DP.make (.buildSlice rfl e46 (by rw [s46]; rfl) (by rw [s46]; exact fill46 (x := x))) rfl rfl rfl ?_
          rw [s46]
          refine DP.heavy (OpTo.of fun _ => op_append rfl rfl ha2) rfl rfl rfl (by kernel_rfl) (by kernel_rfl) hm2 (pk_drop (by kernel_rfl) pk_nil) ?_; refine DP.pure (.move rfl) rfl rfl rfl ?_; refine DP.pure (.move rfl) rfl rfl rfl ?_; refine DP.cutFrom und46 hi54 siz54 rfl rfl hv2 hin rfl rfl (by kernel_rfl) (fun q hq b hb => by simp only [List.mem_singleton] at hq; subst hq; exact (hsame b (hvu b hb)).symm) fun w2 pd hw2 hpd => ?_
          obtain ⟨u3, N3', ha3, hm3, G3, K8, new8⟩ := append_rows (lo := m.next) encIt (by decide) e46 s46 ap46 G2 hw2 (by have := K7m.le; omega) (by simp; omega) (by simp; omega)
          refine DP.heavy (pend := []) (OpTo.of fun _ => op_append rfl rfl ha3) rfl rfl rfl (by kernel_rfl) (by kernel_rfl) hm3 (by rcases hpd with rfl | ⟨p, hp, rfl⟩; exact pk_nil; exact pk_drop (by rw [hp]; kernel_rfl) pk_nil) ?_
          refine DP.pure (.assign rfl) rfl rfl rfl ?_; refine DP.nil ?_
          first
          | exact XP.ret ⟨.inr rfl, _, _, oneRes rfl, K, by rw [hput]; exact hv, fun _ _ => .inr rfl⟩
          | exact XP.ret ⟨.inr rfl, _, _, oneRes rfl, K7m.young K8 (fun b h => by obtain ⟨o, n, c, e⟩ := h; have := new7 b o n c e; have := K6m.le; omega), by rw [hput]; exact G3.cut, fun b h => .inl (G3.low h)⟩
      · simp only [decide_eq_false hp25]
        refine DP.skip ⟨_,_,_,rfl,rfl,rfl,rfl⟩ rfl ?_; refine DP.skip ⟨_,_,_,rfl,rfl,rfl,rfl⟩ rfl ?_; refine DP.skip ⟨_,_,_,rfl,rfl,rfl,rfl⟩ rfl ?_; refine DP.skip ⟨_,_,_,rfl,rfl,rfl,rfl⟩ rfl ?_; refine DP.skip ⟨_,_,_,rfl,rfl,rfl,rfl⟩ rfl ?_; refine DP.skip ⟨_,_,_,rfl,rfl,rfl,rfl⟩ rfl ?_; refine DP.skip ⟨_,_,_,rfl,rfl,rfl,rfl⟩ rfl ?_; refine DP.skip ⟨_,_,_,rfl,rfl,rfl,rfl⟩ rfl ?_; refine DP.pure (.pick (b := false) rfl rfl) rfl rfl rfl ?_; refine DP.pure (.move rfl) rfl rfl rfl ?_; refine DP.skip ⟨_,_,_,rfl,rfl,rfl,rfl⟩ rfl ?_; refine DP.skip ⟨_,_,_,rfl,rfl,rfl,rfl⟩ rfl ?_; refine DP.skip ⟨_,_,_,rfl,rfl,rfl,rfl⟩ rfl ?_; refine DP.skip ⟨_,_,_,rfl,rfl,rfl,rfl⟩ rfl ?_; refine DP.skip ⟨_,_,_,rfl,rfl,rfl,rfl⟩ rfl ?_; refine DP.skip ⟨_,_,_,rfl,rfl,rfl,rfl⟩ rfl ?_; refine DP.skip ⟨_,_,_,rfl,rfl,rfl,rfl⟩ rfl ?_; refine DP.skip ⟨_,_,_,rfl,rfl,rfl,rfl⟩ rfl ?_; refine DP.pure (.pick (b := false) rfl rfl) rfl rfl rfl ?_; refine DP.nil ?_
        refine XP.condS false rfl ?_  -- if t44
        refine XP.skip ?_; refine XP.seq ?_
        have hne : xs[i]? ≠ some x := by
          intro e
          first
          | (rw [hy] at e; cases e; exact hc44 rfl)
          | (rw [hy] at e; cases e; exact hp35 rfl)
          | (exact hp25 (List.getElem?_eq_some_iff.1 e).1)
        rw [if_neg hne] at hput
        obtain ⟨w1, hsl, hw1⟩ := cut_to (k := .i64) (P := Tryz.prog) und46 hi54 siz54 hv hin
        obtain ⟨u1, N1', ha1, hm1, G1, K6, new6⟩ := append_rows (lo := m.next) (xs := ([] : List (Int × Int))) (v := .nils) encIt (by decide) e46 s46 ap46 (.inl ⟨rfl, rfl⟩) hw1 hm5 (by simp) (by simp; omega)
        rw [List.nil_append] at G1
        have K6 : Kp Nothing _ N1' := K6.mono fun b _ h => by obtain ⟨_, _, _, e⟩ := h; cases e
        have B3 := B3.up K6
        have hv := hv.up K6
        have hle := K6.le
        obtain ⟨u2, N2', ha2, hm2, G2, K7, old7, new7⟩ := append_one (x := x) encIt (by decide) e46 s46 ap46 G1 (by omega) (by simp; omega)
        have K6m := K.trans K6
        have K7m : Kp Nothing m N2' := K6m.young K7 (fun _ h => h)
        have hv2 := hv00.up K7m
        have hsame : ∀ b, b < m.next → N2'.t.get b = N1'.t.get b := fun b hb => by rw [K7m.old b hb id, K6m.old b hb id]
        refine XP.regionS ?_; refine RP.o1 (.move rfl) rfl rfl ?_; refine RP.o1 (.move rfl) rfl rfl ?_; refine RP.o1 (OpTo.of fun _ => op_slice rfl rfl (map_some rfl) rfl (hsl _)) rfl rfl ?_; refine RP.op (OpTo.of fun _ => op_append rfl rfl ha1) rfl rfl hm1 ?_; refine RP.o1 (.assign rfl) rfl rfl ?_; refine RP.nil ?_; refine XP.seq ?_; refine XP.drawnS (ms := [0, 0, 2, 7, 0, 0, 48, 127, 255]) (by kernel_rfl) ?_; refine DP.pure (.move rfl) rfl rfl rfl ?_; refine DP.read (fun _ => op_loadE rfl (by first | assumption | (apply BoxIs.el; assumption)) lay54 (by rfl)) rfl rfl rfl (fun _ => op_load_leaf) (.inl (by kernel_rfl)) (fun _ => cuts_nil) ?_
        refine DP.make (.buildSlice rfl e46 (by rw [s46]; rfl) (by rw [s46]; exact fill46 (x := x))) rfl rfl rfl ?_
        rw [s46]
        refine DP.heavy (OpTo.of fun _ => op_append rfl rfl ha2) rfl rfl rfl (by kernel_rfl) (by kernel_rfl) hm2 (pk_drop (by kernel_rfl) pk_nil) ?_; refine DP.pure (.move rfl) rfl rfl rfl ?_; refine DP.pure (.move rfl) rfl rfl rfl ?_; refine DP.cutFrom und46 hi54 siz54 rfl rfl hv2 hin rfl rfl (by kernel_rfl) (fun q hq b hb => by simp only [List.mem_singleton] at hq; subst hq; exact (hsame b (hvu b hb)).symm) fun w2 pd hw2 hpd => ?_
        obtain ⟨u3, N3', ha3, hm3, G3, K8, new8⟩ := append_rows (lo := m.next) encIt (by decide) e46 s46 ap46 G2 hw2 (by have := K7m.le; omega) (by simp; omega) (by simp; omega)
        refine DP.heavy (pend := []) (OpTo.of fun _ => op_append rfl rfl ha3) rfl rfl rfl (by kernel_rfl) (by kernel_rfl) hm3 (by rcases hpd with rfl | ⟨p, hp, rfl⟩; exact pk_nil; exact pk_drop (by rw [hp]; kernel_rfl) pk_nil) ?_
        refine DP.pure (.assign rfl) rfl rfl rfl ?_; refine DP.nil ?_
        first
        | exact XP.ret ⟨.inr rfl, _, _, oneRes rfl, K, by rw [hput]; exact hv, fun _ _ => .inr rfl⟩
        | exact XP.ret ⟨.inr rfl, _, _, oneRes rfl, K7m.young K8 (fun b h => by obtain ⟨o, n, c, e⟩ := h; have := new7 b o n c e; have := K6m.le; omega), by rw [hput]; exact G3.cut, fun b h => .inl (G3.low h)⟩
  · simp only [decide_eq_false hp11]
    refine DP.skip ⟨_,_,_,rfl,rfl,rfl,rfl⟩ rfl ?_; refine DP.skip ⟨_,_,_,rfl,rfl,rfl,rfl⟩ rfl ?_; refine DP.skip ⟨_,_,_,rfl,rfl,rfl,rfl⟩ rfl ?_; refine DP.skip ⟨_,_,_,rfl,rfl,rfl,rfl⟩ rfl ?_; refine DP.skip ⟨_,_,_,rfl,rfl,rfl,rfl⟩ rfl ?_; refine DP.skip ⟨_,_,_,rfl,rfl,rfl,rfl⟩ rfl ?_; refine DP.pure (.pick (b := false) rfl rfl) rfl rfl rfl ?_; refine DP.nil ?_
    refine XP.condS false rfl ?_  -- if t18
    refine XP.exit ?_  -- 0
    refine XP.seq ?_; refine XP.seq ?_
    have hstop : ∀ z, xs[i]? = some z → ¬ Lr.lt z x := by
      intro z hz
      first
      | (rw [hy] at hz; cases hz; exact hc18)
      | (exact absurd (List.getElem?_eq_some_iff.1 hz).1 hp11)
    have hput := put_cut hlow hstop (by omega)
    have hm5 := K.le
    refine XP.drawnS (ms := [0, 0, 2, 7, 15, 31, 31, 127, 255, 511, 31, 1055, 4095, 8191, 16383, 32767, 32767, 131071, 262143, 524287, 32767, 1081343, 4194303, 8388607]) (by kernel_rfl) ?_; refine DP.pure (.move rfl) rfl rfl rfl ?_; refine DP.pure (.move rfl) rfl rfl rfl ?_; refine DP.pure (.len rfl (rowLen hv.row)) rfl rfl rfl ?_; refine DP.pure (.bin rfl rfl (by first | exact lss_nat | exact lss_is)) rfl rfl rfl ?_; refine DP.pure (.move rfl) rfl rfl rfl ?_
    rcases Decidable.em (i < xs.length) with hp25 | hp25
    · simp only [decide_eq_true hp25]
      refine DP.pure (.move rfl) rfl rfl ⟨_,_,_,rfl,rfl,rfl,rfl⟩ ?_
      obtain ⟨y, hy⟩ : ∃ y, xs[i]? = some y := ⟨xs[i]'hp25, List.getElem?_eq_getElem _⟩
      obtain ⟨b, o, c, e1, _, E1⟩ := hv.row.elem encIt (.refl _) hy
      first | subst e1 | (injection e1 with q1 q2 q3 q4; subst q1; subst q2; subst q4)
      refine DP.pure (.move rfl) rfl rfl ⟨_,_,_,rfl,rfl,rfl,rfl⟩ ?_; refine DP.pure (.indexAddr rfl rfl ix46 (by assumption)) rfl rfl ⟨_,_,_,rfl,rfl,rfl,rfl⟩ ?_; refine DP.pure (.fieldAddr rfl fa54_0) rfl rfl ⟨_,_,_,rfl,rfl,rfl,rfl⟩ ?_
      refine DP.read (fun _ => op_load1 (ev_is rfl) lay3 (by first | (apply BoxIs.get; assumption; rfl) | (apply ElAt.get; assumption; rfl) | (apply ElAt.get0; assumption; rfl) | assumption)) rfl rfl ⟨_,_,_,rfl,rfl,rfl,rfl⟩ (fun _ => op_load_leaf) (.inl (by kernel_rfl)) (fun _ => cuts_nil) ?_
      refine DP.pure (.fieldAddr rfl fa54_0) rfl rfl ⟨_,_,_,rfl,rfl,rfl,rfl⟩ ?_
      refine DP.read (fun _ => op_load1 (ev_is rfl) lay3 (by first | (apply BoxIs.get; assumption; rfl) | (apply ElAt.get; assumption; rfl) | (apply ElAt.get0; assumption; rfl) | assumption)) rfl rfl ⟨_,_,_,rfl,rfl,rfl,rfl⟩ (fun _ => op_load_leaf) (.inl (by kernel_rfl)) (fun _ => cuts_nil) ?_
      refine DP.pure (.bin rfl rfl eql_is) rfl rfl ⟨_,_,_,rfl,rfl,rfl,rfl⟩ ?_; refine DP.pure (.pick (b := true) rfl rfl) rfl rfl rfl ?_; refine DP.pure (.move rfl) rfl rfl rfl ?_
      rcases Decidable.em (y.1 = x.1) with hp35 | hp35
      · simp only [decide_eq_true hp35]
        refine DP.pure (.move rfl) rfl rfl ⟨_,_,_,rfl,rfl,rfl,rfl⟩ ?_; refine DP.pure (.move rfl) rfl rfl ⟨_,_,_,rfl,rfl,rfl,rfl⟩ ?_; refine DP.pure (.indexAddr rfl rfl ix46 (by assumption)) rfl rfl ⟨_,_,_,rfl,rfl,rfl,rfl⟩ ?_; refine DP.pure (.fieldAddr rfl fa54_1) rfl rfl ⟨_,_,_,rfl,rfl,rfl,rfl⟩ ?_
        refine DP.read (fun _ => op_load1 (ev_is rfl) lay3 (by first | (apply BoxIs.get; assumption; rfl) | (apply ElAt.get; assumption; rfl) | (apply ElAt.get0; assumption; rfl) | assumption)) rfl rfl ⟨_,_,_,rfl,rfl,rfl,rfl⟩ (fun _ => op_load_leaf) (.inl (by kernel_rfl)) (fun _ => cuts_nil) ?_
        refine DP.pure (.fieldAddr rfl fa54_1) rfl rfl ⟨_,_,_,rfl,rfl,rfl,rfl⟩ ?_
        refine DP.read (fun _ => op_load1 (ev_is rfl) lay3 (by first | (apply BoxIs.get; assumption; rfl) | (apply ElAt.get; assumption; rfl) | (apply ElAt.get0; assumption; rfl) | assumption)) rfl rfl ⟨_,_,_,rfl,rfl,rfl,rfl⟩ (fun _ => op_load_leaf) (.inl (by kernel_rfl)) (fun _ => cuts_nil) ?_
        refine DP.pure (.bin rfl rfl eql_is) rfl rfl ⟨_,_,_,rfl,rfl,rfl,rfl⟩ ?_; refine DP.pure (.pick (b := true) rfl rfl) rfl rfl rfl ?_; refine DP.nil ?_
        refine XP.condD rfl (fun hc44 => ?_) (fun hc44 => ?_)  -- if t44
        · refine XP.seq ?_
          rw [if_pos (by rw [hy, Prod.ext hp35 hc44])] at hput
          refine XP.regionS ?_; refine RP.o1 (.move rfl) rfl rfl ?_; refine RP.o1 (.assign rfl) rfl rfl ?_; refine RP.nil ?_
          first
          | exact XP.ret ⟨.inr rfl, _, _, oneRes rfl, K, by rw [hput]; exact hv, fun _ _ => .inr rfl⟩
          | exact XP.ret ⟨.inr rfl, _, _, oneRes rfl, K7m.young K8 (fun b h => by obtain ⟨o, n, c, e⟩ := h; have := new7 b o n c e; have := K6m.le; omega), by rw [hput]; exact G3.cut, fun b h => .inl (G3.low h)⟩
        · refine XP.skip ?_; refine XP.seq ?_
          have hne : xs[i]? ≠ some x := by
            intro e
            first
            | (rw [hy] at e; cases e; exact hc44 rfl)
            | (rw [hy] at e; cases e; exact hp35 rfl)
            | (exact hp25 (List.getElem?_eq_some_iff.1 e).1)
          rw [if_neg hne] at hput
          obtain ⟨w1, hsl, hw1⟩ := cut_to (k := .i64) (P := Tryz.prog) und46 hi54 siz54 hv hin
          obtain ⟨u1, N1', ha1, hm1, G1, K6, new6⟩ := append_rows (lo := m.next) (xs := ([] : List (Int × Int))) (v := .nils) encIt (by decide) e46 s46 ap46 (.inl ⟨rfl, rfl⟩) hw1 hm5 (by simp) (by simp; omega)
          rw [List.nil_append] at G1
          have K6 : Kp Nothing _ N1' := K6.mono fun b _ h => by obtain ⟨_, _, _, e⟩ := h; cases e
          have B3 := B3.up K6
          have hv := hv.up K6
          have hle := K6.le
          obtain ⟨u2, N2', ha2, hm2, G2, K7, old7, new7⟩ := append_one (x := x) encIt (by decide) e46 s46 ap46 G1 (by omega) (by simp; omega)
          have K6m := K.trans K6
          have K7m : Kp Nothing m N2' := K6m.young K7 (fun _ h => h)
          have hv2 := hv00.up K7m
          have hsame : ∀ b, b < m.next → N2'.t.get b = N1'.t.get b := fun b hb => by rw [K7m.old b hb id, K6m.old b hb id]
          refine XP.regionS ?_; refine RP.o1 (.move rfl) rfl rfl ?_; refine RP.o1 (.move rfl) rfl rfl ?_; refine RP.o1 (OpTo.of fun _ => op_slice rfl rfl (map_some rfl) rfl (hsl _)) rfl rfl ?_; refine RP.op (OpTo.of fun _ => op_append rfl rfl ha1) rfl rfl hm1 ?_; refine RP.o1 (.assign rfl) rfl rfl ?_; refine RP.nil ?_; refine XP.seq ?_; refine XP.drawnS (ms := [0, 0, 2, 7, 0, 0, 48, 127, 255]) (by kernel_rfl) ?_; refine DP.pure (.move rfl) rfl rfl rfl ?_; refine DP.read (fun _ => op_loadE rfl (by first | assumption | (apply BoxIs.el; assumption)) lay54 (by rfl)) rfl rfl rfl (fun _ => op_load_leaf) (.inl (by kernel_rfl)) (fun _ => cuts_nil) ?_
          refine DP.make (.buildSlice rfl e46 (by rw [s46]; rfl) (by rw [s46]; exact fill46 (x := x))) rfl rfl rfl ?_
          rw [s46]
          refine DP.heavy (OpTo.of fun _ => op_append rfl rfl ha2) rfl rfl rfl (by kernel_rfl) (by kernel_rfl) hm2 (pk_drop (by kernel_rfl) pk_nil) ?_; refine DP.pure (.move rfl) rfl rfl rfl ?_; refine DP.pure (.move rfl) rfl rfl rfl ?_; refine DP.cutFrom und46 hi54 siz54 rfl rfl hv2 hin rfl rfl (by kernel_rfl) (fun q hq b hb => by simp only [List.mem_singleton] at hq; subst hq; exact (hsame b (hvu b hb)).symm) fun w2 pd hw2 hpd => ?_
          obtain ⟨u3, N3', ha3, hm3, G3, K8, new8⟩ := append_rows (lo := m.next) encIt (by decide) e46 s46 ap46 G2 hw2 (by have := K7m.le; omega) (by simp; omega) (by simp; omega)
          refine DP.heavy (pend := []) (OpTo.of fun _ => op_append rfl rfl ha3) rfl rfl rfl (by kernel_rfl) (by kernel_rfl) hm3 (by rcases hpd with rfl | ⟨p, hp, rfl⟩; exact pk_nil; exact pk_drop (by rw [hp]; kernel_rfl) pk_nil) ?_
          refine DP.pure (.assign rfl) rfl rfl rfl ?_; refine DP.nil ?_
          first
          | exact XP.ret ⟨.inr rfl, _, _, oneRes rfl, K, by rw [hput]; exact hv, fun _ _ => .inr rfl⟩
          | exact XP.ret ⟨.inr rfl, _, _, oneRes rfl, K7m.young K8 (fun b h => by obtain ⟨o, n, c, e⟩ := h; have := new7 b o n c e; have := K6m.le; omega), by rw [hput]; exact G3.cut, fun b h => .inl (G3.low h)⟩
      · simp only [decide_eq_false hp35]
        refine DP.skip ⟨_,_,_,rfl,rfl,rfl,rfl⟩ rfl ?_; refine DP.skip ⟨_,_,_,rfl,rfl,rfl,rfl⟩ rfl ?_; refine DP.skip ⟨_,_,_,rfl,rfl,rfl,rfl⟩ rfl ?_; refine DP.skip ⟨_,_,_,rfl,rfl,rfl,rfl⟩ rfl ?_; refine DP.skip ⟨_,_,_,rfl,rfl,rfl,rfl⟩ rfl ?_; refine DP.skip ⟨_,_,_,rfl,rfl,rfl,rfl⟩ rfl ?_; refine DP.skip ⟨_,_,_,rfl,rfl,rfl,rfl⟩ rfl ?_; refine DP.skip ⟨_,_,_,rfl,rfl,rfl,rfl⟩ rfl ?_; refine DP.pure (.pick (b := false) rfl rfl) rfl rfl rfl ?_; refine DP.nil ?_
        refine XP.condS false rfl ?_  -- if t44
        refine XP.skip ?_; refine XP.seq ?_
        have hne : xs[i]? ≠ some x := by
          intro e
          first
          | (rw [hy] at e; cases e; exact hc44 rfl)
          | (rw [hy] at e; cases e; exact hp35 rfl)
          | (exact hp25 (List.getElem?_eq_some_iff.1 e).1)
        rw [if_neg hne] at hput
        obtain ⟨w1, hsl, hw1⟩ := cut_to (k := .i64) (P := Tryz.prog) und46 hi54 siz54 hv hin
        obtain ⟨u1, N1', ha1, hm1, G1, K6, new6⟩ := append_rows (lo := m.next) (xs := ([] : List (Int × Int))) (v := .nils) encIt (by decide) e46 s46 ap46 (.inl ⟨rfl, rfl⟩) hw1 hm5 (by simp) (by simp; omega)
        rw [List.nil_append] at G1
        have K6 : Kp Nothing _ N1' := K6.mono fun b _ h => by obtain ⟨_, _, _, e⟩ := h; cases e
        have B3 := B3.up K6
        have hv := hv.up K6
        have hle := K6.le
        obtain ⟨u2, N2', ha2, hm2, G2, K7, old7, new7⟩ := append_one (x := x) encIt (by decide) e46 s46 ap46 G1 (by omega) (by simp; omega)
        have K6m := K.trans K6
        have K7m : Kp Nothing m N2' := K6m.young K7 (fun _ h => h)
        have hv2 := hv00.up K7m
        have hsame : ∀ b, b < m.next → N2'.t.get b = N1'.t.get b := fun b hb => by rw [K7m.old b hb id, K6m.old b hb id]
        refine XP.regionS ?_; refine RP.o1 (.move rfl) rfl rfl ?_; refine RP.o1 (.move rfl) rfl rfl ?_; refine RP.o1 (OpTo.of fun _ => op_slice rfl rfl (map_some rfl) rfl (hsl _)) rfl rfl ?_; refine RP.op (OpTo.of fun _ => op_append rfl rfl ha1) rfl rfl hm1 ?_; refine RP.o1 (.assign rfl) rfl rfl ?_; refine RP.nil ?_; refine XP.seq ?_; refine XP.drawnS (ms := [0, 0, 2, 7, 0, 0, 48, 127, 255]) (by kernel_rfl) ?_; refine DP.pure (.move rfl) rfl rfl rfl ?_; refine DP.read (fun _ => op_loadE rfl (by first | assumption | (apply BoxIs.el; assumption)) lay54 (by rfl)) rfl rfl rfl (fun _ => op_load_leaf) (.inl (by kernel_rfl)) (fun _ => cuts_nil) ?_
        refine DP.make (.buildSlice rfl e46 (by rw [s46]; rfl) (by rw [s46]; exact fill46 (x := x))) rfl rfl rfl ?_
        rw [s46]
        refine DP.heavy (OpTo.of fun _ => op_append rfl rfl ha2) rfl rfl rfl (by kernel_rfl) (by kernel_rfl) hm2 (pk_drop (by kernel_rfl) pk_nil) ?_; refine DP.pure (.move rfl) rfl rfl rfl ?_; refine DP.pure (.move rfl) rfl rfl rfl ?_; refine DP.cutFrom und46 hi54 siz54 rfl rfl hv2 hin rfl rfl (by kernel_rfl) (fun q hq b hb => by simp only [List.mem_singleton] at hq; subst hq; exact (hsame b (hvu b hb)).symm) fun w2 pd hw2 hpd => ?_
        obtain ⟨u3, N3', ha3, hm3, G3, K8, new8⟩ := append_rows (lo := m.next) encIt (by decide) e46 s46 ap46 G2 hw2 (by have := K7m.le; omega) (by simp; omega) (by simp; omega)
        refine DP.heavy (pend := []) (OpTo.of fun _ => op_append rfl rfl ha3) rfl rfl rfl (by kernel_rfl) (by kernel_rfl) hm3 (by rcases hpd with rfl | ⟨p, hp, rfl⟩; exact pk_nil; exact pk_drop (by rw [hp]; kernel_rfl) pk_nil) ?_
        refine DP.pure (.assign rfl) rfl rfl rfl ?_; refine DP.nil ?_
        first
        | exact XP.ret ⟨.inr rfl, _, _, oneRes rfl, K, by rw [hput]; exact hv, fun _ _ => .inr rfl⟩
        | exact XP.ret ⟨.inr rfl, _, _, oneRes rfl, K7m.young K8 (fun b h => by obtain ⟨o, n, c, e⟩ := h; have := new7 b o n c e; have := K6m.le; omega), by rw [hput]; exact G3.cut, fun b h => .inl (G3.low h)⟩
    · simp only [decide_eq_false hp25]
      refine DP.skip ⟨_,_,_,rfl,rfl,rfl,rfl⟩ rfl ?_; refine DP.skip ⟨_,_,_,rfl,rfl,rfl,rfl⟩ rfl ?_; refine DP.skip ⟨_,_,_,rfl,rfl,rfl,rfl⟩ rfl ?_; refine DP.skip ⟨_,_,_,rfl,rfl,rfl,rfl⟩ rfl ?_; refine DP.skip ⟨_,_,_,rfl,rfl,rfl,rfl⟩ rfl ?_; refine DP.skip ⟨_,_,_,rfl,rfl,rfl,rfl⟩ rfl ?_; refine DP.skip ⟨_,_,_,rfl,rfl,rfl,rfl⟩ rfl ?_; refine DP.skip ⟨_,_,_,rfl,rfl,rfl,rfl⟩ rfl ?_; refine DP.pure (.pick (b := false) rfl rfl) rfl rfl rfl ?_; refine DP.pure (.move rfl) rfl rfl rfl ?_; refine DP.skip ⟨_,_,_,rfl,rfl,rfl,rfl⟩ rfl ?_; refine DP.skip ⟨_,_,_,rfl,rfl,rfl,rfl⟩ rfl ?_; refine DP.skip ⟨_,_,_,rfl,rfl,rfl,rfl⟩ rfl ?_; refine DP.skip ⟨_,_,_,rfl,rfl,rfl,rfl⟩ rfl ?_; refine DP.skip ⟨_,_,_,rfl,rfl,rfl,rfl⟩ rfl ?_; refine DP.skip ⟨_,_,_,rfl,rfl,rfl,rfl⟩ rfl ?_; refine DP.skip ⟨_,_,_,rfl,rfl,rfl,rfl⟩ rfl ?_; refine DP.skip ⟨_,_,_,rfl,rfl,rfl,rfl⟩ rfl ?_; refine DP.pure (.pick (b := false) rfl rfl) rfl rfl rfl ?_; refine DP.nil ?_
      refine XP.condS false rfl ?_  -- if t44
      refine XP.skip ?_; refine XP.seq ?_
      have hne : xs[i]? ≠ some x := by
        intro e
        first
        | (rw [hy] at e; cases e; exact hc44 rfl)
        | (rw [hy] at e; cases e; exact hp35 rfl)
        | (exact hp25 (List.getElem?_eq_some_iff.1 e).1)
      rw [if_neg hne] at hput
      obtain ⟨w1, hsl, hw1⟩ := cut_to (k := .i64) (P := Tryz.prog) und46 hi54 siz54 hv hin
      obtain ⟨u1, N1', ha1, hm1, G1, K6, new6⟩ := append_rows (lo := m.next) (xs := ([] : List (Int × Int))) (v := .nils) encIt (by decide) e46 s46 ap46 (.inl ⟨rfl, rfl⟩) hw1 hm5 (by simp) (by simp; omega)
      rw [List.nil_append] at G1
      have K6 : Kp Nothing _ N1' := K6.mono fun b _ h => by obtain ⟨_, _, _, e⟩ := h; cases e
      have B3 := B3.up K6
      have hv := hv.up K6
      have hle := K6.le
      obtain ⟨u2, N2', ha2, hm2, G2, K7, old7, new7⟩ := append_one (x := x) encIt (by decide) e46 s46 ap46 G1 (by omega) (by simp; omega)
      have K6m := K.trans K6
      have K7m : Kp Nothing m N2' := K6m.young K7 (fun _ h => h)
      have hv2 := hv00.up K7m
      have hsame : ∀ b, b < m.next → N2'.t.get b = N1'.t.get b := fun b hb => by rw [K7m.old b hb id, K6m.old b hb id]
      refine XP.regionS ?_; refine RP.o1 (.move rfl) rfl rfl ?_; refine RP.o1 (.move rfl) rfl rfl ?_; refine RP.o1 (OpTo.of fun _ => op_slice rfl rfl (map_some rfl) rfl (hsl _)) rfl rfl ?_; refine RP.op (OpTo.of fun _ => op_append rfl rfl ha1) rfl rfl hm1 ?_; refine RP.o1 (.assign rfl) rfl rfl ?_; refine RP.nil ?_; refine XP.seq ?_; refine XP.drawnS (ms := [0, 0, 2, 7, 0, 0, 48, 127, 255]) (by kernel_rfl) ?_; refine DP.pure (.move rfl) rfl rfl rfl ?_; refine DP.read (fun _ => op_loadE rfl (by first | assumption | (apply BoxIs.el; assumption)) lay54 (by rfl)) rfl rfl rfl (fun _ => op_load_leaf) (.inl (by kernel_rfl)) (fun _ => cuts_nil) ?_
      refine DP.make (.buildSlice rfl e46 (by rw [s46]; rfl) (by rw [s46]; exact fill46 (x := x))) rfl rfl rfl ?_
      rw [s46]
      refine DP.heavy (OpTo.of fun _ => op_append rfl rfl ha2) rfl rfl rfl (by kernel_rfl) (by kernel_rfl) hm2 (pk_drop (by kernel_rfl) pk_nil) ?_; refine DP.pure (.move rfl) rfl rfl rfl ?_; refine DP.pure (.move rfl) rfl rfl rfl ?_; refine DP.cutFrom und46 hi54 siz54 rfl rfl hv2 hin rfl rfl (by kernel_rfl) (fun q hq b hb => by simp only [List.mem_singleton] at hq; subst hq; exact (hsame b (hvu b hb)).symm) fun w2 pd hw2 hpd => ?_
      obtain ⟨u3, N3', ha3, hm3, G3, K8, new8⟩ := append_rows (lo := m.next) encIt (by decide) e46 s46 ap46 G2 hw2 (by have := K7m.le; omega) (by simp; omega) (by simp; omega)
      refine DP.heavy (pend := []) (OpTo.of fun _ => op_append rfl rfl ha3) rfl rfl rfl (by kernel_rfl) (by kernel_rfl) hm3 (by rcases hpd with rfl | ⟨p, hp, rfl⟩; exact pk_nil; exact pk_drop (by rw [hp]; kernel_rfl) pk_nil) ?_
      refine DP.pure (.assign rfl) rfl rfl rfl ?_; refine DP.nil ?_
      first
      | exact XP.ret ⟨.inr rfl, _, _, oneRes rfl, K, by rw [hput]; exact hv, fun _ _ => .inr rfl⟩
      | exact XP.ret ⟨.inr rfl, _, _, oneRes rfl, K7m.young K8 (fun b h => by obtain ⟨o, n, c, e⟩ := h; have := new7 b o n c e; have := K6m.le; omega), by rw [hput]; exact G3.cut, fun b h => .inl (G3.low h)⟩
end Go.Ev
end
section
namespace Go.Ev
set_option linter.all false
open Go.Proofs
set_option maxRecDepth 10000
set_option maxHeartbeats 2000000
theorem putAll_snoc (s l : List (Int × Int)) (x : Int × Int) : putAll s (l ++ [x]) = Lr.put (putAll s l) x := by simp [putAll]
theorem putAll_self {l : List (Int × Int)} (h : Lr.Srt l) : putAll [] l = l := Lr.srt_ext (putAll_srt List.Pairwise.nil) h fun x => by simp [putAll_mem]
theorem call39 {S : Sums} (hS : Plain S [39, 41, 58]) {m : AMem} {toks nts start expect sym : Int} {vn vl va vr v : AV} {rs : List Rl} {xs : List (Int × Int)} (hr : RulesIs m vr rs) (hv : RowIs itC 2 m v xs) (hx : xs.length < 100000) (hi : ItemsOf rs xs) (hd : ∀ r ∈ rs, r.right.length < 100000) :
    ∃ u m', CallTo Tryz.prog S 39 [specV toks nts start expect vn vl va vr, v, .int .i64 sym] m u m' ∧ Kp Nothing m m' ∧ RowG itC 2 m' u (putAll [] (behindF rs sym xs)) ∧ (∀ b, Blk1 u b → m.next ≤ b) := by
  have hS41 : Plain S [41, 58] := fun f hf => hS f (by simp at hf ⊢; omega)
  refine XP.call (hS 39 (by decide)) cd39 nt39 ?_
  show XP _ _ _ _ (toT .leaf [(2, .int .i64 sym), (1, v), (0, specV toks nts start expect vn vl va vr)]) m _
  unfold Tryz.f39
  dsimp only [Option.getD_some]
  have K : Kp Nothing m m := .refl m
  refine XP.seq ?_; refine XP.regionS ?_
  have hk1 := K.le
  refine RP.box rfl rfl rfl rfl fun M1 K1 B3 N1 => ?_
  have K := K.trans K1
  have B3o := B3
  have hr0 := hr.up K1
  have hv0 := hv.up K1
  refine RP.o1 (.assign rfl) rfl rfl ?_; refine RP.nil ?_; refine XP.seq ?_; refine XP.regionS ?_; refine RP.o1 (.assign rfl) rfl rfl ?_; refine RP.nil ?_; refine XP.seq ?_; refine XP.seq ?_; refine XP.regionS ?_; refine RP.o1 (.assign rfl) rfl rfl ?_; refine RP.nil ?_
  refine XP.block ?_  -- block 0
  refine XP.while (fun d t m1 => ∃ i t0 u, t = toT t0 [(8, .int .i64 (.ofNat i)), (7, u), (3, .ptr m.next 0), (2, .int .i64 sym), (1, v)] ∧ d = xs.length - i ∧ i ≤ xs.length ∧ Kp Nothing M1 m1 ∧ RowG itC 2 m1 u (putAll [] (behindF rs sym (xs.take i))) ∧ (∀ b, Blk1 u b → m.next ≤ b)) ?_ xs.length _ _ ?_
  rotate_left
  · exact ⟨0, _, .nils, toT_less (.cons rfl (.cons rfl (.cons rfl (.cons rfl (.cons rfl (.nil)))))), rfl, Nat.zero_le _, .refl _, .inl ⟨rfl, rfl⟩, fun b h => by obtain ⟨_, _, _, e⟩ := h; cases e⟩
  rintro d t M2 ⟨i, t0, u, rfl, rfl, hin, KQ, hu, fu⟩
  have K := K1.trans KQ
  have B3 := B3o.up KQ
  refine XP.seq ?_; refine XP.seq ?_; refine XP.regionS ?_; refine RP.o1 (.move rfl) rfl rfl ?_; refine RP.o1 (.move rfl) rfl rfl ?_; refine RP.o1 (.len rfl (rowLen hv0)) rfl rfl ?_; refine RP.o1 (.bin rfl rfl (by first | exact lss_nat | exact lss_is)) rfl rfl ?_; refine RP.nil ?_
  refine XP.condD rfl (fun hc13 => ?_) (fun hc13 => ?_)  -- if t13
  · refine XP.skip ?_; refine XP.seq ?_
    refine XP.block ?_  -- block 1
    refine XP.seq ?_
    obtain ⟨x, hx1⟩ : ∃ x, xs[i]? = some x := ⟨xs[i]'hc13, List.getElem?_eq_getElem _⟩
    obtain ⟨r, dd, q, rfl, hq, hdd⟩ := hi x (List.mem_of_getElem? hx1)
    obtain ⟨bl, ol, cl, rfl, hli, E1⟩ := hv0.elem encIt KQ hx1
    obtain ⟨br, or_, cr, vq, rfl, hri, E2, RQ, hpl⟩ := hr0.elem KQ hq
    have hdq := hd q (List.mem_of_getElem? hq)
    have hsym : symAt rs (Int.ofNat r, Int.ofNat dd) = q.right[dd]? := by
      show (rs[(Int.ofNat r).toNat]?).bind _ = _
      rw [show (Int.ofNat r).toNat = r from rfl, hq]; rfl
    have hnext := behindF_take rs sym xs i _ hx1
    rw [hsym] at hnext
    have hblen := putAll_length (behindF rs sym (xs.take i)) []
    have hblen2 := behindF_length rs sym (xs.take i)
    simp only [List.length_take, List.length_nil] at hblen hblen2
    refine XP.drawnS (ms := [0, 1, 0, 0, 12, 28, 60, 127, 255, 0, 1023]) (by kernel_rfl) ?_; refine DP.pure (.fieldAddr rfl fa31_7) rfl rfl rfl ?_
    refine DP.read (fun _ => op_load1 (ev_is rfl) lay29 (by first | (apply BoxIs.get; assumption; rfl) | (apply ElAt.get; assumption; rfl) | (apply ElAt.get0; assumption; rfl) | assumption)) rfl rfl rfl (fun _ => op_load_leaf) (.inl (by kernel_rfl)) (fun _ => cuts_nil) ?_
    refine DP.pure (.move rfl) rfl rfl rfl ?_; refine DP.pure (.move rfl) rfl rfl rfl ?_; refine DP.pure (.indexAddr rfl rfl ix46 (by assumption)) rfl rfl rfl ?_; refine DP.pure (.fieldAddr rfl fa54_0) rfl rfl rfl ?_
    refine DP.read (fun _ => op_load1 (ev_is rfl) lay3 (by first | (apply BoxIs.get; assumption; rfl) | (apply ElAt.get; assumption; rfl) | (apply ElAt.get0; assumption; rfl) | assumption)) rfl rfl rfl (fun _ => op_load_leaf) (.inl (by kernel_rfl)) (fun _ => cuts_nil) ?_
    refine DP.pure (.indexAddr rfl rfl ix29 (by assumption)) rfl rfl rfl ?_; refine DP.read (fun _ => op_loadE rfl (by first | assumption | (apply BoxIs.el; assumption)) lay56 (by rfl)) rfl rfl rfl (fun _ => op_load_leaf) (.inl (by kernel_rfl)) (fun _ => cuts_nil) ?_
    have hk3 := K.le
    have lt3 := B3.lt
    refine DP.alloc z56 rfl rfl fun M3 K3 B9 N3 => ?_
    have K := K.trans K3
    have B3 := B3.up K3
    refine DP.store rfl rfl lay56 rfl B9 rfl hpl rfl rfl (by kernel_rfl) (by kernel_rfl) (fun _ => pk_drop (by kernel_rfl) (pk_drop (by kernel_rfl) (pk_drop (by kernel_rfl) pk_nil))) fun M4 K4 B9 N4 => ?_
    have B9 : BoxIs M4 M2.next [.int .i64 q.left, vq, .int .i64 q.level, .int .i64 q.assoc] := B9
    have KS : Kp Nothing M2 M4 := Kp.young (.refl _) (K3.any.trans K4) (by rintro _ rfl; exact Nat.le_refl _)
    have E1 := E1.up KS
    have RQ := RQ.up KS
    have hu := hu.up KS
    have KQ := KQ.trans KS
    have hkq := KQ.le
    have hk0 := K1.le
    refine DP.nil ?_; refine XP.seq ?_; refine XP.drawnS (ms := [0, 0, 3, 7, 15, 0, 32, 96, 255, 511, 1023, 2047, 1023, 1023, 13311, 29695, 62463, 131071, 262143, 1023, 1048575, 2097151]) (by kernel_rfl) ?_; refine DP.pure (.move rfl) rfl rfl rfl ?_; refine DP.pure (.move rfl) rfl rfl rfl ?_; refine DP.pure (.indexAddr rfl rfl ix46 (by assumption)) rfl rfl rfl ?_; refine DP.pure (.fieldAddr rfl fa54_1) rfl rfl rfl ?_
    refine DP.read (fun _ => op_load1 (ev_is rfl) lay3 (by first | (apply BoxIs.get; assumption; rfl) | (apply ElAt.get; assumption; rfl) | (apply ElAt.get0; assumption; rfl) | assumption)) rfl rfl rfl (fun _ => op_load_leaf) (.inl (by kernel_rfl)) (fun _ => cuts_nil) ?_
    refine DP.pure (.fieldAddr rfl fa56_1) rfl rfl rfl ?_
    refine DP.read (fun _ => op_load1 (ev_is rfl) lay28 (by first | (apply BoxIs.get; assumption; rfl) | (apply ElAt.get; assumption; rfl) | (apply ElAt.get0; assumption; rfl) | assumption)) rfl rfl rfl (fun _ => op_load_leaf) (.inl (by kernel_rfl)) (fun _ => cuts_nil) ?_
    refine DP.pure (.len rfl (rowLen28 RQ)) rfl rfl rfl ?_; refine DP.pure (.bin rfl rfl (by first | exact lss_nat | exact lss_is)) rfl rfl rfl ?_; refine DP.pure (.move rfl) rfl rfl rfl ?_
    rcases Decidable.em (dd < q.right.length) with hp34 | hp34
    · simp only [decide_eq_true hp34]
      refine DP.pure (.fieldAddr rfl fa56_1) rfl rfl ⟨_,_,_,rfl,rfl,rfl,rfl⟩ ?_
      obtain ⟨y, hy⟩ : ∃ y, q.right[dd]? = some y := ⟨q.right[dd]'hp34, List.getElem?_eq_getElem _⟩
      obtain ⟨bq, oq, cq, rfl, _, EQ⟩ := RQ.elem encI (.refl _) hy
      refine DP.read (fun _ => op_load1 (ev_is rfl) lay28 (by first | (apply BoxIs.get; assumption; rfl) | (apply ElAt.get; assumption; rfl) | (apply ElAt.get0; assumption; rfl) | assumption)) rfl rfl ⟨_,_,_,rfl,rfl,rfl,rfl⟩ (fun _ => op_load_leaf) (.inl (by kernel_rfl)) (fun _ => cuts_nil) ?_
      refine DP.pure (.move rfl) rfl rfl ⟨_,_,_,rfl,rfl,rfl,rfl⟩ ?_; refine DP.pure (.move rfl) rfl rfl ⟨_,_,_,rfl,rfl,rfl,rfl⟩ ?_; refine DP.pure (.indexAddr rfl rfl ix46 (by assumption)) rfl rfl ⟨_,_,_,rfl,rfl,rfl,rfl⟩ ?_; refine DP.pure (.fieldAddr rfl fa54_1) rfl rfl ⟨_,_,_,rfl,rfl,rfl,rfl⟩ ?_
      refine DP.read (fun _ => op_load1 (ev_is rfl) lay3 (by first | (apply BoxIs.get; assumption; rfl) | (apply ElAt.get; assumption; rfl) | (apply ElAt.get0; assumption; rfl) | assumption)) rfl rfl ⟨_,_,_,rfl,rfl,rfl,rfl⟩ (fun _ => op_load_leaf) (.inl (by kernel_rfl)) (fun _ => cuts_nil) ?_
      refine DP.pure (.indexAddr rfl rfl ix28 (by assumption)) rfl rfl ⟨_,_,_,rfl,rfl,rfl,rfl⟩ ?_
      refine DP.read (fun _ => op_load1 (ev_is rfl) lay3 (by first | (apply BoxIs.get; assumption; rfl) | (apply ElAt.get; assumption; rfl) | (apply ElAt.get0; assumption; rfl) | assumption)) rfl rfl ⟨_,_,_,rfl,rfl,rfl,rfl⟩ (fun _ => op_load_leaf) (.inl (by kernel_rfl)) (fun _ => cuts_nil) ?_
      refine DP.pure (.move rfl) rfl rfl ⟨_,_,_,rfl,rfl,rfl,rfl⟩ ?_; refine DP.pure (.bin rfl rfl eql_is) rfl rfl ⟨_,_,_,rfl,rfl,rfl,rfl⟩ ?_; refine DP.pure (.pick (b := true) rfl rfl) rfl rfl rfl ?_; refine DP.nil ?_
      refine XP.condD rfl (fun hc46 => ?_) (fun hc46 => ?_)  -- if t46
      · obtain ⟨u2, M5, hc41, K5, R5', f5⟩ := call41 hS41 hu (by omega) (Int.ofNat r, Int.ofNat (dd + 1))
        refine XP.drawnS (ms := [0, 0, 0, 6, 14, 30, 0, 0, 192, 448, 960, 1984, 4094, 8191, 16383]) (by kernel_rfl) ?_; refine DP.pure (.move rfl) rfl rfl rfl ?_; refine DP.pure (.move rfl) rfl rfl rfl ?_; refine DP.pure (.move rfl) rfl rfl rfl ?_; refine DP.pure (.indexAddr rfl rfl ix46 (by assumption)) rfl rfl rfl ?_; refine DP.pure (.fieldAddr rfl fa54_0) rfl rfl rfl ?_
        refine DP.read (fun _ => op_load1 (ev_is rfl) lay3 (by first | (apply BoxIs.get; assumption; rfl) | (apply ElAt.get; assumption; rfl) | (apply ElAt.get0; assumption; rfl) | assumption)) rfl rfl rfl (fun _ => op_load_leaf) (.inl (by kernel_rfl)) (fun _ => cuts_nil) ?_
        refine DP.pure (.move rfl) rfl rfl rfl ?_; refine DP.pure (.move rfl) rfl rfl rfl ?_; refine DP.pure (.indexAddr rfl rfl ix46 (by assumption)) rfl rfl rfl ?_; refine DP.pure (.fieldAddr rfl fa54_1) rfl rfl rfl ?_
        refine DP.read (fun _ => op_load1 (ev_is rfl) lay3 (by first | (apply BoxIs.get; assumption; rfl) | (apply ElAt.get; assumption; rfl) | (apply ElAt.get0; assumption; rfl) | assumption)) rfl rfl rfl (fun _ => op_load_leaf) (.inl (by kernel_rfl)) (fun _ => cuts_nil) ?_
        refine DP.pure (.bin rfl rfl (by first | exact inc_is (by omega) | exact add_is (by omega) (by omega))) rfl rfl rfl ?_
        refine DP.pure (.build rfl build54) rfl rfl rfl ?_; refine DP.heavy (.callS rfl rfl hc41) rfl rfl rfl (by kernel_rfl) (by kernel_rfl) K5.le (pk_drop (by kernel_rfl) (pk_drop (by kernel_rfl) pk_nil)) ?_; refine DP.pure (.assign rfl) rfl rfl rfl ?_; refine DP.nil ?_; refine XP.regionS ?_; refine RP.o1 (.move rfl) rfl rfl ?_
        refine RP.o1 (.bin rfl rfl (by first | exact inc_is (by omega) | exact add_is (by omega) (by omega))) rfl rfl ?_
        refine RP.o1 (.assign rfl) rfl rfl ?_; refine RP.nil ?_
        rw [hy, if_pos (by rw [hc46])] at hnext
        refine ⟨xs.length - (i + 1), by omega, i + 1, _, u2, toT_less (.cons rfl (.cons rfl (.cons rfl (.cons rfl (.cons rfl (.nil)))))), rfl, by omega, KQ.trans K5, ?_, fun b h => ?_⟩
        · rw [hnext, putAll_snoc]; exact R5'
        · rcases f5 b h with q | rfl
          · omega
          · exact fu b h
      · refine XP.skip ?_; refine XP.regionS ?_; refine RP.o1 (.move rfl) rfl rfl ?_
        refine RP.o1 (.bin rfl rfl (by first | exact inc_is (by omega) | exact add_is (by omega) (by omega))) rfl rfl ?_
        refine RP.o1 (.assign rfl) rfl rfl ?_; refine RP.nil ?_
        rw [hy, if_neg (fun e => hc46 (by injection e))] at hnext
        exact ⟨xs.length - (i + 1), by omega, i + 1, _, u, toT_less (.cons rfl (.cons rfl (.cons rfl (.cons rfl (.cons rfl (.nil)))))), rfl, by omega, KQ, by rw [hnext]; exact hu, fu⟩
    · simp only [decide_eq_false hp34]
      refine DP.skip ⟨_,_,_,rfl,rfl,rfl,rfl⟩ rfl ?_; refine DP.skip ⟨_,_,_,rfl,rfl,rfl,rfl⟩ rfl ?_; refine DP.skip ⟨_,_,_,rfl,rfl,rfl,rfl⟩ rfl ?_; refine DP.skip ⟨_,_,_,rfl,rfl,rfl,rfl⟩ rfl ?_; refine DP.skip ⟨_,_,_,rfl,rfl,rfl,rfl⟩ rfl ?_; refine DP.skip ⟨_,_,_,rfl,rfl,rfl,rfl⟩ rfl ?_; refine DP.skip ⟨_,_,_,rfl,rfl,rfl,rfl⟩ rfl ?_; refine DP.skip ⟨_,_,_,rfl,rfl,rfl,rfl⟩ rfl ?_; refine DP.skip ⟨_,_,_,rfl,rfl,rfl,rfl⟩ rfl ?_; refine DP.skip ⟨_,_,_,rfl,rfl,rfl,rfl⟩ rfl ?_; refine DP.skip ⟨_,_,_,rfl,rfl,rfl,rfl⟩ rfl ?_; refine DP.pure (.pick (b := false) rfl rfl) rfl rfl rfl ?_; refine DP.nil ?_
      refine XP.condS false rfl ?_  -- if t46
      refine XP.skip ?_; refine XP.regionS ?_; refine RP.o1 (.move rfl) rfl rfl ?_
      refine RP.o1 (.bin rfl rfl (by first | exact inc_is (by omega) | exact add_is (by omega) (by omega))) rfl rfl ?_
      refine RP.o1 (.assign rfl) rfl rfl ?_; refine RP.nil ?_
      rw [List.getElem?_eq_none (by omega), if_neg (by intro e; cases e)] at hnext
      exact ⟨xs.length - (i + 1), by omega, i + 1, _, u, toT_less (.cons rfl (.cons rfl (.cons rfl (.cons rfl (.cons rfl (.nil)))))), rfl, by omega, KQ, by rw [hnext]; exact hu, fu⟩
  · refine XP.exit ?_  -- 0
    refine XP.seq ?_; refine XP.regionS ?_; refine RP.o1 (.move rfl) rfl rfl ?_; refine RP.o1 (.assign rfl) rfl rfl ?_; refine RP.nil ?_
    obtain rfl : i = xs.length := by omega
    rw [List.take_length] at hu
    exact XP.ret ⟨.inr rfl, _, _, oneRes rfl, K, hu, fu⟩
end Go.Ev
end
section
namespace Go.Ev
set_option linter.all false
open Go.Proofs
set_option maxRecDepth 10000
set_option maxHeartbeats 4000000
/-- What every round keeps. -/
structure DBase (rs : List Rl) (G : Lr.Gr) (k out : List (Int × Int)) : Prop where
  items : ItemsOf rs out
  srt : Lr.Srt out
  base : ∀ x ∈ k, x ∈ out
  sound : ∀ x ∈ out, G.Reach k x
theorem DBase.few {rs : List Rl} {G : Lr.Gr} {k out : List (Int × Int)} (hB : Small rs) (h : DBase rs G k out) : out.length ≤ 217 := items_few hB h.items (srt_nodup h.srt)
theorem put_items {rs : List Rl} {l : List (Int × Int)} {x : Int × Int} (h : ItemsOf rs l) (hx : ItemsOf rs [x]) : ItemsOf rs (Lr.put l x) := fun y hy => by
  rcases (Lr.put_mem _ _ _).1 hy with rfl | hy
  · exact hx _ (by simp)
  · exact h y hy
/-- A grammar by numbers that means something. -/
structure WfR (toks : Int) (rs : List Rl) : Prop where
  small : Small rs
  pos : 0 ≤ toks
  first : ∃ r0, rs[0]? = some r0 ∧ r0.left < 0
  left : ∀ r ∈ rs, r.left ≠ toks
theorem call30 {S : Sums} (hS : Plain S [30, 41, 58]) {m : AMem} {toks nts start expect : Int} {vn vl va vr v : AV} {rs : List Rl} {xs : List (Int × Int)} (hr : RulesIs m vr rs) (hv : RowG itC 2 m v xs) (hi : ItemsOf rs xs) (hsr : Lr.Srt xs) (hW : WfR toks rs) :
    ∃ u m', CallTo Tryz.prog S 30 [specV toks nts start expect vn vl va vr, v] m u m' ∧ ∃ c, Kp Nothing m m' ∧ RowG itC 2 m' u c ∧ (grOf toks nts rs).IsClos xs c ∧ ItemsOf rs c ∧ (∀ b, Blk1 u b → m.next ≤ b ∨ u = v) := by
  have hS41 : Plain S [41, 58] := fun f hf => hS f (by simp at hf ⊢; omega)
  have hB := hW.small
  have hfr := hB.few
  obtain ⟨r0, hr0e, hr0l⟩ := hW.first
  have hr1 : 1 ≤ rs.length := (List.getElem?_eq_some_iff.1 hr0e).1
  have hpos := hW.pos
  refine XP.call (hS 30 (by decide)) cd30 nt30 ?_
  show XP _ _ _ _ (toT .leaf [(1, v), (0, specV toks nts start expect vn vl va vr)]) m _
  unfold Tryz.f30
  dsimp only [Option.getD_some]
  have K : Kp Nothing m m := .refl m
  refine XP.seq ?_; refine XP.regionS ?_
  have hk1 := K.le
  refine RP.box rfl rfl rfl rfl fun M1 K1 B2 N1 => ?_
  have K := K.trans K1
  have B2o := B2
  have hr0 := hr.up K1
  have hv0 := hv.up K1
  have db0 : DBase rs (grOf toks nts rs) xs xs := ⟨hi, hsr, fun x hx => hx, fun x hx => .base hx⟩
  refine RP.o1 (.assign rfl) rfl rfl ?_; refine RP.nil ?_; refine XP.seq ?_; refine XP.regionS ?_; refine RP.o1 (.move rfl) rfl rfl ?_; refine RP.o1 (.assign rfl) rfl rfl ?_; refine RP.nil ?_; refine XP.seq ?_; refine XP.seq ?_; refine XP.regionS ?_; refine RP.o1 (.assign rfl) rfl rfl ?_; refine RP.nil ?_
  refine XP.block ?_  -- block 0
  refine XP.while (fun d t m1 => ∃ n t0 u out, t = toT t0 [(6, .int .i64 n), (5, u), (2, .ptr m.next 0)] ∧ d = 440 - (out.length + if n = (out.length : Int) then 1 else 0) ∧ Kp Nothing M1 m1 ∧ RowG itC 2 m1 u out ∧ (∀ b, Blk1 u b → m.next ≤ b ∨ u = v) ∧ DBase rs (grOf toks nts rs) xs out ∧ (∀ n0 : Nat, n = n0 → Lr.DInv (grOf toks nts rs) xs out n0 n0)) ?_ (440 - (xs.length + if (-1 : Int) = (xs.length : Int) then 1 else 0)) _ _ ?_
  rotate_left
  · exact ⟨-1, _, v, xs, toT_less (.cons rfl (.cons rfl (.cons rfl (.nil)))), rfl, .refl _, hv0, fun _ _ => .inr rfl, db0, fun n0 h => by omega⟩
  rintro d t M2 ⟨n, t0, u, out, rfl, rfl, KQ, hu, fu, db, hdi⟩
  have K := K1.trans KQ
  have B2 := B2o.up KQ
  have hfew := db.few hB
  refine XP.seq ?_; refine XP.seq ?_; refine XP.regionS ?_; refine RP.o1 (.move rfl) rfl rfl ?_; refine RP.o1 (.move rfl) rfl rfl ?_; refine RP.o1 (.len rfl (rowLen hu.row)) rfl rfl ?_; refine RP.o1 (.bin rfl rfl neq_is) rfl rfl ?_; refine RP.nil ?_
  refine XP.condN rfl (fun hc15 => ?_) (fun hc15 => ?_)  -- if t15
  · refine XP.exit ?_  -- 0
    refine XP.seq ?_; refine XP.regionS ?_; refine RP.o1 (.move rfl) rfl rfl ?_; refine RP.o1 (.assign rfl) rfl rfl ?_; refine RP.nil ?_
    exact XP.ret ⟨.inr rfl, _, _, oneRes rfl, out, K, hu, (hdi out.length hc15).end_ rfl, db.items, fu⟩
  · refine XP.skip ?_
    refine XP.block ?_  -- block 1
    refine XP.seq ?_; refine XP.regionS ?_; refine RP.o1 (.move rfl) rfl rfl ?_; refine RP.o1 (.len rfl (rowLen hu.row)) rfl rfl ?_; refine RP.o1 (.assign rfl) rfl rfl ?_; refine RP.nil ?_; refine XP.seq ?_
    have dv0 : Lr.DInv (grOf toks nts rs) xs out out.length 0 := ⟨db.srt, db.base, db.sound, Nat.le_refl _, fun _ j x hj => by omega⟩
    refine XP.regionS ?_; refine RP.o1 (.assign rfl) rfl rfl ?_; refine RP.nil ?_
    refine XP.block ?_  -- block 2
    refine XP.while (fun d t m1 => ∃ i t0 u1 out1, t = toT t0 [(7, .int .i64 (.ofNat i)), (6, .int .i64 (.ofNat out.length)), (5, u1), (2, .ptr m.next 0)] ∧ d = out.length - i ∧ i ≤ out.length ∧ Kp Nothing M1 m1 ∧ RowG itC 2 m1 u1 out1 ∧ (∀ b, Blk1 u1 b → m.next ≤ b ∨ u1 = v) ∧ ItemsOf rs out1 ∧ Lr.DInv (grOf toks nts rs) xs out1 out.length i) ?_ out.length _ _ ?_
    rotate_left
    · exact ⟨0, _, u, out, toT_less (.cons rfl (.cons rfl (.cons rfl (.cons rfl (.nil))))), rfl, Nat.zero_le _, KQ, hu, fu, db.items, dv0⟩
    rintro d t M3 ⟨i, t0, u1, out1, rfl, rfl, hin, KC, hu1, fu1, hit1, dv⟩
    have K := K1.trans KC
    have B2 := B2o.up KC
    have hlen1 := dv.len
    have hfew1 := items_few hB hit1 (srt_nodup dv.srt)
    refine XP.seq ?_; refine XP.seq ?_; refine XP.regionS ?_; refine RP.o1 (.move rfl) rfl rfl ?_; refine RP.o1 (.move rfl) rfl rfl ?_; refine RP.o1 (.bin rfl rfl (by first | exact lss_nat | exact lss_is)) rfl rfl ?_; refine RP.nil ?_
    refine XP.condD rfl (fun hc20 => ?_) (fun hc20 => ?_)  -- if t20
    · refine XP.skip ?_; refine XP.seq ?_
      refine XP.block ?_  -- block 3
      refine XP.seq ?_
      obtain ⟨x, hx1⟩ : ∃ x, out1[i]? = some x := ⟨out1[i]'(by omega), List.getElem?_eq_getElem _⟩
      obtain ⟨r, dd, q, rfl, hq, hdd⟩ := hit1 x (List.mem_of_getElem? hx1)
      obtain ⟨bl, ol, cl, rfl, hli, E1⟩ := hu1.row.elem encIt (.refl _) hx1
      obtain ⟨br, or_, cr, vq, rfl, hri, E2o, RQo, hpl⟩ := hr0.elem (.refl _) hq
      have E2 := E2o.up KC
      have hsym : (grOf toks nts rs).sym (Int.ofNat r, Int.ofNat dd) = q.right[dd]? := grOf_sym hq
      refine XP.regionS ?_; refine RP.o1 (.move rfl) rfl rfl ?_; refine RP.o1 (.move rfl) rfl rfl ?_; refine RP.o1 (.indexAddr rfl rfl ix46 (by assumption)) rfl rfl ?_; refine RP.o1 (.loadE rfl (by first | assumption | (apply BoxIs.el; assumption)) lay54 (by rfl)) rfl rfl ?_
      have hk4 := K.le
      have lt2 := B2.lt
      refine RP.alloc z54 rfl rfl fun M4 K4 B8 N4 => ?_
      have K := K.trans K4
      have B2 := B2.up K4
      refine RP.store rfl rfl lay54 rfl B8 rfl rfl rfl rfl fun M5 K5 B8 N5 => ?_
      have K := K.young K5 (by rintro _ rfl; omega)
      have B2 := B2.keep K5 (by first | exact Nat.ne_of_lt (by assumption) | exact Nat.ne_of_gt (by assumption) | (intro e; omega))
      refine RP.nil ?_; refine XP.seq ?_
      have B8 : BoxIs M5 M3.next (itC (Int.ofNat r, Int.ofNat dd)) := B8
      have KS : Kp Nothing M3 M5 := Kp.young (.refl _) (K4.any.trans K5) (by rintro _ rfl; exact Nat.le_refl _)
      have E2 := E2.up KS
      refine XP.regionS ?_; refine RP.o1 (.fieldAddr rfl fa31_7) rfl rfl ?_
      refine RP.o1 (.load1 rfl lay29 (by first | (apply BoxIs.get; assumption; rfl) | (apply ElAt.get; assumption; rfl) | (apply ElAt.get0; assumption; rfl) | assumption)) rfl rfl ?_
      refine RP.o1 (.fieldAddr rfl fa54_0) rfl rfl ?_
      refine RP.o1 (.load1 rfl lay3 (by first | (apply BoxIs.get; assumption; rfl) | (apply ElAt.get; assumption; rfl) | (apply ElAt.get0; assumption; rfl) | assumption)) rfl rfl ?_
      refine RP.o1 (.indexAddr rfl rfl ix29 (by assumption)) rfl rfl ?_; refine RP.o1 (.loadE rfl (by first | assumption | (apply BoxIs.el; assumption)) lay56 (by rfl)) rfl rfl ?_
      have hk6 := K.le
      have lt2 := B2.lt
      have lt8 := B8.lt
      refine RP.alloc z56 rfl rfl fun M6 K6 B9 N6 => ?_
      have K := K.trans K6
      have B2 := B2.up K6
      have B8 := B8.up K6
      refine RP.store rfl rfl lay56 rfl B9 rfl hpl rfl rfl fun M7 K7 B9 N7 => ?_
      have K := K.young K7 (by rintro _ rfl; omega)
      have B2 := B2.keep K7 (by first | exact Nat.ne_of_lt (by assumption) | exact Nat.ne_of_gt (by assumption) | (intro e; omega))
      have B8 := B8.keep K7 (by first | exact Nat.ne_of_lt (by assumption) | exact Nat.ne_of_gt (by assumption) | (intro e; omega))
      refine RP.nil ?_; refine XP.seq ?_; refine XP.seq ?_
      have B9 : BoxIs M7 M5.next [.int .i64 q.left, vq, .int .i64 q.level, .int .i64 q.assoc] := B9
      have KS2 : Kp Nothing M5 M7 := Kp.young (.refl _) (K6.any.trans K7) (by rintro _ rfl; exact Nat.le_refl _)
      have KE := KC.trans (KS.trans KS2)
      have RQ := RQo.up KE
      have huE := hu1.up (KS.trans KS2)
      have hkE := KE.le
      have hkk := K1.le
      refine XP.drawnS (ms := [0, 1, 0, 4, 12, 31, 63, 127, 255, 127, 639, 2047, 4095, 127, 8319, 32767, 65535]) (by kernel_rfl) ?_; refine DP.pure (.fieldAddr rfl fa54_1) rfl rfl rfl ?_
      refine DP.read (fun _ => op_load1 (ev_is rfl) lay3 (by first | (apply BoxIs.get; assumption; rfl) | (apply ElAt.get; assumption; rfl) | (apply ElAt.get0; assumption; rfl) | assumption)) rfl rfl rfl (fun _ => op_load_leaf) (.inl (by kernel_rfl)) (fun _ => cuts_nil) ?_
      refine DP.pure (.fieldAddr rfl fa56_1) rfl rfl rfl ?_
      refine DP.read (fun _ => op_load1 (ev_is rfl) lay28 (by first | (apply BoxIs.get; assumption; rfl) | (apply ElAt.get; assumption; rfl) | (apply ElAt.get0; assumption; rfl) | assumption)) rfl rfl rfl (fun _ => op_load_leaf) (.inl (by kernel_rfl)) (fun _ => cuts_nil) ?_
      refine DP.pure (.len rfl (rowLen28 RQ)) rfl rfl rfl ?_; refine DP.pure (.bin rfl rfl geq_is) rfl rfl rfl ?_; refine DP.pure (.move rfl) rfl rfl rfl ?_
      rcases Decidable.em (Int.ofNat dd < Int.ofNat q.right.length) with hp39 | hp39
      · simp only [decide_eq_true hp39]; simp only [Bool.not_true]
        refine DP.pure (.fieldAddr rfl fa56_1) rfl rfl ⟨_,_,_,rfl,rfl,rfl,rfl⟩ ?_
        have hdl : dd < q.right.length := Int.ofNat_lt.1 hp39
        obtain ⟨y, hy⟩ : ∃ y, q.right[dd]? = some y := ⟨q.right[dd]'(Int.ofNat_lt.1 hp39), List.getElem?_eq_getElem _⟩
        obtain ⟨bq, oq, cq, rfl, _, EQo⟩ := RQo.elem encI (.refl _) hy
        have EQ := EQo.up KE
        refine DP.read (fun _ => op_load1 (ev_is rfl) lay28 (by first | (apply BoxIs.get; assumption; rfl) | (apply ElAt.get; assumption; rfl) | (apply ElAt.get0; assumption; rfl) | assumption)) rfl rfl ⟨_,_,_,rfl,rfl,rfl,rfl⟩ (fun _ => op_load_leaf) (.inl (by kernel_rfl)) (fun _ => cuts_nil) ?_
        refine DP.pure (.fieldAddr rfl fa54_1) rfl rfl ⟨_,_,_,rfl,rfl,rfl,rfl⟩ ?_
        refine DP.read (fun _ => op_load1 (ev_is rfl) lay3 (by first | (apply BoxIs.get; assumption; rfl) | (apply ElAt.get; assumption; rfl) | (apply ElAt.get0; assumption; rfl) | assumption)) rfl rfl ⟨_,_,_,rfl,rfl,rfl,rfl⟩ (fun _ => op_load_leaf) (.inl (by kernel_rfl)) (fun _ => cuts_nil) ?_
        refine DP.pure (.indexAddr rfl rfl ix28 (by assumption)) rfl rfl ⟨_,_,_,rfl,rfl,rfl,rfl⟩ ?_
        refine DP.read (fun _ => op_load1 (ev_is rfl) lay3 (by first | (apply BoxIs.get; assumption; rfl) | (apply ElAt.get; assumption; rfl) | (apply ElAt.get0; assumption; rfl) | assumption)) rfl rfl ⟨_,_,_,rfl,rfl,rfl,rfl⟩ (fun _ => op_load_leaf) (.inl (by kernel_rfl)) (fun _ => cuts_nil) ?_
        refine DP.pure (.fieldAddr rfl fa31_0) rfl rfl ⟨_,_,_,rfl,rfl,rfl,rfl⟩ ?_
        refine DP.read (fun _ => op_load1 (ev_is rfl) lay3 (by first | (apply BoxIs.get; assumption; rfl) | (apply ElAt.get; assumption; rfl) | (apply ElAt.get0; assumption; rfl) | assumption)) rfl rfl ⟨_,_,_,rfl,rfl,rfl,rfl⟩ (fun _ => op_load_leaf) (.inl (by kernel_rfl)) (fun _ => cuts_nil) ?_
        refine DP.pure (.bin rfl rfl (by first | exact lss_nat | exact lss_is)) rfl rfl ⟨_,_,_,rfl,rfl,rfl,rfl⟩ ?_; refine DP.pure (.pick (b := false) rfl rfl) rfl rfl rfl ?_; refine DP.nil ?_
        refine XP.condD rfl (fun hc49 => ?_) (fun hc49 => ?_)  -- if t49
        · refine XP.exit ?_  -- 3
          refine XP.regionS ?_; refine RP.o1 (.move rfl) rfl rfl ?_
          refine RP.o1 (.bin rfl rfl (by first | exact inc_is (by omega) | exact add_is (by omega) (by omega))) rfl rfl ?_
          refine RP.o1 (.assign rfl) rfl rfl ?_; refine RP.nil ?_
          exact ⟨out.length - (i + 1), by omega, i + 1, _, _, out1, toT_less (.cons rfl (.cons rfl (.cons rfl (.cons rfl (.nil))))), rfl, by omega, KE, huE, fu1, hit1, dv.skip hx1 fun s e => by rw [hsym, hy] at e; cases e; exact Int.le_of_lt hc49⟩
        · refine XP.skip ?_; refine XP.seq ?_; refine XP.regionS ?_; refine RP.o1 (.assign rfl) rfl rfl ?_; refine RP.nil ?_
          refine XP.block ?_  -- block 4
          refine XP.while (fun d t m1 => ∃ kx t0 u2 out2, t = toT t0 [(10, .int .i64 (.ofNat kx)), (9, .ptr M5.next 0), (8, .ptr M3.next 0), (7, .int .i64 (.ofNat i)), (6, .int .i64 (.ofNat out.length)), (5, u2), (2, .ptr m.next 0)] ∧ d = rs.length - kx ∧ kx ≤ rs.length ∧ Kp Nothing M7 m1 ∧ RowG itC 2 m1 u2 out2 ∧ (∀ b, Blk1 u2 b → m.next ≤ b ∨ u2 = v) ∧ ItemsOf rs out2 ∧ Lr.DIn (grOf toks nts rs) xs out2 out.length i (Int.ofNat r, Int.ofNat dd) kx) ?_ (rs.length - 1) _ _ ?_
          rotate_left
          · exact ⟨1, _, _, out1, toT_less (.cons rfl (.cons rfl (.cons rfl (.cons rfl (.cons rfl (.cons rfl (.cons rfl (.nil)))))))), rfl, hr1, .refl _, huE, fu1, hit1, (dv.enter hx1).pass (grOf_rule hr0e) fun s _ h e => by have : toks < s := h; have : r0.left = s := e; omega⟩
          rintro d t M8 ⟨kx, t0, u2, out2, rfl, rfl, hkx, KG, hu2, fu2, hit2, din⟩
          have KF := KE.trans KG
          have K := K1.trans KF
          have B2 := B2o.up KF
          have B8 := B8.up KG
          have B9 := B9.up KG
          have hfew2 := items_few hB hit2 (srt_nodup din.srt)
          have hrF := hr0.up KF
          refine XP.seq ?_; refine XP.seq ?_; refine XP.regionS ?_; refine RP.o1 (.move rfl) rfl rfl ?_; refine RP.o1 (.fieldAddr rfl fa31_7) rfl rfl ?_
          refine RP.o1 (.load1 rfl lay29 (by first | (apply BoxIs.get; assumption; rfl) | (apply ElAt.get; assumption; rfl) | (apply ElAt.get0; assumption; rfl) | assumption)) rfl rfl ?_
          refine RP.o1 (.len rfl (rowLen29 hrF)) rfl rfl ?_; refine RP.o1 (.bin rfl rfl (by first | exact lss_nat | exact lss_is)) rfl rfl ?_; refine RP.nil ?_
          refine XP.condD rfl (fun hc54 => ?_) (fun hc54 => ?_)  -- if t54
          · refine XP.skip ?_; refine XP.seq ?_
            refine XP.block ?_  -- block 5
            refine XP.seq ?_
            obtain ⟨rl, hrl⟩ : ∃ rl, rs[kx]? = some rl := ⟨rs[kx]'hc54, List.getElem?_eq_getElem _⟩
            obtain ⟨_, _, _, vrl, eS, _, E3, _, _⟩ := hrF.elem (.refl _) hrl
            injection eS with e1 e2 e3 e4
            subst e1; subst e2; subst e4
            have EQ := EQo.up KF
            have hdl : dd < q.right.length := Int.ofNat_lt.1 hp39
            refine XP.drawnS (ms := [0, 1, 0, 7, 15, 31, 0, 64, 0, 256, 960, 1984, 4095]) (by kernel_rfl) ?_; refine DP.pure (.fieldAddr rfl fa31_7) rfl rfl rfl ?_
            refine DP.read (fun _ => op_load1 (ev_is rfl) lay29 (by first | (apply BoxIs.get; assumption; rfl) | (apply ElAt.get; assumption; rfl) | (apply ElAt.get0; assumption; rfl) | assumption)) rfl rfl rfl (fun _ => op_load_leaf) (.inl (by kernel_rfl)) (fun _ => cuts_nil) ?_
            refine DP.pure (.move rfl) rfl rfl rfl ?_; refine DP.pure (.indexAddr rfl rfl ix29 (by assumption)) rfl rfl rfl ?_; refine DP.pure (.fieldAddr rfl fa56_0) rfl rfl rfl ?_
            refine DP.read (fun _ => op_load1 (ev_is rfl) lay3 (by first | (apply BoxIs.get; assumption; rfl) | (apply ElAt.get; assumption; rfl) | (apply ElAt.get0; assumption; rfl) | assumption)) rfl rfl rfl (fun _ => op_load_leaf) (.inl (by kernel_rfl)) (fun _ => cuts_nil) ?_
            refine DP.pure (.fieldAddr rfl fa56_1) rfl rfl rfl ?_
            refine DP.read (fun _ => op_load1 (ev_is rfl) lay28 (by first | (apply BoxIs.get; assumption; rfl) | (apply ElAt.get; assumption; rfl) | (apply ElAt.get0; assumption; rfl) | assumption)) rfl rfl rfl (fun _ => op_load_leaf) (.inl (by kernel_rfl)) (fun _ => cuts_nil) ?_
            refine DP.pure (.fieldAddr rfl fa54_1) rfl rfl rfl ?_
            refine DP.read (fun _ => op_load1 (ev_is rfl) lay3 (by first | (apply BoxIs.get; assumption; rfl) | (apply ElAt.get; assumption; rfl) | (apply ElAt.get0; assumption; rfl) | assumption)) rfl rfl rfl (fun _ => op_load_leaf) (.inl (by kernel_rfl)) (fun _ => cuts_nil) ?_
            refine DP.pure (.indexAddr rfl rfl ix28 (by assumption)) rfl rfl rfl ?_
            refine DP.read (fun _ => op_load1 (ev_is rfl) lay3 (by first | (apply BoxIs.get; assumption; rfl) | (apply ElAt.get; assumption; rfl) | (apply ElAt.get0; assumption; rfl) | assumption)) rfl rfl rfl (fun _ => op_load_leaf) (.inl (by kernel_rfl)) (fun _ => cuts_nil) ?_
            refine DP.pure (.bin rfl rfl eql_is) rfl rfl rfl ?_; refine DP.nil ?_
            refine XP.condD rfl (fun hc69 => ?_) (fun hc69 => ?_)  -- if t69
            · obtain ⟨u3, M9, hc41, K9, hu3, f3⟩ := call41 hS41 hu2 (by omega) (Int.ofNat kx, 0)
              refine XP.regionS ?_; refine RP.o1 (.move rfl) rfl rfl ?_; refine RP.o1 (.move rfl) rfl rfl ?_; refine RP.o1 (.build rfl build54k) rfl rfl ?_; refine RP.op (.callS rfl rfl hc41) rfl rfl K9.le ?_; refine RP.o1 (.assign rfl) rfl rfl ?_; refine RP.nil ?_; refine XP.regionS ?_; refine RP.o1 (.move rfl) rfl rfl ?_
              refine RP.o1 (.bin rfl rfl (by first | exact inc_is (by omega) | exact add_is (by omega) (by omega))) rfl rfl ?_
              refine RP.o1 (.assign rfl) rfl rfl ?_; refine RP.nil ?_
              have hT : toks < y := by have := hW.left rl (List.mem_of_getElem? hrl); have := Int.not_lt.1 hc49; omega
              exact ⟨rs.length - (kx + 1), by omega, kx + 1, _, u3, _, toT_less (.cons rfl (.cons rfl (.cons rfl (.cons rfl (.cons rfl (.cons rfl (.cons rfl (.nil)))))))), rfl, by omega, KG.trans K9, hu3, (fun b h => by
                rcases f3 b h with q | rfl
                · have := KG.le; omega
                · exact fu2 b h), put_items hit2 (fun z hz => by simp only [List.mem_singleton] at hz; subst hz; exact ⟨kx, 0, rl, rfl, hrl, Nat.zero_le _⟩), din.take (grOf_rule hrl) (hsym.trans hy) hc69 hT⟩
            · refine XP.skip ?_; refine XP.regionS ?_; refine RP.o1 (.move rfl) rfl rfl ?_
              refine RP.o1 (.bin rfl rfl (by first | exact inc_is (by omega) | exact add_is (by omega) (by omega))) rfl rfl ?_
              refine RP.o1 (.assign rfl) rfl rfl ?_; refine RP.nil ?_
              exact ⟨rs.length - (kx + 1), by omega, kx + 1, _, u2, _, toT_less (.cons rfl (.cons rfl (.cons rfl (.cons rfl (.cons rfl (.cons rfl (.cons rfl (.nil)))))))), rfl, by omega, KG, hu2, fu2, hit2, din.pass (grOf_rule hrl) fun s e _ => by rw [hsym, hy] at e; cases e; exact hc69⟩
          · refine XP.exit ?_  -- 4
            refine XP.regionS ?_; refine RP.o1 (.move rfl) rfl rfl ?_
            refine RP.o1 (.bin rfl rfl (by first | exact inc_is (by omega) | exact add_is (by omega) (by omega))) rfl rfl ?_
            refine RP.o1 (.assign rfl) rfl rfl ?_; refine RP.nil ?_
            obtain rfl : kx = rs.length := by omega
            exact ⟨out.length - (i + 1), by omega, i + 1, _, u2, out2, toT_less (.cons rfl (.cons rfl (.cons rfl (.cons rfl (.nil))))), rfl, by omega, KF, hu2, fu2, hit2, Lr.DIn.leave (by rw [grOf_length]; exact din)⟩
      · simp only [decide_eq_false hp39]; simp only [Bool.not_false]
        refine DP.skip ⟨_,_,_,rfl,rfl,rfl,rfl⟩ rfl ?_; refine DP.skip ⟨_,_,_,rfl,rfl,rfl,rfl⟩ rfl ?_; refine DP.skip ⟨_,_,_,rfl,rfl,rfl,rfl⟩ rfl ?_; refine DP.skip ⟨_,_,_,rfl,rfl,rfl,rfl⟩ rfl ?_; refine DP.skip ⟨_,_,_,rfl,rfl,rfl,rfl⟩ rfl ?_; refine DP.skip ⟨_,_,_,rfl,rfl,rfl,rfl⟩ rfl ?_; refine DP.skip ⟨_,_,_,rfl,rfl,rfl,rfl⟩ rfl ?_; refine DP.skip ⟨_,_,_,rfl,rfl,rfl,rfl⟩ rfl ?_; refine DP.skip ⟨_,_,_,rfl,rfl,rfl,rfl⟩ rfl ?_; refine DP.pure (.pick (b := true) rfl rfl) rfl rfl rfl ?_; refine DP.nil ?_
        refine XP.condS true rfl ?_  -- if t49
        refine XP.exit ?_  -- 3
        refine XP.regionS ?_; refine RP.o1 (.move rfl) rfl rfl ?_
        refine RP.o1 (.bin rfl rfl (by first | exact inc_is (by omega) | exact add_is (by omega) (by omega))) rfl rfl ?_
        refine RP.o1 (.assign rfl) rfl rfl ?_; refine RP.nil ?_
        exact ⟨out.length - (i + 1), by omega, i + 1, _, _, out1, toT_less (.cons rfl (.cons rfl (.cons rfl (.cons rfl (.nil))))), rfl, by omega, KE, huE, fu1, hit1, dv.skip hx1 fun s e => by rw [hsym, List.getElem?_eq_none (Nat.le_of_not_lt fun h => hp39 (Int.ofNat_lt.2 h))] at e; cases e⟩
    · refine XP.exit ?_  -- 2
      obtain rfl : i = out.length := by omega
      refine ⟨_, ?_, Int.ofNat out.length, _, u1, out1, toT_less (.cons rfl (.cons rfl (.cons rfl (.nil)))), rfl, KC, hu1, fu1, ⟨hit1, dv.srt, dv.base, dv.sound⟩, fun n0 h => by obtain rfl := Int.ofNat.inj h; exact dv⟩
      have hne : ¬ n = (out.length : Int) := hc15
      rw [if_neg hne]
      by_cases e : (Int.ofNat out.length : Int) = (out1.length : Int)
      · rw [if_pos e]; omega
      · rw [if_neg e]; have : out.length ≠ out1.length := fun h => e (by rw [h]; rfl); omega
end Go.Ev
end
section
namespace Go.Ev
set_option linter.all false
open Go.Proofs
set_option maxRecDepth 10000
set_option maxHeartbeats 2000000
/-- A state of the document: its kernel, where it leads to. -/
abbrev stC (a : PV × PV) : List AV := [a.1.1, a.2.1]
theorem encS : Enc stC 2 := ⟨fun _ => rfl, fun a => by show (a.1.1.plain && (a.2.1.plain && true)) = true; rw [a.1.2, a.2.2]; rfl⟩
theorem rowLen63 {α : Type} {enc : α → List AV} {sz : Nat} {m : AMem} {v : AV} {raw : List α} (h : RowIs enc sz m v raw) {M : AMem} : aLen Tryz.prog 63 v M = .mk (.int .i64 (.ofNat raw.length)) M := by
  rcases h with ⟨rfl, rfl⟩ | ⟨rfl, rfl⟩ | ⟨b, off, cap, rfl, _⟩
  · exact len63n
  · exact len63e
  · exact len63
theorem call40 {S : Sums} (hS : Plain S [17, 40]) {m : AMem} {lv kv : AV} {raw : List (PV × PV)} {ks : List (List (Int × Int))} {k : List (Int × Int)} (hl : RowIs stC 2 m lv raw) (hrl : raw.length = ks.length) (hr : ∀ (i : Nat) a x, raw[i]? = some a → ks[i]? = some x → RowIs itC 2 m a.1.1 x) (hk : RowIs itC 2 m kv k) (hx : raw.length < 1048576) (hlen : ∀ x ∈ ks, x.length < 1048576) :
    CallTo Tryz.prog S 40 [lv, kv] m (.int .i64 (firstAt ks k)) m := by
  have hS17 : Plain S [17] := fun f hf => hS f (by simp at hf ⊢; omega)
  suffices H : ∃ r m', CallTo Tryz.prog S 40 [lv, kv] m r m' ∧ r = .int .i64 (firstAt ks k) ∧ m' = m by
    obtain ⟨r, m', h, rfl, rfl⟩ := H
    exact h
  refine XP.call (hS 40 (by decide)) cd40 nt40 ?_
  show XP _ _ _ _ (toT .leaf [(1, kv), (0, lv)]) m _
  unfold Tryz.f40
  dsimp only [Option.getD_some]
  have K : Kp Nothing m m := .refl m
  refine XP.seq ?_; refine XP.regionS ?_; refine RP.o1 (.assign rfl) rfl rfl ?_; refine RP.nil ?_; refine XP.seq ?_; refine XP.seq ?_; refine XP.regionS ?_; refine RP.o1 (.assign rfl) rfl rfl ?_; refine RP.nil ?_
  refine XP.block ?_  -- block 0
  refine XP.while (fun d t m1 => ∃ i t0, t = toT t0 [(5, .int .i64 (.ofNat i)), (1, kv), (0, lv)] ∧ d = raw.length - i ∧ i ≤ raw.length ∧ (∀ (j : Nat) x, j < i → ks[j]? = some x → x ≠ k) ∧ m1 = m) ?_ raw.length _ _ ?_
  rotate_left
  · exact ⟨0, _, toT_less (.cons rfl (.cons rfl (.cons rfl (.nil)))), rfl, Nat.zero_le _, fun j _ hj => absurd hj (Nat.not_lt_zero _), rfl⟩
  rintro d t M1 ⟨i, t0, rfl, rfl, hin, hne, rfl⟩
  refine XP.seq ?_; refine XP.seq ?_; refine XP.regionS ?_; refine RP.o1 (.move rfl) rfl rfl ?_; refine RP.o1 (.move rfl) rfl rfl ?_; refine RP.o1 (.len rfl (rowLen63 hl)) rfl rfl ?_; refine RP.o1 (.bin rfl rfl (by first | exact lss_nat | exact lss_is)) rfl rfl ?_; refine RP.nil ?_
  refine XP.condD rfl (fun hc9 => ?_) (fun hc9 => ?_)  -- if t9
  · refine XP.skip ?_; refine XP.seq ?_
    refine XP.block ?_  -- block 1
    refine XP.seq ?_
    obtain ⟨a, ha⟩ : ∃ a, raw[i]? = some a := ⟨raw[i]'hc9, List.getElem?_eq_getElem _⟩
    obtain ⟨x, hx1⟩ : ∃ x, ks[i]? = some x := ⟨ks[i]'(by omega), List.getElem?_eq_getElem _⟩
    have hxr := hr i a x ha hx1
    obtain ⟨b, o, c, rfl, _, E1⟩ := hl.elem encS (.refl _) ha
    refine XP.regionS ?_; refine RP.o1 (.move rfl) rfl rfl ?_; refine RP.o1 (.move rfl) rfl rfl ?_; refine RP.o1 (.indexAddr rfl rfl ix63 (by assumption)) rfl rfl ?_; refine RP.o1 (.fieldAddr rfl fa66_0) rfl rfl ?_
    refine RP.o1 (.load1 rfl lay46 (by first | (apply BoxIs.get; assumption; rfl) | (apply ElAt.get; assumption; rfl) | (apply ElAt.get0; assumption; rfl) | assumption)) rfl rfl ?_
    refine RP.o1 (.move rfl) rfl rfl ?_; refine RP.o1 (.callS rfl rfl (call17 hS17 hxr hk (hlen x (List.mem_of_getElem? hx1)))) rfl rfl ?_; refine RP.nil ?_
    refine XP.condD rfl (fun hc18 => ?_) (fun hc18 => ?_)  -- if t18
    · refine XP.seq ?_; refine XP.regionS ?_; refine RP.o1 (.move rfl) rfl rfl ?_; refine RP.o1 (.assign rfl) rfl rfl ?_; refine RP.nil ?_
      have : ks.findIdx? (fun x => decide (x = k)) = some i := by
        rw [List.findIdx?_eq_some_iff_getElem]
        obtain ⟨h1, h2⟩ := List.getElem?_eq_some_iff.1 hx1
        refine ⟨h1, by rw [h2]; simpa using hc18, fun j hj => ?_⟩
        simpa using hne j _ hj (List.getElem?_eq_getElem (by omega))
      exact XP.ret ⟨.inr rfl, _, _, oneRes rfl, by rw [firstAt, this], rfl⟩
    · refine XP.skip ?_; refine XP.regionS ?_; refine RP.o1 (.move rfl) rfl rfl ?_
      refine RP.o1 (.bin rfl rfl (by first | exact inc_is (by omega) | exact add_is (by omega) (by omega))) rfl rfl ?_
      refine RP.o1 (.assign rfl) rfl rfl ?_; refine RP.nil ?_
      refine ⟨raw.length - (i + 1), by omega, i + 1, _, toT_less (.cons rfl (.cons rfl (.cons rfl (.nil)))), rfl, by omega, fun j z hj hz => ?_, rfl⟩
      rcases Nat.lt_or_ge j i with h | h
      · exact hne j z h hz
      · obtain rfl : j = i := by omega
        rw [hx1] at hz; cases hz; exact hc18
  · refine XP.exit ?_  -- 0
    refine XP.seq ?_; refine XP.regionS ?_; refine RP.o1 (.assign rfl) rfl rfl ?_; refine RP.nil ?_
    have : ks.findIdx? (fun x => decide (x = k)) = none := by
      rw [List.findIdx?_eq_none_iff]
      intro x hx
      obtain ⟨j, hj, e⟩ := List.getElem_of_mem hx
      simpa using hne j x (by omega) (by rw [List.getElem?_eq_getElem hj, e])
    exact XP.ret ⟨.inr rfl, _, _, oneRes rfl, by rw [firstAt, this]; rfl, rfl⟩
end Go.Ev
end
section
namespace Go.Ev
set_option linter.all false
open Go.Proofs
abbrev SP := PV × PV
structure DoSt (lo : Nat) (m : AMem) (b : Nat) (cp : Option Nat) (raw : List SP) (i : Nat) (gv : AV) (Ks : List (List (Int × Int))) (Gs : List (List Int)) (gc : List Int) : Prop where
  own : m.own b 2 (raw.length * 2)
  row : RowAt stC 2 m b 0 raw
  cap : cp = none ∨ cp = some raw.length
  lob : lo ≤ b
  len : raw.length = Ks.length
  gl : Gs.length = i
  ker : ∀ (j : Nat) a k, raw[j]? = some a → Ks[j]? = some k → RowG itC 2 m a.1.1 k ∧ ∀ c, Blk1 a.1.1 c → c ≠ b ∧ ¬ Blk1 gv c
  fin : ∀ (j : Nat) a g, raw[j]? = some a → Gs[j]? = some g → RowIs intC 1 m a.2.1 g ∧ ∀ c, Blk1 a.2.1 c → c ≠ b ∧ ¬ Blk1 gv c
  cur : ∀ a, raw[i]? = some a → a.2.1 = gv
  grow : GrowIs intC 1 lo m gv gc
  gb : ¬ Blk1 gv b
  fut : ∀ (j : Nat) a, i < j → raw[j]? = some a → a.2.1 = .nils
variable {lo : Nat} {m m' M2 : AMem} {b : Nat} {cp : Option Nat} {raw : List SP} {i : Nat} {gv : AV} {Ks : List (List (Int × Int))} {Gs : List (List Int)} {gc : List Int}
theorem DoSt.up (h : DoSt lo m b cp raw i gv Ks Gs gc) (k : Kp Nothing m m') : DoSt lo m' b cp raw i gv Ks Gs gc :=
  ⟨AMem.own_of h.own (k.old b h.row.lt id), h.row.keep k id, h.cap, h.lob, h.len, h.gl, fun j a x ha hx => ⟨(h.ker j a x ha hx).1.up k, (h.ker j a x ha hx).2⟩, fun j a g ha hg => ⟨(h.fin j a g ha hg).1.up k, (h.fin j a g ha hg).2⟩, h.cur, h.grow.up k, h.gb, h.fut⟩
theorem DoSt.rowIs (h : DoSt lo m b cp raw i gv Ks Gs gc) : RowIs stC 2 m (.slice b 0 raw.length cp) raw := .inr (.inr ⟨b, 0, cp, rfl, h.row⟩)
theorem DoSt.grows (h : DoSt lo m b cp raw i gv Ks Gs gc) : GrowIs stC 2 lo m (.slice b 0 raw.length cp) raw := .inr ⟨b, cp, rfl, h.lob, h.row, h.cap, h.own⟩
/-- A state more. -/
theorem DoSt.app {P : Program} {st : TypeId} {xt : Option TypeId} {ti : TypeInfo} {z : List AV} (hi : elemInfo P st = some (ti, z)) (hs : ti.size = 2) (hap : appendable P xt = true) (h : DoSt lo m b cp raw i gv Ks Gs gc) {kv : AV} {k : List (Int × Int)} (hk : RowG itC 2 m kv k) (hkg : ∀ c, Blk1 kv c → c ≠ b ∧ ¬ Blk1 gv c) (hlt : i < raw.length)
    (hlo : lo ≤ m.next) (hl : raw.length < 1048576) :
    ∃ m' b' cp' raw', aAppend P st xt (.slice b 0 raw.length cp) (.slice m.next 0 1 (some 1)) (m.new false 2 [kv, .nils]) = .mk (.slice b' 0 raw'.length cp') m' ∧ (m.new false 2 [kv, .nils]).next ≤ m'.next ∧ raw'.length = raw.length + 1 ∧ Kp (fun c => c = b) m m' ∧ m.next ≤ b' ∧ DoSt lo m' b' cp' raw' i gv (Ks ++ [k]) Gs gc := by
  have hkp : kv.plain = true := hk.row.plain
  obtain ⟨u, m1, e, hn, G, Klo, old, new⟩ := append_one (x := ((⟨kv, hkp⟩, ⟨.nils, rfl⟩) : SP)) encS (by decide) hi hs hap h.grows hlo hl
  have hK : Kp (fun c => c = b) m m1 := ⟨Nat.le_trans (Nat.le_succ _) hn, fun c hc hd => old c hc fun o n q e => by injection e with e; exact hd e.symm⟩
  have hne : raw ++ [((⟨kv, hkp⟩, ⟨.nils, rfl⟩) : SP)] ≠ [] := by simp
  rcases G with ⟨_, e2⟩ | ⟨b', c', rfl, hl', R, hc', ho⟩
  · exact absurd e2 hne
  have hb' : m.next ≤ b' := new b' _ _ _ rfl
  have hgu : ∀ c, Blk1 gv c → c < m.next := fun c hc => h.grow.row.under hc
  refine ⟨m1, b', c', _, e, hn, by simp, hK, hb', ho, R, hc', hl', by simp [h.len], h.gl, fun j a x ha hx => ?_, fun j a g ha hg => ?_, fun a ha => ?_, h.grow.stays hK fun c hc q => h.gb (q ▸ hc), fun q => ?_, fun j a hj ha => ?_⟩
  · by_cases hj : j < raw.length
    · rw [List.getElem?_append_left hj] at ha
      rw [List.getElem?_append_left (by rw [← h.len]; exact hj)] at hx
      obtain ⟨r, d⟩ := h.ker j a x ha hx
      exact ⟨r.stays hK fun c hc q => (d c hc).1 q, fun c hc => ⟨by have := r.row.under hc; omega, (d c hc).2⟩⟩
    · have hj2 : j = raw.length := by have := (List.getElem?_eq_some_iff.1 ha).1; simp at this; omega
      subst hj2
      rw [List.getElem?_append_right (Nat.le_refl _), Nat.sub_self] at ha
      rw [h.len, List.getElem?_append_right (Nat.le_refl _), Nat.sub_self] at hx
      cases ha; cases hx
      exact ⟨hk.stays hK fun c hc q => (hkg c hc).1 q, fun c hc => ⟨by have := hk.row.under hc; omega, (hkg c hc).2⟩⟩
  · have hj : j < raw.length := by have := (List.getElem?_eq_some_iff.1 hg).1; rw [h.gl] at this; omega
    rw [List.getElem?_append_left hj] at ha
    obtain ⟨r, d⟩ := h.fin j a g ha hg
    exact ⟨r.stays hK fun c hc q => (d c hc).1 q, fun c hc => ⟨by have := r.under hc; omega, (d c hc).2⟩⟩
  · rw [List.getElem?_append_left hlt] at ha
    exact h.cur a ha
  · have := hgu _ q; omega
  · by_cases hj2 : j < raw.length
    · rw [List.getElem?_append_left hj2] at ha
      exact h.fut j a hj ha
    · have hj3 : j = raw.length := by have := (List.getElem?_eq_some_iff.1 ha).1; simp at this; omega
      subst hj3
      rw [List.getElem?_append_right (Nat.le_refl _), Nat.sub_self] at ha
      cases ha; rfl
/-- One more in the row of where a state leads to: behind the append, the store. -/
theorem DoSt.goes (h : DoSt lo m b cp raw i gv Ks Gs gc) {u : AV} {t : Int} {a : SP} (ha : raw[i]? = some a) (k : Kp (Blk1 gv) m m') (G : GrowIs intC 1 lo m' u (gc ++ [t])) (new : ∀ c, Blk1 u c → m.next ≤ c) :
    ∃ a' : SP, a'.1 = a.1 ∧ DoSt lo (m'.write b (0 + i * 2 + 1) [u]) b cp (raw.set i a') i u Ks Gs (gc ++ [t]) ∧ m'.own b 2 (raw.length * 2) ∧ 0 + i * 2 + 1 + 1 ≤ raw.length * 2 ∧ Kp (fun c => c = b) m' (m'.write b (0 + i * 2 + 1) [u]) := by
  obtain ⟨hi, _⟩ := List.getElem?_eq_some_iff.1 ha
  have up : u.plain = true := G.row.plain
  have hbm : b < m.next := h.row.lt
  have hob : m'.own b 2 (raw.length * 2) := AMem.own_of h.own (k.old b hbm h.gb)
  have hrow : RowAt stC 2 m' b 0 raw := h.row.keep k h.gb
  have K2 : Kp (fun c => c = b) m' (m'.write b (0 + i * 2 + 1) [u]) := (Kp.refl m').write (.inr rfl)
  have ub : ∀ c, Blk1 u c → c ≠ b := fun c hc => by have := new c hc; omega
  have hll : (raw.set i (a.1, (⟨u, up⟩ : PV))).length = raw.length := List.length_set
  refine ⟨(a.1, ⟨u, up⟩), rfl, ⟨?_, ⟨?_, ?_, fun j x hx q hq => ?_⟩, ?_, h.lob, by rw [hll, h.len], h.gl, fun j x y hx hy => ?_, fun j x g hx hg => ?_, fun x hx => ?_, ?_, fun q => ub b q rfl, fun j x hj hx => ?_⟩, hob, by omega, K2⟩
  · rw [hll]; exact AMem.write_own _ _ _ _ hob
  · rw [AMem.write_next]; exact hrow.lt
  · rw [hll]; exact ⟨_, _, (AMem.write_own _ _ _ _ hob).blk, by omega⟩
  · rw [AMem.write_cell _ _ _ _ hob (by simp; omega)]
    simp only [List.length_singleton]
    rw [List.getElem?_set] at hx
    by_cases hij : i = j
    · subst hij
      rw [if_pos rfl, if_pos hi] at hx
      cases hx
      by_cases hq1 : q = 1
      · subst hq1; rw [if_pos (by omega), Nat.sub_self]; rfl
      · obtain rfl : q = 0 := by omega
        rw [if_neg (by omega)]
        have := hrow.at_ i a ha 0 (by decide)
        exact this
    · rw [if_neg hij] at hx
      rw [if_neg (by omega)]
      exact hrow.at_ j x hx q hq
  · rw [hll]; exact h.cap
  · have hx' : ∃ x0, raw[j]? = some x0 ∧ x0.1 = x.1 := by
      rw [List.getElem?_set] at hx
      by_cases hij : i = j
      · subst hij; rw [if_pos rfl, if_pos hi] at hx; cases hx; exact ⟨a, ha, rfl⟩
      · rw [if_neg hij] at hx; exact ⟨x, hx, rfl⟩
    obtain ⟨x0, e1, e2⟩ := hx'
    obtain ⟨r, d⟩ := h.ker j x0 y e1 hy
    rw [e2] at r d
    have r' := r.stays k fun c hc q => (d c hc).2 q
    exact ⟨r'.stays K2 fun c hc q => (d c hc).1 q, fun c hc => ⟨(d c hc).1, fun q => by have := new c q; have := r.row.under hc; omega⟩⟩
  · have hj : j < i := by have := (List.getElem?_eq_some_iff.1 hg).1; rw [h.gl] at this; exact this
    rw [List.getElem?_set, if_neg (by omega)] at hx
    obtain ⟨r, d⟩ := h.fin j x g hx hg
    have r' := r.stays k fun c hc q => (d c hc).2 q
    exact ⟨r'.stays K2 fun c hc q => (d c hc).1 q, fun c hc => ⟨(d c hc).1, fun q => by have := new c q; have := r.under hc; omega⟩⟩
  · rw [List.getElem?_set, if_pos rfl, if_pos hi] at hx
    cases hx; rfl
  · exact G.stays K2 fun c hc q => ub c hc q
  · rw [List.getElem?_set, if_neg (by omega)] at hx
    exact h.fut j x hj hx
/-- The next one. -/
theorem DoSt.next (h : DoSt lo m b cp raw i gv Ks Gs gc) (hi : i < raw.length) : DoSt lo m b cp raw (i + 1) .nils Ks (Gs ++ [gc]) [] := by
  have hn : ∀ c, ¬ Blk1 .nils c := fun c q => by obtain ⟨_, _, _, e⟩ := q; cases e
  refine ⟨h.own, h.row, h.cap, h.lob, h.len, by simp [h.gl], fun j a x ha hx => ⟨(h.ker j a x ha hx).1, fun c hc => ⟨((h.ker j a x ha hx).2 c hc).1, hn c⟩⟩, fun j a g ha hg => ?_, fun a ha => h.fut _ a (Nat.lt_succ_self _) ha, .inl ⟨rfl, rfl⟩, hn b, fun j a hj ha => h.fut j a (by omega) ha⟩
  by_cases hj : j < Gs.length
  · rw [List.getElem?_append_left hj] at hg
    exact ⟨(h.fin j a g ha hg).1, fun c hc => ⟨((h.fin j a g ha hg).2 c hc).1, hn c⟩⟩
  · have hj2 : j = Gs.length := by have := (List.getElem?_eq_some_iff.1 hg).1; simp at this; omega
    rw [hj2, List.getElem?_append_right (Nat.le_refl _), Nat.sub_self] at hg
    cases hg
    rw [hj2, h.gl] at ha
    have e := h.cur a ha
    rw [e]
    exact ⟨h.grow.row, fun c hc => ⟨fun q => h.gb (q ▸ hc), hn c⟩⟩
/-- All states, as the document has them. -/
structure DoFin (m : AMem) (v : AV) (Ks : List (List (Int × Int))) (Gs : List (List Int)) : Prop where
  ex : ∃ raw : List SP, RowIs stC 2 m v raw ∧ raw.length = Ks.length ∧ Gs.length = Ks.length ∧ (∀ (j : Nat) a k, raw[j]? = some a → Ks[j]? = some k → RowG itC 2 m a.1.1 k) ∧ ∀ (j : Nat) a g, raw[j]? = some a → Gs[j]? = some g → RowIs intC 1 m a.2.1 g
theorem DoSt.done (h : DoSt lo m b cp raw i gv Ks Gs gc) (hi : i = raw.length) : DoFin m (.slice b 0 raw.length cp) Ks Gs :=
  ⟨raw, h.rowIs, h.len, by rw [h.gl, hi, h.len], fun j a k ha hk => (h.ker j a k ha hk).1, fun j a g ha hg => (h.fin j a g ha hg).1⟩
end Go.Ev
end
