/- The document's Of: what comes of a grammar by names. A grammar cut to what may be: Cut. AutoAll: it answers true. Memories of blocks that are read alone: what a call was handed, as the evaluator sees it. DERIVED: THE SHELF's CONTRACTS AT THIS DUMP, IN PLAIN WORDS (tools/lay-plain.mjs out of 'TryzShelf.lean', which tools/lay-shelf.mjs wrote): THE SAME DECLARATIONS UNDER THE SAME NAMES: 'import', 'namespace', 'open', 'def', 'theorem' AND NOTHING ELSE: no command of the shelf's: FOR A HAND-IN. Each laying: the table of numbers ('.._ren') and one theorem, a field a fact of the dump's own or the kernel's comparison; each contract: ONE APPLICATION. strings.Join: its summary holds. All summaries of this program; the chain of what each layer begins with. The walk of begun4 and begun5: the evaluator's run by the kernel, and its soundness. The walk of begun6: the evaluator's run by the kernel, and its soundness. The walk of begun7: the evaluator's run by the kernel, and its soundness. The walk of begun8: the evaluator's run by the kernel, and its soundness. The table of what the laws take for granted; AutoAll in any world. AutoAll in any world. AutoLists, small words: bytes to a string, products, remainders. AutoLists: it answers true. AutoLists in any world. -/
import Derived.Test.YtehbmncbojngnaaGreatDoorEvGm
import Derived.Test.YtehbmncbojngnaaGreatDoorEvGg
import Derived.Test.YtehbmncbojngnaaGreatDoorEvGd
import Derived.Shelf.Strings.OnBuilder
import Derived.Test.YtehbmncbojngnaaGreatDoorProg
import Derived.Test.YtehbmncbojngnaaGreatDoorChecked
import Derived.Test.YtehbmncbojngnaaGreatDoorEvGf
import Derived.Test.YtehbmncbojngnaaGreatDoorEvGk
import Derived.Deep.Slices
import Derived.Deep.Strs
import Derived.SliceStrings
import Derived.Lib.SmallJoins
section
namespace Go.Ev
set_option linter.all false
open Go.Proofs
set_option maxRecDepth 10000
set_option maxHeartbeats 8000000
/-- A grammar by numbers, in memory. -/
structure SpecIs (m : AMem) (sv : AV) (s : SpV) (rs : List Rl) : Prop where
  v : sv = s.v
  r : RulesIs m s.vr rs
  wf : WfR (.ofNat s.toks) rs
  t : s.toks ≤ 12
  n : s.nts ≤ 10
  g : SpG s
abbrev ofF : List Nat := [9, 20, 21, 22, 23, 24, 25, 26, 27, 37, 38, 56, 57]
theorem call9 {S : Sums} (hS : Plain S ofF) {m : AMem} {vt vr : AV} {g : GrD} (hg : GramIs m vt vr g) (hl : GSmall g) (hs : GShort g) :
    ∃ r m', CallTo Tryz.prog S 9 [gramV vt g vr] m r m' ∧ Kp Nothing m m' ∧ ∃ cs e, r = .tup [.agg cs, .int .i64 e] ∧ cs.length = 8 ∧ cs.all AV.plain = true ∧ (e = 0 → ∃ s rs, SpecIs m' (.agg cs) s rs) := by
  have hS20 : Plain S [20, 37, 38, 56, 57] := fun f hf => hS f (by simp at hf ⊢; omega)
  have hS21 : Plain S [21, 23, 24] := fun f hf => hS f (by simp at hf ⊢; omega)
  have hS22 : Plain S [22, 23, 24, 38] := fun f hf => hS f (by simp at hf ⊢; omega)
  have hS23 : Plain S [23, 24] := fun f hf => hS f (by simp at hf ⊢; omega)
  have hS24 : Plain S [24] := fun f hf => hS f (by simp at hf ⊢; omega)
  have hS25 : Plain S [24, 25, 38] := fun f hf => hS f (by simp at hf ⊢; omega)
  have hS26 : Plain S [26] := fun f hf => hS f (by simp at hf ⊢; omega)
  have hS27 : Plain S [27] := fun f hf => hS f (by simp at hf ⊢; omega)
  have hlt := hl.t
  have hlr := hl.r
  obtain ⟨i27, e27, s27⟩ := ei27
  obtain ⟨i28, e28, s28⟩ := ei28
  obtain ⟨i29, e29, s29⟩ := ei29
  refine XP.call (hS 9 (by decide)) cd9 nt9 ?_
  show XP _ _ _ _ (toT .leaf [(0, gramV vt g vr)]) m _
  unfold Tryz.f9
  dsimp only [Option.getD_some]
  have K : Kp Nothing m m := .refl m
  refine XP.seq ?_; refine XP.regionS ?_
  have hk1 := K.le
  refine RP.box rfl rfl rfl rfl fun M1 K1 B1 N1 => ?_
  have K := K.trans K1
  have hk2 := K.le
  have lt1 := B1.lt
  refine RP.alloc z31 rfl rfl fun M2 K2 B2 N2 => ?_
  have K := K.trans K2
  have B1 := B1.up K2
  refine RP.o1 (.assign rfl) rfl rfl ?_; refine RP.nil ?_; refine XP.seq ?_
  refine XP.block ?_  -- block 0
  refine XP.seq ?_
  have hg2 := hg.up K
  have B1o := B1
  have B2o := B2
  have hk2 := K.le
  obtain ⟨w1, ma, hca, ba, rfl, Ka, hMay⟩ := call20 hS20 hg2 hl hs
  obtain ⟨w2, mb, hcb, bb, rfl, Kb, hLong⟩ := call21 hS21 (hg2.up Ka) hl
  obtain ⟨w3, mc, hcc, bc, rfl, Kc, hNamed⟩ := call22 hS22 ((hg2.up Ka).up Kb) hl
  obtain ⟨lu, ML, hcd, Kd, Gd⟩ := call23 hS23 (((hg2.up Ka).up Kb).up Kc) hl
  refine XP.regionS ?_; refine RP.o1 (.loadE rfl (by first | assumption | (apply BoxIs.el; assumption)) lay25 (by rfl)) rfl rfl ?_
  refine RP.op (.callS rfl rfl hca) rfl rfl Ka.le ?_
  have K := K.trans Ka
  have B1 := B1.up Ka
  have B2 := B2.up Ka
  have hk2 := K.le
  refine RP.o1 (.not_ rfl) rfl rfl ?_; refine RP.o1 (.assign rfl) rfl rfl ?_; refine RP.nil ?_
  refine XP.condB rfl (fun hc12 => ?_) (fun hc12 => ?_)  -- if t12
  · refine XP.seq ?_; refine XP.regionS ?_; refine RP.o1 (.build rfl build31e) rfl rfl ?_; refine RP.store rfl rfl lay31 rfl B2 rfl rfl rfl rfl fun MS KS B2 NS => ?_
    have K := K.young KS (by rintro _ rfl; omega)
    refine RP.o1 (.assign rfl) rfl rfl ?_; refine RP.nil ?_
    first
    | exact XP.ret ⟨.inr rfl, _, _, resCellTmp rfl lay31 rfl B2.el rfl, K, _, _, rfl, rfl, rfl, fun h => absurd h (by decide)⟩
    | exact XP.ret ⟨.inr rfl, _, _, resCellTmp rfl lay31 rfl B2.el rfl, K, _, _, rfl, rfl, (by show (true && (true && (true && (true && (u2.plain && (lvv.plain && (av.plain && (rv.plain && true)))))))) = true; rw [hnM.plain, hlevM.plain, hassM.plain, rg.plain]; rfl), fun _ => ⟨sp, rules, hspv.symm, by
        rw [hsp]
        exact (rgF.rest KFIN (fun b h => by omega) b5lt).rules, by rw [hsp]; exact hwf, hspt, hspN, hG⟩⟩
  · refine XP.seq ?_; refine XP.regionS ?_; refine RP.o1 (.loadE rfl (by first | assumption | (apply BoxIs.el; assumption)) lay25 (by rfl)) rfl rfl ?_
    refine RP.op (.callS rfl rfl hcb) rfl rfl Kb.le ?_
    have K := K.trans Kb
    have B1 := B1.up Kb
    have B2 := B2.up Kb
    refine RP.o1 (.assign rfl) rfl rfl ?_; refine RP.nil ?_
    refine XP.condB rfl (fun hc17 => ?_) (fun hc17 => ?_)  -- if t17
    · refine XP.seq ?_; refine XP.regionS ?_; refine RP.o1 (.build rfl build31e) rfl rfl ?_; refine RP.store rfl rfl lay31 rfl B2 rfl rfl rfl rfl fun MS KS B2 NS => ?_
      have K := K.young KS (by rintro _ rfl; omega)
      refine RP.o1 (.assign rfl) rfl rfl ?_; refine RP.nil ?_
      first
      | exact XP.ret ⟨.inr rfl, _, _, resCellTmp rfl lay31 rfl B2.el rfl, K, _, _, rfl, rfl, rfl, fun h => absurd h (by decide)⟩
      | exact XP.ret ⟨.inr rfl, _, _, resCellTmp rfl lay31 rfl B2.el rfl, K, _, _, rfl, rfl, (by show (true && (true && (true && (true && (u2.plain && (lvv.plain && (av.plain && (rv.plain && true)))))))) = true; rw [hnM.plain, hlevM.plain, hassM.plain, rg.plain]; rfl), fun _ => ⟨sp, rules, hspv.symm, by
          rw [hsp]
          exact (rgF.rest KFIN (fun b h => by omega) b5lt).rules, by rw [hsp]; exact hwf, hspt, hspN, hG⟩⟩
    · refine XP.seq ?_; refine XP.regionS ?_; refine RP.o1 (.loadE rfl (by first | assumption | (apply BoxIs.el; assumption)) lay25 (by rfl)) rfl rfl ?_
      refine RP.op (.callS rfl rfl hcc) rfl rfl Kc.le ?_
      have K := K.trans Kc
      have B1 := B1.up Kc
      have B2 := B2.up Kc
      refine RP.o1 (.not_ rfl) rfl rfl ?_; refine RP.o1 (.assign rfl) rfl rfl ?_; refine RP.nil ?_
      refine XP.condB rfl (fun hc21 => ?_) (fun hc21 => ?_)  -- if t21
      · refine XP.seq ?_; refine XP.regionS ?_; refine RP.o1 (.build rfl build31e) rfl rfl ?_; refine RP.store rfl rfl lay31 rfl B2 rfl rfl rfl rfl fun MS KS B2 NS => ?_
        have K := K.young KS (by rintro _ rfl; omega)
        refine RP.o1 (.assign rfl) rfl rfl ?_; refine RP.nil ?_
        first
        | exact XP.ret ⟨.inr rfl, _, _, resCellTmp rfl lay31 rfl B2.el rfl, K, _, _, rfl, rfl, rfl, fun h => absurd h (by decide)⟩
        | exact XP.ret ⟨.inr rfl, _, _, resCellTmp rfl lay31 rfl B2.el rfl, K, _, _, rfl, rfl, (by show (true && (true && (true && (true && (u2.plain && (lvv.plain && (av.plain && (rv.plain && true)))))))) = true; rw [hnM.plain, hlevM.plain, hassM.plain, rg.plain]; rfl), fun _ => ⟨sp, rules, hspv.symm, by
            rw [hsp]
            exact (rgF.rest KFIN (fun b h => by omega) b5lt).rules, by rw [hsp]; exact hwf, hspt, hspN, hG⟩⟩
      · refine XP.skip ?_; refine XP.seq ?_; refine XP.regionS ?_; refine RP.o1 (.loadE rfl (by first | assumption | (apply BoxIs.el; assumption)) lay25 (by rfl)) rfl rfl ?_
        refine RP.op (.callS rfl rfl hcd) rfl rfl Kd.le ?_
        have K := K.trans Kd
        have B1 := B1.up Kd
        have B2 := B2.up Kd
        have hM := hMay (by simpa using hc12)
        have hL := hLong hc17
        have hN := hNamed (by simpa using hc21)
        have KL := K
        have hkL := K.le
        have B1o := B1
        have B2o := B2
        have hgL := (((hg2.up Ka).up Kb).up Kc).up Kd
        have hlf : RowIs strC 1 ML lu (leftsL g.rules) := Gd.row
        have b2lt := B2.lt
        have hLt := hL.t
        have hLl := hL.l
        have hLr := hL.r
        refine RP.o1 (.assign rfl) rfl rfl ?_; refine RP.nil ?_; refine XP.seq ?_; refine XP.regionS ?_; refine RP.o1 (.fieldAddr rfl fa25_0) rfl rfl ?_
        refine RP.o1 (.load1 rfl lay22 (by first | (apply BoxIs.get; assumption; rfl) | (apply ElAt.get; assumption; rfl) | (apply ElAt.get0; assumption; rfl) | assumption)) rfl rfl ?_
        refine RP.o1 (.len rfl (rowLen22 hgL.t)) rfl rfl ?_; refine RP.o1 (.move rfl) rfl rfl ?_; refine RP.o1 (.len rfl (rowLen27 hlf)) rfl rfl ?_; refine RP.o1 (.fieldAddr rfl fa25_2) rfl rfl ?_
        refine RP.o1 (.load1 rfl lay3 (by first | (apply BoxIs.get; assumption; rfl) | (apply ElAt.get; assumption; rfl) | (apply ElAt.get0; assumption; rfl) | assumption)) rfl rfl ?_
        refine RP.o1 (.build rfl build31) rfl rfl ?_
        have hk6 := K.le
        have lt1 := B1.lt
        have lt2 := B2.lt
        refine RP.alloc z31 rfl rfl fun M6 K6 B5 N6 => ?_
        have K := K.trans K6
        have B1 := B1.up K6
        have B2 := B2.up K6
        have B5 : BoxIs M6 ML.next [.int .i64 (.ofNat 0), .int .i64 (.ofNat 0), .int .i64 (.ofNat 0), .int .i64 (.ofNat 0), .nils, .nils, .nils, .nils] := B5
        refine RP.store rfl rfl lay31 rfl B5 rfl rfl rfl rfl fun M7 K7 B5 N7 => ?_
        have K := K.young K7 (by rintro _ rfl; omega)
        have B1 := B1.keep K7 (by first | exact Nat.ne_of_lt (by assumption) | exact Nat.ne_of_gt (by assumption) | (intro e; omega))
        have B2 := B2.keep K7 (by first | exact Nat.ne_of_lt (by assumption) | exact Nat.ne_of_gt (by assumption) | (intro e; omega))
        refine RP.nil ?_; refine XP.seq ?_; refine XP.seq ?_
        have KB0 : Kp Nothing ML M7 := Kp.young (.refl _) (K6.any.trans K7) (by rintro _ rfl; exact Nat.le_refl _)
        have B5 : BoxIs M7 ML.next [.int .i64 (.ofNat g.toks.length), .int .i64 (.ofNat (leftsL g.rules).length), .int .i64 0, .int .i64 g.expect, .nils, .nils, .nils, .nils] := B5
        have tri0 : Tri (ML.next + 1) M7 .nils .nils .nils [] [] [] := ⟨.inl ⟨rfl, rfl⟩, .inl ⟨rfl, rfl⟩, .inl ⟨rfl, rfl⟩, (fun b h => by obtain ⟨_, _, _, e⟩ := h; cases e), (fun b h => by obtain ⟨_, _, _, e⟩ := h; cases e), (fun b h => by obtain ⟨_, _, _, e⟩ := h; cases e)⟩
        refine XP.regionS ?_; refine RP.o1 (.assign rfl) rfl rfl ?_; refine RP.nil ?_
        refine XP.block ?_  -- block 1
        refine XP.while (fun d t m1 => ∃ i t0 nv lvv av ls asg, t = toT t0 [(6, .int .i64 (.ofNat i)), (5, .ptr ML.next 0), (4, lu), (2, .ptr M1.next 0), (1, .ptr m.next 0)] ∧ d = g.toks.length - i ∧ i ≤ g.toks.length ∧ Kp Nothing ML m1 ∧ BoxIs m1 ML.next [.int .i64 (.ofNat g.toks.length), .int .i64 (.ofNat (leftsL g.rules).length), .int .i64 0, .int .i64 g.expect, nv, lvv, av, .nils] ∧ Tri (ML.next + 1) m1 nv lvv av (((g.toks.take i).map (·.name)).map strPV) ls asg ∧ ls.length = i ∧ asg.length = i) ?_ g.toks.length _ _ ?_
        rotate_left
        · exact ⟨0, _, _, _, _, _, _, toT_less (.cons rfl (.cons rfl (.cons rfl (.cons rfl (.cons rfl (.nil)))))), rfl, Nat.zero_le _, KB0, B5, tri0, rfl, rfl⟩
        rintro d t M8 ⟨i, t0, nv, lvv, av, ls, asg, rfl, rfl, hin, KA, B5, tri, hls, has⟩
        have K := KL.trans KA
        have B1 := B1o.up KA
        have B2 := B2o.up KA
        have hgM := hgL.up KA
        have hlM := hlf.up KA
        have hKA := KA.le
        have h5l := B5.lt
        refine XP.seq ?_; refine XP.seq ?_; refine XP.regionS ?_; refine RP.o1 (.move rfl) rfl rfl ?_; refine RP.o1 (.fieldAddr rfl fa25_0) rfl rfl ?_
        refine RP.o1 (.load1 rfl lay22 (by first | (apply BoxIs.get; assumption; rfl) | (apply ElAt.get; assumption; rfl) | (apply ElAt.get0; assumption; rfl) | assumption)) rfl rfl ?_
        refine RP.o1 (.len rfl (rowLen22 hgM.t)) rfl rfl ?_; refine RP.o1 (.bin rfl rfl (by first | exact lss_nat | exact lss_is)) rfl rfl ?_; refine RP.nil ?_
        refine XP.condD rfl (fun hc40 => ?_) (fun hc40 => ?_)  -- if t40
        · refine XP.skip ?_; refine XP.seq ?_
          refine XP.block ?_  -- block 2
          refine XP.seq ?_
          obtain ⟨tk, htk⟩ : ∃ tk, g.toks[i]? = some tk := ⟨g.toks[i]'hc40, List.getElem?_eq_getElem _⟩
          have B5r := B5
          have triold := tri
          have htake : ((g.toks.take (i + 1)).map (·.name)).map strPV = ((g.toks.take i).map (·.name)).map strPV ++ [strPV tk.name] := by
            obtain ⟨hi, he⟩ := List.getElem?_eq_some_iff.1 htk
            rw [List.take_succ_eq_append_getElem hi, he]; simp
          obtain ⟨bt, ot, ct, e5, _, E1⟩ := hgM.t.elem encTok (.refl _) htk
          have hB10 : BoxIs M8 m.next [vt, .str g.start, .int .i64 g.expect, vr] := B1
          rw [e5] at hB10
          obtain ⟨u1, mp1, ha1, hm1, G1, Kp1, new1⟩ := append1 (x := strPV tk.name) encPV (by decide) e27 s27 ap27 tri.gx (by omega) (by simp; omega)
          have B5 := B5.keep Kp1 (fun h => by have := tri.gx.low h; omega)
          refine XP.drawnS (ms := [0, 1, 0, 4, 0, 28, 60, 124, 252, 511, 1023, 2047]) (by kernel_rfl) ?_; refine DP.pure (.fieldAddr rfl fa31_4) rfl rfl rfl ?_; refine DP.read (fun _ => op_load1 (ev_is rfl) lay27 (B5r.get (j := 4) rfl)) rfl rfl rfl (fun _ => op_load_leaf) (.inl (by kernel_rfl)) (fun _ => cuts_nil) ?_; refine DP.pure (.fieldAddr rfl fa25_0) rfl rfl rfl ?_; refine DP.read (fun _ => op_load1 (ev_is rfl) lay22 (hB10.get (j := 0) rfl)) rfl rfl rfl (fun _ => op_load_leaf) (.inl (by kernel_rfl)) (fun _ => cuts_nil) ?_; refine DP.pure (.move rfl) rfl rfl rfl ?_; refine DP.pure (.indexAddr rfl rfl ix22 (by assumption)) rfl rfl rfl ?_; refine DP.pure (.fieldAddr rfl fa40_0) rfl rfl rfl ?_
          refine DP.read (fun _ => op_load1 (ev_is rfl) lay9 (by first | (apply BoxIs.get; assumption; rfl) | (apply ElAt.get; assumption; rfl) | (apply ElAt.get0; assumption; rfl) | assumption)) rfl rfl rfl (fun _ => op_load_leaf) (.inl (by kernel_rfl)) (fun _ => cuts_nil) ?_
          refine DP.make (.buildSlice rfl e27 (by rw [s27]; rfl) (by rw [s27]; exact fill27)) rfl rfl rfl ?_
          rw [s27]
          refine DP.heavy (OpTo.of fun _ => op_append rfl rfl ha1) rfl rfl rfl (by kernel_rfl) (by kernel_rfl) hm1 (pk_drop (by kernel_rfl) (pk_drop (by kernel_rfl) (pk_drop (by kernel_rfl) pk_nil))) ?_; refine DP.pure (.fieldAddr rfl fa31_4) rfl rfl rfl ?_; refine DP.storeP rfl rfl lay27 G1.row.plain B5 rfl rfl rfl (by kernel_rfl) (by kernel_rfl) (fun _ => pk_nil) fun M9 K9 B5 N9 => ?_
          have B5 : BoxIs M9 ML.next [.int .i64 (.ofNat g.toks.length), .int .i64 (.ofNat (leftsL g.rules).length), .int .i64 0, .int .i64 g.expect, u1, lvv, av, .nils] := B5
          have tri := tri.app Kp1 G1 (fun b h => .inl (new1 b h)) K9 (by omega)
          have KA := (KA.young Kp1 (fun b h => by have := triold.gx.low h; omega)).young K9 (by rintro _ rfl; exact Nat.le_refl _)
          have hKA := KA.le
          have h5l := B5.lt
          have B1 := B1o.up KA
          have hgM := hgL.up KA
          obtain ⟨_, _, _, e5b, _, E1⟩ := hgM.t.elem encTok (.refl _) htk
          rw [e5] at e5b
          injection e5b with q1 q2 q3 q4
          subst q1; subst q2; subst q4
          have hB10 : BoxIs M9 m.next [vt, .str g.start, .int .i64 g.expect, vr] := B1
          rw [e5] at hB10
          have B5r := B5
          have triold := tri
          obtain ⟨u2, mp2, ha2, hm2, G2, Kp2, new2⟩ := append1 (x := intPV tk.level) encPV (by decide) e28 s28 ap28 tri.gy (by omega) (by omega)
          have B5 := B5.keep Kp2 (fun h => by have := triold.gy.low h; omega)
          refine DP.nil ?_; refine XP.seq ?_; refine XP.drawnS (ms := [0, 1, 0, 4, 0, 28, 60, 124, 252, 511, 1023, 2047]) (by kernel_rfl) ?_; refine DP.pure (.fieldAddr rfl fa31_5) rfl rfl rfl ?_; refine DP.read (fun _ => op_load1 (ev_is rfl) lay28 (B5r.get (j := 5) rfl)) rfl rfl rfl (fun _ => op_load_leaf) (.inl (by kernel_rfl)) (fun _ => cuts_nil) ?_; refine DP.pure (.fieldAddr rfl fa25_0) rfl rfl rfl ?_; refine DP.read (fun _ => op_load1 (ev_is rfl) lay22 (hB10.get (j := 0) rfl)) rfl rfl rfl (fun _ => op_load_leaf) (.inl (by kernel_rfl)) (fun _ => cuts_nil) ?_; refine DP.pure (.move rfl) rfl rfl rfl ?_; refine DP.pure (.indexAddr rfl rfl ix22 (by assumption)) rfl rfl rfl ?_; refine DP.pure (.fieldAddr rfl fa40_1) rfl rfl rfl ?_
          refine DP.read (fun _ => op_load1 (ev_is rfl) lay3 (by first | (apply BoxIs.get; assumption; rfl) | (apply ElAt.get; assumption; rfl) | (apply ElAt.get0; assumption; rfl) | assumption)) rfl rfl rfl (fun _ => op_load_leaf) (.inl (by kernel_rfl)) (fun _ => cuts_nil) ?_
          refine DP.make (.buildSlice rfl e28 (by rw [s28]; rfl) (by rw [s28]; exact fill28)) rfl rfl rfl ?_
          rw [s28]
          refine DP.heavy (OpTo.of fun _ => op_append rfl rfl ha2) rfl rfl rfl (by kernel_rfl) (by kernel_rfl) hm2 (pk_drop (by kernel_rfl) (pk_drop (by kernel_rfl) (pk_drop (by kernel_rfl) pk_nil))) ?_; refine DP.pure (.fieldAddr rfl fa31_5) rfl rfl rfl ?_; refine DP.storeP rfl rfl lay28 G2.row.plain B5 rfl rfl rfl (by kernel_rfl) (by kernel_rfl) (fun _ => pk_nil) fun M10 K10 B5 N10 => ?_
          have B5 : BoxIs M10 ML.next [.int .i64 (.ofNat g.toks.length), .int .i64 (.ofNat (leftsL g.rules).length), .int .i64 0, .int .i64 g.expect, u1, u2, av, .nils] := B5
          have tri := (tri.rot.app Kp2 G2 (fun b h => .inl (new2 b h)) K10 (by omega)).rot.rot
          have KA := (KA.young Kp2 (fun b h => by have := triold.gy.low h; omega)).young K10 (by rintro _ rfl; exact Nat.le_refl _)
          have hKA := KA.le
          have h5l := B5.lt
          have B1 := B1o.up KA
          have hgM := hgL.up KA
          obtain ⟨_, _, _, e5b, _, E1⟩ := hgM.t.elem encTok (.refl _) htk
          rw [e5] at e5b
          injection e5b with q1 q2 q3 q4
          subst q1; subst q2; subst q4
          have hB10 : BoxIs M10 m.next [vt, .str g.start, .int .i64 g.expect, vr] := B1
          rw [e5] at hB10
          have B5r := B5
          have triold := tri
          obtain ⟨u3, mp3, ha3, hm3, G3, Kp3, new3⟩ := append1 (x := intPV tk.assoc) encPV (by decide) e28 s28 ap28 tri.gz (by omega) (by omega)
          have B5 := B5.keep Kp3 (fun h => by have := triold.gz.low h; omega)
          refine DP.nil ?_; refine XP.drawnS (ms := [0, 1, 0, 4, 0, 28, 60, 124, 252, 511, 1023, 2047]) (by kernel_rfl) ?_; refine DP.pure (.fieldAddr rfl fa31_6) rfl rfl rfl ?_; refine DP.read (fun _ => op_load1 (ev_is rfl) lay28 (B5r.get (j := 6) rfl)) rfl rfl rfl (fun _ => op_load_leaf) (.inl (by kernel_rfl)) (fun _ => cuts_nil) ?_; refine DP.pure (.fieldAddr rfl fa25_0) rfl rfl rfl ?_; refine DP.read (fun _ => op_load1 (ev_is rfl) lay22 (hB10.get (j := 0) rfl)) rfl rfl rfl (fun _ => op_load_leaf) (.inl (by kernel_rfl)) (fun _ => cuts_nil) ?_; refine DP.pure (.move rfl) rfl rfl rfl ?_; refine DP.pure (.indexAddr rfl rfl ix22 (by assumption)) rfl rfl rfl ?_; refine DP.pure (.fieldAddr rfl fa40_2) rfl rfl rfl ?_
          refine DP.read (fun _ => op_load1 (ev_is rfl) lay3 (by first | (apply BoxIs.get; assumption; rfl) | (apply ElAt.get; assumption; rfl) | (apply ElAt.get0; assumption; rfl) | assumption)) rfl rfl rfl (fun _ => op_load_leaf) (.inl (by kernel_rfl)) (fun _ => cuts_nil) ?_
          refine DP.make (.buildSlice rfl e28 (by rw [s28]; rfl) (by rw [s28]; exact fill28)) rfl rfl rfl ?_
          rw [s28]
          refine DP.heavy (OpTo.of fun _ => op_append rfl rfl ha3) rfl rfl rfl (by kernel_rfl) (by kernel_rfl) hm3 (pk_drop (by kernel_rfl) (pk_drop (by kernel_rfl) (pk_drop (by kernel_rfl) pk_nil))) ?_; refine DP.pure (.fieldAddr rfl fa31_6) rfl rfl rfl ?_; refine DP.storeP rfl rfl lay28 G3.row.plain B5 rfl rfl rfl (by kernel_rfl) (by kernel_rfl) (fun _ => pk_nil) fun M11 K11 B5 N11 => ?_
          have B5 : BoxIs M11 ML.next [.int .i64 (.ofNat g.toks.length), .int .i64 (.ofNat (leftsL g.rules).length), .int .i64 0, .int .i64 g.expect, u1, u2, u3, .nils] := B5
          have tri := (tri.rot.rot.app Kp3 G3 (fun b h => .inl (new3 b h)) K11 (by omega)).rot
          have KA := (KA.young Kp3 (fun b h => by have := triold.gz.low h; omega)).young K11 (by rintro _ rfl; exact Nat.le_refl _)
          refine DP.nil ?_; refine XP.regionS ?_; refine RP.o1 (.move rfl) rfl rfl ?_
          refine RP.o1 (.bin rfl rfl (by first | exact inc_is (by omega) | exact add_is (by omega) (by omega))) rfl rfl ?_
          refine RP.o1 (.assign rfl) rfl rfl ?_; refine RP.nil ?_
          exact ⟨g.toks.length - (i + 1), by omega, i + 1, _, u1, u2, u3, _, _, toT_less (.cons rfl (.cons rfl (.cons rfl (.cons rfl (.cons rfl (.nil)))))), rfl, by omega, KA, B5, by rw [htake]; exact tri, by simp [hls], by simp [has]⟩
        · refine XP.exit ?_  -- 1
          refine XP.seq ?_
          obtain rfl : i = g.toks.length := by omega
          rw [List.take_length] at tri
          have triold := tri
          have B5r := B5
          obtain ⟨u1, mp1, ha1, hm1, G1, Kp1, new1⟩ := append1 (x := strPV []) encPV (by decide) e27 s27 ap27 tri.gx (by omega) (by simp; omega)
          have hm1' : M8.next ≤ mp1.next := Kp1.le
          obtain ⟨u2, mp2, ha2, hm2, G2, Kp2, new2⟩ := append_rows (w := lu) (ys := (leftsL g.rules).map strPV) encPV (by decide) e27 s27 ap27 G1 (strRow (hlM.stays Kp1 fun b h e => by have := triold.gx.low e; have := hlf.under h; omega)) (by omega) (by simp; omega) (by simp; omega)
          have Kp12 : Kp (fun b => Blk1 nv b ∨ M8.next ≤ b) M8 mp2 := (Kp1.mono fun b _ h => .inl h).youngD Kp2 (fun b h => .inr (new1 b h))
          have B5 := B5.keep Kp12 (by
            rintro (h | h)
            · have := triold.gx.low h; omega
            · omega)
          have hu2p := G2.row.plain
          refine XP.regionS ?_; refine RP.o1 (.fieldAddr rfl fa31_4) rfl rfl ?_; refine RP.o1 (.load1 rfl lay27 (B5r.get (j := 4) rfl)) rfl rfl ?_; refine RP.op (.buildSlice rfl e27 (by rw [s27]; rfl) (by rw [s27]; exact fill27)) rfl rfl (Nat.le_succ _) ?_
          rw [s27]
          refine RP.op (OpTo.of fun _ => op_append rfl rfl ha1) rfl rfl hm1 ?_; refine RP.o1 (.move rfl) rfl rfl ?_; refine RP.op (OpTo.of fun _ => op_append rfl rfl ha2) rfl rfl hm2 ?_; refine RP.o1 (.fieldAddr rfl fa31_4) rfl rfl ?_; refine RP.storeP rfl rfl lay27 hu2p B5 rfl rfl rfl fun M12 K12 B5 N12 => ?_
          have B5 : BoxIs M12 ML.next [.int .i64 (.ofNat g.toks.length), .int .i64 (.ofNat (leftsL g.rules).length), .int .i64 0, .int .i64 g.expect, u2, lvv, av, .nils] := B5
          have Kp12b : Kp (Blk1 nv) M8 mp2 := ⟨Kp12.le, fun b hb hn => Kp12.old b hb (by rintro (h | h); exact hn h; omega)⟩
          have tri := tri.app (u := u2) Kp12b G2 (fun b h => by
            rcases new2 b h with q | q
            · left; omega
            · left; rw [q] at h; exact new1 b h) K12 (by omega)
          have KA := (KA.young Kp12 (by
            rintro b (h | h)
            · have := triold.gx.low h; omega
            · omega)).young K12 (by rintro _ rfl; exact Nat.le_refl _)
          have hKA := KA.le
          have K := KL.trans KA
          have B1 := B1o.up KA
          have B2 := B2o.up KA
          have hgM := hgL.up KA
          have hlM := hlf.up KA
          have hnames : RowIs strC 1 M12 u2 (allNames g) := rowStr (by
            have := tri.gx.row
            simpa [allNames] using this)
          have hl0 : 0 < (leftsL g.rules).length := by
            rcases Nat.lt_or_ge 0 g.rules.length with h | h
            · have := lefts_mem (rs := g.rules) g.rules.length 0 _ h (List.getElem?_eq_getElem h)
              rw [List.take_length] at this
              exact List.length_pos_of_mem this
            · exact absurd (List.eq_nil_of_length_eq_zero (by omega)) hN.ne
          refine RP.nil ?_; refine XP.seq ?_; refine XP.regionS ?_; refine RP.o1 (.fieldAddr rfl fa25_1) rfl rfl ?_
          refine RP.o1 (.load1 rfl lay9 (by first | (apply BoxIs.get; assumption; rfl) | (apply ElAt.get; assumption; rfl) | (apply ElAt.get0; assumption; rfl) | assumption)) rfl rfl ?_
          refine RP.o1 (.assign rfl) rfl rfl ?_; refine RP.nil ?_; refine XP.seq ?_; refine XP.seq ?_; refine XP.regionS ?_; refine RP.o1 (.move rfl) rfl rfl ?_; refine RP.o1 (.bin rfl rfl eqlS) rfl rfl ?_; refine RP.nil ?_; refine XP.join (fun t mj => ∃ t0 stt, t = toT t0 [(7, .str stt), (5, .ptr ML.next 0), (4, lu), (2, .ptr M1.next 0), (1, .ptr m.next 0)] ∧ mj = M12 ∧ stt ∈ leftsL g.rules) ?_ ?_
          · refine XP.condD rfl (fun hc86 => ?_) (fun hc86 => ?_)  -- if t86
            · obtain ⟨x0, hx0⟩ : ∃ x0, (leftsL g.rules)[0]? = some x0 := ⟨(leftsL g.rules)[0]'hl0, List.getElem?_eq_getElem _⟩
              obtain ⟨bl, ol, cl, e6, _, E6⟩ := hlM.elem encStr (.refl _) hx0
              subst e6
              refine XP.regionS ?_; refine RP.o1 (.move rfl) rfl rfl ?_; refine RP.o1 (.indexAddr (j := 0) rfl rfl ix27 hl0) rfl rfl ?_; refine RP.o1 (.load1 rfl lay9 (E6.get0 rfl)) rfl rfl ?_; refine RP.o1 (.assign rfl) rfl rfl ?_; refine RP.nil ?_
              first
              | exact ⟨rfl, _, _, toT_less (.cons rfl (.cons rfl (.cons rfl (.cons rfl (.cons rfl (.nil)))))), rfl, List.mem_of_getElem? hx0⟩
              | exact ⟨rfl, _, _, toT_less (.cons rfl (.cons rfl (.cons rfl (.cons rfl (.cons rfl (.nil)))))), rfl, by rcases hN.st with h | h; exact absurd h hc86; exact h⟩
            · refine XP.skip ?_
              first
              | exact ⟨rfl, _, _, toT_less (.cons rfl (.cons rfl (.cons rfl (.cons rfl (.cons rfl (.nil)))))), rfl, List.mem_of_getElem? hx0⟩
              | exact ⟨rfl, _, _, toT_less (.cons rfl (.cons rfl (.cons rfl (.cons rfl (.cons rfl (.nil)))))), rfl, by rcases hN.st with h | h; exact absurd h hc86; exact h⟩
          rintro t M13 ⟨t0, stt, rfl, hmj, hstt⟩
          subst hmj
          refine XP.seq ?_
          have hc24 := call24 hS24 hlM (s := stt) (by omega)
          obtain ⟨p, hpe, hpi⟩ := (placeI_mem (l := leftsL g.rules) (s := stt)).2.1 hstt
          have hpl := (List.getElem?_eq_some_iff.1 hpi).1
          rw [hpe] at hc24
          have B5r := B5
          refine XP.drawnS (ms := [0, 1, 3, 0, 0, 24, 63, 127, 255]) (by kernel_rfl) ?_; refine DP.pure (.fieldAddr rfl fa31_0) rfl rfl rfl ?_; refine DP.read (fun _ => op_load1 (ev_is rfl) lay3 (B5r.get (j := 0) rfl)) rfl rfl rfl (fun _ => op_load_leaf) (.inl (by kernel_rfl)) (fun _ => cuts_nil) ?_; refine DP.pure (.bin rfl rfl (inc_is (by omega))) rfl rfl rfl ?_; refine DP.pure (.move rfl) rfl rfl rfl ?_; refine DP.pure (.move rfl) rfl rfl rfl ?_; refine DP.heavy (.callS rfl rfl hc24) rfl rfl rfl (by kernel_rfl) (by kernel_rfl) (Nat.le_refl _) (pk_keep (by kernel_rfl) (fun call => reads_of (op_load1 (ev_is rfl) lay3 (B5r.get (j := 0) rfl)) eqV_int) pk_nil) ?_; refine DP.pure (.bin rfl rfl (addN_is (by omega))) rfl rfl rfl ?_; refine DP.pure (.fieldAddr rfl fa31_2) rfl rfl rfl ?_; refine DP.store rfl rfl lay3 rfl B5 rfl rfl rfl rfl (by kernel_rfl) (by kernel_rfl) (fun _ => pk_drop (by kernel_rfl) pk_nil) fun M14 K14 B5 N14 => ?_
          have B5 : BoxIs M14 ML.next [.int .i64 (.ofNat g.toks.length), .int .i64 (.ofNat (leftsL g.rules).length), .int .i64 (.ofNat (g.toks.length + 1 + p)), .int .i64 g.expect, u2, lvv, av, .nils] := B5
          have nb5 : ∀ {v : AV} {l : List PV} {M : AMem}, GrowIs pvC 1 (ML.next + 1) M v l → ∀ b, Blk1 v b → ¬ b = ML.next := fun G b hb e => by have := G.low hb; omega
          have hnames := hnames.stays K14 (fun b h => nb5 tri.gx b h)
          have hlev := tri.gy.row.stays K14 (fun b h => nb5 tri.gy b h)
          have hass := tri.gz.row.stays K14 (fun b h => nb5 tri.gz b h)
          have KA := KA.young K14 (by rintro _ rfl; exact Nat.le_refl _)
          have hKA := KA.le
          have B1 := B1o.up KA
          have B2 := B2o.up KA
          have K := KL.trans KA
          have hgR := hgL.up KA
          have b5lt := B5.lt
          have nbn : ∀ b, Blk1 u2 b → ¬ b = ML.next := fun b h => nb5 tri.gx b h
          have nbl : ∀ b, Blk1 lvv b → ¬ b = ML.next := fun b h => nb5 tri.gy b h
          have nba : ∀ b, Blk1 av b → ¬ b = ML.next := fun b h => nb5 tri.gz b h
          have KAR := KA
          have B5r := B5
          refine DP.nil ?_; refine XP.seq ?_
          have KE0 : Kp (fun b => b = ML.next) M14 M14 := .refl _
          refine XP.regionS ?_; refine RP.o1 (.fieldAddr rfl fa31_7) rfl rfl ?_; refine RP.o1 (.load1 rfl lay29 (B5r.get (j := 7) rfl)) rfl rfl ?_; refine RP.o1 (.fieldAddr rfl fa31_2) rfl rfl ?_; refine RP.o1 (.load1 rfl lay3 (B5r.get (j := 2) rfl)) rfl rfl ?_; refine RP.slice1 (x := Int.ofNat (g.toks.length + 1 + p)) encI e28 s28 rfl rfl fill28 rfl rfl fun Mx Kx Rx _ Nx => ?_
          have hwx : RowIs intC 1 Mx (.slice M14.next 0 1 (some 1)) [Int.ofNat (g.toks.length + 1 + p)] := .inr (.inr ⟨M14.next, 0, some 1, rfl, Rx⟩)
          have hkx := Kx.le
          obtain ⟨uR, mR, haR, hmR, KR, newR, pR, RR0⟩ := (RG.nil (lo := M14.next) (b5 := ML.next) (m := Mx)).app e29 s29 ap29 (a := -1) (l := 0) (s := 0) hwx (fun b hb => ⟨by obtain ⟨_, _, _, e⟩ := hb; injection e with e; omega, fun h => by obtain ⟨_, _, _, e⟩ := h; cases e⟩) b5lt hkx (by decide)
          have KR0 : Kp Nothing Mx mR := KR.mono fun b _ h => by obtain ⟨_, _, _, e⟩ := h; cases e
          have B5 := (B5.up Kx).up KR0
          refine RP.o1 (.build rfl build56s) rfl rfl ?_; refine RP.op (.buildSlice rfl e29 (by rw [s29]; rfl) (by rw [s29]; exact fill29)) rfl rfl (Nat.le_succ _) ?_
          rw [s29]
          refine RP.op (OpTo.of fun _ => op_append rfl rfl haR) rfl rfl hmR ?_; refine RP.o1 (.fieldAddr rfl fa31_7) rfl rfl ?_; refine RP.storeP rfl rfl lay29 pR B5 rfl rfl rfl fun M15 K15 B5 N15 => ?_
          have B5 : BoxIs M15 ML.next [.int .i64 (.ofNat g.toks.length), .int .i64 (.ofNat (leftsL g.rules).length), .int .i64 (.ofNat (g.toks.length + 1 + p)), .int .i64 g.expect, u2, lvv, av, uR] := B5
          have rg0 := RR0 _ K15
          have KE1 : Kp (fun b => b = ML.next) M14 M15 := ((Kx.trans KR0).any).trans K15
          have ro0 : RulesOf g (Int.ofNat (g.toks.length + 1 + p)) [⟨-1, [Int.ofNat (g.toks.length + 1 + p)], 0, 0⟩] 0 := ⟨rfl, ⟨_, rfl, rfl, rfl⟩, fun j r q h => absurd h (Nat.not_lt_zero _)⟩
          refine RP.nil ?_; refine XP.seq ?_; refine XP.seq ?_; refine XP.regionS ?_; refine RP.o1 (.assign rfl) rfl rfl ?_; refine RP.nil ?_
          refine XP.block ?_  -- block 3
          refine XP.while (fun d t m1 => ∃ i t0 rv rules, t = toT t0 [(8, .int .i64 (.ofNat i)), (5, .ptr ML.next 0), (2, .ptr M1.next 0), (1, .ptr m.next 0)] ∧ d = g.rules.length - i ∧ i ≤ g.rules.length ∧ Kp (fun b => b = ML.next) M14 m1 ∧ BoxIs m1 ML.next [.int .i64 (.ofNat g.toks.length), .int .i64 (.ofNat (leftsL g.rules).length), .int .i64 (.ofNat (g.toks.length + 1 + p)), .int .i64 g.expect, u2, lvv, av, rv] ∧ RG M14.next ML.next m1 rv rules ∧ RulesOf g (Int.ofNat (g.toks.length + 1 + p)) rules i) ?_ g.rules.length _ _ ?_
          rotate_left
          · exact ⟨0, _, uR, _, toT_less (.cons rfl (.cons rfl (.cons rfl (.cons rfl (.nil))))), rfl, Nat.zero_le _, KE1, B5, rg0, ro0⟩
          rintro d t M16 ⟨i, t0, rv, rules, rfl, rfl, hin, KE, B5, rg, ro⟩
          have KA := KAR.young KE (by rintro _ rfl; exact Nat.le_refl _)
          have K := KL.trans KA
          have B1 := B1o.up KA
          have B2 := B2o.up KA
          have hgM := hgL.up KA
          have hnM := hnames.stays KE nbn
          have hlevM := hlev.stays KE nbl
          have hassM := hass.stays KE nba
          have hKE := KE.le
          refine XP.seq ?_; refine XP.seq ?_; refine XP.regionS ?_; refine RP.o1 (.move rfl) rfl rfl ?_; refine RP.o1 (.fieldAddr rfl fa25_3) rfl rfl ?_
          refine RP.o1 (.load1 rfl lay23 (by first | (apply BoxIs.get; assumption; rfl) | (apply ElAt.get; assumption; rfl) | (apply ElAt.get0; assumption; rfl) | assumption)) rfl rfl ?_
          refine RP.o1 (.len rfl (rowLen23 hgM.r)) rfl rfl ?_; refine RP.o1 (.bin rfl rfl (by first | exact lss_nat | exact lss_is)) rfl rfl ?_; refine RP.nil ?_
          refine XP.condD rfl (fun hc111 => ?_) (fun hc111 => ?_)  -- if t111
          · refine XP.skip ?_; refine XP.seq ?_
            refine XP.block ?_  -- block 4
            obtain ⟨r, hr⟩ : ∃ r, g.rules[i]? = some r := ⟨g.rules[i]'hc111, List.getElem?_eq_getElem _⟩
            obtain ⟨bq, oq, cq, vq, e7, _, E7, RQ, hpl⟩ := hgM.r.elem (.refl _) hr
            have hB13 : BoxIs M16 m.next [vt, .str g.start, .int .i64 g.expect, vr] := B1
            have hB13b := hB13
            rw [e7] at hB13b
            obtain ⟨u25, M25, hc25, K25, rvv, lv25, sa25, rfl, R25, f25⟩ := call25 hS25 (s := ⟨g.toks.length, (leftsL g.rules).length, Int.ofNat (g.toks.length + 1 + p), g.expect, u2, lvv, av, rv⟩) hgM hl hnM (by simp [allNames]; omega) RQ (hl.rr r (List.mem_of_getElem? hr)) rfl
            have rg25 := rg.up K25
            have B5n := B5.up K25
            have hk25 := K25.le
            have hrl : rules.length = i + 1 := ro.len
            obtain ⟨uR, mR, haR, hmR, KR, newR, pR, RR0⟩ := rg25.app e29 s29 ap29 (a := placeI (allNames g) r.left) (l := lv25) (s := sa25) R25 (fun b hb => ⟨by have := f25 b hb; omega, fun h => by have := f25 b hb; have := rg.under h; omega⟩) b5lt (by omega) (by omega)
            have B5r := B5
            have B5 := B5n.keep KR (fun h => by have := rg.low h; omega)
            refine XP.drawnS (ms := [0, 1, 0, 0, 0, 16, 0, 112, 240, 508, 1020, 2047, 4095, 8191]) (by kernel_rfl) ?_; refine DP.pure (.fieldAddr rfl fa31_7) rfl rfl rfl ?_; refine DP.read (fun _ => op_load1 (ev_is rfl) lay29 (B5r.get (j := 7) rfl)) rfl rfl rfl (fun _ => op_load_leaf) (.inl (by kernel_rfl)) (fun _ => cuts_nil) ?_; refine DP.read (fun _ => op_loadE rfl hB13.el lay25 (by rfl)) rfl rfl rfl (fun _ => op_load_leaf) (.inl (by kernel_rfl)) (fun _ => cuts_nil) ?_; refine DP.read (fun _ => op_loadE rfl B5r.el lay31 (by rfl)) rfl rfl rfl (fun _ => op_load_leaf) (.inl (by kernel_rfl)) (fun _ => cuts_nil) ?_; refine DP.pure (.fieldAddr rfl fa25_3) rfl rfl rfl ?_; refine DP.read (fun _ => op_load1 (ev_is rfl) lay23 (hB13b.get (j := 3) rfl)) rfl rfl rfl (fun _ => op_load_leaf) (.inl (by kernel_rfl)) (fun _ => cuts_nil) ?_; refine DP.pure (.move rfl) rfl rfl rfl ?_; refine DP.pure (.indexAddr rfl rfl ix23 (by assumption)) rfl rfl rfl ?_; refine DP.read (fun _ => op_loadE rfl E7 lay42 (by rfl)) rfl rfl rfl (fun _ => op_load_leaf) (.inl (by kernel_rfl)) (fun _ => cuts_nil) ?_; refine DP.heavy (.callS rfl rfl hc25) rfl rfl rfl (by kernel_rfl) (by kernel_rfl) K25.le (pk_drop (by kernel_rfl) (pk_drop (by kernel_rfl) (pk_drop (by kernel_rfl) (pk_drop (by kernel_rfl) (pk_keep (by kernel_rfl) (fun call => reads_of (op_load1 (ev_is rfl) lay29 (B5n.get (j := 7) rfl)) rg.eqv) pk_nil))))) ?_; refine DP.make (.buildSlice rfl e29 (by rw [s29]; rfl) (by rw [s29]; exact fill29)) rfl rfl rfl ?_
            rw [s29]
            refine DP.heavy (OpTo.of fun _ => op_append rfl rfl haR) rfl rfl rfl (by kernel_rfl) (by kernel_rfl) hmR (pk_drop (by kernel_rfl) pk_nil) ?_; refine DP.pure (.fieldAddr rfl fa31_7) rfl rfl rfl ?_; refine DP.storeP rfl rfl lay29 pR B5 rfl rfl rfl (by kernel_rfl) (by kernel_rfl) (fun _ => pk_nil) fun M17 K17 B5 N17 => ?_
            have B5 : BoxIs M17 ML.next [.int .i64 (.ofNat g.toks.length), .int .i64 (.ofNat (leftsL g.rules).length), .int .i64 (.ofNat (g.toks.length + 1 + p)), .int .i64 g.expect, u2, lvv, av, uR] := B5
            have rg2 := RR0 _ K17
            have KE := ((KE.youngD K25 (fun b h => h.elim)).youngD KR (fun b h => .inr (rg.low h))).youngD K17 (fun b h => .inl h)
            refine DP.nil ?_; refine XP.regionS ?_; refine RP.o1 (.move rfl) rfl rfl ?_
            refine RP.o1 (.bin rfl rfl (by first | exact inc_is (by omega) | exact add_is (by omega) (by omega))) rfl rfl ?_
            refine RP.o1 (.assign rfl) rfl rfl ?_; refine RP.nil ?_
            exact ⟨g.rules.length - (i + 1), by omega, i + 1, _, uR, _, toT_less (.cons rfl (.cons rfl (.cons rfl (.cons rfl (.nil))))), rfl, by omega, KE, B5, rg2, ro.snoc hr⟩
          · refine XP.exit ?_  -- 3
            refine XP.seq ?_
            obtain rfl : i = g.rules.length := by omega
            obtain ⟨hwf, hsym, hr1⟩ := rules_wf hL hN hM hpl ro
            obtain ⟨sp, hsp⟩ : ∃ sp : SpV, sp = ⟨g.toks.length, (leftsL g.rules).length, Int.ofNat (g.toks.length + 1 + p), g.expect, u2, lvv, av, rv⟩ := ⟨_, rfl⟩
            have hspn : sp.n = g.toks.length + 1 + (leftsL g.rules).length := by rw [hsp]
            have hG : SpG sp := by rw [hsp]; exact fun n => ⟨eqV_row hnM, eqV_row hlevM, eqV_row hassM, rg.eqv⟩
            have hspv : sp.v = .agg [.int .i64 (.ofNat g.toks.length), .int .i64 (.ofNat (leftsL g.rules).length), .int .i64 (.ofNat (g.toks.length + 1 + p)), .int .i64 g.expect, u2, lvv, av, rv] := by rw [hsp]
            have hrs : RulesIs M16 sp.vr rules := by rw [hsp]; exact rg.rules
            have hsyS : SymOK sp.n sp.start rules := by rw [hspn, hsp]; exact hsym
            have hspt : sp.toks ≤ 12 := by rw [hsp]; exact hLt
            have hspN : sp.nts ≤ 10 := by rw [hsp]; exact hLl
            obtain ⟨y1, M26, hc26, K26, yb, ybs, rfl, hyl, BY⟩ := call26 hS26 hrs hwf.small hspt hspN hsyS hr1
            obtain ⟨y2, M27, hc27, K27, zb, zbs, rfl, hzl, BZ⟩ := call27 hS27 (hrs.up K26) hwf.small hspt hspN hsyS hr1
            rw [hspv] at hc26 hc27
            rw [hspn] at hc26 hc27 hyl hzl
            have BY := BY.up K27
            have B5a := B5.up K26
            have B5b := B5a.up K27
            have KAF := (KA.trans K26).trans K27
            have rgF := (rg.up K26).up K27
            have eG : eqV 40 (.agg [.int .i64 (.ofNat g.toks.length), .int .i64 (.ofNat (leftsL g.rules).length), .int .i64 (.ofNat (g.toks.length + 1 + p)), .int .i64 g.expect, u2, lvv, av, rv]) (.agg [.int .i64 (.ofNat g.toks.length), .int .i64 (.ofNat (leftsL g.rules).length), .int .i64 (.ofNat (g.toks.length + 1 + p)), .int .i64 g.expect, u2, lvv, av, rv]) = true := by rw [← hspv]; exact eqV_spec hG
            have B2f := B2o.up KAF
            refine XP.drawnS (ms := [0, 1, 0, 7, 15, 31]) (by kernel_rfl) ?_; refine DP.read (fun _ => op_loadE rfl B5.el lay31 (by rfl)) rfl rfl rfl (fun _ => op_load_leaf) (.inl (by kernel_rfl)) (fun _ => cuts_nil) ?_; refine DP.heavy (.callS rfl rfl hc26) rfl rfl rfl (by kernel_rfl) (by kernel_rfl) K26.le (pk_drop (by kernel_rfl) pk_nil) ?_; refine DP.read (fun _ => op_loadE rfl B5a.el lay31 (by rfl)) rfl rfl rfl (fun _ => op_load_leaf) (.inl (by kernel_rfl)) (fun _ => cuts_cons (reads_of (op_loadE rfl B5.el lay31 (by rfl)) eG) cuts_nil) ?_; refine DP.heavy (.callS rfl rfl hc27) rfl rfl rfl (by kernel_rfl) (by kernel_rfl) K27.le (pk_drop (by kernel_rfl) pk_nil) ?_; refine DP.pure (.assign rfl) rfl rfl rfl ?_; refine DP.pure (.assign rfl) rfl rfl rfl ?_; refine DP.nil ?_; refine XP.seq ?_; refine XP.seq ?_; refine XP.regionS ?_; refine RP.o1 (.fieldAddr rfl fa31_0) rfl rfl ?_; refine RP.o1 (.load1 rfl lay3 (B5b.get (j := 0) rfl)) rfl rfl ?_; refine RP.o1 (.bin rfl rfl (inc_is (by omega))) rfl rfl ?_; refine RP.o1 (.assign rfl) rfl rfl ?_; refine RP.nil ?_
            refine XP.block ?_  -- block 5
            refine XP.while (fun d t m1 => ∃ i t0, t = toT t0 [(11, .int .i64 (.ofNat i)), (10, .slice zb 0 (g.toks.length + 1 + (leftsL g.rules).length) (some (g.toks.length + 1 + (leftsL g.rules).length))), (9, .slice yb 0 (g.toks.length + 1 + (leftsL g.rules).length) (some (g.toks.length + 1 + (leftsL g.rules).length))), (5, .ptr ML.next 0), (2, .ptr M1.next 0)] ∧ d = g.toks.length + (leftsL g.rules).length + 2 - i ∧ m1 = M27) ?_ (g.toks.length + (leftsL g.rules).length + 2 - (g.toks.length + 1)) _ _ ?_
            rotate_left
            · exact ⟨g.toks.length + 1, _, toT_less (.cons rfl (.cons rfl (.cons rfl (.cons rfl (.cons rfl (.nil)))))), rfl, rfl⟩
            rintro d t M18 ⟨i, t0, rfl, rfl, hm27⟩
            subst hm27
            have B2 := B2f
            have K := KL.trans KAF
            have hkF := K.le
            refine XP.seq ?_; refine XP.seq ?_; refine XP.regionS ?_; refine RP.o1 (.move rfl) rfl rfl ?_; refine RP.o1 (.fieldAddr rfl fa31_0) rfl rfl ?_; refine RP.o1 (.load1 rfl lay3 (B5b.get (j := 0) rfl)) rfl rfl ?_; refine RP.o1 (.fieldAddr rfl fa31_1) rfl rfl ?_; refine RP.o1 (.load1 rfl lay3 (B5b.get (j := 1) rfl)) rfl rfl ?_; refine RP.o1 (.bin rfl rfl (addN_is (by omega))) rfl rfl ?_; refine RP.o1 (.bin rfl rfl leq_is) rfl rfl ?_; refine RP.nil ?_
            refine XP.condN rfl (fun hc140 => ?_) (fun hc140 => ?_)  -- if t140
            · refine XP.exit ?_  -- 5
              refine XP.seq ?_; refine XP.regionS ?_; refine RP.o1 (.loadE rfl B5b.el lay31 (by rfl)) rfl rfl ?_; refine RP.store rfl rfl lay31 rfl B2 rfl (by show (true && (true && (true && (true && (u2.plain && (lvv.plain && (av.plain && (rv.plain && true)))))))) = true; rw [hnM.plain, hlevM.plain, hassM.plain, rg.plain]; rfl) rfl rfl fun MFIN KFIN B2 NFIN => ?_
              have K := K.young KFIN (by rintro _ rfl; omega)
              refine RP.o1 (.assign rfl) rfl rfl ?_; refine RP.nil ?_
              first
              | exact XP.ret ⟨.inr rfl, _, _, resCellTmp rfl lay31 rfl B2.el rfl, K, _, _, rfl, rfl, rfl, fun h => absurd h (by decide)⟩
              | exact XP.ret ⟨.inr rfl, _, _, resCellTmp rfl lay31 rfl B2.el rfl, K, _, _, rfl, rfl, (by show (true && (true && (true && (true && (u2.plain && (lvv.plain && (av.plain && (rv.plain && true)))))))) = true; rw [hnM.plain, hlevM.plain, hassM.plain, rg.plain]; rfl), fun _ => ⟨sp, rules, hspv.symm, by
                  rw [hsp]
                  exact (rgF.rest KFIN (fun b h => by omega) b5lt).rules, by rw [hsp]; exact hwf, hspt, hspN, hG⟩⟩
            · refine XP.skip ?_; refine XP.seq ?_
              refine XP.block ?_  -- block 6
              refine XP.seq ?_
              have hile : i < g.toks.length + 1 + (leftsL g.rules).length := by have e1 : (Int.ofNat (g.toks.length + (leftsL g.rules).length) : Int) = (g.toks.length + (leftsL g.rules).length : Nat) := rfl; have e2 : (Int.ofNat i : Int) = i := rfl; omega
              obtain ⟨y0, hy0⟩ : ∃ y0, ybs[i]? = some y0 := ⟨ybs[i]'(by omega), List.getElem?_eq_getElem _⟩
              obtain ⟨z0, hz0⟩ : ∃ z0, zbs[i]? = some z0 := ⟨zbs[i]'(by omega), List.getElem?_eq_getElem _⟩
              have hY := BY.get (bool_at hy0)
              have hZ := BZ.get (bool_at hz0)
              refine XP.regionS ?_; refine RP.o1 (.move rfl) rfl rfl ?_; refine RP.o1 (.move rfl) rfl rfl ?_; refine RP.o1 (.indexAddr rfl rfl ix51 (by assumption)) rfl rfl ?_; refine RP.o1 (.load1 rfl lay4 hY) rfl rfl ?_; refine RP.o1 (.not_ rfl) rfl rfl ?_; refine RP.o1 (.move rfl) rfl rfl ?_
              rcases Bool.eq_false_or_eq_true ((!y0)) with hp148 | hp148
              · simp only [hp148]
                refine RP.skip ⟨_,_,_,rfl,rfl,rfl,rfl⟩ rfl ?_; refine RP.skip ⟨_,_,_,rfl,rfl,rfl,rfl⟩ rfl ?_; refine RP.skip ⟨_,_,_,rfl,rfl,rfl,rfl⟩ rfl ?_; refine RP.skip ⟨_,_,_,rfl,rfl,rfl,rfl⟩ rfl ?_; refine RP.skip ⟨_,_,_,rfl,rfl,rfl,rfl⟩ rfl ?_; refine RP.o1 (.pick (b := true) rfl rfl) rfl rfl ?_; refine RP.nil ?_
                refine XP.condS true rfl ?_  -- if t154
                refine XP.seq ?_; refine XP.regionS ?_; refine RP.o1 (.build rfl build31e) rfl rfl ?_; refine RP.store rfl rfl lay31 rfl B2 rfl rfl rfl rfl fun MS KS B2 NS => ?_
                have K := K.young KS (by rintro _ rfl; omega)
                refine RP.o1 (.assign rfl) rfl rfl ?_; refine RP.nil ?_
                first
                | exact XP.ret ⟨.inr rfl, _, _, resCellTmp rfl lay31 rfl B2.el rfl, K, _, _, rfl, rfl, rfl, fun h => absurd h (by decide)⟩
                | exact XP.ret ⟨.inr rfl, _, _, resCellTmp rfl lay31 rfl B2.el rfl, K, _, _, rfl, rfl, (by show (true && (true && (true && (true && (u2.plain && (lvv.plain && (av.plain && (rv.plain && true)))))))) = true; rw [hnM.plain, hlevM.plain, hassM.plain, rg.plain]; rfl), fun _ => ⟨sp, rules, hspv.symm, by
                    rw [hsp]
                    exact (rgF.rest KFIN (fun b h => by omega) b5lt).rules, by rw [hsp]; exact hwf, hspt, hspN, hG⟩⟩
              · simp only [hp148]
                refine RP.o1 (.move rfl) rfl ⟨_,_,_,rfl,rfl,rfl,rfl⟩ ?_; refine RP.o1 (.move rfl) rfl ⟨_,_,_,rfl,rfl,rfl,rfl⟩ ?_; refine RP.o1 (.indexAddr rfl rfl ix51 (by assumption)) rfl ⟨_,_,_,rfl,rfl,rfl,rfl⟩ ?_; refine RP.o1 (.load1 rfl lay4 hZ) rfl ⟨_,_,_,rfl,rfl,rfl,rfl⟩ ?_; refine RP.o1 (.not_ rfl) rfl ⟨_,_,_,rfl,rfl,rfl,rfl⟩ ?_; refine RP.o1 (.pick (b := false) rfl rfl) rfl rfl ?_; refine RP.nil ?_
                refine XP.condB rfl (fun hc154 => ?_) (fun hc154 => ?_)  -- if t154
                · refine XP.seq ?_; refine XP.regionS ?_; refine RP.o1 (.build rfl build31e) rfl rfl ?_; refine RP.store rfl rfl lay31 rfl B2 rfl rfl rfl rfl fun MS KS B2 NS => ?_
                  have K := K.young KS (by rintro _ rfl; omega)
                  refine RP.o1 (.assign rfl) rfl rfl ?_; refine RP.nil ?_
                  first
                  | exact XP.ret ⟨.inr rfl, _, _, resCellTmp rfl lay31 rfl B2.el rfl, K, _, _, rfl, rfl, rfl, fun h => absurd h (by decide)⟩
                  | exact XP.ret ⟨.inr rfl, _, _, resCellTmp rfl lay31 rfl B2.el rfl, K, _, _, rfl, rfl, (by show (true && (true && (true && (true && (u2.plain && (lvv.plain && (av.plain && (rv.plain && true)))))))) = true; rw [hnM.plain, hlevM.plain, hassM.plain, rg.plain]; rfl), fun _ => ⟨sp, rules, hspv.symm, by
                      rw [hsp]
                      exact (rgF.rest KFIN (fun b h => by omega) b5lt).rules, by rw [hsp]; exact hwf, hspt, hspN, hG⟩⟩
                · refine XP.skip ?_; refine XP.regionS ?_; refine RP.o1 (.move rfl) rfl rfl ?_
                  refine RP.o1 (.bin rfl rfl (by first | exact inc_is (by omega) | exact add_is (by omega) (by omega))) rfl rfl ?_
                  refine RP.o1 (.assign rfl) rfl rfl ?_; refine RP.nil ?_
                  exact ⟨g.toks.length + (leftsL g.rules).length + 2 - (i + 1), by omega, i + 1, _, toT_less (.cons rfl (.cons rfl (.cons rfl (.cons rfl (.cons rfl (.nil)))))), rfl, rfl⟩
end Go.Ev
end
section
namespace Go.Ev
set_option linter.all false
open Go.Proofs
set_option maxRecDepth 10000
set_option maxHeartbeats 8000000
theorem fill22 {a b c : AV} : fillA (fun j => some (Nat.mul j 3, 3)) (repA [.str [], .int .i64 (.ofNat 0), .int .i64 (.ofNat 0)] 1) [(0, .agg [a, b, c])] = some [a, b, c] := rfl
theorem fill23 {a b c : AV} : fillA (fun j => some (Nat.mul j 3, 3)) (repA [.str [], .nils, .str []] 1) [(0, .agg [a, b, c])] = some [a, b, c] := rfl
theorem ap22 : appendable Tryz.prog (some 22) = true := by kernel_rfl
theorem ap23 : appendable Tryz.prog (some 23) = true := by kernel_rfl
/-- Rules by names that grow. -/
noncomputable def QG (lo b5 : Nat) (m : AMem) (rv : AV) (rules : List RuleD) : Prop := ∃ raw : List (List Nat × PV × List Nat), GrowIs rdC 3 lo m rv raw ∧ raw.length = rules.length ∧ ∀ (i : Nat) q r, raw[i]? = some q → rules[i]? = some r → q.1 = r.left ∧ q.2.2 = r.prec ∧ RowIs strC 1 m q.2.1.1 r.right ∧ ∀ b, Blk1 q.2.1.1 b → b5 < b ∧ ¬ Blk1 rv b
theorem QG.rules {lo b5 : Nat} {m : AMem} {rv : AV} {rules : List RuleD} (h : QG lo b5 m rv rules) : GRulesIs m rv rules := by
  obtain ⟨raw, h1, h2, h3⟩ := h
  exact ⟨raw, h1.row, h2, fun i q r hq hr => let ⟨a, b, c, _⟩ := h3 i q r hq hr; ⟨a, b, c⟩⟩
theorem QG.nil {lo b5 : Nat} {m : AMem} : QG lo b5 m .nils [] := ⟨[], .inl ⟨rfl, rfl⟩, rfl, fun i q r hq => by simp at hq⟩
theorem QG.low {lo b5 : Nat} {m : AMem} {rv : AV} {rules : List RuleD} (h : QG lo b5 m rv rules) {b : Nat} (hb : Blk1 rv b) : lo ≤ b := let ⟨_, h, _⟩ := h; h.low hb
theorem QG.under {lo b5 : Nat} {m : AMem} {rv : AV} {rules : List RuleD} (h : QG lo b5 m rv rules) {b : Nat} (hb : Blk1 rv b) : b < m.next := let ⟨_, h, _⟩ := h; h.row.under hb
theorem QG.up {lo b5 : Nat} {m m' : AMem} {rv : AV} {rules : List RuleD} (h : QG lo b5 m rv rules) (k : Kp Nothing m m') : QG lo b5 m' rv rules := by
  obtain ⟨raw, h1, h2, h3⟩ := h
  exact ⟨raw, h1.up k, h2, fun i q r hq hr => let ⟨a, b, d, e⟩ := h3 i q r hq hr; ⟨a, b, d.up k, e⟩⟩
theorem QG.app {P : Program} {st : TypeId} {xt : Option TypeId} {i : TypeInfo} {z : List AV} {lo b5 : Nat} {m : AMem} {rv : AV} {rules : List RuleD} (hi : elemInfo P st = some (i, z)) (hs : i.size = 3) (hap : appendable P xt = true) (h : QG lo b5 m rv rules) {a : List Nat} {w : AV} {c : List Nat} {rt : List (List Nat)} (hw : RowIs strC 1 m w rt)
    (hd : ∀ b, Blk1 w b → b5 < b ∧ ¬ Blk1 rv b) (hb5 : b5 < lo) (hlo : lo ≤ m.next) (hl : rules.length < 1048576) :
    ∃ u m', aAppend P st xt rv (.slice m.next 0 1 (some 1)) (m.new false 3 [.str a, w, .str c]) = .mk u m' ∧ (m.new false 3 [.str a, w, .str c]).next ≤ m'.next ∧ Kp (Blk1 rv) m m' ∧ (∀ b, Blk1 u b → m.next ≤ b) ∧ u.plain = true ∧
      ∀ m2, Kp (fun b => b = b5) m' m2 → QG lo b5 m2 u (rules ++ [⟨a, rt, c⟩]) := by
  obtain ⟨raw, h1, h2, h3⟩ := h
  obtain ⟨u, m', e, hn, G, K, new⟩ := append1 (x := ((a, ⟨w, hw.plain⟩, c) : List Nat × PV × List Nat)) encRd (by decide) hi hs hap h1 hlo (by omega)
  refine ⟨u, m', e, hn, K, new, G.row.plain, fun m2 K2 => ⟨_, G.stays K2 fun b hb e => by have := G.low hb; omega, by simp [h2], fun j q r hq hr => ?_⟩⟩
  by_cases hj : j < raw.length
  · rw [List.getElem?_append_left hj] at hq
    rw [List.getElem?_append_left (by omega)] at hr
    obtain ⟨x1, x2, R, d⟩ := h3 j q r hq hr
    exact ⟨x1, x2, (R.stays K fun b hb q => (d b hb).2 q).stays K2 fun b hb q => Nat.ne_of_gt (d b hb).1 q, fun b hb => ⟨(d b hb).1, fun q => by have := new b q; have := R.under hb; omega⟩⟩
  · have hj2 : j = raw.length := by have := (List.getElem?_eq_some_iff.1 hq).1; simp at this; omega
    subst hj2
    rw [List.getElem?_append_right (Nat.le_refl _), Nat.sub_self] at hq
    rw [h2, List.getElem?_append_right (Nat.le_refl _), Nat.sub_self] at hr
    cases hq; cases hr
    exact ⟨rfl, rfl, (hw.stays K fun b hb q => (hd b hb).2 q).stays K2 fun b hb q => Nat.ne_of_gt (hd b hb).1 q, fun b hb => ⟨(hd b hb).1, fun q => by have := new b q; have := hw.under hb; omega⟩⟩
/-- Cut short. -/
structure RShort (r : RuleD) : Prop where
  l : r.left.length ≤ 15
  p : r.prec.length ≤ 15
  n : r.right.length ≤ 22
  r : ∀ x ∈ r.right, x.length ≤ 15
structure GCut (g : GrD) : Prop where
  s : g.start.length ≤ 15
  t : g.toks.length ≤ 42
  tn : ∀ t ∈ g.toks, t.name.length ≤ 15
  r : g.rules.length ≤ 105
  rs : ∀ r ∈ g.rules, RShort r
theorem GCut.small {g : GrD} (h : GCut g) : GSmall g := ⟨by have := h.t; omega, by have := h.r; omega, fun r hr => by have := (h.rs r hr).n; omega⟩
theorem GCut.short {g : GrD} (h : GCut g) : GShort g := ⟨by have := h.s; omega, fun t ht => by have := h.tn t ht; omega, fun r hr => by have := (h.rs r hr).l; omega, fun r hr => by have := (h.rs r hr).p; omega, fun r hr x hx => by have := (h.rs r hr).r x hx; omega⟩
end Go.Ev
end
section
namespace Go.Ev
set_option linter.all false
open Go.Proofs
set_option maxRecDepth 10000
set_option maxHeartbeats 4000000
theorem begun8 {S : Sums} (h : S 8 = some begunSum) {m : AMem} : CallTo Tryz.prog S 8 [] m (.bool true) m := CallTo.sum h rfl
abbrev lwF : List Nat := [3, 4, 6, 7, 9, 10, 11, 12, 13, 14, 15, 16, 17, 20, 21, 22, 23, 24, 25, 26, 27, 28, 29, 30, 31, 32, 33, 34, 35, 37, 38, 39, 40, 41, 42, 43, 44, 45, 46, 47, 48, 56, 57, 58, 59, 60, 61, 62, 63, 73, 74]
theorem setL_all {l c : List AV} (h : c.length = l.length) : setL l 0 c = c := by
  unfold setL
  rw [List.take_zero, List.nil_append, Nat.zero_add, h, List.drop_length, List.append_nil]
end Go.Ev
end
section
namespace Go.Ev
set_option linter.all false
/-- A view of a world in which nothing may be written. -/
structure RoView (ρ : Ren) (m : AMem) (w : World) : Prop where
  v : View ρ m w
  ro : ∀ b x, m.t.get b = some x → x.wr = false
  fr : ∀ b, m.next ≤ b → ρ b = none
theorem RoView.leaf (w : World) : RoView (fun _ => none) ⟨0, .leaf⟩ w := ⟨View.leaf _ _ _, fun _ _ h => (by cases h), fun _ _ => rfl⟩
variable {ρ : Ren} {m : AMem} {w : World}
variable {α : Type} {enc : α → List AV} {sz : Nat}
/-- A call over such a memory, said of the world. -/
theorem run_ro {P : Program} {S : Sums} (hm : P.follows .mixedOrders = true) (hS : SumsOK P S) {f : FuncId} (hs : S f = none) {args : List AV} {b : Bool} {m1 : AMem} (R : RoView ρ m w) {n : Nat} (h : call P S n f args m = .mk (.bool b) m1)
    (hf : Fresh ρ m.next m1.next) {cs : Array Value} (hv : VRs ρ args cs.toList) :
    Calls P f cs w fun e w' => e = .returned (.bool b) ∧ RowKit.Below w.heap.size w w' := by
  rcases call_sound hm hS n f args m _ _ h ρ w cs R.v hv hf with ⟨_, hc⟩ | ⟨ρ', w', vc, hr, _, _⟩
  · refine hc.mono fun e w' ⟨vc, ρ', he, s, hv⟩ => ?_
    cases hv
    exact ⟨he, s.os, s.tape, s.output, s.size, fun k hk => s.keeps k hk fun b x L hx hw => by rw [R.ro b x hx] at hw; cases hw⟩
  · exfalso
    unfold call callF at h
    rw [hs] at h
    cases hc : codeOf P f with
    | none => simp only [hc] at h; cases h
    | some fc =>
      rw [codeOf_enter (by rw [hc]; rfl)] at hr
      cases hr
end Go.Ev
end
section
namespace Go.Proofs
open Go.Shelf
noncomputable def Tryz.lays156_ren : Go.Shelf.Ren := ⟨fun | 156 => 175 | 165 => 183 | 166 => 184 | 169 => 185 | 240 => 190 | 241 => 191 | 276 => 198 | 277 => 199 | n => n, fun | 31 => 27 | 9 => 9 | 3 => 3 | 4 => 4 | 0 => 0 | 20 => 20 | 72 => 190 | 76 => 170 | 70 => 188 | 37 => 38 | 75 => 169 | 127 => 199 | 164 => 209 | 5 => 5 | 80 => 160 | n => n, fun | n => n⟩
theorem Tryz.lays156 : Go.Proofs.Lays.n156 Tryz.prog Tryz.lays156_ren := {
  mixed := by kernel_rfl
  f156 := Tryz.func175.trans (congrArg some (by kernel_rfl))
  f165 := Tryz.func183.trans (congrArg some (by kernel_rfl))
  f166 := Tryz.func184.trans (congrArg some (by kernel_rfl))
  f169 := Tryz.func185.trans (congrArg some (by kernel_rfl))
  f240 := Tryz.func190.trans (congrArg some (by kernel_rfl))
  f241 := Tryz.func191.trans (congrArg some (by kernel_rfl))
  f276 := Tryz.func198.trans (congrArg some (by kernel_rfl))
  f277 := Tryz.func199.trans (congrArg some (by kernel_rfl))
  t0 := Tryz.underlying0
  a0 := Tryz.isAgg0
  z0 := Tryz.sizeOf0
  v0 := Tryz.zeroValue0
  t3 := Tryz.underlying3
  a3 := Tryz.isAgg3
  z3 := Tryz.sizeOf3
  v3 := Tryz.zeroValue3
  t4 := Tryz.underlying4
  a4 := Tryz.isAgg4
  z4 := Tryz.sizeOf4
  v4 := Tryz.zeroValue4
  t9 := Tryz.underlying9
  a9 := Tryz.isAgg9
  z9 := Tryz.sizeOf9
  v9 := Tryz.zeroValue9
  t20 := Tryz.underlying20
  a20 := Tryz.isAgg20
  z20 := Tryz.sizeOf20
  v20 := Tryz.zeroValue20
  t31 := Tryz.underlying27
  a31 := Tryz.isAgg27
  z31 := Tryz.sizeOf27
  v31 := Tryz.zeroValue27
  t37 := Tryz.underlying38
  a37 := Tryz.isAgg38
  z37 := Tryz.sizeOf38
  v37 := Tryz.zeroValue38
  t70 := Tryz.underlying188
  a70 := Tryz.isAgg188
  z70 := Tryz.sizeOf188
  v70 := Tryz.zeroValue188
  t72 := Tryz.underlying190
  a72 := Tryz.isAgg190
  z72 := Tryz.sizeOf190
  v72 := Tryz.zeroValue190
  t75 := Tryz.underlying169
  a75 := Tryz.isAgg169
  z75 := Tryz.sizeOf169
  v75 := Tryz.zeroValue169
  t76 := Tryz.underlying170
  a76 := Tryz.isAgg170
  z76 := Tryz.sizeOf170
  v76 := Tryz.zeroValue170
  t127 := Tryz.underlying199
  a127 := Tryz.isAgg199
  z127 := Tryz.sizeOf199
  v127 := Tryz.zeroValue199
  t164 := Tryz.underlying209
  a164 := Tryz.isAgg209
  z164 := Tryz.sizeOf209
  v164 := Tryz.zeroValue209 }
theorem Tryz.Builder_Extra_156 : Builder.Extra Tryz.prog Tryz.lays156_ren := {
  sizeBuilder := by kernel_rfl
  liesBuilder := by kernel_rfl
  t5 := Tryz.underlying5
  a5 := Tryz.isAgg5
  z5 := Tryz.sizeOf5
  v5 := Tryz.zeroValue5
  infoByte := by kernel_rfl
  cellsByte := by kernel_rfl
  sizeByte := by kernel_rfl
  neB5 := by decide }
open Go.RowKit in
/-- No element: the empty string; the world is as it was. (Whatever the slice's address and capacity: a nil slice too.) (LAID: no walk: one application.) -/
theorem Tryz.strings_Join_none (a : Option Addr) (c : Nat) (sep : ByteArray) (w : World) :
    Calls Tryz.prog 175 #[.slice a 0 c, .string sep] w fun e w' => e = .returned (.string ⟨#[]⟩) ∧ w' = w := Any.strings_Join_none Tryz.lays156 Tryz.Builder_Extra_156 a c sep w
open Go.RowKit in
/-- strings.Join: "Join concatenates the elements of its first argument to create a single string. The separator string sep is placed between elements in the resulting string.": HOWEVER MANY ELEMENTS. Below the heap's end the world is as it was. (LAID: no walk: one application.) -/
theorem Tryz.strings_Join (bk o c : Nat) (xs : List ByteArray) (sep : ByteArray) (w : World) (hcells : ∀ (j : Nat) x, xs[j]? = some x → w.cell? ⟨bk, o + j, none⟩ = some (.string x)) (hbk : bk < w.heap.size) (hN : xs.length ≤ 140737488355328) (hcap : xs.length ≤ c) (hlen : (Lib.join (xs.map (·.data.toList)) sep.data.toList).length ≤ 140737488355328) :
    Calls Tryz.prog 175 #[.slice (some ⟨bk, o, none⟩) xs.length c, .string sep] w fun e w' => e = .returned (.string ⟨(Lib.join (xs.map (·.data.toList)) sep.data.toList).toArray⟩) ∧ Below w.heap.size w w' := Any.strings_Join Tryz.lays156 Tryz.Builder_Extra_156 bk o c xs sep w hcells hbk hN hcap hlen
end Go.Proofs
end
section
namespace Go.Ev
set_option linter.all false
open Go.Proofs
theorem strsK_rel {ρ : Ren} (m : AMem) : ∀ {l : List AV} {vs : List Value} {ss : List (List Nat)}, VRs ρ l vs → strsK m l = some ss → ∃ xs : List ByteArray, vs = xs.map Value.string ∧ xs.map (fun x => x.data.toList.map UInt8.toNat) = ss
  | _, _, ss, .nil, h => by cases h; exact ⟨[], rfl, rfl⟩
  | _, _, ss, .cons v c l cs hv hs, h => by
    cases v <;> first
      | (cases h; done)
      | skip
    rename_i s
    have h : (match strsK m l with | some r => some (s :: r) | none => none) = some ss := h
    split at h
    · rename_i r hr
      cases h
      obtain ⟨xs, e1, e2⟩ := strsK_rel m hs hr
      cases hv with
      | str _ z hz => exact ⟨z :: xs, by rw [e1]; rfl, by simp [e2, hz]⟩
    · cases h
theorem joinL_eq (sep : List UInt8) : ∀ xs : List ByteArray, joinL (sep.map UInt8.toNat) (xs.map fun x => x.data.toList.map UInt8.toNat) = (Lib.join (xs.map (·.data.toList)) sep).map UInt8.toNat
  | [] => rfl
  | [x] => by simp [joinL, Lib.join_one]
  | x :: y :: r => by
    have ih := joinL_eq sep (y :: r)
    simp only [List.map_cons] at ih ⊢
    show x.data.toList.map UInt8.toNat ++ sep.map UInt8.toNat ++ joinL (sep.map UInt8.toNat) _ = _
    rw [ih, Lib.join_cons, Lib.join_cons]
    simp [Lib.joinTail]
theorem below_step {ρ : Ren} {m : AMem} {w w' : World} (V : View ρ m w) (B : RowKit.Below w.heap.size w w') : Step ρ m w ρ m w' where
  ren _ _ := rfl
  le := Nat.le_refl _
  sim := ⟨fun b x hb => (V.sim.blk b x hb).mono (fun _ _ e => e) fun L e => B.block _ (by obtain ⟨L', e1, e2⟩ := (V.sim.blk b x hb).loc; rw [e] at e1; cases e1; exact e2), V.sim.sep⟩
  wf := V.wf
  img b x L h1 h2 h3 := .inr ⟨b, x, L, h1, h2, h3, rfl⟩
  imgR b x L h1 h3 := .inr ⟨b, x, L, h1, h3, rfl⟩
  keeps k hk _ := B.block k hk
  size := B.size
  os := B.os
  tape := B.tape
  output := B.output
theorem join175 : SumOK Tryz.prog 175 joinSum := by
  intro args m v m' h ρ w cs V hv hfr
  have enter : ∀ cs, (callFunc 175 cs).run Tryz.prog w = .ok (.enter 175 cs) w := fun cs => codeOf_enter (by kernel_rfl) cs w
  unfold joinSum at h
  split at h
  · rename_i b off n cap sep
    rw [bif2_eq] at h
    split at h
    · rename_i hn
      have hn : n ≤ 1048576 := by simpa [Nat.ble_eq] using hn
      obtain ⟨ro, sg, E, N, c, hb, hN, h⟩ := elemsK_static h
      split at h
      · rename_i ss hss
        rw [fList_eq, bif2_eq] at h
        split at h
        · rename_i hlen
          have hlen : (joinL sep ss).length ≤ 1048576 := by simpa [Nat.ble_eq] using hlen
          cases h
          obtain ⟨x, y, hcs, hx, hy⟩ := VRs.two hv
          obtain ⟨z, rfl, hz⟩ := str_inv hy
          have e : cs = #[x, .string z] := by apply Array.ext'; simpa using hcs
          subst e
          obtain ⟨L, c0, el, fz, w1, w2, w3, w4, w5, w6, w7⟩ := V.sim.blk b _ hb
          have hrel : VRs ρ (cellsFrom c off (n * 1)) ((c0.toList.drop (L.base + off)).take n) := by
            refine VRs.of_get (by rw [cellsFrom_length]; simp; omega) fun i u hu => ?_
            have hi : i < n * 1 := by
              rcases Nat.lt_or_ge i (n * 1) with q | q
              · exact q
              · rw [List.getElem?_eq_none (by rw [cellsFrom_length]; exact q)] at hu; cases hu
            rw [cellsFrom_get _ _ _ _ hi] at hu
            cases hu
            obtain ⟨q, hq, hr⟩ := w6 (off + i) (by omega)
            refine ⟨q, ?_, hr⟩
            rw [List.getElem?_take, if_pos (by omega), List.getElem?_drop, Nat.add_assoc]
            simpa using hq
          obtain ⟨xs, e1, e2⟩ := strsK_rel m hrel hss
          have hxl : xs.length = n := by
            have := congrArg List.length e1
            simp at this
            omega
          have hcells : ∀ (j : Nat) x, xs[j]? = some x → w.cell? ⟨L.blk, L.base + off + j, none⟩ = some (.string x) := fun j q hq => by
            have hj : j < n := by
              have := (List.getElem?_eq_some_iff.1 hq).1; omega
            have h1 : ((c0.toList.drop (L.base + off)).take n)[j]? = some (.string q) := by rw [e1]; simp [hq]
            rw [List.getElem?_take, if_pos hj, List.getElem?_drop] at h1
            simp only [World.cell?, w2]
            simpa using h1
          have hje := joinL_eq z.data.toList xs
          rw [e2, hz] at hje
          have hjl : (Lib.join (xs.map (·.data.toList)) z.data.toList).length ≤ 140737488355328 := by
            have := congrArg List.length hje
            simp at this
            omega
          have hblk : L.blk < w.heap.size := by
            rcases Nat.lt_or_ge L.blk w.heap.size with q | q
            · exact q
            · simp [Array.getElem?_eq_none q] at w2
          have main : ∀ cc, n ≤ cc → Calls Tryz.prog 175 #[.slice (some ⟨L.blk, L.base + off, none⟩) n cc, .string z] w (Post ρ m w (.str (joinL sep ss)) m) := fun cc hcc => by
            have := Tryz.strings_Join L.blk (L.base + off) cc xs z w hcells hblk (by omega) (by omega) hjl
            rw [hxl] at this
            refine this.mono fun e w' ⟨he, hbel⟩ => ⟨_, ρ, he, below_step V hbel, .str _ _ ?_⟩
            rw [hje]
          refine .inl ⟨enter _, ?_⟩
          cases hx with
          | sliceE _ _ _ cc K hK hle => rw [w1] at hK; cases hK; exact main cc hle
          | sliceO _ _ _ cc K hK hle => rw [w1] at hK; cases hK; exact main cc hle
        · cases h
      · cases h
    · cases h
  · cases h
    obtain ⟨x, y, hcs, hx, hy⟩ := VRs.two hv
    obtain ⟨z, rfl, hz⟩ := str_inv hy
    have e : cs = #[x, .string z] := by apply Array.ext'; simpa using hcs
    subst e
    cases hx
    exact .inl ⟨enter _, (Tryz.strings_Join_none none 0 z w).mono fun e w' ⟨he, hw⟩ => ⟨_, ρ, he, hw ▸ V.refl, .str _ _ rfl⟩⟩
  · cases h
    obtain ⟨x, y, hcs, hx, hy⟩ := VRs.two hv
    obtain ⟨z, rfl, hz⟩ := str_inv hy
    have e : cs = #[x, .string z] := by apply Array.ext'; simpa using hcs
    subst e
    cases hx with
    | emp a c => exact .inl ⟨enter _, (Tryz.strings_Join_none (some a) c z w).mono fun e w' ⟨he, hw⟩ => ⟨_, ρ, he, hw ▸ V.refl, .str _ _ rfl⟩⟩
  · cases h
end Go.Ev
end
section
namespace Go.Ev
set_option linter.all false
open Go.Proofs
theorem sums0_ok : SumsOK Tryz.prog (sums0 Tryz.prog) := by
  intro f s hs
  unfold sums0 at hs
  split at hs
  · cases hs; exact sum64
  · cases hs; exact sum80
  · cases hs; exact join175
  · cases hs; exact idx177
  · cases hs
/-- The summaries, and those functions that answer true. -/
noncomputable def sumsB (l : List Nat) : Sums := fun f => bif2 (l.any (Nat.beq f)) (some begunSum) (sums0 Tryz.prog f)
theorem sumsB_ok {l : List Nat} (h : ∀ f, f ∈ l → SumOK Tryz.prog f begunSum) : SumsOK Tryz.prog (sumsB l) := by
  intro f s hs
  unfold sumsB at hs
  rw [bif2_eq] at hs
  split at hs
  · rename_i hf
    cases hs
    obtain ⟨g, hg, e⟩ := List.any_eq_true.1 hf
    have e : f = g := Nat.eq_of_beq_eq_true e
    subst e
    exact h f hg
  · exact sums0_ok f s hs
noncomputable def okTrue : OR → Bool
  | .mk (.bool true) _ => true
  | _ => false
theorem okTrue_inv {r : OR} (h : okTrue r = true) : ∃ m, r = .mk (.bool true) m := by
  unfold okTrue at h
  split at h
  · exact ⟨_, rfl⟩
  · cases h
theorem begun_of {l : List Nat} (h : ∀ f, f ∈ l → SumOK Tryz.prog f begunSum) {f : Nat} (hf : sumsB l f = none) (hr : okTrue (call Tryz.prog (sumsB l) 100000 f [] ⟨0, .leaf⟩) = true) : SumOK Tryz.prog f begunSum := by
  obtain ⟨m1, e⟩ := okTrue_inv hr
  exact begunSum_ok mixed (sumsB_ok h) hf e
end Go.Ev
end
section
namespace Go.Ev
set_option linter.all false
open Go.Proofs
theorem run154 : okTrue (call Tryz.prog (sumsB []) 100000 154 [] ⟨0, .leaf⟩) = true := by kernel_rfl
theorem begun154 : SumOK Tryz.prog 154 begunSum := begun_of (fun f hf => by cases hf) (by kernel_rfl) run154
theorem run119 : okTrue (call Tryz.prog (sumsB [154]) 100000 119 [] ⟨0, .leaf⟩) = true := by kernel_rfl
theorem begun119 : SumOK Tryz.prog 119 begunSum := begun_of (l := [154]) (fun f hf => by simp at hf; subst hf; exact begun154) (by kernel_rfl) run119
end Go.Ev
end
section
namespace Go.Ev
set_option linter.all false
open Go.Proofs
theorem run84 : okTrue (call Tryz.prog (sumsB [154, 119]) 100000 84 [] ⟨0, .leaf⟩) = true := by kernel_rfl
theorem begun84 : SumOK Tryz.prog 84 begunSum := begun_of (l := [154, 119]) (fun f hf => by
  simp at hf
  rcases hf with rfl | rfl
  · exact begun154
  · exact begun119) (by kernel_rfl) run84
end Go.Ev
end
section
namespace Go.Ev
set_option linter.all false
open Go.Proofs
theorem run50 : okTrue (call Tryz.prog (sumsB [154, 119, 84]) 100000 50 [] ⟨0, .leaf⟩) = true := by kernel_rfl
theorem begun50 : SumOK Tryz.prog 50 begunSum := begun_of (l := [154, 119, 84]) (fun f hf => by
  simp at hf
  rcases hf with rfl | rfl | rfl
  · exact begun154
  · exact begun119
  · exact begun84) (by kernel_rfl) run50
end Go.Ev
end
section
namespace Go.Ev
set_option linter.all false
open Go.Proofs
theorem run19 : okTrue (call Tryz.prog (sumsB [154, 119, 84, 50]) 100000 19 [] ⟨0, .leaf⟩) = true := by kernel_rfl
theorem begun19 : SumOK Tryz.prog 19 begunSum := begun_of (l := [154, 119, 84, 50]) (fun f hf => by
  simp at hf
  rcases hf with rfl | rfl | rfl | rfl
  · exact begun154
  · exact begun119
  · exact begun84
  · exact begun50) (by kernel_rfl) run19
end Go.Ev
end
section
namespace Go.Ev
set_option linter.all false
open Go.Proofs
theorem run8 : okTrue (call Tryz.prog (sumsB [154, 119, 84, 50, 19]) 100000 8 [] ⟨0, .leaf⟩) = true := by kernel_rfl
theorem begun8K : SumOK Tryz.prog 8 begunSum := begun_of (l := [154, 119, 84, 50, 19]) (fun f hf => by
  simp at hf
  rcases hf with rfl | rfl | rfl | rfl | rfl
  · exact begun154
  · exact begun119
  · exact begun84
  · exact begun50
  · exact begun19) (by kernel_rfl) run8
noncomputable def lawS : Sums := fun f => if f = 64 then some insW else if f = 8 then some begunSum else none
theorem lawS_ok : SumsOK Tryz.prog lawS := by
  intro f s hs
  unfold lawS at hs
  split at hs
  · rename_i h
    subst h; cases hs
    exact insW_ok
  · split at hs
    · rename_i h
      subst h; cases hs
      exact begun8K
    · cases hs
theorem lawS_none {f : Nat} (h : f ≠ 64) (k : f ≠ 8) : lawS f = none := by unfold lawS; rw [if_neg h, if_neg k]
end Go.Ev
end
section
namespace Go.Ev
set_option linter.all false
open Go.Proofs
set_option maxRecDepth 100000
variable {w : World} {H : Type} {enc : TypeId × Value → H} {sp : Nat → Bool} {held : Bool}
theorem lawS_plain {l : List Nat} (h : l.all (fun f => !(f == 64) && !(f == 8)) = true) : Plain lawS l := fun f hf => by
  have := List.all_eq_true.1 h f hf
  simp only [Bool.and_eq_true, Bool.not_eq_true', beq_eq_false_iff_ne, ne_eq] at this
  exact lawS_none this.1 this.2
end Go.Ev
end
section
namespace Go.Ev
set_option linter.all false
open Go.Proofs
set_option maxRecDepth 10000
theorem build25z {m : AMem} : aBuild Tryz.prog 25 [] m = .mk (.agg [.nils, .str [], .int .i64 (.ofNat 0), .nils]) m := by kernel_rfl
theorem build42z {s : List Nat} {m : AMem} : aBuild Tryz.prog 42 [(0, .str s)] m = .mk (.agg [.str s, .nils, .str []]) m := by kernel_rfl
theorem build40 {s : List Nat} {m : AMem} : aBuild Tryz.prog 40 [(0, .str s)] m = .mk (.agg (tokC ⟨s, .ofNat 0, .ofNat 0⟩)) m := by kernel_rfl
abbrev byteC (a c : Nat) : List AV := [.int .u8 (.ofNat a), .int .u8 (.ofNat c)]
theorem fill38 {a c : Nat} : fillA (fun j => some (Nat.mul j 1, 1)) (repA [.int .u8 (.ofNat 0)] 2) [(0, .int .u8 (.ofNat a)), (1, .int .u8 (.ofNat c))] = some (byteC a c) := rfl
section
variable {P : Program} {S : Sums} {ty : TypeId} {lit : Bool} {m : AMem} {t0 : T AV} {σ : List (Nat × AV)}
theorem mulN_is {a b : Nat} (h : a * b < 4611686018427387904) : aBin2 P .mul ty lit (.int .i64 (.ofNat a)) (.int .i64 (.ofNat b)) m = .mk (.int .i64 (.ofNat (a * b))) m := by
  show wrapK .i64 (Int.mul (.ofNat a) (.ofNat b)) (fun n => OR.mk (.int .i64 n) m) = _
  rw [wrapK_eq]
  have e : Int.mul (.ofNat a) (.ofNat b) = .ofNat (a * b) := rfl
  rw [e, wrap_small _ _ (by show a * b < 9223372036854775808; omega)]
theorem remN_is {a b : Nat} (h : 0 < b) : aBin2 P .rem ty lit (.int .i64 (.ofNat a)) (.int .i64 (.ofNat b)) m = .mk (.int .i64 (.ofNat (a % b))) m := by
  show bif2 (iEq (.ofNat b) 0) (OR.fail 11) (bif2 (iEq (.ofNat b) 1) (OR.mk (.int .i64 0) m) (fInt (Int.tmod (.ofNat a) (.ofNat b)) fun n => OR.mk (.int .i64 n) m)) = _
  rw [iEq_eq, iEq_eq, bif2_eq, bif2_eq, fInt_eq]
  have h0 : ((Int.ofNat b : Int) == 0) = false := by
    rw [beq_eq_false_iff_ne]; intro e; have : b = 0 := Int.ofNat.inj e; omega
  rw [h0]
  simp only [Bool.false_eq_true, if_false]
  by_cases h1 : b = 1
  · subst h1
    rw [if_pos (by rfl), Nat.mod_one]; rfl
  · have h2 : ((Int.ofNat b : Int) == 1) = false := by
      rw [beq_eq_false_iff_ne]; intro e; exact h1 (Int.ofNat.inj e)
    rw [h2]
    simp only [Bool.false_eq_true, if_false]
    rfl
theorem add97 {i : Nat} (h : i < 100) : aBin2 P .add ty lit (.int .i64 97) (.int .i64 (.ofNat i)) m = .mk (.int .i64 (.ofNat (97 + i))) m :=
  add_is (a := 97) (b := Int.ofNat i) (by show _ ≤ (97 : Int) + (i : Int); omega) (by show (97 : Int) + (i : Int) < _; omega)
theorem OpTo.byte {x : Operand} {c : Nat} (h : ev σ x = some (.int .i64 (.ofNat c))) (hc : c < 256) : OpTo Tryz.prog S (.convert 3 5 x) (toT t0 σ) m (.int .u8 (.ofNat c)) m := by
  have := convert_is (P := Tryz.prog) (S := S) (src := 3) (dst := 5) (k2 := .u8) (t0 := t0) (m := m) h (by kernel_rfl) (by kernel_rfl)
  rwa [wrap_small _ _ hc] at this
theorem op_bytes2 {call : Call} {x : Operand} {b c : Nat} (h : ev σ x = some (.slice b 0 2 (some 2))) (B : BoxIs m b (byteC 84 c)) (hc : c < 256) : opTab (.convert 38 9 x) Tryz.prog call (toT t0 σ) m = .mk (.str [84, c]) m := by
  show evK (toT t0 σ) x (fun v => aConvert Tryz.prog 38 9 v m) = _
  rw [evK_eq, ev_is h]
  have e1 : Tryz.prog.underlying 38 = some (.slice 5) := by kernel_rfl
  have e2 : Tryz.prog.underlying 9 = some .string := by kernel_rfl
  have e3 : Tryz.prog.underlying 5 = some (.int .u8) := by kernel_rfl
  unfold aConvert
  rw [e1, e2]
  simp only
  rw [e3]
  simp only
  obtain ⟨_, _, h1, h2⟩ := (B.el).blk
  have hl := loadK_is (m := m) (b := b) (off := 0) (l := byteC 84 c) (k := fun l => bytesK l fun s => .mk (.str s) m) (fun j hj => by rw [Nat.zero_add]; exact B.at_ j) h1 h2
  rw [show (2 : Nat) = (byteC 84 c).length from rfl, hl]
  show bif2 (Nat.blt 84 256) (bif2 (Nat.blt c 256) (OR.mk (.str [84, c]) m) (OR.fail 102)) (OR.fail 102) = _
  rw [bif2_eq, if_pos (show Nat.blt 84 256 = true from rfl), bif2_eq, if_pos (by rw [Nat.blt_eq]; exact hc)]
theorem op_bytes_leaf {call : Call} {x : Operand} {b n : Nat} (h : ev σ x = some (.slice b 0 2 (some 2))) : ∃ e, opTab (.convert 38 9 x) Tryz.prog call (toT t0 σ) ⟨n, .leaf⟩ = .fail e := by
  show ∃ e, evK (toT t0 σ) x (fun v => aConvert Tryz.prog 38 9 v ⟨n, .leaf⟩) = .fail e
  rw [evK_eq, ev_is h]
  have e1 : Tryz.prog.underlying 38 = some (.slice 5) := by kernel_rfl
  have e2 : Tryz.prog.underlying 9 = some .string := by kernel_rfl
  have e3 : Tryz.prog.underlying 5 = some (.int .u8) := by kernel_rfl
  unfold aConvert
  rw [e1, e2]
  simp only
  rw [e3]
  exact ⟨_, rfl⟩
theorem OpTo.bytes2 {x : Operand} {b c : Nat} (h : ev σ x = some (.slice b 0 2 (some 2))) (B : BoxIs m b (byteC 84 c)) (hc : c < 256) : OpTo Tryz.prog S (.convert 38 9 x) (toT t0 σ) m (.str [84, c]) m := OpTo.of fun _ => op_bytes2 h B hc
end
end Go.Ev
end
section
namespace Go.Ev
set_option linter.all false
open Go.Proofs
set_option maxRecDepth 10000
set_option maxHeartbeats 4000000
theorem call4 {S : Sums} (hS : Plain S lwF) (h64 : S 64 = some insW) (h8 : S 8 = some begunSum) {m : AMem} (n0 k0 : Int) :
    ∃ r m', CallTo Tryz.prog S 4 [.int .i64 n0, .int .i64 k0] m r m' ∧ r = .bool true := by
  have hS9 : Plain S ofF := fun f hf => hS f (by simp at hf ⊢; omega)
  have hS11 : Plain S rgF := fun f hf => hS f (by simp at hf ⊢; omega)
  obtain ⟨i22, e22, s22⟩ := ei22
  obtain ⟨i23, e23, s23⟩ := ei23
  obtain ⟨i27, e27, s27⟩ := ei27
  obtain ⟨i38, e38, s38⟩ := ei38
  refine XP.call (hS 4 (by decide)) cd4 nt4 ?_
  show XP _ _ _ _ (toT .leaf [(1, .int .i64 k0), (0, .int .i64 n0)]) m _
  unfold Tryz.f4
  dsimp only [Option.getD_some]
  have K : Kp Nothing m m := .refl m
  refine XP.seq ?_; refine XP.regionS ?_; refine RP.o1 (.assign rfl) rfl rfl ?_; refine RP.nil ?_; refine XP.seq ?_; refine XP.regionS ?_; refine RP.o1 (.callS rfl rfl (begun8 h8)) rfl rfl ?_; refine RP.o1 (.assign rfl) rfl rfl ?_; refine RP.nil ?_; refine XP.seq ?_; refine XP.seq ?_; refine XP.regionS ?_; refine RP.o1 (.move rfl) rfl rfl ?_; refine RP.o1 (.not_ rfl) rfl rfl ?_; refine RP.nil ?_
  refine XP.condS false rfl ?_  -- if t16
  refine XP.skip ?_; refine XP.seq ?_; refine XP.seq ?_; refine XP.regionS ?_; refine RP.o1 (.move rfl) rfl rfl ?_; refine RP.o1 (.bin rfl rfl (by first | exact lss_nat | exact lss_is)) rfl rfl ?_; refine RP.o1 (.move rfl) rfl rfl ?_
  rcases Decidable.em (n0 < 1) with hp19 | hp19
  · simp only [decide_eq_true hp19]
    refine RP.skip ⟨_,_,_,rfl,rfl,rfl,rfl⟩ rfl ?_; refine RP.skip ⟨_,_,_,rfl,rfl,rfl,rfl⟩ rfl ?_; refine RP.o1 (.pick (b := true) rfl rfl) rfl rfl ?_; refine RP.o1 (.move rfl) rfl rfl ?_; refine RP.skip ⟨_,_,_,rfl,rfl,rfl,rfl⟩ rfl ?_; refine RP.skip ⟨_,_,_,rfl,rfl,rfl,rfl⟩ rfl ?_; refine RP.o1 (.pick (b := true) rfl rfl) rfl rfl ?_; refine RP.o1 (.move rfl) rfl rfl ?_; refine RP.skip ⟨_,_,_,rfl,rfl,rfl,rfl⟩ rfl ?_; refine RP.skip ⟨_,_,_,rfl,rfl,rfl,rfl⟩ rfl ?_; refine RP.o1 (.pick (b := true) rfl rfl) rfl rfl ?_; refine RP.nil ?_
    refine XP.condS true rfl ?_  -- if t30
    refine XP.seq ?_; refine XP.regionS ?_; refine RP.o1 (.assign rfl) rfl rfl ?_; refine RP.nil ?_
    exact XP.ret ⟨.inr rfl, _, _, oneRes rfl, rfl⟩
  · simp only [decide_eq_false hp19]
    refine RP.o1 (.move rfl) rfl ⟨_,_,_,rfl,rfl,rfl,rfl⟩ ?_; refine RP.o1 (.bin rfl rfl gtr_is) rfl ⟨_,_,_,rfl,rfl,rfl,rfl⟩ ?_; refine RP.o1 (.pick (b := false) rfl rfl) rfl rfl ?_; refine RP.o1 (.move rfl) rfl rfl ?_
    rcases Decidable.em (10 < n0) with hp23 | hp23
    · simp only [decide_eq_true hp23]
      refine RP.skip ⟨_,_,_,rfl,rfl,rfl,rfl⟩ rfl ?_; refine RP.skip ⟨_,_,_,rfl,rfl,rfl,rfl⟩ rfl ?_; refine RP.o1 (.pick (b := true) rfl rfl) rfl rfl ?_; refine RP.o1 (.move rfl) rfl rfl ?_; refine RP.skip ⟨_,_,_,rfl,rfl,rfl,rfl⟩ rfl ?_; refine RP.skip ⟨_,_,_,rfl,rfl,rfl,rfl⟩ rfl ?_; refine RP.o1 (.pick (b := true) rfl rfl) rfl rfl ?_; refine RP.nil ?_
      refine XP.condS true rfl ?_  -- if t30
      refine XP.seq ?_; refine XP.regionS ?_; refine RP.o1 (.assign rfl) rfl rfl ?_; refine RP.nil ?_
      exact XP.ret ⟨.inr rfl, _, _, oneRes rfl, rfl⟩
    · simp only [decide_eq_false hp23]
      refine RP.o1 (.move rfl) rfl ⟨_,_,_,rfl,rfl,rfl,rfl⟩ ?_; refine RP.o1 (.bin rfl rfl (by first | exact lss_nat | exact lss_is)) rfl ⟨_,_,_,rfl,rfl,rfl,rfl⟩ ?_; refine RP.o1 (.pick (b := false) rfl rfl) rfl rfl ?_; refine RP.o1 (.move rfl) rfl rfl ?_
      rcases Decidable.em (k0 < 1) with hp27 | hp27
      · simp only [decide_eq_true hp27]
        refine RP.skip ⟨_,_,_,rfl,rfl,rfl,rfl⟩ rfl ?_; refine RP.skip ⟨_,_,_,rfl,rfl,rfl,rfl⟩ rfl ?_; refine RP.o1 (.pick (b := true) rfl rfl) rfl rfl ?_; refine RP.nil ?_
        refine XP.condS true rfl ?_  -- if t30
        refine XP.seq ?_; refine XP.regionS ?_; refine RP.o1 (.assign rfl) rfl rfl ?_; refine RP.nil ?_
        exact XP.ret ⟨.inr rfl, _, _, oneRes rfl, rfl⟩
      · simp only [decide_eq_false hp27]
        refine RP.o1 (.move rfl) rfl ⟨_,_,_,rfl,rfl,rfl,rfl⟩ ?_; refine RP.o1 (.bin rfl rfl gtr_is) rfl ⟨_,_,_,rfl,rfl,rfl,rfl⟩ ?_; refine RP.o1 (.pick (b := false) rfl rfl) rfl rfl ?_; refine RP.nil ?_
        refine XP.condD rfl (fun hc30 => ?_) (fun hc30 => ?_)  -- if t30
        · refine XP.seq ?_; refine XP.regionS ?_; refine RP.o1 (.assign rfl) rfl rfl ?_; refine RP.nil ?_
          exact XP.ret ⟨.inr rfl, _, _, oneRes rfl, rfl⟩
        · refine XP.skip ?_; refine XP.seq ?_
          obtain ⟨n, rfl, hn1, hn10⟩ : ∃ n : Nat, n0 = .ofNat n ∧ 1 ≤ n ∧ n ≤ 10 := ⟨n0.toNat, (Int.toNat_of_nonneg (by omega)).symm, by omega, by omega⟩
          obtain ⟨k, rfl, hk1, hk6⟩ : ∃ k : Nat, k0 = .ofNat k ∧ 1 ≤ k ∧ k ≤ 6 := ⟨k0.toNat, (Int.toNat_of_nonneg (by omega)).symm, by omega, by omega⟩
          refine XP.regionS ?_; refine RP.o1 (.build rfl build25z) rfl rfl ?_
          have hk1 := K.le
          refine RP.alloc z25 rfl rfl fun M1 K1 B6 N1 => ?_
          have K := K.trans K1
          refine RP.store rfl rfl lay25 rfl B6 rfl rfl rfl rfl fun M2 K2 B6 N2 => ?_
          have K := K.young K2 (by rintro _ rfl; omega)
          have B6 : BoxIs M2 m.next [.nils, .str [], .int .i64 (.ofNat 0), .nils] := B6
          have KB0 : Kp Nothing m M2 := Kp.young (.refl _) (K1.any.trans K2) (by rintro _ rfl; exact Nat.le_refl _)
          refine RP.nil ?_; refine XP.seq ?_; refine XP.seq ?_; refine XP.regionS ?_; refine RP.o1 (.assign rfl) rfl rfl ?_; refine RP.nil ?_
          refine XP.block ?_  -- block 0
          refine XP.while (fun d t m1 => ∃ i t0 tv toks, t = toT t0 [(7, .int .i64 (.ofNat i)), (6, .ptr m.next 0), (1, .int .i64 (.ofNat k)), (0, .int .i64 (.ofNat n))] ∧ d = n - i ∧ i ≤ n ∧ Kp Nothing m m1 ∧ BoxIs m1 m.next [tv, .str [], .int .i64 (.ofNat 0), .nils] ∧ GrowIs tokC 3 (m.next + 1) m1 tv toks ∧ toks.length = i ∧ ∀ t ∈ toks, t.name.length ≤ 15) ?_ n _ _ ?_
          rotate_left
          · exact ⟨0, _, .nils, [], toT_less (.cons rfl (.cons rfl (.cons rfl (.cons rfl (.nil))))), rfl, Nat.zero_le _, KB0, B6, .inl ⟨rfl, rfl⟩, rfl, fun t h => by simp at h⟩
          rintro d t M3 ⟨i, t0, tv, toks, rfl, rfl, hin, KA, B6, G, htl, hsh⟩
          have K := KA
          have hKA := KA.le
          have b6l := B6.lt
          refine XP.seq ?_; refine XP.seq ?_; refine XP.regionS ?_; refine RP.o1 (.move rfl) rfl rfl ?_; refine RP.o1 (.move rfl) rfl rfl ?_; refine RP.o1 (.bin rfl rfl (by first | exact lss_nat | exact lss_is)) rfl rfl ?_; refine RP.nil ?_
          refine XP.condD rfl (fun hc34 => ?_) (fun hc34 => ?_)  -- if t34
          · refine XP.skip ?_; refine XP.seq ?_
            refine XP.block ?_  -- block 1
            refine XP.regionS ?_; refine RP.o1 (.fieldAddr rfl fa25_0) rfl rfl ?_
            refine RP.o1 (.load1 rfl lay22 (by first | (apply BoxIs.get; assumption; rfl) | (apply ElAt.get; assumption; rfl) | (apply ElAt.get0; assumption; rfl) | assumption)) rfl rfl ?_
            refine RP.o1 (.move rfl) rfl rfl ?_; refine RP.o1 (.bin rfl rfl (add97 (by omega))) rfl rfl ?_; refine RP.o1 (.byte rfl (by omega)) rfl rfl ?_; refine RP.op (.buildSlice rfl e38 (by rw [s38]; rfl) (by rw [s38]; exact fill38)) rfl rfl (Nat.le_succ _) ?_
            rw [s38]
            have KB2 : Kp Nothing M3 (M3.new false 1 (byteC 84 (97 + i))) := (Kp.refl M3).new _ _ _
            have BB : BoxIs (M3.new false 1 (byteC 84 (97 + i))) M3.next (byteC 84 (97 + i)) := BoxIs.new
            have NB : (M3.new false 1 (byteC 84 (97 + i))).next = M3.next + 1 := rfl
            generalize M3.new false 1 (byteC 84 (97 + i)) = MB at KB2 BB NB ⊢
            obtain ⟨u1, mp1, ha1, hm1, G1, Kp1, new1⟩ := append1 (x := (⟨[84, 97 + i], .ofNat 0, .ofNat 0⟩ : TokD)) encTok (by decide) e22 s22 ap22 (G.up KB2) (by omega) (by omega)
            have B6 := (B6.up KB2).keep Kp1 (fun h => by have := G.low h; omega)
            refine RP.o1 (.bytes2 rfl BB (by omega)) rfl rfl ?_; refine RP.o1 (.build rfl build40) rfl rfl ?_; refine RP.op (.buildSlice rfl e22 (by rw [s22]; rfl) (by rw [s22]; exact fill22)) rfl rfl (Nat.le_succ _) ?_
            rw [s22]
            refine RP.op (OpTo.of fun _ => op_append rfl rfl ha1) rfl rfl hm1 ?_; refine RP.o1 (.fieldAddr rfl fa25_0) rfl rfl ?_; refine RP.storeP rfl rfl lay22 G1.row.plain B6 rfl rfl rfl fun M4 K4 B6 N4 => ?_
            have B6 : BoxIs M4 m.next [u1, .str [], .int .i64 (.ofNat 0), .nils] := B6
            have G2 := G1.stays K4 (fun b hb e => by have := G1.low hb; omega)
            have KA := ((KA.trans KB2).young Kp1 (fun b h => by have := G.low h; omega)).young K4 (by rintro _ rfl; exact Nat.le_refl _)
            refine RP.nil ?_; refine XP.regionS ?_; refine RP.o1 (.move rfl) rfl rfl ?_
            refine RP.o1 (.bin rfl rfl (by first | exact inc_is (by omega) | exact add_is (by omega) (by omega))) rfl rfl ?_
            refine RP.o1 (.assign rfl) rfl rfl ?_; refine RP.nil ?_
            refine ⟨n - (i + 1), by omega, i + 1, _, u1, _, toT_less (.cons rfl (.cons rfl (.cons rfl (.cons rfl (.nil))))), rfl, by omega, KA, B6, G2, by simp [htl], fun t ht => ?_⟩
            rcases List.mem_append.1 ht with ht | ht
            · exact hsh t ht
            · rw [List.mem_singleton] at ht; subst ht; show 2 ≤ 15; omega
          · refine XP.exit ?_  -- 0
            refine XP.seq ?_; refine XP.seq ?_; refine XP.regionS ?_; refine RP.o1 (.assign rfl) rfl rfl ?_; refine RP.nil ?_
            refine XP.block ?_  -- block 2
            refine XP.while (fun d t m1 => ∃ i2 t0 rv rules, t = toT t0 [(8, .int .i64 (.ofNat i2)), (6, .ptr m.next 0), (1, .int .i64 (.ofNat k)), (0, .int .i64 (.ofNat n))] ∧ d = n - i2 ∧ i2 ≤ n ∧ Kp (fun b => b = m.next) M3 m1 ∧ BoxIs m1 m.next [tv, .str [], .int .i64 (.ofNat 0), rv] ∧ QG M3.next m.next m1 rv rules ∧ rules.length ≤ 3 * i2 ∧ ∀ r ∈ rules, RShort r) ?_ n _ _ ?_
            rotate_left
            · exact ⟨0, _, .nils, [], toT_less (.cons rfl (.cons rfl (.cons rfl (.cons rfl (.nil))))), rfl, Nat.zero_le _, .refl _, B6, QG.nil, Nat.zero_le _, fun r h => by simp at h⟩
            rintro d t M5 ⟨i2, t0, rv, rules, rfl, rfl, hin2, KE, B6, qg, hrl, hrs⟩
            have KA2 := KA.young KE (by rintro _ rfl; exact Nat.le_refl _)
            have K := KA2
            have hT := G.row.stays KE (fun b hb e => by have := G.low hb; omega)
            have hKE := KE.le
            have hKA2 := KA2.le
            refine XP.seq ?_; refine XP.seq ?_; refine XP.regionS ?_; refine RP.o1 (.move rfl) rfl rfl ?_; refine RP.o1 (.move rfl) rfl rfl ?_; refine RP.o1 (.bin rfl rfl (by first | exact lss_nat | exact lss_is)) rfl rfl ?_; refine RP.nil ?_
            refine XP.condD rfl (fun hc50 => ?_) (fun hc50 => ?_)  -- if t50
            · refine XP.skip ?_; refine XP.seq ?_
              refine XP.block ?_  -- block 3
              refine XP.seq ?_; refine XP.regionS ?_; refine RP.o1 (.assign rfl) rfl rfl ?_; refine RP.nil ?_
              refine XP.block ?_  -- block 4
              refine XP.while (fun d t m1 => ∃ j t0 rv rules, t = toT t0 [(9, .int .i64 (.ofNat j)), (8, .int .i64 (.ofNat i2)), (6, .ptr m.next 0), (1, .int .i64 (.ofNat k)), (0, .int .i64 (.ofNat n))] ∧ d = 3 - j ∧ j ≤ 3 ∧ Kp (fun b => b = m.next) M3 m1 ∧ BoxIs m1 m.next [tv, .str [], .int .i64 (.ofNat 0), rv] ∧ QG M3.next m.next m1 rv rules ∧ rules.length ≤ 3 * i2 + j ∧ ∀ r ∈ rules, RShort r) ?_ 3 _ _ ?_
              rotate_left
              · exact ⟨0, _, _, _, toT_less (.cons rfl (.cons rfl (.cons rfl (.cons rfl (.cons rfl (.nil)))))), rfl, Nat.zero_le _, KE, B6, qg, hrl, hrs⟩
              rintro d t M6 ⟨j, t0, rv, rules, rfl, rfl, hj3, KE, B6, qg, hrl, hrs⟩
              have KA2 := KA.young KE (by rintro _ rfl; exact Nat.le_refl _)
              have K := KA2
              have hKE := KE.le
              have hKA2 := KA2.le
              have b6l := B6.lt
              refine XP.seq ?_; refine XP.seq ?_; refine XP.regionS ?_; refine RP.o1 (.move rfl) rfl rfl ?_; refine RP.o1 (.bin rfl rfl (by first | exact lss_nat | exact lss_is)) rfl rfl ?_; refine RP.o1 (.move rfl) rfl rfl ?_
              rcases Decidable.em (j < 3) with hp55 | hp55
              · simp only [decide_eq_true hp55]
                refine RP.o1 (.move rfl) rfl ⟨_,_,_,rfl,rfl,rfl,rfl⟩ ?_; refine RP.o1 (.move rfl) rfl ⟨_,_,_,rfl,rfl,rfl,rfl⟩ ?_; refine RP.o1 (.bin rfl rfl (mulN_is (by have := Nat.mul_le_mul hn10 hj3; omega))) rfl ⟨_,_,_,rfl,rfl,rfl,rfl⟩ ?_
                refine RP.o1 (.move rfl) rfl ⟨_,_,_,rfl,rfl,rfl,rfl⟩ ?_; refine RP.o1 (.bin rfl rfl (addN_is (by have := Nat.mul_le_mul hn10 hj3; omega))) rfl ⟨_,_,_,rfl,rfl,rfl,rfl⟩ ?_
                refine RP.o1 (.bin rfl rfl (by first | exact lss_nat | exact lss_is)) rfl ⟨_,_,_,rfl,rfl,rfl,rfl⟩ ?_; refine RP.o1 (.pick (b := true) rfl rfl) rfl rfl ?_; refine RP.nil ?_
                refine XP.condD rfl (fun hc62 => ?_) (fun hc62 => ?_)  -- if t62
                · refine XP.skip ?_; refine XP.seq ?_
                  refine XP.block ?_  -- block 5
                  refine XP.seq ?_; refine XP.regionS ?_; refine RP.o1 (.build rfl build42z) rfl rfl ?_
                  have hk7 := K.le
                  refine RP.alloc z42 rfl rfl fun M7 K7 B10 N7 => ?_
                  have K := K.trans K7
                  refine RP.store rfl rfl lay42 rfl B10 rfl rfl rfl rfl fun M8 K8 B10 N8 => ?_
                  have K := K.young K8 (by rintro _ rfl; omega)
                  have B10 : BoxIs M8 M6.next [.str [115], .nils, .str []] := B10
                  have KY0 : Kp Nothing M6 M8 := Kp.young (.refl _) (K7.any.trans K8) (by rintro _ rfl; exact Nat.le_refl _)
                  refine RP.nil ?_; refine XP.seq ?_; refine XP.seq ?_; refine XP.regionS ?_; refine RP.o1 (.assign rfl) rfl rfl ?_; refine RP.nil ?_
                  refine XP.block ?_  -- block 6
                  refine XP.while (fun d t m1 => ∃ l t0 qv xs, t = toT t0 [(11, .int .i64 (.ofNat l)), (10, .ptr M6.next 0), (9, .int .i64 (.ofNat j)), (8, .int .i64 (.ofNat i2)), (6, .ptr m.next 0), (1, .int .i64 (.ofNat k)), (0, .int .i64 (.ofNat n))] ∧ d = k - l ∧ l ≤ k ∧ Kp Nothing M6 m1 ∧ BoxIs m1 M6.next [.str [115], qv, .str []] ∧ GrowIs strC 1 (M6.next + 1) m1 qv xs ∧ xs.length = l ∧ ∀ x ∈ xs, x.length ≤ 15) ?_ k _ _ ?_
                  rotate_left
                  · exact ⟨0, _, .nils, [], toT_less (.cons rfl (.cons rfl (.cons rfl (.cons rfl (.cons rfl (.cons rfl (.cons rfl (.nil)))))))), rfl, Nat.zero_le _, KY0, B10, .inl ⟨rfl, rfl⟩, rfl, fun x h => by simp at h⟩
                  rintro d t M9 ⟨l, t0, qv, xs, rfl, rfl, hlk, KZ, B10, GQ, hxl, hxs⟩
                  have KA3 := KA2.trans KZ
                  have K := KA3
                  have hKZ := KZ.le
                  have h10l := B10.lt
                  refine XP.seq ?_; refine XP.seq ?_; refine XP.regionS ?_; refine RP.o1 (.move rfl) rfl rfl ?_; refine RP.o1 (.move rfl) rfl rfl ?_; refine RP.o1 (.bin rfl rfl (by first | exact lss_nat | exact lss_is)) rfl rfl ?_; refine RP.nil ?_
                  refine XP.condD rfl (fun hc68 => ?_) (fun hc68 => ?_)  -- if t68
                  · refine XP.skip ?_; refine XP.seq ?_
                    refine XP.block ?_  -- block 7
                    have hjl : j * l ≤ 3 * 6 := Nat.mul_le_mul hj3 (by omega)
                    have hmod : (i2 + j * l) % n < n := Nat.mod_lt _ (by omega)
                    have B10r := B10
                    have KB2 : Kp Nothing M9 (M9.new false 1 (byteC 84 (97 + (i2 + j * l) % n))) := (Kp.refl M9).new _ _ _
                    have NB : (M9.new false 1 (byteC 84 (97 + (i2 + j * l) % n))).next = M9.next + 1 := rfl
                    obtain ⟨u2, mp2, ha2, hm2, G2, Kp2, new2⟩ := append1 (x := [84, 97 + (i2 + j * l) % n]) encStr (by decide) e27 s27 ap27 (GQ.up KB2) (by omega) (by omega)
                    have B10 := (B10.up KB2).keep Kp2 (fun h => by have := GQ.low h; omega)
                    refine XP.drawnS (ms := [0, 1, 0, 0, 0, 24, 60, 0, 252, 508, 1020, 2044, 4092, 8188, 16383, 32767, 65535]) (by kernel_rfl) ?_; refine DP.pure (.fieldAddr rfl fa42_1) rfl rfl rfl ?_; refine DP.read (fun _ => op_load1 (ev_is rfl) lay27 (B10r.get (j := 1) rfl)) rfl rfl rfl (fun _ => op_load_leaf) (.inl (by kernel_rfl)) (fun _ => cuts_nil) ?_; refine DP.pure (.move rfl) rfl rfl rfl ?_; refine DP.pure (.move rfl) rfl rfl rfl ?_; refine DP.pure (.move rfl) rfl rfl rfl ?_; refine DP.pure (.bin rfl rfl (mulN_is (by omega))) rfl rfl rfl ?_; refine DP.pure (.bin rfl rfl (addN_is (by omega))) rfl rfl rfl ?_; refine DP.pure (.move rfl) rfl rfl rfl ?_; refine DP.pure (.bin rfl rfl (remN_is (by omega))) rfl rfl rfl ?_; refine DP.pure (.bin rfl rfl (add97 (by omega))) rfl rfl rfl ?_; refine DP.pure (.byte rfl (by omega)) rfl rfl rfl ?_; refine DP.make (.buildSlice rfl e38 (by rw [s38]; rfl) (by rw [s38]; exact fill38)) rfl rfl rfl ?_
                    rw [s38]
                    refine DP.read (fun _ => op_bytes2 rfl BoxIs.new (by omega)) rfl rfl rfl (fun _ => op_bytes_leaf rfl) (.inl (by kernel_rfl)) (fun _ => cuts_nil) ?_; refine DP.make (.buildSlice rfl e27 (by rw [s27]; rfl) (by rw [s27]; exact fill27)) rfl rfl rfl ?_
                    rw [s27]
                    refine DP.heavy (OpTo.of fun _ => op_append rfl rfl ha2) rfl rfl rfl (by kernel_rfl) (by kernel_rfl) hm2 (pk_drop (by kernel_rfl) (pk_drop (by kernel_rfl) pk_nil)) ?_; refine DP.pure (.fieldAddr rfl fa42_1) rfl rfl rfl ?_; refine DP.storeP rfl rfl lay27 G2.row.plain B10 rfl rfl rfl (by kernel_rfl) (by kernel_rfl) (fun _ => pk_nil) fun M10 K10 B10 N10 => ?_
                    have B10 : BoxIs M10 M6.next [.str [115], u2, .str []] := B10
                    have G3 := G2.stays K10 (fun b hb e => by have := G2.low hb; omega)
                    have KZ := ((KZ.trans KB2).young Kp2 (fun b h => by have := GQ.low h; omega)).young K10 (by rintro _ rfl; exact Nat.le_refl _)
                    refine DP.nil ?_; refine XP.regionS ?_; refine RP.o1 (.move rfl) rfl rfl ?_
                    refine RP.o1 (.bin rfl rfl (by first | exact inc_is (by omega) | exact add_is (by omega) (by omega))) rfl rfl ?_
                    refine RP.o1 (.assign rfl) rfl rfl ?_; refine RP.nil ?_
                    refine ⟨k - (l + 1), by omega, l + 1, _, u2, _, toT_less (.cons rfl (.cons rfl (.cons rfl (.cons rfl (.cons rfl (.cons rfl (.cons rfl (.nil)))))))), rfl, by omega, KZ, B10, G3, by simp [hxl], fun y hy => ?_⟩
                    rcases List.mem_append.1 hy with hy | hy
                    · exact hxs y hy
                    · rw [List.mem_singleton] at hy; subst hy; show 2 ≤ 15; omega
                  · refine XP.exit ?_  -- 6
                    have qg2 := qg.up KZ
                    have B6r := B6.up KZ
                    obtain ⟨u3, mp3, ha3, hm3, Kp3, new3, pu3, QQ⟩ := qg2.app e23 s23 ap23 (a := [115]) (c := []) GQ.row (fun b hb => ⟨by have := GQ.low hb; omega, fun h => by have := GQ.low hb; have := qg.under h; omega⟩) (by omega) (by omega) (by omega)
                    have B6 := B6r.keep Kp3 (fun h => by have := qg.low h; omega)
                    refine XP.regionS ?_; refine RP.o1 (.fieldAddr rfl fa25_3) rfl rfl ?_; refine RP.o1 (.load1 rfl lay23 (B6r.get (j := 3) rfl)) rfl rfl ?_; refine RP.o1 (.loadE rfl B10.el lay42 (by rfl)) rfl rfl ?_; refine RP.op (.buildSlice rfl e23 (by rw [s23]; rfl) (by rw [s23]; exact fill23)) rfl rfl (Nat.le_succ _) ?_
                    rw [s23]
                    refine RP.op (OpTo.of fun _ => op_append rfl rfl ha3) rfl rfl hm3 ?_; refine RP.o1 (.fieldAddr rfl fa25_3) rfl rfl ?_; refine RP.storeP rfl rfl lay23 pu3 B6 rfl rfl rfl fun M11 K11 B6 N11 => ?_
                    have B6 : BoxIs M11 m.next [tv, .str [], .int .i64 (.ofNat 0), u3] := B6
                    have qg3 := QQ _ K11
                    have KE := ((KE.youngD KZ (fun b h => h.elim)).youngD Kp3 (fun b h => .inr (qg.low h))).youngD K11 (fun b h => .inl h)
                    refine RP.nil ?_; refine XP.regionS ?_; refine RP.o1 (.move rfl) rfl rfl ?_
                    refine RP.o1 (.bin rfl rfl (by first | exact inc_is (by omega) | exact add_is (by omega) (by omega))) rfl rfl ?_
                    refine RP.o1 (.assign rfl) rfl rfl ?_; refine RP.nil ?_
                    refine ⟨3 - (j + 1), by omega, j + 1, _, u3, _, toT_less (.cons rfl (.cons rfl (.cons rfl (.cons rfl (.cons rfl (.nil)))))), rfl, by omega, KE, B6, qg3, by simp only [List.length_append, List.length_singleton]; omega, fun z hz => ?_⟩
                    rcases List.mem_append.1 hz with hz | hz
                    · exact hrs z hz
                    · rw [List.mem_singleton] at hz; subst hz; exact ⟨by show 1 ≤ 15; omega, by show 0 ≤ 15; omega, by show xs.length ≤ 22; omega, hxs⟩
                · refine XP.exit ?_  -- 4
                  refine XP.regionS ?_; refine RP.o1 (.move rfl) rfl rfl ?_
                  refine RP.o1 (.bin rfl rfl (by first | exact inc_is (by omega) | exact add_is (by omega) (by omega))) rfl rfl ?_
                  refine RP.o1 (.assign rfl) rfl rfl ?_; refine RP.nil ?_
                  exact ⟨n - (i2 + 1), by omega, i2 + 1, _, rv, rules, toT_less (.cons rfl (.cons rfl (.cons rfl (.cons rfl (.nil))))), rfl, by omega, KE, B6, qg, by omega, hrs⟩
              · simp only [decide_eq_false hp55]
                refine RP.skip ⟨_,_,_,rfl,rfl,rfl,rfl⟩ rfl ?_; refine RP.skip ⟨_,_,_,rfl,rfl,rfl,rfl⟩ rfl ?_; refine RP.skip ⟨_,_,_,rfl,rfl,rfl,rfl⟩ rfl ?_; refine RP.skip ⟨_,_,_,rfl,rfl,rfl,rfl⟩ rfl ?_; refine RP.skip ⟨_,_,_,rfl,rfl,rfl,rfl⟩ rfl ?_; refine RP.skip ⟨_,_,_,rfl,rfl,rfl,rfl⟩ rfl ?_; refine RP.o1 (.pick (b := false) rfl rfl) rfl rfl ?_; refine RP.nil ?_
                refine XP.condS false rfl ?_  -- if t62
                refine XP.exit ?_  -- 4
                refine XP.regionS ?_; refine RP.o1 (.move rfl) rfl rfl ?_
                refine RP.o1 (.bin rfl rfl (by first | exact inc_is (by omega) | exact add_is (by omega) (by omega))) rfl rfl ?_
                refine RP.o1 (.assign rfl) rfl rfl ?_; refine RP.nil ?_
                exact ⟨n - (i2 + 1), by omega, i2 + 1, _, rv, rules, toT_less (.cons rfl (.cons rfl (.cons rfl (.cons rfl (.nil))))), rfl, by omega, KE, B6, qg, by omega, hrs⟩
            · refine XP.exit ?_  -- 2
              refine XP.seq ?_
              have hg : GramIs M5 tv rv ⟨toks, [], .ofNat 0, rules⟩ := ⟨hT, qg.rules⟩
              have hcut : GCut ⟨toks, [], .ofNat 0, rules⟩ := ⟨by show 0 ≤ 15; omega, by show toks.length ≤ 42; omega, hsh, by show rules.length ≤ 105; omega, hrs⟩
              obtain ⟨r9, M9, hc9, K9, cs, e, rfl, hcl, hcp, hsp⟩ := call9 hS9 hg hcut.small hcut.short
              refine XP.regionS ?_; refine RP.o1 (.loadE rfl B6.el lay25 (by rfl)) rfl rfl ?_; refine RP.op (.callS rfl rfl hc9) rfl rfl K9.le ?_
              have K := KA2.trans K9
              refine RP.o1 (.move rfl) rfl rfl ?_; refine RP.o1 (.extract rfl rfl) rfl rfl ?_; refine RP.o1 (.extract rfl rfl) rfl rfl ?_
              have hk12 := K.le
              refine RP.alloc z31 rfl rfl fun M12 K12 B12 N12 => ?_
              have K := K.trans K12
              refine RP.store rfl rfl lay31 hcl B12 rfl hcp rfl rfl fun M13 K13 B12 N13 => ?_
              have B12 : BoxIs M13 M9.next cs := by
                have h := B12
                rw [show (AV.agg cs).cells = cs from rfl, setL_all (by rw [hcl]; rfl)] at h
                exact h
              have KZ : Kp Nothing M9 M13 := Kp.young (.refl _) (K12.any.trans K13) (by rintro _ rfl; exact Nat.le_refl _)
              refine RP.o1 (.assign rfl) rfl rfl ?_; refine RP.nil ?_; refine XP.seq ?_
              have hz : e = 0 → ∃ m', CallTo Tryz.prog S 11 [.agg cs] M13 (.bool true) m' ∧ Kp Nothing M13 m' := fun h => by
                obtain ⟨s, rs, hv, hr, hW, hT, hN, hG⟩ := hsp h
                obtain ⟨m', h1, h2⟩ := call11 hS11 h64 (hr.up KZ) hW hT hN hG
                rw [← hv] at h1
                exact ⟨m', h1, h2⟩
              refine XP.regionS ?_; refine RP.o1 (.move rfl) rfl rfl ?_; refine RP.o1 (.bin rfl rfl neq_is) rfl rfl ?_; refine RP.o1 (.move rfl) rfl rfl ?_
              rcases Decidable.em (e = 0) with hp100 | hp100
              · simp only [decide_eq_true hp100]; simp only [Bool.not_true]
                refine RP.o1 (.loadE rfl (by first | assumption | (apply BoxIs.el; assumption)) lay31 hcl) rfl ⟨_,_,_,rfl,rfl,rfl,rfl⟩ ?_
                obtain ⟨m11, hc11, K11⟩ := hz hp100
                refine RP.op (.callS rfl rfl hc11) rfl ⟨_,_,_,rfl,rfl,rfl,rfl⟩ K11.le ?_; refine RP.o1 (.pick (b := false) rfl rfl) rfl rfl ?_; refine RP.o1 (.assign rfl) rfl rfl ?_; refine RP.nil ?_
                exact XP.ret ⟨.inr rfl, _, _, oneRes rfl, rfl⟩
              · simp only [decide_eq_false hp100]; simp only [Bool.not_false]
                refine RP.skip ⟨_,_,_,rfl,rfl,rfl,rfl⟩ rfl ?_; refine RP.skip ⟨_,_,_,rfl,rfl,rfl,rfl⟩ rfl ?_; refine RP.o1 (.pick (b := true) rfl rfl) rfl rfl ?_; refine RP.o1 (.assign rfl) rfl rfl ?_; refine RP.nil ?_
                exact XP.ret ⟨.inr rfl, _, _, oneRes rfl, rfl⟩
end Go.Ev
end
section
namespace Go.Ev
set_option linter.all false
open Go.Proofs
set_option maxRecDepth 100000
theorem law4 (a b : Int) (w : World) : Calls Tryz.prog 4 #[.int .i64 a, .int .i64 b] w fun e w' => e = .returned (.bool true) ∧ RowKit.Below w.heap.size w w' := by
  obtain ⟨x, m', hx, rfl⟩ := call4 (S := lawS) (lawS_plain (by decide)) rfl rfl (m := ⟨0, .leaf⟩) a b
  obtain ⟨n, e⟩ := hx.run
  exact run_ro mixed lawS_ok (lawS_none (by decide) (by decide)) (RoView.leaf w) e (fun _ _ _ => rfl) (.cons _ _ _ _ (.int _ _) (.cons _ _ _ _ (.int _ _) .nil))
end Go.Ev
end
