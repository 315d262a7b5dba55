/- The document's states: what they come to. Are all states just the document's? Yes. Words for grammars in memory: strings, tokens, rules by names. The document's small words on names. The document's lefts, long. -/
import Derived.Test.YtehbmncbojngnaaGreatDoorEvGj
section
namespace Go.Ev
set_option linter.all false
open Go.Proofs
set_option maxRecDepth 10000
set_option maxHeartbeats 4000000
theorem build66 {v : AV} (hp : v.plain = true) {m : AMem} : aBuild Tryz.prog 66 [(0, v)] m = .mk (.agg [v, .nils]) m := by cases v <;> first | exact absurd (show false = true from hp) (by decide) | kernel_rfl
theorem fill63 {a c : AV} : fillA (fun j => some (Nat.mul j 2, 2)) (repA [.nils, .nils] 1) [(0, .agg [a, c])] = some [a, c] := rfl
theorem fill28 {x : Int} : fillA (fun j => some (Nat.mul j 1, 1)) (repA [.int .i64 (.ofNat 0)] 1) [(0, .int .i64 x)] = some (intC x) := rfl
theorem ap63 : appendable Tryz.prog (some 63) = true := by kernel_rfl
theorem ap28 : appendable Tryz.prog (some 28) = true := by kernel_rfl
theorem OpTo.storeP {P : Program} {S : Sums} {t0 : T AV} {σ : List (Nat × AV)} {m : AMem} {ty : TypeId} {a x : Operand} {b off : Nat} {v : AV} {E n : Nat} {ag : Bool} (ha : ev σ a = some (.ptr b off)) (hx : ev σ x = some v) (hl : layout P ty = some (ag, 1)) (hp : v.plain = true) (ho : m.own b E n) (hn : off + 1 ≤ n) :
    OpTo P S (.store ty a x) (toT t0 σ) m .undef (m.write b off [v]) := by
  have := OpTo.store (P := P) (S := S) (t0 := t0) ha hx hl (by rw [cells_pl hp]; rfl) ho hn (all_plain hp)
  rwa [cells_pl hp] at this
theorem DoSt.elem {lo : Nat} {m : AMem} {b : Nat} {cp : Option Nat} {raw : List SP} {i : Nat} {gv : AV} {Ks : List (List (Int × Int))} {Gs : List (List Int)} {gc : List Int} (h : DoSt lo m b cp raw i gv Ks Gs gc) {k : List (Int × Int)} (hk : Ks[i]? = some k) :
    ∃ a : SP, raw[i]? = some a ∧ i < raw.length ∧ ElAt m b (0 + i * 2) [a.1.1, gv] ∧ RowG itC 2 m a.1.1 k ∧ (∀ c, Blk1 a.1.1 c → c ≠ b ∧ ¬ Blk1 gv c) := by
  obtain ⟨hi, _⟩ := List.getElem?_eq_some_iff.1 hk
  obtain ⟨a, ha⟩ : ∃ a, raw[i]? = some a := ⟨raw[i]'(by rw [h.len]; exact hi), List.getElem?_eq_getElem _⟩
  obtain ⟨b', o, c, e, hl, E⟩ := h.rowIs.elem encS (.refl _) ha
  injection e with e1 e2 e3 e4
  subst e1; subst e2
  have E : ElAt m b (0 + i * 2) [a.1.1, a.2.1] := E
  rw [h.cur a ha] at E
  exact ⟨a, ha, hl, E, (h.ker i a k ha hk).1, (h.ker i a k ha hk).2⟩
theorem state_pre {L : List (List (Int × Int))} {k : List (Int × Int)} {j : Nat} {x : List (Int × Int)} (h : L[j]? = some x) : (Lr.state L k).2[j]? = some x := by
  rcases Lr.state_ways L k with ⟨_, e⟩ | ⟨_, _, _, _, e⟩ | ⟨_, _, e⟩
  · rw [e]; exact h
  · rw [e]; exact h
  · rw [e]; exact (List.getElem?_append_left (List.getElem?_eq_some_iff.1 h).1).trans h
/-- Kernels as they are met, in order. -/
structure KernS (rs : List Rl) (k : List (Int × Int)) : Prop extends Kern rs k where
  srt : Lr.Srt k
theorem state_kernS {rs : List Rl} {L : List (List (Int × Int))} {k : List (Int × Int)} (hL : ∀ x ∈ L, KernS rs x) (hk : k ≠ [] → KernS rs k) : ∀ x ∈ (Lr.state L k).2, KernS rs x := fun x hx => by
  rcases Lr.state_ways L k with ⟨_, e⟩ | ⟨_, i, _, _, e⟩ | ⟨h, _, e⟩
  · rw [e] at hx; exact hL x hx
  · rw [e] at hx; exact hL x hx
  · rw [e] at hx
    rcases List.mem_append.1 hx with hx | hx
    · exact hL x hx
    · rw [List.mem_singleton] at hx; subst hx; exact hk h
abbrev doF : List Nat := [17, 29, 30, 39, 40, 41, 58]
theorem call29 {S : Sums} (hS : Plain S doF) {m : AMem} {s : SpV} {rs : List Rl} (hr : RulesIs m s.vr rs) (hW : WfR (.ofNat s.toks) rs) (hT : s.toks ≤ 12) (hN : s.nts ≤ 10) :
    ∃ r m', CallTo Tryz.prog S 29 [s.v] m r m' ∧ Kp Nothing m m' ∧ ((∃ L I R, r ≠ .nils ∧ DoFin m' r L R ∧ (s.g rs).IsAuto (symsN s.n) L I R ∧ L.length ≤ 120 ∧ (∀ k ∈ L, KernS rs k)) ∨ (r = .nils ∧ (s.g rs).Many (symsN s.n))) := by
  have hsn : s.n ≤ 23 := by show s.toks + 1 + s.nts ≤ 23; omega
  have hS30 : Plain S [30, 41, 58] := fun f hf => hS f (by simp at hf ⊢; omega)
  have hS39 : Plain S [39, 41, 58] := fun f hf => hS f (by simp at hf ⊢; omega)
  have hS40 : Plain S [17, 40] := fun f hf => hS f (by simp at hf ⊢; omega)
  have hB := hW.small
  obtain ⟨r0, hr0e, hr0l⟩ := hW.first
  obtain ⟨i46, e46, s46⟩ := ei46
  obtain ⟨i63, e63, s63⟩ := ei63
  obtain ⟨i28, e28, s28⟩ := ei28
  refine XP.call (hS 29 (by decide)) cd29 nt29 ?_
  show XP _ _ _ _ (toT .leaf [(0, s.v)]) m _
  unfold Tryz.f29
  dsimp only [Option.getD_some]
  have K : Kp Nothing m m := .refl m
  refine XP.seq ?_; refine XP.regionS ?_
  have hk1 := K.le
  refine RP.box rfl rfl rfl rfl fun M1 K1 B1 N1 => ?_
  have K := K.trans K1
  have hr0 := hr.up K1
  have B1o := B1
  refine RP.o1 (.assign rfl) rfl rfl ?_; refine RP.nil ?_; refine XP.seq ?_; refine XP.regionS ?_; refine RP.o1 (.fieldAddr rfl fa31_0) rfl rfl ?_
  refine RP.o1 (.load1 rfl lay3 (by first | (apply BoxIs.get; assumption; rfl) | (apply ElAt.get; assumption; rfl) | (apply ElAt.get0; assumption; rfl) | assumption)) rfl rfl ?_
  refine RP.o1 (.bin rfl rfl (by first | exact inc_is (by omega) | exact add_is (by omega) (by omega))) rfl rfl ?_
  refine RP.o1 (.fieldAddr rfl fa31_1) rfl rfl ?_
  refine RP.o1 (.load1 rfl lay3 (by first | (apply BoxIs.get; assumption; rfl) | (apply ElAt.get; assumption; rfl) | (apply ElAt.get0; assumption; rfl) | assumption)) rfl rfl ?_
  refine RP.o1 (.bin rfl rfl (addN_is (by omega))) rfl rfl ?_; refine RP.o1 (.assign rfl) rfl rfl ?_; refine RP.nil ?_; refine XP.seq ?_; refine XP.regionS ?_; refine RP.o1 (.build rfl build54e) rfl rfl ?_; refine RP.slice1 encIt e46 s46 rfl rfl (fill46 (x := (0, 0))) rfl rfl fun Ma Ka Ra _ Na => ?_; refine RP.o1 (.build rfl (build66 rfl)) rfl rfl ?_; refine RP.slice1 (x := ((⟨.slice M1.next 0 1 (some 1), rfl⟩, ⟨.nils, rfl⟩) : SP)) encS e63 s63 rfl rfl fill63 rfl rfl fun Mb Kb Rb Ob Nb => ?_
  have K := K.trans (Ka.trans Kb)
  have B1 := B1.up (Ka.trans Kb)
  have hRa : RowIs itC 2 Ma (.slice M1.next 0 1 (some 1)) [((0 : Int), (0 : Int))] := .inr (.inr ⟨M1.next, 0, some 1, rfl, Ra⟩)
  have hRg : RowG itC 2 Mb (.slice M1.next 0 1 (some 1)) [((0 : Int), (0 : Int))] := .inr ⟨M1.next, 0, some 1, rfl, Ra.keep Kb id, fun q e => by injection e with e; subst e; exact Nat.le_refl _, fun e => by cases e⟩
  have hnn : ∀ c, ¬ Blk1 .nils c := fun c q => by obtain ⟨_, _, _, e⟩ := q; cases e
  have ds0 : DoSt M1.next Mb Ma.next (some 1) [((⟨.slice M1.next 0 1 (some 1), rfl⟩, ⟨.nils, rfl⟩) : SP)] 0 .nils [[(0, 0)]] [] [] := by
    refine ⟨Ob, Rb, .inr rfl, by omega, rfl, rfl, fun j a k ha hk => ?_, fun j a g ha hg => by simp at hg, fun a ha => by cases ha; rfl, .inl ⟨rfl, rfl⟩, hnn _, fun j a hj ha => ?_⟩
    · obtain rfl : j = 0 := by have := (List.getElem?_eq_some_iff.1 ha).1; simp at this; omega
      cases ha; cases hk
      exact ⟨hRg, fun c hc => ⟨by obtain ⟨_, _, _, e⟩ := hc; injection e with e; omega, hnn c⟩⟩
    · have := (List.getElem?_eq_some_iff.1 ha).1; simp at this; omega
  have hkn0 : ∀ k ∈ ([[(0, 0)]] : List (List (Int × Int))), KernS rs k := fun k hk => by
    rw [List.mem_singleton] at hk; subst hk
    exact ⟨⟨fun x hx => by rw [List.mem_singleton] at hx; subst hx; exact ⟨0, 0, r0, rfl, hr0e, Nat.zero_le _⟩, by simp, by simp⟩, by simp [Lr.Srt]⟩
  refine RP.o1 (.assign rfl) rfl rfl ?_; refine RP.nil ?_; refine XP.seq ?_; refine XP.seq ?_; refine XP.regionS ?_; refine RP.o1 (.assign rfl) rfl rfl ?_; refine RP.nil ?_
  refine XP.block ?_  -- block 0
  refine XP.while (fun d t m1 => ∃ i t0 b cp raw Ks Gs, t = toT t0 [(5, .int .i64 (.ofNat i)), (4, .slice b 0 raw.length cp), (3, .int .i64 (.ofNat s.n)), (1, .ptr m.next 0)] ∧ d = 121 - i ∧ Kp Nothing M1 m1 ∧ DoSt M1.next m1 b cp raw i .nils Ks Gs [] ∧ (∃ I, (s.g rs).Steps (symsN s.n) i Ks I Gs) ∧ Ks.length ≤ 120 ∧ (∀ k ∈ Ks, KernS rs k) ∧ i ≤ Ks.length) ?_ 121 _ _ ?_
  rotate_left
  · exact ⟨0, _, _, _, _, _, _, toT_less (.cons rfl (.cons rfl (.cons rfl (.cons rfl (.nil))))), rfl, Ka.trans Kb, ds0, ⟨[], .zero⟩, by decide, hkn0, Nat.zero_le _⟩
  rintro d t M2 ⟨i, t0, b, cp, raw, Ks, Gs, rfl, rfl, KA, ds, ⟨I, hst⟩, hL, hkn, hiL⟩
  clear ds0 hkn0
  have K := K1.trans KA
  have B1 := B1o.up KA
  have hrM := hr0.up KA
  have hKA := KA.le
  have hdl := ds.len
  refine XP.seq ?_; refine XP.seq ?_; refine XP.regionS ?_; refine RP.o1 (.move rfl) rfl rfl ?_; refine RP.o1 (.move rfl) rfl rfl ?_; refine RP.o1 (.len rfl (rowLen63 ds.rowIs)) rfl rfl ?_; refine RP.o1 (.bin rfl rfl (by first | exact lss_nat | exact lss_is)) rfl rfl ?_; refine RP.nil ?_
  refine XP.condD rfl (fun hc23 => ?_) (fun hc23 => ?_)  -- if t23
  · refine XP.skip ?_; refine XP.seq ?_
    refine XP.block ?_  -- block 1
    refine XP.seq ?_
    obtain ⟨k, hk1⟩ : ∃ k, Ks[i]? = some k := ⟨Ks[i]'(by omega), List.getElem?_eq_getElem _⟩
    obtain ⟨a0, ha0, hir0, E0, Rk, dk⟩ := ds.elem hk1
    have hkern := hkn k (List.mem_of_getElem? hk1)
    obtain ⟨cv, M5, hc30, c, K5, Rc, icl, itc, fc⟩ := call30 hS30 (toks := .ofNat s.toks) (nts := .ofNat s.nts) (start := s.start) (expect := s.expect) (vn := s.vn) (vl := s.vl) (va := s.va) hrM Rk hkern.items hkern.srt hW
    have hcv : ∀ q, Blk1 cv q → q ≠ b ∧ ¬ Blk1 .nils q := fun q hq => by
      rcases fc q hq with h | rfl
      · exact ⟨by have := ds.row.lt; omega, hnn q⟩
      · exact dk q hq
    refine XP.drawnS (ms := [0, 0, 0, 6, 14, 30, 63, 127]) (by kernel_rfl) ?_; refine DP.read (fun _ => op_loadE rfl (by first | assumption | (apply BoxIs.el; assumption)) lay31 (by rfl)) rfl rfl rfl (fun _ => op_load_leaf) (.inl (by kernel_rfl)) (fun _ => cuts_nil) ?_
    refine DP.pure (.move rfl) rfl rfl rfl ?_; refine DP.pure (.move rfl) rfl rfl rfl ?_; refine DP.pure (.indexAddr rfl rfl ix63 (by assumption)) rfl rfl rfl ?_; refine DP.pure (.fieldAddr rfl fa66_0) rfl rfl rfl ?_
    refine DP.read (fun _ => op_load1 (ev_is rfl) lay46 (by first | (apply BoxIs.get; assumption; rfl) | (apply ElAt.get; assumption; rfl) | (apply ElAt.get0; assumption; rfl) | assumption)) rfl rfl rfl (fun _ => op_load_leaf) (.inl (by kernel_rfl)) (fun _ => cuts_nil) ?_
    refine DP.heavy (.callS rfl rfl hc30) rfl rfl rfl (by kernel_rfl) (by kernel_rfl) K5.le (pk_drop (by kernel_rfl) (pk_drop (by kernel_rfl) pk_nil)) ?_; refine DP.pure (.assign rfl) rfl rfl rfl ?_; refine DP.nil ?_; refine XP.seq ?_; refine XP.regionS ?_; refine RP.o1 (.assign rfl) rfl rfl ?_; refine RP.nil ?_
    refine XP.block ?_  -- block 2
    refine XP.while (fun d t m1 => ∃ j t0 b cp nn raw gv L2 r, t = toT t0 [(7, .int .i64 (.ofNat j)), (6, cv), (5, .int .i64 (.ofNat i)), (4, .slice b 0 nn cp), (3, .int .i64 (.ofNat s.n)), (1, .ptr m.next 0)] ∧ d = s.n - j ∧ j ≤ s.n ∧ Kp Nothing M1 m1 ∧ DoSt M1.next m1 b cp raw i gv L2 Gs r ∧ (s.g rs).row c ((symsN s.n).take j) Ks = some (r, L2) ∧ RowIs itC 2 m1 cv c ∧ (∀ q, Blk1 cv q → q ≠ b ∧ ¬ Blk1 gv q) ∧ L2.length ≤ 120 ∧ (∀ k ∈ L2, KernS rs k) ∧ L2[i]? = some k ∧ nn = raw.length) ?_ s.n _ _ ?_
    rotate_left
    · exact ⟨0, _, b, cp, _, raw, _, Ks, [], toT_less (.cons rfl (.cons rfl (.cons rfl (.cons rfl (.cons rfl (.cons rfl (.nil))))))), rfl, Nat.zero_le _, KA.trans K5, ds.up K5, rfl, Rc.row, hcv, hL, hkn, hk1, rfl⟩
    rintro d t M3 ⟨j, t0, b, cp, nn, raw, gv, L2, r, rfl, rfl, hjn, KC, ds, hrow, Rc, hcv, hL2, hkn2, hk1', rfl⟩
    have K := K1.trans KC
    have B1 := B1o.up KC
    have hrM := hr0.up KC
    have hKC := KC.le
    have hdl := ds.len
    have hrl : r.length = j := by have := (Lr.row_to hrow).1; rw [this]; simp [symsN]; omega
    refine XP.seq ?_; refine XP.seq ?_; refine XP.regionS ?_; refine RP.o1 (.move rfl) rfl rfl ?_; refine RP.o1 (.move rfl) rfl rfl ?_; refine RP.o1 (.bin rfl rfl (by first | exact lss_nat | exact lss_is)) rfl rfl ?_; refine RP.nil ?_
    refine XP.condD rfl (fun hc35 => ?_) (fun hc35 => ?_)  -- if t35
    · refine XP.skip ?_; refine XP.seq ?_
      refine XP.block ?_  -- block 3
      refine XP.seq ?_
      obtain ⟨kv, N1', hc39, K39, R39, f39⟩ := call39 hS39 (toks := .ofNat s.toks) (nts := .ofNat s.nts) (start := s.start) (expect := s.expect) (sym := .ofNat j) (vn := s.vn) (vl := s.vl) (va := s.va) hrM Rc (by have := items_few hB itc (srt_nodup icl.srt); omega) itc (fun q hq => by have := hB.short q hq; omega)
      have hkb : behindF rs (.ofNat j) c = (s.g rs).beh c (.ofNat j) := beh_same _ _
      have hsb : Lr.Srt (behindF rs (.ofNat j) c) := by rw [hkb]; exact (s.g rs).beh_srt _ icl.srt
      rw [putAll_self hsb] at R39
      have hkk : behindF rs (.ofNat j) c ≠ [] → KernS rs (behindF rs (.ofNat j) c) := fun hne => ⟨⟨beh_items itc, srt_nodup hsb, hne⟩, hsb⟩
      generalize hkbe : behindF rs (.ofNat j) c = kb at hkb hsb R39 hkk
      have hkg : ∀ q, Blk1 kv q → q ≠ b ∧ ¬ Blk1 gv q := fun q hq => by
        have h1 := f39 q hq
        exact ⟨by have := ds.row.lt; omega, fun h => by have := ds.grow.row.under h; omega⟩
      have ds := ds.up K39
      have Rc := Rc.up K39
      have KC := KC.trans K39
      have K := K1.trans KC
      have B1 := B1o.up KC
      have hKC := KC.le
      have hkern := hkn k (List.mem_of_getElem? hk1)
      refine XP.regionS ?_; refine RP.o1 (.loadE rfl (by first | assumption | (apply BoxIs.el; assumption)) lay31 (by rfl)) rfl rfl ?_
      refine RP.o1 (.move rfl) rfl rfl ?_; refine RP.o1 (.move rfl) rfl rfl ?_; refine RP.op (.callS rfl rfl hc39) rfl rfl K39.le ?_; refine RP.o1 (.assign rfl) rfl rfl ?_; refine RP.nil ?_; refine XP.seq ?_; refine XP.regionS ?_; refine RP.o1 (.assign rfl) rfl rfl ?_; refine RP.nil ?_; refine XP.seq ?_; refine XP.seq ?_; refine XP.regionS ?_; refine RP.o1 (.move rfl) rfl rfl ?_; refine RP.o1 (.len rfl (rowLen R39.row)) rfl rfl ?_; refine RP.o1 (.bin rfl rfl gtr_is) rfl rfl ?_; refine RP.nil ?_
      refine XP.condD rfl (fun hc44 => ?_) (fun hc44 => ?_)  -- if t44
      · refine XP.seq ?_
        have hk0 : kb ≠ [] := fun e => by rw [e] at hc44; exact absurd hc44 (by decide)
        have hir2 : i < raw.length := by have := (List.getElem?_eq_some_iff.1 hk1').1; omega
        refine XP.regionS ?_; refine RP.o1 (.move rfl) rfl rfl ?_; refine RP.o1 (.move rfl) rfl rfl ?_; refine RP.o1 (.callS rfl rfl (call40 hS40 ds.rowIs ds.len (fun j a x ha hx => (ds.ker j a x ha hx).1.row) R39.row (by omega) (fun x hx => by have := hkn2 x hx; have := items_few hB this.items this.nodup; omega))) rfl rfl ?_
        refine RP.o1 (.assign rfl) rfl rfl ?_; refine RP.nil ?_; refine XP.seq ?_; refine XP.seq ?_; refine XP.regionS ?_; refine RP.o1 (.move rfl) rfl rfl ?_; refine RP.o1 (.bin rfl rfl (by first | exact lss_nat | exact lss_is)) rfl rfl ?_; refine RP.nil ?_
        refine XP.condD rfl (fun hc49 => ?_) (fun hc49 => ?_)  -- if t49
        · refine XP.seq ?_; refine XP.regionS ?_; refine RP.o1 (.move rfl) rfl rfl ?_; refine RP.o1 (.len (u := .int .i64 (.ofNat L2.length)) rfl (by rw [← ds.len]; exact rowLen63 ds.rowIs)) rfl rfl ?_
          refine RP.o1 (.assign rfl) rfl rfl ?_; refine RP.nil ?_
          have es := state_more hk0 hc49
          have hcv0 := hcv
          have hlob := ds.lob
          obtain ⟨Mq, b, cp, raw, haq, hmq, hl3, Kq, hb3, ds⟩ := ds.app e63 s63 ap63 R39 hkg hir2 (by omega) (by omega)
          have hcv : ∀ q, Blk1 cv q → q ≠ b ∧ ¬ Blk1 gv q := fun q hq => ⟨by have := Rc.under hq; omega, (hcv0 q hq).2⟩
          have Rc := Rc.stays Kq fun q hq h => (hcv0 q hq).1 h
          have KC := KC.young Kq fun q h => by subst h; exact hlob
          have hKC := KC.le
          have hrl3 : raw.length = L2.length + 1 := by omega
          refine XP.regionS ?_; refine RP.o1 (.move rfl) rfl rfl ?_; refine RP.o1 (.move rfl) rfl rfl ?_; refine RP.o1 (.build rfl (build66 R39.row.plain)) rfl rfl ?_; refine RP.op (.buildSlice rfl e63 (by rw [s63]; rfl) (by rw [s63]; exact fill63)) rfl rfl (Nat.le_succ _) ?_
          rw [s63]
          refine RP.op (OpTo.of fun _ => op_append rfl rfl haq) rfl rfl hmq ?_; refine RP.o1 (.assign rfl) rfl rfl ?_; refine RP.nil ?_; refine XP.seq ?_; refine XP.regionS ?_; refine RP.o1 (.move rfl) rfl rfl ?_; refine RP.o1 (.len rfl (rowLen63 ds.rowIs)) rfl rfl ?_; refine RP.o1 (.bin rfl rfl gtr_is) rfl rfl ?_; refine RP.nil ?_
          refine XP.condD rfl (fun hc59 => ?_) (fun hc59 => ?_)  -- if t59
          · refine XP.seq ?_; refine XP.regionS ?_; refine RP.o1 (.assign rfl) rfl rfl ?_; refine RP.nil ?_
            have hs2 : Lr.state L2 ((s.g rs).beh c (.ofNat j)) = (Int.ofNat L2.length, L2 ++ [kb]) := by rw [← hkb]; exact es
            refine XP.ret ⟨.inr rfl, _, _, oneRes rfl, K1.trans KC, .inr ⟨rfl, i, Ks, I, Gs, k, c, hst, hk1, icl, ?_⟩⟩
            rw [symsN_cut (n := s.n) (j := j) (by omega)]
            exact row_stop hrow hs2 (by have h : (120 : Int) < Int.ofNat raw.length := hc59; rw [hrl3] at h; have e : (Int.ofNat (L2.length + 1) : Int) = L2.length + 1 := rfl; have e' : (Int.ofNat L2.length : Int) = L2.length := rfl; omega)
          · refine XP.skip ?_
            have es2 := es
            have hlim : (Int.ofNat L2.length : Int) < 120 := by have h : ¬ (120 : Int) < Int.ofNat raw.length := hc59; rw [hrl3] at h; have e : (Int.ofNat (L2.length + 1) : Int) = L2.length + 1 := rfl; have e' : (Int.ofNat L2.length : Int) = L2.length := rfl; omega
            rw [show L2 ++ [kb] = (Lr.state L2 kb).2 by rw [es2]] at ds
            obtain ⟨a, hai, hir, Ea, _, _⟩ := ds.elem (state_pre (k := kb) hk1')
            obtain ⟨u, Mu, hau, hmu, Gu, Ku, oldu, newu⟩ := append_one (x := Int.ofNat L2.length) encI (by decide) e28 s28 ap28 ds.grow (by omega) (by omega)
            have Ku : Kp (Blk1 gv) _ Mu := ⟨Nat.le_trans (Nat.le_succ _) hmu, fun c hc hd => oldu c hc fun o n q e => hd ⟨o, n, q, e⟩⟩
            obtain ⟨a', _, ds2, hob, hon, KW⟩ := ds.goes hai Ku Gu (fun c h => by obtain ⟨o, n, q, e⟩ := h; exact newu c o n q e)
            have hkc := Ku.le
            refine XP.regionS ?_; refine RP.o1 (.move rfl) rfl rfl ?_; refine RP.o1 (.move rfl) rfl rfl ?_; refine RP.o1 (.move rfl) rfl rfl ?_; refine RP.o1 (.move rfl) rfl rfl ?_; refine RP.o1 (.indexAddr rfl rfl ix63 (by assumption)) rfl rfl ?_; refine RP.o1 (.fieldAddr rfl fa66_1) rfl rfl ?_
            refine RP.o1 (.load1 rfl lay28 (by first | (apply BoxIs.get; assumption; rfl) | (apply ElAt.get; assumption; rfl) | (apply ElAt.get0; assumption; rfl) | assumption)) rfl rfl ?_
            refine RP.o1 (.move rfl) rfl rfl ?_; refine RP.op (.buildSlice rfl e28 (by rw [s28]; rfl) (by rw [s28]; exact fill28)) rfl rfl (Nat.le_succ _) ?_
            rw [s28]
            refine RP.op (OpTo.of fun _ => op_append rfl rfl hau) rfl rfl hmu ?_; refine RP.o1 (.indexAddr rfl rfl ix63 (by assumption)) rfl rfl ?_; refine RP.o1 (.fieldAddr rfl fa66_1) rfl rfl ?_; refine RP.op (.storeP rfl rfl lay28 Gu.row.plain hob hon) rfl rfl (by rw [AMem.write_next]; exact Nat.le_refl _) ?_
            have RcW := (Rc.stays Ku fun q hq h => (hcv q hq).2 h).stays KW fun q hq h => (hcv q hq).1 h
            have hcvW := fun q (hq : Blk1 cv q) => And.intro (hcv q hq).1 (show ¬ Blk1 u q from fun h => by obtain ⟨o, n, z, e⟩ := h; have := newu q o n z e; have := Rc.under hq; omega)
            refine RP.nil ?_; refine XP.regionS ?_; refine RP.o1 (.move rfl) rfl rfl ?_
            refine RP.o1 (.bin rfl rfl (by first | exact inc_is (by omega) | exact add_is (by omega) (by omega))) rfl rfl ?_
            refine RP.o1 (.assign rfl) rfl rfl ?_; refine RP.nil ?_
            have hs2 : Lr.state L2 ((s.g rs).beh c (.ofNat j)) = ((Lr.state L2 kb).1, (Lr.state L2 kb).2) := by rw [hkb]
            have hi120 : (Lr.state L2 kb).1 < 120 := by rw [es2]; exact hlim
            have KD : Kp Nothing M1 _ := KC.young ((Ku.mono fun q _ h => ((.inl h) : Blk1 gv q ∨ q = b)).trans (KW.mono fun q _ h => (.inr h))) fun q h => by
              rcases h with h | rfl
              · exact ds.grow.low h
              · exact ds.lob
            refine ⟨s.n - (j + 1), by omega, j + 1, _, _, _, _, raw.set i a', u, (Lr.state L2 kb).2, r ++ [(Lr.state L2 kb).1], toT_less (.cons rfl (.cons rfl (.cons rfl (.cons rfl (.cons rfl (.cons rfl (.nil))))))), rfl, by omega, KD, (by have h := ds2; rw [show (Lr.state L2 kb).1 = (Lr.state L2 kb).1 from rfl]; rw [es2] at h ⊢; exact h), ?_, RcW, hcvW, state_len hL2 hi120, state_kernS hkn2 hkk, state_pre hk1', by simp⟩
            rw [symsN_take (by omega)]
            exact row_snoc hrow hs2 hi120
        · refine XP.skip ?_; refine XP.seq ?_; refine XP.regionS ?_; refine RP.o1 (.move rfl) rfl rfl ?_; refine RP.o1 (.len rfl (rowLen63 ds.rowIs)) rfl rfl ?_; refine RP.o1 (.bin rfl rfl gtr_is) rfl rfl ?_; refine RP.nil ?_
          refine XP.condD rfl (fun hc59 => ?_) (fun hc59 => ?_)  -- if t59
          · refine XP.seq ?_; refine XP.regionS ?_; refine RP.o1 (.assign rfl) rfl rfl ?_; refine RP.nil ?_
            exact absurd hc59 (by have e : (Int.ofNat raw.length : Int) = raw.length := rfl; omega)
          · refine XP.skip ?_
            have es2 := state_found hk0 hc49
            have hlim : firstAt L2 kb < 120 := by
              rcases Lr.state_ways L2 kb with ⟨h, _⟩ | ⟨_, q, hq, _, e⟩ | ⟨_, _, e⟩
              · exact absurd h hk0
              · rw [es2] at e; injection e with e _; rw [e]; omega
              · rw [es2] at e; injection e with _ e; have := congrArg List.length e; simp at this
            have eL : L2 = (Lr.state L2 kb).2 := by rw [es2]
            have ds := ds
            rw [eL] at ds
            obtain ⟨a, hai, hir, Ea, _, _⟩ := ds.elem (state_pre (k := kb) hk1')
            obtain ⟨u, Mu, hau, hmu, Gu, Ku, oldu, newu⟩ := append_one (x := firstAt L2 kb) encI (by decide) e28 s28 ap28 ds.grow (by omega) (by omega)
            have Ku : Kp (Blk1 gv) _ Mu := ⟨Nat.le_trans (Nat.le_succ _) hmu, fun c hc hd => oldu c hc fun o n q e => hd ⟨o, n, q, e⟩⟩
            obtain ⟨a', _, ds2, hob, hon, KW⟩ := ds.goes hai Ku Gu (fun c h => by obtain ⟨o, n, q, e⟩ := h; exact newu c o n q e)
            have hkc := Ku.le
            refine XP.regionS ?_; refine RP.o1 (.move rfl) rfl rfl ?_; refine RP.o1 (.move rfl) rfl rfl ?_; refine RP.o1 (.move rfl) rfl rfl ?_; refine RP.o1 (.move rfl) rfl rfl ?_; refine RP.o1 (.indexAddr rfl rfl ix63 (by assumption)) rfl rfl ?_; refine RP.o1 (.fieldAddr rfl fa66_1) rfl rfl ?_
            refine RP.o1 (.load1 rfl lay28 (by first | (apply BoxIs.get; assumption; rfl) | (apply ElAt.get; assumption; rfl) | (apply ElAt.get0; assumption; rfl) | assumption)) rfl rfl ?_
            refine RP.o1 (.move rfl) rfl rfl ?_; refine RP.op (.buildSlice rfl e28 (by rw [s28]; rfl) (by rw [s28]; exact fill28)) rfl rfl (Nat.le_succ _) ?_
            rw [s28]
            refine RP.op (OpTo.of fun _ => op_append rfl rfl hau) rfl rfl hmu ?_; refine RP.o1 (.indexAddr rfl rfl ix63 (by assumption)) rfl rfl ?_; refine RP.o1 (.fieldAddr rfl fa66_1) rfl rfl ?_; refine RP.op (.storeP rfl rfl lay28 Gu.row.plain hob hon) rfl rfl (by rw [AMem.write_next]; exact Nat.le_refl _) ?_
            have RcW := (Rc.stays Ku fun q hq h => (hcv q hq).2 h).stays KW fun q hq h => (hcv q hq).1 h
            have hcvW := fun q (hq : Blk1 cv q) => And.intro (hcv q hq).1 (show ¬ Blk1 u q from fun h => by obtain ⟨o, n, z, e⟩ := h; have := newu q o n z e; have := Rc.under hq; omega)
            refine RP.nil ?_; refine XP.regionS ?_; refine RP.o1 (.move rfl) rfl rfl ?_
            refine RP.o1 (.bin rfl rfl (by first | exact inc_is (by omega) | exact add_is (by omega) (by omega))) rfl rfl ?_
            refine RP.o1 (.assign rfl) rfl rfl ?_; refine RP.nil ?_
            have hs2 : Lr.state L2 ((s.g rs).beh c (.ofNat j)) = ((Lr.state L2 kb).1, (Lr.state L2 kb).2) := by rw [hkb]
            have hi120 : (Lr.state L2 kb).1 < 120 := by rw [es2]; exact hlim
            have KD : Kp Nothing M1 _ := KC.young ((Ku.mono fun q _ h => ((.inl h) : Blk1 gv q ∨ q = b)).trans (KW.mono fun q _ h => (.inr h))) fun q h => by
              rcases h with h | rfl
              · exact ds.grow.low h
              · exact ds.lob
            refine ⟨s.n - (j + 1), by omega, j + 1, _, _, _, _, raw.set i a', u, (Lr.state L2 kb).2, r ++ [(Lr.state L2 kb).1], toT_less (.cons rfl (.cons rfl (.cons rfl (.cons rfl (.cons rfl (.cons rfl (.nil))))))), rfl, by omega, KD, (by have h := ds2; rw [show (Lr.state L2 kb).1 = (Lr.state L2 kb).1 from rfl]; rw [es2] at h ⊢; exact h), ?_, RcW, hcvW, state_len hL2 hi120, state_kernS hkn2 hkk, state_pre hk1', by simp⟩
            rw [symsN_take (by omega)]
            exact row_snoc hrow hs2 hi120
      · refine XP.skip ?_
        have hk0 : kb = [] := List.eq_nil_of_length_eq_zero (by have h : ¬ (0 : Int) < Int.ofNat kb.length := hc44; have e : (Int.ofNat kb.length : Int) = kb.length := rfl; omega)
        have es2 : Lr.state L2 kb = (-1, L2) := by rw [Lr.state, if_pos hk0]
        have hlim : (-1 : Int) < 120 := by decide
        have hir2 : i < raw.length := by have := (List.getElem?_eq_some_iff.1 hk1').1; omega
        have eL : L2 = (Lr.state L2 kb).2 := by rw [es2]
        have ds := ds
        rw [eL] at ds
        obtain ⟨a, hai, hir, Ea, _, _⟩ := ds.elem (state_pre (k := kb) hk1')
        obtain ⟨u, Mu, hau, hmu, Gu, Ku, oldu, newu⟩ := append_one (x := (-1)) encI (by decide) e28 s28 ap28 ds.grow (by omega) (by omega)
        have Ku : Kp (Blk1 gv) _ Mu := ⟨Nat.le_trans (Nat.le_succ _) hmu, fun c hc hd => oldu c hc fun o n q e => hd ⟨o, n, q, e⟩⟩
        obtain ⟨a', _, ds2, hob, hon, KW⟩ := ds.goes hai Ku Gu (fun c h => by obtain ⟨o, n, q, e⟩ := h; exact newu c o n q e)
        have hkc := Ku.le
        refine XP.regionS ?_; refine RP.o1 (.move rfl) rfl rfl ?_; refine RP.o1 (.move rfl) rfl rfl ?_; refine RP.o1 (.move rfl) rfl rfl ?_; refine RP.o1 (.move rfl) rfl rfl ?_; refine RP.o1 (.indexAddr rfl rfl ix63 (by assumption)) rfl rfl ?_; refine RP.o1 (.fieldAddr rfl fa66_1) rfl rfl ?_
        refine RP.o1 (.load1 rfl lay28 (by first | (apply BoxIs.get; assumption; rfl) | (apply ElAt.get; assumption; rfl) | (apply ElAt.get0; assumption; rfl) | assumption)) rfl rfl ?_
        refine RP.o1 (.move rfl) rfl rfl ?_; refine RP.op (.buildSlice rfl e28 (by rw [s28]; rfl) (by rw [s28]; exact fill28)) rfl rfl (Nat.le_succ _) ?_
        rw [s28]
        refine RP.op (OpTo.of fun _ => op_append rfl rfl hau) rfl rfl hmu ?_; refine RP.o1 (.indexAddr rfl rfl ix63 (by assumption)) rfl rfl ?_; refine RP.o1 (.fieldAddr rfl fa66_1) rfl rfl ?_; refine RP.op (.storeP rfl rfl lay28 Gu.row.plain hob hon) rfl rfl (by rw [AMem.write_next]; exact Nat.le_refl _) ?_
        have RcW := (Rc.stays Ku fun q hq h => (hcv q hq).2 h).stays KW fun q hq h => (hcv q hq).1 h
        have hcvW := fun q (hq : Blk1 cv q) => And.intro (hcv q hq).1 (show ¬ Blk1 u q from fun h => by obtain ⟨o, n, z, e⟩ := h; have := newu q o n z e; have := Rc.under hq; omega)
        refine RP.nil ?_; refine XP.regionS ?_; refine RP.o1 (.move rfl) rfl rfl ?_
        refine RP.o1 (.bin rfl rfl (by first | exact inc_is (by omega) | exact add_is (by omega) (by omega))) rfl rfl ?_
        refine RP.o1 (.assign rfl) rfl rfl ?_; refine RP.nil ?_
        have hs2 : Lr.state L2 ((s.g rs).beh c (.ofNat j)) = ((Lr.state L2 kb).1, (Lr.state L2 kb).2) := by rw [hkb]
        have hi120 : (Lr.state L2 kb).1 < 120 := by rw [es2]; exact hlim
        have KD : Kp Nothing M1 _ := KC.young ((Ku.mono fun q _ h => ((.inl h) : Blk1 gv q ∨ q = b)).trans (KW.mono fun q _ h => (.inr h))) fun q h => by
          rcases h with h | rfl
          · exact ds.grow.low h
          · exact ds.lob
        refine ⟨s.n - (j + 1), by omega, j + 1, _, _, _, _, raw.set i a', u, (Lr.state L2 kb).2, r ++ [(Lr.state L2 kb).1], toT_less (.cons rfl (.cons rfl (.cons rfl (.cons rfl (.cons rfl (.cons rfl (.nil))))))), rfl, by omega, KD, (by have h := ds2; rw [show (Lr.state L2 kb).1 = (Lr.state L2 kb).1 from rfl]; rw [es2] at h ⊢; exact h), ?_, RcW, hcvW, state_len hL2 hi120, state_kernS hkn2 hkk, state_pre hk1', by simp⟩
        rw [symsN_take (by omega)]
        exact row_snoc hrow hs2 hi120
    · refine XP.exit ?_  -- 2
      refine XP.regionS ?_; refine RP.o1 (.move rfl) rfl rfl ?_
      refine RP.o1 (.bin rfl rfl (by first | exact inc_is (by omega) | exact add_is (by omega) (by omega))) rfl rfl ?_
      refine RP.o1 (.assign rfl) rfl rfl ?_; refine RP.nil ?_
      obtain rfl : j = s.n := by omega
      rw [show (symsN s.n).take s.n = symsN s.n from List.take_of_length_le (by simp [symsN])] at hrow
      have hpre := (Lr.row_scan hrow).2.2.length_le
      exact ⟨121 - (i + 1), by omega, i + 1, _, b, cp, raw, L2, Gs ++ [r], toT_less (.cons rfl (.cons rfl (.cons rfl (.cons rfl (.nil))))), rfl, KC, ds.next (by have := (List.getElem?_eq_some_iff.1 hk1').1; omega), ⟨I ++ [c], hst.succ hk1 icl hrow⟩, hL2, hkn2, by omega⟩
  · refine XP.exit ?_  -- 0
    refine XP.seq ?_; refine XP.regionS ?_; refine RP.o1 (.move rfl) rfl rfl ?_; refine RP.o1 (.assign rfl) rfl rfl ?_; refine RP.nil ?_
    obtain rfl : i = raw.length := by omega
    refine XP.ret ⟨.inr rfl, _, _, oneRes rfl, K, .inl ⟨Ks, I, Gs, (by intro e; cases e), ds.done rfl, ⟨by rw [← ds.len]; exact hst⟩, hL, hkn⟩⟩
end Go.Ev
end
section
namespace Go.Ev
set_option linter.all false
open Go.Proofs
set_option maxRecDepth 10000
set_option maxHeartbeats 4000000
theorem Steps_at {g : Lr.Gr} {syms : List Int} {i : Nat} {L I : List (List (Int × Int))} {R : List (List Int)} (h : g.Steps syms i L I R) : (∀ (j : Nat) c, I[j]? = some c → ∃ k, L[j]? = some k ∧ g.IsClos k c) ∧ ∀ r ∈ R, r.length = syms.length := by
  induction h with
  | zero => exact ⟨fun j c hc => by simp at hc, fun r hr => by simp at hr⟩
  | @succ i L I R c r L' k hs hk hc hr ih =>
    obtain ⟨_, _, pre⟩ := Lr.row_scan hr
    obtain ⟨t, rfl⟩ := pre
    refine ⟨fun j d hd => ?_, fun q hq => ?_⟩
    · by_cases hj : j < I.length
      · rw [List.getElem?_append_left hj] at hd
        obtain ⟨k', h1, h2⟩ := ih.1 j d hd
        exact ⟨k', (List.getElem?_append_left (List.getElem?_eq_some_iff.1 h1).1).trans h1, h2⟩
      · have hj2 : j = I.length := by have := (List.getElem?_eq_some_iff.1 hd).1; simp at this; omega
        rw [hj2, List.getElem?_append_right (Nat.le_refl _), Nat.sub_self] at hd
        cases hd
        rw [hj2, hs.lens.1]
        exact ⟨k, (List.getElem?_append_left (List.getElem?_eq_some_iff.1 hk).1).trans hk, hc⟩
    · rcases List.mem_append.1 hq with hq | hq
      · exact ih.2 q hq
      · rw [List.mem_singleton] at hq; subst hq; exact (Lr.row_to hr).1
theorem ofNat_nn (i : Nat) : (0 : Int) ≤ Int.ofNat i := Int.natCast_nonneg i
theorem nil63f {m : AMem} {M : AMem} {v : AV} {raw : List SP} {l : Bool} (h : RowIs stC 2 m v raw) (hne : v ≠ .nils) : aBin2 Tryz.prog .eql 63 l v .nils M = .mk (.bool false) M := by
  rcases h with ⟨rfl, _⟩ | ⟨rfl, _⟩ | ⟨b, o, c, rfl, _⟩
  · exact absurd rfl hne
  · exact nil63e
  · exact nil63
theorem neq_self {P : Program} {ty : TypeId} {l : Bool} {a : Int} {m : AMem} : aBin2 P .neq ty l (.int .i64 a) (.int .i64 a) m = .mk (.bool false) m := by rw [neq_is, decide_eq_true rfl]; rfl
theorem eql_self {P : Program} {ty : TypeId} {l : Bool} {a : Int} {m : AMem} : aBin2 P .eql ty l (.int .i64 a) (.int .i64 a) m = .mk (.bool true) m := by rw [eql_is, decide_eq_true rfl]
theorem cuts_skip {P : Program} {call : Call} {t : T AV} {op : Op} {v : AV} {a k : Nat} {m : AMem} {l : List (Nat × AMem)} (h : bitA a k = true) (g : atCuts P call op t v a l = true) : atCuts P call op t v a ((k, m) :: l) = true := by
  show bif2 (bitA a k) true (bif2 (readsA P call op t m v) (atCuts P call op t v a l) false) = true
  rw [h, bif2_eq, if_pos rfl]
/-- A grammar's parts are as they are. -/
noncomputable def SpG (s : SpV) : Prop := ∀ n : Nat, eqV (n + 1) s.vn s.vn = true ∧ eqV (n + 1) s.vl s.vl = true ∧ eqV (n + 1) s.va s.va = true ∧ eqV (n + 1) s.vr s.vr = true
theorem eqV_spec {s : SpV} (h : SpG s) : eqV 40 s.v s.v = true := by
  show bif2 (eqV 38 _ _) (bif2 (eqV 37 _ _) (bif2 (eqV 36 _ _) (bif2 (eqV 35 _ _) (bif2 (eqV 34 s.vn s.vn) (bif2 (eqV 33 s.vl s.vl) (bif2 (eqV 32 s.va s.va) (bif2 (eqV 31 s.vr s.vr) true false) false) false) false) false) false) false) false = true
  rw [eqV_int, eqV_int, eqV_int, eqV_int, (h 33).1, (h 32).2.1, (h 31).2.2.1, (h 30).2.2.2]
  rfl
theorem DoFin.up {m m' : AMem} {v : AV} {Ks : List (List (Int × Int))} {Gs : List (List Int)} (h : DoFin m v Ks Gs) (k : Kp Nothing m m') : DoFin m' v Ks Gs := by
  obtain ⟨raw, h1, h2, h3, h4, h5⟩ := h.ex
  exact ⟨raw, h1.up k, h2, h3, fun j a x ha hx => (h4 j a x ha hx).up k, fun j a x ha hx => (h5 j a x ha hx).up k⟩
theorem DoFin.elem {m : AMem} {v : AV} {Ks : List (List (Int × Int))} {Gs : List (List Int)} (h : DoFin m v Ks Gs) {i : Nat} {k : List (Int × Int)} {g : List Int} (hk : Ks[i]? = some k) (hg : Gs[i]? = some g) :
    ∃ (b off : Nat) (cap : Option Nat) (a : SP), v = .slice b off Ks.length cap ∧ i < Ks.length ∧ ElAt m b (off + i * 2) [a.1.1, a.2.1] ∧ RowG itC 2 m a.1.1 k ∧ RowIs intC 1 m a.2.1 g := by
  obtain ⟨raw, h1, h2, h3, h4, h5⟩ := h.ex
  obtain ⟨hi, _⟩ := List.getElem?_eq_some_iff.1 hk
  obtain ⟨a, ha⟩ : ∃ a, raw[i]? = some a := ⟨raw[i]'(by omega), List.getElem?_eq_getElem _⟩
  obtain ⟨b, off, cap, e, _, E⟩ := h1.elem encS (.refl _) ha
  exact ⟨b, off, cap, a, by rw [e, h2], hi, E, h4 i a k ha hk, h5 i a g ha hg⟩
theorem DoFin.len {m : AMem} {v : AV} {Ks : List (List (Int × Int))} {Gs : List (List Int)} (h : DoFin m v Ks Gs) {M : AMem} : aLen Tryz.prog 63 v M = .mk (.int .i64 (.ofNat Ks.length)) M := by
  obtain ⟨raw, h1, h2, _⟩ := h.ex
  rw [← h2]; exact rowLen63 h1
abbrev rgF : List Nat := [11, 12, 13, 14, 15, 16, 17, 29, 30, 31, 32, 33, 34, 35, 39, 40, 41, 42, 43, 44, 45, 46, 47, 48, 58, 59, 60, 61, 62, 63, 73, 74]
theorem right_a {S : Sums} (hS : Plain S rgF) (h64 : S 64 = some insW) {m : AMem} {s : SpV} {rs : List Rl} (hr : RulesIs m s.vr rs) (hW : WfR (.ofNat s.toks) rs) (hT : s.toks ≤ 12) (hN : s.nts ≤ 10) (hG : SpG s) {L0 I0 : List (List (Int × Int))} {R0 : List (List Int)} (hA : (s.g rs).IsAuto (symsN s.n) L0 I0 R0) :
    ∃ r m', CallTo Tryz.prog S 11 [s.v] m r m' ∧ r = .bool true ∧ Kp Nothing m m' := by
  have hsn : s.n ≤ 23 := by show s.toks + 1 + s.nts ≤ 23; omega
  have hS16 : Plain S buF := fun f hf => hS f (by simp at hf ⊢; omega)
  have hS29 : Plain S doF := fun f hf => hS f (by simp at hf ⊢; omega)
  have hS12 : Plain S [12] := fun f hf => hS f (by simp at hf ⊢; omega)
  have hS13 : Plain S [12, 13, 31, 32] := fun f hf => hS f (by simp at hf ⊢; omega)
  have hS14 : Plain S [12, 14, 31, 32] := fun f hf => hS f (by simp at hf ⊢; omega)
  have hS15 : Plain S [12, 15, 31] := fun f hf => hS f (by simp at hf ⊢; omega)
  have hS17 : Plain S [17] := fun f hf => hS f (by simp at hf ⊢; omega)
  have hS30 : Plain S [30, 41, 58] := fun f hf => hS f (by simp at hf ⊢; omega)
  have hB := hW.small
  obtain ⟨r0, hr0e, hr0l⟩ := hW.first
  refine XP.call (hS 11 (by decide)) cd11 nt11 ?_
  show XP _ _ _ _ (toT .leaf [(0, s.v)]) m _
  unfold Tryz.f11
  dsimp only [Option.getD_some]
  have K : Kp Nothing m m := .refl m
  refine XP.seq ?_; refine XP.regionS ?_
  have hk1 := K.le
  refine RP.box rfl rfl rfl rfl fun M1 K1 B1 N1 => ?_
  have K := K.trans K1
  have B1o := B1
  have hr0 := hr.up K1
  obtain ⟨v16, M2, hc16, K2, h16⟩ := call16 hS16 h64 hr0 hB ⟨r0, hr0e⟩ hT hN
  rcases h16 with ⟨ba, lv, gv, iv, L, I, R, rfl, au, hau, hL, hkn⟩ | ⟨_, hmany⟩
  rotate_left
  · exact absurd hmany hA.few
  obtain ⟨v29, M3, hc29, K3, h29⟩ := call29 hS29 (hr0.up K2) hW hT hN
  rcases h29 with ⟨L', I', R', hne, df, hdo, _, hks⟩ | ⟨_, hmany⟩
  rotate_left
  · exact absurd hmany hA.few
  obtain ⟨rfl, rfl, rfl⟩ := hau.one hdo
  have au := au.up K3
  have hIl : I.length = L.length := hau.steps.lens.1
  have hRl : R.length = L.length := hau.steps.lens.2
  have hat := Steps_at hau.steps
  have hrn : ∀ r ∈ R, r.length = s.n := fun r hr => by rw [hat.2 r hr]; simp [symsN]
  have hLs : ∀ k ∈ L, k.length ≤ 1048576 := fun k hk => by have := hkn k hk; have := items_few hB this.items this.nodup; omega
  have hIs0 : ∀ c ∈ I, c.length ≤ 217 := fun c hc => by
    obtain ⟨j, hj⟩ := List.getElem?_of_mem hc
    obtain ⟨k, hk, hcl⟩ := hat.1 j c hj
    have hkk := hkn k (List.mem_of_getElem? hk)
    have hit : ItemsOf rs c := fun x hx => by
      have := hcl.sound x hx
      induction this with
      | base h => exact hkk.items _ h
      | @step x y _ hkid _ =>
        obtain ⟨_, _, y0, h0, r, hr, _⟩ := hkid
        have : (s.g rs).rules = rs.map fun r => (r.left, r.right) := rfl
        rw [this, List.getElem?_map] at hr
        cases e : rs[y.1.toNat]? with
        | none => rw [e] at hr; cases hr
        | some q => exact ⟨y.1.toNat, 0, q, Prod.ext (Int.toNat_of_nonneg h0).symm y0, e, Nat.zero_le _⟩
    exact items_few hB hit (srt_nodup hcl.srt)
  have hIs : ∀ c ∈ I, c.length ≤ 1048576 := fun c hc => Nat.le_trans (hIs0 c hc) (by decide)
  refine RP.o1 (.assign rfl) rfl rfl ?_; refine RP.nil ?_; refine XP.seq ?_; refine XP.regionS ?_; refine RP.o1 (.loadE rfl (by first | assumption | (apply BoxIs.el; assumption)) lay31 (by rfl)) rfl rfl ?_
  refine RP.op (.callS rfl rfl hc16) rfl rfl K2.le ?_
  have K := K.trans K2
  have B1 := B1.up K2
  refine RP.o1 (.move rfl) rfl rfl ?_; refine RP.o1 (.extract rfl rfl) rfl rfl ?_; refine RP.o1 (.extract rfl rfl) rfl rfl ?_; refine RP.o1 (.assign rfl) rfl rfl ?_; refine RP.o1 (.assign rfl) rfl rfl ?_; refine RP.nil ?_; refine XP.seq ?_; refine XP.regionS ?_; refine RP.o1 (.loadE rfl (by first | assumption | (apply BoxIs.el; assumption)) lay31 (by rfl)) rfl rfl ?_
  refine RP.op (.callS rfl rfl hc29) rfl rfl K3.le ?_
  have K := K.trans K3
  have B1 := B1.up K3
  have B3o := B1
  have K0 := K
  refine RP.o1 (.assign rfl) rfl rfl ?_; refine RP.nil ?_; refine XP.seq ?_; refine XP.seq ?_; refine XP.regionS ?_; refine RP.o1 (.move rfl) rfl rfl ?_; refine RP.o1 (.bin (v := .bool false) rfl rfl (nil63f (Classical.choose_spec df.ex).1 hne)) rfl rfl ?_; refine RP.nil ?_
  refine XP.condS false rfl ?_  -- if t16
  refine XP.skip ?_; refine XP.seq ?_; refine XP.seq ?_; refine XP.regionS ?_; refine RP.o1 (.move rfl) rfl rfl ?_; refine RP.o1 (.bin (v := .bool false) rfl rfl neq_self) rfl rfl ?_; refine RP.o1 (.move rfl) rfl rfl ?_; refine RP.o1 (.move rfl) rfl ⟨_,_,_,rfl,rfl,rfl,rfl⟩ ?_; refine RP.o1 (.bin (v := .bool false) rfl rfl nil44) rfl ⟨_,_,_,rfl,rfl,rfl,rfl⟩ ?_; refine RP.o1 (.pick (b := false) rfl rfl) rfl rfl ?_; refine RP.o1 (.move rfl) rfl rfl ?_; refine RP.o1 (.move rfl) rfl ⟨_,_,_,rfl,rfl,rfl,rfl⟩ ?_; refine RP.o1 (.callS rfl rfl (call12 hS12 au)) rfl ⟨_,_,_,rfl,rfl,rfl,rfl⟩ ?_; refine RP.o1 (.move rfl) rfl ⟨_,_,_,rfl,rfl,rfl,rfl⟩ ?_; refine RP.o1 (.len rfl df.len) rfl ⟨_,_,_,rfl,rfl,rfl,rfl⟩ ?_; refine RP.o1 (.bin (v := .bool false) rfl rfl neq_self) rfl ⟨_,_,_,rfl,rfl,rfl,rfl⟩ ?_; refine RP.o1 (.pick (b := false) rfl rfl) rfl rfl ?_; refine RP.nil ?_
  refine XP.condS false rfl ?_  -- if t35
  refine XP.skip ?_; refine XP.seq ?_; refine XP.seq ?_; refine XP.regionS ?_; refine RP.o1 (.assign rfl) rfl rfl ?_; refine RP.nil ?_
  refine XP.block ?_  -- block 0
  refine XP.while (fun d t m1 => ∃ i t0, t = toT t0 [(6, .int .i64 (.ofNat i)), (5, v29), (3, .ptr ba 0), (1, .ptr m.next 0)] ∧ d = L.length - i ∧ i ≤ L.length ∧ Kp Nothing M3 m1) ?_ L.length _ _ ?_
  rotate_left
  · exact ⟨0, _, toT_less (.cons rfl (.cons rfl (.cons rfl (.cons rfl (.nil))))), rfl, Nat.zero_le _, .refl _⟩
  rintro d t M2 ⟨i, t0, rfl, rfl, hin, KA⟩
  have K := K0.trans KA
  have B1 := B3o.up KA
  have auM := au.up KA
  have dfM := df.up KA
  refine XP.seq ?_; refine XP.seq ?_; refine XP.regionS ?_; refine RP.o1 (.move rfl) rfl rfl ?_; refine RP.o1 (.move rfl) rfl rfl ?_; refine RP.o1 (.len rfl dfM.len) rfl rfl ?_; refine RP.o1 (.bin rfl rfl (by first | exact lss_nat | exact lss_is)) rfl rfl ?_; refine RP.nil ?_
  refine XP.condD rfl (fun hc39 => ?_) (fun hc39 => ?_)  -- if t39
  · refine XP.skip ?_; refine XP.seq ?_
    refine XP.block ?_  -- block 1
    refine XP.seq ?_; refine XP.seq ?_
    obtain ⟨k, hk⟩ : ∃ k, L[i]? = some k := ⟨L[i]'hc39, List.getElem?_eq_getElem _⟩
    obtain ⟨r, hrr⟩ : ∃ r, R[i]? = some r := ⟨R[i]'(by omega), List.getElem?_eq_getElem _⟩
    obtain ⟨c, hci⟩ : ∃ c, I[i]? = some c := ⟨I[i]'(by omega), List.getElem?_eq_getElem _⟩
    obtain ⟨k', hk', hcl⟩ := hat.1 i c hci
    rw [hk] at hk'
    obtain rfl := Option.some.inj hk'
    have hkk := hks k (List.mem_of_getElem? hk)
    obtain ⟨b, off, cap, a, e5, hil, E5, Rka, Rga⟩ := dfM.elem hk hrr
    subst e5
    obtain ⟨u1, N1q, hc13, J1, R1⟩ := call13 hS13 auM hIl hLs (.ofNat i)
    rw [if_pos (ofNat_nn i), show (Int.ofNat i).toNat = i from rfl, hk] at R1
    have R1 : RowIs itC 2 N1q u1 k := R1
    have E5b := E5.up J1
    have Rk1 := Rka.up J1
    have hc17 := call17 hS17 R1 Rk1.row (by have := hLs k (List.mem_of_getElem? hk); have := items_few hB hkk.items hkk.nodup; omega)
    rw [decide_eq_true rfl] at hc17
    obtain ⟨u2, N2q, hc14, J2, R2⟩ := call14 hS14 (auM.up J1) hIl hIs (.ofNat i)
    rw [if_pos (ofNat_nn i), show (Int.ofNat i).toNat = i from rfl, hci] at R2
    have R2 : RowIs itC 2 N2q u2 c := R2
    have B1a := B1.up J1
    have B1b := B1a.up J2
    have E5c := E5b.up J2
    have Rk2 := Rk1.up J2
    obtain ⟨u3, N3q, hc30, c2, J3, R3, icl2, _, _⟩ := call30 hS30 (toks := .ofNat s.toks) (nts := .ofNat s.nts) (start := s.start) (expect := s.expect) (vn := s.vn) (vl := s.vl) (va := s.va) ((((hr0.up K2).up K3).up KA).up (J1.trans J2)) Rk2 hkk.items hkk.srt hW
    obtain rfl := hcl.one icl2
    have R2b := R2.up J3
    have hc17b := call17 hS17 R2b R3.row (by have := hIs0 c (List.mem_of_getElem? hci); omega)
    rw [decide_eq_true rfl] at hc17b
    refine XP.drawnS (ms := [0, 0, 3, 0, 0, 24, 56, 120, 255, 511, 1023, 2047, 2047, 8191, 2047, 2047, 2047, 100351, 231423, 493567, 1048575, 2097151, 4194303, 8388607]) (by kernel_rfl) ?_; refine DP.pure (.move rfl) rfl rfl rfl ?_; refine DP.pure (.move rfl) rfl rfl rfl ?_; refine DP.heavy (.callS rfl rfl hc13) rfl rfl rfl (by kernel_rfl) (by kernel_rfl) J1.le pk_nil ?_; refine DP.pure (.move rfl) rfl rfl rfl ?_; refine DP.pure (.move rfl) rfl rfl rfl ?_; refine DP.pure (.indexAddr rfl rfl ix63 (by assumption)) rfl rfl rfl ?_; refine DP.pure (.fieldAddr rfl fa66_0) rfl rfl rfl ?_; refine DP.read (fun _ => op_load1 (ev_is rfl) lay46 (E5b.get (j := 0) rfl)) rfl rfl rfl (fun _ => op_load_leaf) (.inl (by kernel_rfl)) (fun _ => cuts_cons (reads_of (op_load1 (ev_is rfl) lay46 (E5.get (j := 0) rfl)) (eqV_row Rka.row)) cuts_nil) ?_; refine DP.heavy (.callS rfl rfl hc17) rfl rfl rfl (by kernel_rfl) (by kernel_rfl) (Nat.le_refl _) (pk_drop (by kernel_rfl) pk_nil) ?_; refine DP.pure (.not_ rfl) rfl rfl rfl ?_; refine DP.pure (.move rfl) rfl rfl rfl ?_; refine DP.pure (.move rfl) rfl rfl ⟨_,_,_,rfl,rfl,rfl,rfl⟩ ?_; refine DP.pure (.move rfl) rfl rfl ⟨_,_,_,rfl,rfl,rfl,rfl⟩ ?_; refine DP.heavy (.callS rfl rfl hc14) rfl rfl ⟨_,_,_,rfl,rfl,rfl,rfl⟩ (by kernel_rfl) (by kernel_rfl) J2.le pk_nil ?_; refine DP.read (fun _ => op_loadE rfl B1b.el lay31 (by rfl)) rfl rfl ⟨_,_,_,rfl,rfl,rfl,rfl⟩ (fun _ => op_load_leaf) (.inl (by kernel_rfl)) (fun _ => cuts_cons (reads_of (op_loadE rfl B1a.el lay31 (by rfl)) (eqV_spec hG)) (cuts_skip (by kernel_rfl) (cuts_skip (by kernel_rfl) cuts_nil))) ?_; refine DP.pure (.move rfl) rfl rfl ⟨_,_,_,rfl,rfl,rfl,rfl⟩ ?_; refine DP.pure (.move rfl) rfl rfl ⟨_,_,_,rfl,rfl,rfl,rfl⟩ ?_; refine DP.pure (.indexAddr rfl rfl ix63 (by assumption)) rfl rfl ⟨_,_,_,rfl,rfl,rfl,rfl⟩ ?_; refine DP.pure (.fieldAddr rfl fa66_0) rfl rfl ⟨_,_,_,rfl,rfl,rfl,rfl⟩ ?_; refine DP.read (fun _ => op_load1 (ev_is rfl) lay46 (E5c.get (j := 0) rfl)) rfl rfl ⟨_,_,_,rfl,rfl,rfl,rfl⟩ (fun _ => op_load_leaf) (.inl (by kernel_rfl)) (fun _ => cuts_cons (reads_of (op_load1 (ev_is rfl) lay46 (E5b.get (j := 0) rfl)) (eqV_row Rka.row)) (cuts_skip (by kernel_rfl) (cuts_skip (by kernel_rfl) cuts_nil))) ?_; refine DP.heavy (.callS rfl rfl hc30) rfl rfl ⟨_,_,_,rfl,rfl,rfl,rfl⟩ (by kernel_rfl) (by kernel_rfl) J3.le (pk_drop (by kernel_rfl) (pk_drop (by kernel_rfl) pk_nil)) ?_; refine DP.heavy (.callS rfl rfl hc17b) rfl rfl ⟨_,_,_,rfl,rfl,rfl,rfl⟩ (by kernel_rfl) (by kernel_rfl) (Nat.le_refl _) pk_nil ?_; refine DP.pure (.not_ rfl) rfl rfl ⟨_,_,_,rfl,rfl,rfl,rfl⟩ ?_; refine DP.pure (.pick (b := false) rfl rfl) rfl rfl rfl ?_; refine DP.nil ?_
    refine XP.condS false rfl ?_  -- if t65
    refine XP.skip ?_; refine XP.seq ?_
    have KC := KA.trans ((J1.trans J2).trans J3)
    refine XP.regionS ?_; refine RP.o1 (.assign rfl) rfl rfl ?_; refine RP.nil ?_
    refine XP.block ?_  -- block 2
    refine XP.while (fun d t m1 => ∃ j t0, t = toT t0 [(7, .int .i64 (.ofNat j)), (6, .int .i64 (.ofNat i)), (5, .slice b off L.length cap), (3, .ptr ba 0), (1, .ptr m.next 0)] ∧ d = r.length - j ∧ j ≤ r.length ∧ Kp Nothing M3 m1) ?_ r.length _ _ ?_
    rotate_left
    · exact ⟨0, _, toT_less (.cons rfl (.cons rfl (.cons rfl (.cons rfl (.cons rfl (.nil)))))), rfl, Nat.zero_le _, KC⟩
    rintro d t M3 ⟨j, t0, rfl, rfl, hjn, KD⟩
    have K := K0.trans KD
    have B1 := B3o.up KD
    have auN := au.up KD
    obtain ⟨_, _, _, a, e5, _, E5, _, Rga⟩ := (df.up KD).elem hk hrr
    injection e5 with q1 q2 q3 q4
    subst q1; subst q2; subst q4
    have hrl := hrn r (List.mem_of_getElem? hrr)
    refine XP.seq ?_; refine XP.seq ?_; refine XP.regionS ?_; refine RP.o1 (.move rfl) rfl rfl ?_; refine RP.o1 (.move rfl) rfl rfl ?_; refine RP.o1 (.move rfl) rfl rfl ?_; refine RP.o1 (.indexAddr rfl rfl ix63 (by assumption)) rfl rfl ?_; refine RP.o1 (.fieldAddr rfl fa66_1) rfl rfl ?_
    refine RP.o1 (.load1 rfl lay28 (by first | (apply BoxIs.get; assumption; rfl) | (apply ElAt.get; assumption; rfl) | (apply ElAt.get0; assumption; rfl) | assumption)) rfl rfl ?_
    refine RP.o1 (.len rfl (rowLen28 Rga)) rfl rfl ?_; refine RP.o1 (.bin rfl rfl (by first | exact lss_nat | exact lss_is)) rfl rfl ?_; refine RP.nil ?_
    refine XP.condD rfl (fun hc73 => ?_) (fun hc73 => ?_)  -- if t73
    · refine XP.skip ?_; refine XP.seq ?_
      refine XP.block ?_  -- block 3
      refine XP.seq ?_
      obtain ⟨y, hy⟩ : ∃ y, r[j]? = some y := ⟨r[j]'hc73, List.getElem?_eq_getElem _⟩
      have hrow := Rga
      obtain ⟨bg, og, cg, e6, _, E6⟩ := Rga.elem encI (.refl _) hy
      rw [e6] at E5
      have hc15 := call15 hS15 auN hRl (.ofNat i) (.ofNat j)
      have hgo : goesTo R (.ofNat i) (.ofNat j) = y := by
        unfold goesTo
        rw [if_pos ⟨ofNat_nn i, ofNat_nn j⟩, show (Int.ofNat i).toNat = i from rfl, show (Int.ofNat j).toNat = j from rfl, hrr]
        show (r[j]?).getD (-1) = y
        rw [hy]; rfl
      rw [hgo] at hc15
      have hE6 := E6.get0 (v := .int .i64 y) rfl
      have hE5 := E5.get (j := 1) rfl
      refine XP.drawnS (ms := [0, 0, 0, 7, 0, 0, 48, 112, 240, 0, 1008, 2032, 4095]) (by kernel_rfl) ?_; refine DP.pure (.move rfl) rfl rfl rfl ?_; refine DP.pure (.move rfl) rfl rfl rfl ?_; refine DP.pure (.move rfl) rfl rfl rfl ?_; refine DP.heavy (.callS rfl rfl hc15) rfl rfl rfl (by kernel_rfl) (by kernel_rfl) (Nat.le_refl _) pk_nil ?_; refine DP.pure (.move rfl) rfl rfl rfl ?_; refine DP.pure (.move rfl) rfl rfl rfl ?_; refine DP.pure (.indexAddr rfl rfl ix63 (by assumption)) rfl rfl rfl ?_; refine DP.pure (.fieldAddr rfl fa66_1) rfl rfl rfl ?_; refine DP.read (fun _ => op_load1 (ev_is rfl) lay28 hE5) rfl rfl rfl (fun _ => op_load_leaf) (.inl (by kernel_rfl)) (fun _ => cuts_cons (reads_of (op_load1 (ev_is rfl) lay28 hE5) (eqV_row (e6 ▸ hrow))) cuts_nil) ?_; refine DP.pure (.move rfl) rfl rfl rfl ?_; refine DP.pure (.indexAddr rfl rfl ix28 (by assumption)) rfl rfl rfl ?_; refine DP.read (fun _ => op_load1 (ev_is rfl) lay3 hE6) rfl rfl rfl (fun _ => op_load_leaf) (.inl (by kernel_rfl)) (fun _ => cuts_cons (reads_of (op_load1 (ev_is rfl) lay3 hE6) eqV_int) cuts_nil) ?_; refine DP.pure (.bin (v := .bool false) rfl rfl neq_self) rfl rfl rfl ?_; refine DP.nil ?_
      refine XP.condS false rfl ?_  -- if t88
      refine XP.skip ?_; refine XP.regionS ?_; refine RP.o1 (.move rfl) rfl rfl ?_
      refine RP.o1 (.bin rfl rfl (by first | exact inc_is (by omega) | exact add_is (by omega) (by omega))) rfl rfl ?_
      refine RP.o1 (.assign rfl) rfl rfl ?_; refine RP.nil ?_
      exact ⟨r.length - (j + 1), by omega, j + 1, _, toT_less (.cons rfl (.cons rfl (.cons rfl (.cons rfl (.cons rfl (.nil)))))), rfl, by omega, KD⟩
    · refine XP.exit ?_  -- 2
      refine XP.regionS ?_; refine RP.o1 (.move rfl) rfl rfl ?_
      refine RP.o1 (.bin rfl rfl (by first | exact inc_is (by omega) | exact add_is (by omega) (by omega))) rfl rfl ?_
      refine RP.o1 (.assign rfl) rfl rfl ?_; refine RP.nil ?_
      exact ⟨L.length - (i + 1), by omega, i + 1, _, toT_less (.cons rfl (.cons rfl (.cons rfl (.cons rfl (.nil))))), rfl, by omega, KD⟩
  · refine XP.exit ?_  -- 0
    refine XP.seq ?_
    have hpos : 0 < L.length := by
      rcases Nat.lt_or_ge 0 L.length with h | h
      · exact h
      · have h1 := hau.steps
        rw [show L.length = 0 by omega] at h1
        cases h1
        simp at h
    obtain ⟨q0, hq0⟩ : ∃ q0, R[0]? = some q0 := ⟨R[0]'(by omega), List.getElem?_eq_getElem _⟩
    have hq0n := hrn q0 (List.mem_of_getElem? hq0)
    have g1 := call15 hS15 auM hRl 0 (-1)
    rw [show goesTo R 0 (-1) = -1 from rfl] at g1
    have g2 := call15 hS15 auM hRl 0 (.ofNat s.n)
    rw [show goesTo R 0 (.ofNat s.n) = -1 by
      unfold goesTo
      rw [if_pos ⟨Int.le_refl 0, ofNat_nn _⟩, show (0 : Int).toNat = 0 from rfl, show (Int.ofNat s.n).toNat = s.n from rfl, hq0]
      show (q0[s.n]?).getD (-1) = -1
      rw [List.getElem?_eq_none (by omega)]; rfl] at g2
    have g3 := call15 hS15 auM hRl (-1) 0
    rw [show goesTo R (-1) 0 = -1 from rfl] at g3
    have g4 := call15 hS15 auM hRl (.ofNat L.length) 0
    rw [show goesTo R (.ofNat L.length) 0 = -1 by
      unfold goesTo
      rw [if_pos ⟨ofNat_nn _, Int.le_refl 0⟩, show (Int.ofNat L.length).toNat = L.length from rfl, List.getElem?_eq_none (by omega)]; rfl] at g4
    obtain ⟨w1, P1, hw1, Q1, T1⟩ := call13 hS13 auM hIl hLs (.ofNat L.length)
    rw [if_pos (ofNat_nn _), show (Int.ofNat L.length).toNat = L.length from rfl, List.getElem?_eq_none (Nat.le_refl _)] at T1
    have T1 : RowIs itC 2 P1 w1 [] := T1
    obtain ⟨w2, P2, hw2, Q2, T2⟩ := call14 hS14 (auM.up Q1) hIl hIs (-1)
    rw [if_neg (by decide)] at T2
    refine XP.regionS ?_; refine RP.o1 (.move rfl) rfl rfl ?_; refine RP.o1 (.callS rfl rfl g1) rfl rfl ?_; refine RP.o1 (.bin (v := .bool true) rfl rfl eql_self) rfl rfl ?_; refine RP.o1 (.move rfl) rfl rfl ?_; refine RP.o1 (.move rfl) rfl ⟨_,_,_,rfl,rfl,rfl,rfl⟩ ?_; refine RP.o1 (.fieldAddr rfl fa31_0) rfl ⟨_,_,_,rfl,rfl,rfl,rfl⟩ ?_
    refine RP.o1 (.load1 rfl lay3 (by first | (apply BoxIs.get; assumption; rfl) | (apply ElAt.get; assumption; rfl) | (apply ElAt.get0; assumption; rfl) | assumption)) rfl ⟨_,_,_,rfl,rfl,rfl,rfl⟩ ?_
    refine RP.o1 (.bin rfl rfl (by first | exact inc_is (by omega) | exact add_is (by omega) (by omega))) rfl ⟨_,_,_,rfl,rfl,rfl,rfl⟩ ?_
    refine RP.o1 (.fieldAddr rfl fa31_1) rfl ⟨_,_,_,rfl,rfl,rfl,rfl⟩ ?_
    refine RP.o1 (.load1 rfl lay3 (by first | (apply BoxIs.get; assumption; rfl) | (apply ElAt.get; assumption; rfl) | (apply ElAt.get0; assumption; rfl) | assumption)) rfl ⟨_,_,_,rfl,rfl,rfl,rfl⟩ ?_
    refine RP.o1 (.bin (v := .int .i64 (.ofNat s.n)) rfl rfl (addN_is (by omega))) rfl ⟨_,_,_,rfl,rfl,rfl,rfl⟩ ?_; refine RP.o1 (.callS rfl rfl g2) rfl ⟨_,_,_,rfl,rfl,rfl,rfl⟩ ?_; refine RP.o1 (.bin (v := .bool true) rfl rfl eql_self) rfl ⟨_,_,_,rfl,rfl,rfl,rfl⟩ ?_; refine RP.o1 (.pick (b := true) rfl rfl) rfl rfl ?_; refine RP.o1 (.move rfl) rfl rfl ?_; refine RP.o1 (.move rfl) rfl ⟨_,_,_,rfl,rfl,rfl,rfl⟩ ?_; refine RP.o1 (.callS rfl rfl g3) rfl ⟨_,_,_,rfl,rfl,rfl,rfl⟩ ?_; refine RP.o1 (.bin (v := .bool true) rfl rfl eql_self) rfl ⟨_,_,_,rfl,rfl,rfl,rfl⟩ ?_; refine RP.o1 (.pick (b := true) rfl rfl) rfl rfl ?_; refine RP.o1 (.move rfl) rfl rfl ?_; refine RP.o1 (.move rfl) rfl ⟨_,_,_,rfl,rfl,rfl,rfl⟩ ?_; refine RP.o1 (.move rfl) rfl ⟨_,_,_,rfl,rfl,rfl,rfl⟩ ?_; refine RP.o1 (.len rfl dfM.len) rfl ⟨_,_,_,rfl,rfl,rfl,rfl⟩ ?_; refine RP.o1 (.callS rfl rfl g4) rfl ⟨_,_,_,rfl,rfl,rfl,rfl⟩ ?_; refine RP.o1 (.bin (v := .bool true) rfl rfl eql_self) rfl ⟨_,_,_,rfl,rfl,rfl,rfl⟩ ?_; refine RP.o1 (.pick (b := true) rfl rfl) rfl rfl ?_; refine RP.o1 (.move rfl) rfl rfl ?_; refine RP.o1 (.move rfl) rfl ⟨_,_,_,rfl,rfl,rfl,rfl⟩ ?_; refine RP.o1 (.move rfl) rfl ⟨_,_,_,rfl,rfl,rfl,rfl⟩ ?_; refine RP.o1 (.len rfl dfM.len) rfl ⟨_,_,_,rfl,rfl,rfl,rfl⟩ ?_; refine RP.op (.callS rfl rfl hw1) rfl ⟨_,_,_,rfl,rfl,rfl,rfl⟩ Q1.le ?_; refine RP.o1 (.len rfl (rowLen T1)) rfl ⟨_,_,_,rfl,rfl,rfl,rfl⟩ ?_; refine RP.o1 (.bin (v := .bool true) rfl rfl eql_self) rfl ⟨_,_,_,rfl,rfl,rfl,rfl⟩ ?_; refine RP.o1 (.pick (b := true) rfl rfl) rfl rfl ?_; refine RP.o1 (.move rfl) rfl rfl ?_; refine RP.o1 (.move rfl) rfl ⟨_,_,_,rfl,rfl,rfl,rfl⟩ ?_; refine RP.op (.callS rfl rfl hw2) rfl ⟨_,_,_,rfl,rfl,rfl,rfl⟩ Q2.le ?_; refine RP.o1 (.len rfl (rowLen T2)) rfl ⟨_,_,_,rfl,rfl,rfl,rfl⟩ ?_; refine RP.o1 (.bin (v := .bool true) rfl rfl eql_self) rfl ⟨_,_,_,rfl,rfl,rfl,rfl⟩ ?_; refine RP.o1 (.pick (b := true) rfl rfl) rfl rfl ?_; refine RP.o1 (.assign rfl) rfl rfl ?_; refine RP.nil ?_
    exact XP.ret ⟨.inr rfl, _, _, oneRes rfl, rfl, (K.trans Q1).trans Q2⟩
theorem right_b {S : Sums} (hS : Plain S rgF) (h64 : S 64 = some insW) {m : AMem} {s : SpV} {rs : List Rl} (hr : RulesIs m s.vr rs) (hW : WfR (.ofNat s.toks) rs) (hT : s.toks ≤ 12) (hN : s.nts ≤ 10) (hA : (s.g rs).Many (symsN s.n)) :
    ∃ r m', CallTo Tryz.prog S 11 [s.v] m r m' ∧ r = .bool true ∧ Kp Nothing m m' := by
  have hS16 : Plain S buF := fun f hf => hS f (by simp at hf ⊢; omega)
  have hS29 : Plain S doF := fun f hf => hS f (by simp at hf ⊢; omega)
  have hB := hW.small
  obtain ⟨r0, hr0e, hr0l⟩ := hW.first
  refine XP.call (hS 11 (by decide)) cd11 nt11 ?_
  show XP _ _ _ _ (toT .leaf [(0, s.v)]) m _
  unfold Tryz.f11
  dsimp only [Option.getD_some]
  have K : Kp Nothing m m := .refl m
  refine XP.seq ?_; refine XP.regionS ?_
  have hk1 := K.le
  refine RP.box rfl rfl rfl rfl fun M1 K1 B1 N1 => ?_
  have K := K.trans K1
  have B1o := B1
  have hr0 := hr.up K1
  obtain ⟨v16, M2, hc16, K2, h16⟩ := call16 hS16 h64 hr0 hB ⟨r0, hr0e⟩ hT hN
  rcases h16 with ⟨ba, lv, gv, iv, L, I, R, rfl, au, hau, hL, hkn⟩ | ⟨rfl, _⟩
  · exact absurd hA hau.few
  obtain ⟨v29, M3, hc29, K3, h29⟩ := call29 hS29 (hr0.up K2) hW hT hN
  rcases h29 with ⟨L', I', R', hne, df, hdo, _, hks⟩ | ⟨rfl, _⟩
  · exact absurd hA hdo.few
  refine RP.o1 (.assign rfl) rfl rfl ?_; refine RP.nil ?_; refine XP.seq ?_; refine XP.regionS ?_; refine RP.o1 (.loadE rfl (by first | assumption | (apply BoxIs.el; assumption)) lay31 (by rfl)) rfl rfl ?_
  refine RP.op (.callS rfl rfl hc16) rfl rfl K2.le ?_
  have K := K.trans K2
  have B1 := B1.up K2
  refine RP.o1 (.move rfl) rfl rfl ?_; refine RP.o1 (.extract rfl rfl) rfl rfl ?_; refine RP.o1 (.extract rfl rfl) rfl rfl ?_; refine RP.o1 (.assign rfl) rfl rfl ?_; refine RP.o1 (.assign rfl) rfl rfl ?_; refine RP.nil ?_; refine XP.seq ?_; refine XP.regionS ?_; refine RP.o1 (.loadE rfl (by first | assumption | (apply BoxIs.el; assumption)) lay31 (by rfl)) rfl rfl ?_
  refine RP.op (.callS rfl rfl hc29) rfl rfl K3.le ?_
  have K := K.trans K3
  have B1 := B1.up K3
  refine RP.o1 (.assign rfl) rfl rfl ?_; refine RP.nil ?_; refine XP.seq ?_; refine XP.seq ?_; refine XP.regionS ?_; refine RP.o1 (.move rfl) rfl rfl ?_; refine RP.o1 (.bin (v := .bool true) rfl rfl nil63n) rfl rfl ?_; refine RP.nil ?_
  refine XP.condS true rfl ?_  -- if t16
  refine XP.seq ?_; refine XP.regionS ?_; refine RP.o1 (.move rfl) rfl rfl ?_; refine RP.o1 (.bin (v := .bool true) rfl rfl eql_self) rfl rfl ?_; refine RP.o1 (.move rfl) rfl rfl ?_; refine RP.o1 (.move rfl) rfl ⟨_,_,_,rfl,rfl,rfl,rfl⟩ ?_; refine RP.o1 (.bin (v := .bool true) rfl rfl nil44n) rfl ⟨_,_,_,rfl,rfl,rfl,rfl⟩ ?_; refine RP.o1 (.pick (b := true) rfl rfl) rfl rfl ?_; refine RP.o1 (.assign rfl) rfl rfl ?_; refine RP.nil ?_
  exact XP.ret ⟨.inr rfl, _, _, oneRes rfl, rfl, K⟩
/-- Yes, whatever the grammar. -/
theorem call11 {S : Sums} (hS : Plain S rgF) (h64 : S 64 = some insW) {m : AMem} {s : SpV} {rs : List Rl} (hr : RulesIs m s.vr rs) (hW : WfR (.ofNat s.toks) rs) (hT : s.toks ≤ 12) (hN : s.nts ≤ 10) (hG : SpG s) :
    ∃ m', CallTo Tryz.prog S 11 [s.v] m (.bool true) m' ∧ Kp Nothing m m' := by
  have hS16 : Plain S buF := fun f hf => hS f (by simp at hf ⊢; omega)
  obtain ⟨r0, hr0e, _⟩ := hW.first
  obtain ⟨_, _, _, _, h⟩ := call16 hS16 h64 hr hW.small ⟨r0, hr0e⟩ hT hN
  rcases h with ⟨_, _, _, _, L, I, R, _, _, hA, _, _⟩ | ⟨_, hA⟩
  · obtain ⟨r, m', h, rfl, k⟩ := right_a hS h64 hr hW hT hN hG hA
    exact ⟨m', h, k⟩
  · obtain ⟨r, m', h, rfl, k⟩ := right_b hS h64 hr hW hT hN hA
    exact ⟨m', h, k⟩
end Go.Ev
end
section
namespace Go.Ev
set_option linter.all false
open Go.Proofs
section
variable {P : Program} {ty : TypeId} {lit : Bool} {m : AMem}
theorem eqlS {a b : List Nat} : aBin2 P .eql ty lit (.str a) (.str b) m = .mk (.bool (decide (a = b))) m := by
  show iBool (lEq a b) m = _
  rw [lEq_eq]
  by_cases h : a = b
  · rw [decide_eq_true h, h, beq_self_eq_true]; rfl
  · rw [decide_eq_false h, beq_false_of_ne h]; rfl
theorem neqS {a b : List Nat} : aBin2 P .neq ty lit (.str a) (.str b) m = .mk (.bool (!decide (a = b))) m := by
  show iBool (!lEq a b) m = _
  rw [lEq_eq]
  by_cases h : a = b
  · rw [decide_eq_true h, h, beq_self_eq_true]; rfl
  · rw [decide_eq_false h, beq_false_of_ne h]; rfl
theorem geqU {a b : Int} : aBin2 P .geq ty lit (.int .u8 a) (.int .u8 b) m = .mk (.bool (!decide (a < b))) m := by
  show iBool (!iLt a b) m = _
  rw [iLt_eq]; cases decide (a < b) <;> rfl
theorem leqU {a b : Int} : aBin2 P .leq ty lit (.int .u8 a) (.int .u8 b) m = .mk (.bool (!decide (b < a))) m := by
  show iBool (!iLt b a) m = _
  rw [iLt_eq]; cases decide (b < a) <;> rfl
theorem eqlU {a b : Int} : aBin2 P .eql ty lit (.int .u8 a) (.int .u8 b) m = .mk (.bool (decide (a = b))) m := by
  show iBool (iEq a b) m = _
  rw [iEq_eq, show (a == b) = decide (a = b) from rfl]; cases decide (a = b) <;> rfl
end
theorem OpTo.index {P : Program} {S : Sums} {t0 : T AV} {σ : List (Nat × AV)} {m : AMem} {ty : TypeId} {x i : Operand} {s : List Nat} {k : IntKind} {j c : Nat} (hx : ev σ x = some (.str s)) (hi : ev σ i = some (.int k (.ofNat j))) (ht : P.underlying ty = some .string) (hc : s[j]? = some c) :
    OpTo P S (.index ty x i) (toT t0 σ) m (.int .u8 (.ofNat c)) m := OpTo.of fun call => by
  show evK (toT t0 σ) x (fun x => evK (toT t0 σ) i fun i => aIndex P ty x i m) = _
  rw [evK_eq, evK_eq, ev_is hx, ev_is hi]
  unfold aIndex
  simp only [ht, hc]
structure TokD where
  name : List Nat
  level : Int
  assoc : Int
structure RuleD where
  left : List Nat
  right : List (List Nat)
  prec : List Nat
abbrev strC (s : List Nat) : List AV := [.str s]
abbrev tokC (t : TokD) : List AV := [.str t.name, .int .i64 t.level, .int .i64 t.assoc]
abbrev rdC (q : List Nat × PV × List Nat) : List AV := [.str q.1, q.2.1.1, .str q.2.2]
theorem encStr : Enc strC 1 := ⟨fun _ => rfl, fun _ => rfl⟩
theorem encTok : Enc tokC 3 := ⟨fun _ => rfl, fun _ => rfl⟩
theorem encRd : Enc rdC 3 := ⟨fun _ => rfl, fun q => by show (true && (q.2.1.1.plain && (true && true))) = true; rw [q.2.1.2]; rfl⟩
/-- Rules by names. -/
noncomputable def GRulesIs (m : AMem) (v : AV) (rs : List RuleD) : Prop := ∃ raw : List (List Nat × PV × List Nat), RowIs rdC 3 m v raw ∧ raw.length = rs.length ∧ ∀ (i : Nat) q r, raw[i]? = some q → rs[i]? = some r → q.1 = r.left ∧ q.2.2 = r.prec ∧ RowIs strC 1 m q.2.1.1 r.right
theorem GRulesIs.up {m m' : AMem} {v : AV} {rs : List RuleD} (h : GRulesIs m v rs) (k : Kp Nothing m m') : GRulesIs m' v rs := by
  obtain ⟨raw, h1, h2, h3⟩ := h
  exact ⟨raw, h1.up k, h2, fun i q r hq hr => let ⟨a, b, c⟩ := h3 i q r hq hr; ⟨a, b, c.up k⟩⟩
theorem GRulesIs.elem {m M : AMem} {v : AV} {rs : List RuleD} (h : GRulesIs m v rs) (K : Kp Nothing m M) {i : Nat} {r : RuleD} (hx : rs[i]? = some r) :
    ∃ b off cap vr, v = .slice b off rs.length cap ∧ i < rs.length ∧ ElAt M b (off + i * 3) [.str r.left, vr, .str r.prec] ∧ RowIs strC 1 M vr r.right ∧ [.str r.left, vr, .str r.prec].all AV.plain = true := by
  obtain ⟨raw, h1, h2, h3⟩ := h.up K
  obtain ⟨hi, _⟩ := List.getElem?_eq_some_iff.1 hx
  obtain ⟨q, hq⟩ : ∃ q, raw[i]? = some q := ⟨raw[i]'(by omega), List.getElem?_eq_getElem _⟩
  obtain ⟨e1, e2, R⟩ := h3 i q r hq hx
  obtain ⟨b, off, cap, e, _, E⟩ := h1.elem encRd (.refl _) hq
  refine ⟨b, off, cap, q.2.1.1, by rw [e, h2], hi, ?_, R, by show (true && (q.2.1.1.plain && (true && true))) = true; rw [q.2.1.2]; rfl⟩
  rw [← e1, ← e2]; exact E
/-- A grammar. -/
structure GrD where
  toks : List TokD
  start : List Nat
  expect : Int
  rules : List RuleD
abbrev gramV (vt : AV) (g : GrD) (vr : AV) : AV := .agg [vt, .str g.start, .int .i64 g.expect, vr]
structure GramIs (m : AMem) (vt vr : AV) (g : GrD) : Prop where
  t : RowIs tokC 3 m vt g.toks
  r : GRulesIs m vr g.rules
theorem GramIs.up {m m' : AMem} {vt vr : AV} {g : GrD} (h : GramIs m vt vr g) (k : Kp Nothing m m') : GramIs m' vt vr g := ⟨h.t.up k, h.r.up k⟩
/-- No more of all than may be. -/
structure GSmall (g : GrD) : Prop where
  t : g.toks.length < 100000
  r : g.rules.length < 100000
  rr : ∀ r ∈ g.rules, r.right.length < 100000
theorem rowLen22 {α : Type} {enc : α → List AV} {sz : Nat} {m : AMem} {v : AV} {raw : List α} (h : RowIs enc sz m v raw) {M : AMem} : aLen Tryz.prog 22 v M = .mk (.int .i64 (.ofNat raw.length)) M := by
  rcases h with ⟨rfl, rfl⟩ | ⟨rfl, rfl⟩ | ⟨b, off, cap, rfl, _⟩
  · exact len22n
  · exact len22e
  · exact len22
theorem rowLen27 {α : Type} {enc : α → List AV} {sz : Nat} {m : AMem} {v : AV} {raw : List α} (h : RowIs enc sz m v raw) {M : AMem} : aLen Tryz.prog 27 v M = .mk (.int .i64 (.ofNat raw.length)) M := by
  rcases h with ⟨rfl, rfl⟩ | ⟨rfl, rfl⟩ | ⟨b, off, cap, rfl, _⟩
  · exact len27n
  · exact len27e
  · exact len27
theorem rowLen23 {m : AMem} {v : AV} {rs : List RuleD} (h : GRulesIs m v rs) {M : AMem} : aLen Tryz.prog 23 v M = .mk (.int .i64 (.ofNat rs.length)) M := by
  obtain ⟨raw, h1, h2, _⟩ := h
  rw [← h2]
  rcases h1 with ⟨rfl, rfl⟩ | ⟨rfl, rfl⟩ | ⟨b, off, cap, rfl, _⟩
  · exact len23n
  · exact len23e
  · exact len23
/-- Where a name stands first; -1. -/
noncomputable def placeI (l : List (List Nat)) (s : List Nat) : Int := match l.findIdx? (fun x => decide (x = s)) with
  | some i => Int.ofNat i
  | none => -1
theorem placeI_some {l : List (List Nat)} {s : List Nat} {i : Nat} (hi : l[i]? = some s) (h : ∀ (j : Nat) x, j < i → l[j]? = some x → x ≠ s) : placeI l s = Int.ofNat i := by
  have : l.findIdx? (fun x => decide (x = s)) = some i := by
    rw [List.findIdx?_eq_some_iff_getElem]
    obtain ⟨h1, h2⟩ := List.getElem?_eq_some_iff.1 hi
    refine ⟨h1, by rw [h2]; simp, fun j hj => ?_⟩
    simpa using h j _ hj (List.getElem?_eq_getElem (by omega))
  rw [placeI, this]
theorem placeI_none {l : List (List Nat)} {s : List Nat} (h : ∀ (j : Nat) x, j < l.length → l[j]? = some x → x ≠ s) : placeI l s = -1 := by
  have : l.findIdx? (fun x => decide (x = s)) = none := by
    rw [List.findIdx?_eq_none_iff]
    intro x hx
    obtain ⟨j, hj, e⟩ := List.getElem_of_mem hx
    simpa using h j x hj (by rw [List.getElem?_eq_getElem hj, e])
  rw [placeI, this]
theorem placeI_mem {l : List (List Nat)} {s : List Nat} : (0 ≤ placeI l s ↔ s ∈ l) ∧ (s ∈ l → ∃ i : Nat, placeI l s = Int.ofNat i ∧ l[i]? = some s) ∧ placeI l s < l.length := by
  unfold placeI
  cases e : l.findIdx? (fun x => decide (x = s)) with
  | some i =>
    rw [List.findIdx?_eq_some_iff_getElem] at e
    obtain ⟨h1, h2, _⟩ := e
    have h3 : l[i] = s := by simpa using h2
    have hm : s ∈ l := h3 ▸ List.getElem_mem h1
    refine ⟨⟨fun _ => hm, fun _ => ofNat_nn i⟩, fun _ => ⟨i, rfl, by rw [List.getElem?_eq_getElem h1, h3]⟩, by show (i : Int) < l.length; omega⟩
  | none =>
    rw [List.findIdx?_eq_none_iff] at e
    have hm : s ∉ l := fun hm => by have := e s hm; simp at this
    exact ⟨⟨fun h => absurd h (by decide), fun h => absurd h hm⟩, fun h => absurd h hm, by show (-1 : Int) < l.length; omega⟩
end Go.Ev
end
section
namespace Go.Ev
set_option linter.all false
open Go.Proofs
set_option maxRecDepth 10000
set_option maxHeartbeats 2000000
theorem call56 {S : Sums} (hS : Plain S [56]) {m : AMem} (c : Int) : ∃ r m', CallTo Tryz.prog S 56 [.int .u8 c] m r m' ∧ ∃ b : Bool, r = .bool b ∧ Kp Nothing m m' := by
  refine XP.call (hS 56 (by decide)) cd56 nt56 ?_
  show XP _ _ _ _ (toT .leaf [(0, .int .u8 c)]) m _
  unfold Tryz.f56
  dsimp only [Option.getD_some]
  have K : Kp Nothing m m := .refl m
  refine XP.seq ?_; refine XP.regionS ?_; refine RP.o1 (.assign rfl) rfl rfl ?_; refine RP.nil ?_; refine XP.seq ?_; refine XP.regionS ?_; refine RP.o1 (.move rfl) rfl rfl ?_; refine RP.o1 (.bin rfl rfl geqU) rfl rfl ?_; refine RP.o1 (.move rfl) rfl rfl ?_
  rcases Decidable.em (c < 97) with hp5 | hp5
  · simp only [decide_eq_true hp5]; simp only [Bool.not_true]
    refine RP.skip ⟨_,_,_,rfl,rfl,rfl,rfl⟩ rfl ?_; refine RP.skip ⟨_,_,_,rfl,rfl,rfl,rfl⟩ rfl ?_; refine RP.o1 (.pick (b := false) rfl rfl) rfl rfl ?_; refine RP.o1 (.move rfl) rfl rfl ?_; refine RP.o1 (.move rfl) rfl ⟨_,_,_,rfl,rfl,rfl,rfl⟩ ?_; refine RP.o1 (.bin rfl rfl geqU) rfl ⟨_,_,_,rfl,rfl,rfl,rfl⟩ ?_; refine RP.o1 (.move rfl) rfl ⟨_,_,_,rfl,rfl,rfl,rfl⟩ ?_
    rcases Decidable.em (c < 65) with hp12 | hp12
    · simp only [decide_eq_true hp12]; simp only [Bool.not_true]
      refine RP.skip ⟨_,_,_,rfl,rfl,rfl,rfl⟩ rfl ?_; refine RP.skip ⟨_,_,_,rfl,rfl,rfl,rfl⟩ rfl ?_; refine RP.o1 (.pick (b := false) rfl rfl) rfl ⟨_,_,_,rfl,rfl,rfl,rfl⟩ ?_; refine RP.o1 (.pick (b := false) rfl rfl) rfl rfl ?_; refine RP.o1 (.move rfl) rfl rfl ?_; refine RP.o1 (.move rfl) rfl ⟨_,_,_,rfl,rfl,rfl,rfl⟩ ?_; refine RP.o1 (.bin rfl rfl eqlU) rfl ⟨_,_,_,rfl,rfl,rfl,rfl⟩ ?_; refine RP.o1 (.pick (b := false) rfl rfl) rfl rfl ?_; refine RP.o1 (.assign rfl) rfl rfl ?_; refine RP.nil ?_
      exact XP.ret ⟨.inr rfl, _, _, oneRes rfl, _, rfl, K⟩
    · simp only [decide_eq_false hp12]; simp only [Bool.not_false]
      refine RP.o1 (.move rfl) rfl ⟨_,_,_,rfl,rfl,rfl,rfl⟩ ?_; refine RP.o1 (.bin rfl rfl leqU) rfl ⟨_,_,_,rfl,rfl,rfl,rfl⟩ ?_; refine RP.o1 (.pick (b := true) rfl rfl) rfl ⟨_,_,_,rfl,rfl,rfl,rfl⟩ ?_; refine RP.o1 (.pick (b := false) rfl rfl) rfl rfl ?_; refine RP.o1 (.move rfl) rfl rfl ?_
      rcases Decidable.em (90 < c) with hp17 | hp17
      · simp only [decide_eq_true hp17]; simp only [Bool.not_true]
        refine RP.o1 (.move rfl) rfl ⟨_,_,_,rfl,rfl,rfl,rfl⟩ ?_; refine RP.o1 (.bin rfl rfl eqlU) rfl ⟨_,_,_,rfl,rfl,rfl,rfl⟩ ?_; refine RP.o1 (.pick (b := false) rfl rfl) rfl rfl ?_; refine RP.o1 (.assign rfl) rfl rfl ?_; refine RP.nil ?_
        exact XP.ret ⟨.inr rfl, _, _, oneRes rfl, _, rfl, K⟩
      · simp only [decide_eq_false hp17]; simp only [Bool.not_false]
        refine RP.skip ⟨_,_,_,rfl,rfl,rfl,rfl⟩ rfl ?_; refine RP.skip ⟨_,_,_,rfl,rfl,rfl,rfl⟩ rfl ?_; refine RP.o1 (.pick (b := true) rfl rfl) rfl rfl ?_; refine RP.o1 (.assign rfl) rfl rfl ?_; refine RP.nil ?_
        exact XP.ret ⟨.inr rfl, _, _, oneRes rfl, _, rfl, K⟩
  · simp only [decide_eq_false hp5]; simp only [Bool.not_false]
    refine RP.o1 (.move rfl) rfl ⟨_,_,_,rfl,rfl,rfl,rfl⟩ ?_; refine RP.o1 (.bin rfl rfl leqU) rfl ⟨_,_,_,rfl,rfl,rfl,rfl⟩ ?_; refine RP.o1 (.pick (b := true) rfl rfl) rfl rfl ?_; refine RP.o1 (.move rfl) rfl rfl ?_
    rcases Decidable.em (122 < c) with hp9 | hp9
    · simp only [decide_eq_true hp9]; simp only [Bool.not_true]
      refine RP.o1 (.move rfl) rfl ⟨_,_,_,rfl,rfl,rfl,rfl⟩ ?_; refine RP.o1 (.bin rfl rfl geqU) rfl ⟨_,_,_,rfl,rfl,rfl,rfl⟩ ?_; refine RP.o1 (.move rfl) rfl ⟨_,_,_,rfl,rfl,rfl,rfl⟩ ?_
      rcases Decidable.em (c < 65) with hp12 | hp12
      · simp only [decide_eq_true hp12]; simp only [Bool.not_true]
        refine RP.skip ⟨_,_,_,rfl,rfl,rfl,rfl⟩ rfl ?_; refine RP.skip ⟨_,_,_,rfl,rfl,rfl,rfl⟩ rfl ?_; refine RP.o1 (.pick (b := false) rfl rfl) rfl ⟨_,_,_,rfl,rfl,rfl,rfl⟩ ?_; refine RP.o1 (.pick (b := false) rfl rfl) rfl rfl ?_; refine RP.o1 (.move rfl) rfl rfl ?_; refine RP.o1 (.move rfl) rfl ⟨_,_,_,rfl,rfl,rfl,rfl⟩ ?_; refine RP.o1 (.bin rfl rfl eqlU) rfl ⟨_,_,_,rfl,rfl,rfl,rfl⟩ ?_; refine RP.o1 (.pick (b := false) rfl rfl) rfl rfl ?_; refine RP.o1 (.assign rfl) rfl rfl ?_; refine RP.nil ?_
        exact XP.ret ⟨.inr rfl, _, _, oneRes rfl, _, rfl, K⟩
      · simp only [decide_eq_false hp12]; simp only [Bool.not_false]
        refine RP.o1 (.move rfl) rfl ⟨_,_,_,rfl,rfl,rfl,rfl⟩ ?_; refine RP.o1 (.bin rfl rfl leqU) rfl ⟨_,_,_,rfl,rfl,rfl,rfl⟩ ?_; refine RP.o1 (.pick (b := true) rfl rfl) rfl ⟨_,_,_,rfl,rfl,rfl,rfl⟩ ?_; refine RP.o1 (.pick (b := false) rfl rfl) rfl rfl ?_; refine RP.o1 (.move rfl) rfl rfl ?_
        rcases Decidable.em (90 < c) with hp17 | hp17
        · simp only [decide_eq_true hp17]; simp only [Bool.not_true]
          refine RP.o1 (.move rfl) rfl ⟨_,_,_,rfl,rfl,rfl,rfl⟩ ?_; refine RP.o1 (.bin rfl rfl eqlU) rfl ⟨_,_,_,rfl,rfl,rfl,rfl⟩ ?_; refine RP.o1 (.pick (b := false) rfl rfl) rfl rfl ?_; refine RP.o1 (.assign rfl) rfl rfl ?_; refine RP.nil ?_
          exact XP.ret ⟨.inr rfl, _, _, oneRes rfl, _, rfl, K⟩
        · simp only [decide_eq_false hp17]; simp only [Bool.not_false]
          refine RP.skip ⟨_,_,_,rfl,rfl,rfl,rfl⟩ rfl ?_; refine RP.skip ⟨_,_,_,rfl,rfl,rfl,rfl⟩ rfl ?_; refine RP.o1 (.pick (b := true) rfl rfl) rfl rfl ?_; refine RP.o1 (.assign rfl) rfl rfl ?_; refine RP.nil ?_
          exact XP.ret ⟨.inr rfl, _, _, oneRes rfl, _, rfl, K⟩
    · simp only [decide_eq_false hp9]; simp only [Bool.not_false]
      refine RP.skip ⟨_,_,_,rfl,rfl,rfl,rfl⟩ rfl ?_; refine RP.skip ⟨_,_,_,rfl,rfl,rfl,rfl⟩ rfl ?_; refine RP.skip ⟨_,_,_,rfl,rfl,rfl,rfl⟩ rfl ?_; refine RP.skipU ⟨_, _, rfl, rfl, rfl⟩ rfl ?_; refine RP.skipU ⟨_, _, rfl, rfl, rfl⟩ rfl ?_; refine RP.skip ⟨_,_,_,rfl,rfl,rfl,rfl⟩ rfl ?_; refine RP.o1 (.pick (b := true) rfl rfl) rfl rfl ?_; refine RP.o1 (.move rfl) rfl rfl ?_; refine RP.skip ⟨_,_,_,rfl,rfl,rfl,rfl⟩ rfl ?_; refine RP.skip ⟨_,_,_,rfl,rfl,rfl,rfl⟩ rfl ?_; refine RP.o1 (.pick (b := true) rfl rfl) rfl rfl ?_; refine RP.o1 (.assign rfl) rfl rfl ?_; refine RP.nil ?_
      exact XP.ret ⟨.inr rfl, _, _, oneRes rfl, _, rfl, K⟩
theorem call57 {S : Sums} (hS : Plain S [57]) {m : AMem} (c : Int) : ∃ r m', CallTo Tryz.prog S 57 [.int .u8 c] m r m' ∧ ∃ b : Bool, r = .bool b ∧ Kp Nothing m m' := by
  refine XP.call (hS 57 (by decide)) cd57 nt57 ?_
  show XP _ _ _ _ (toT .leaf [(0, .int .u8 c)]) m _
  unfold Tryz.f57
  dsimp only [Option.getD_some]
  have K : Kp Nothing m m := .refl m
  refine XP.seq ?_; refine XP.regionS ?_; refine RP.o1 (.assign rfl) rfl rfl ?_; refine RP.nil ?_; refine XP.seq ?_; refine XP.regionS ?_; refine RP.o1 (.move rfl) rfl rfl ?_; refine RP.o1 (.bin rfl rfl geqU) rfl rfl ?_; refine RP.o1 (.move rfl) rfl rfl ?_
  rcases Decidable.em (c < 48) with hp5 | hp5
  · simp only [decide_eq_true hp5]; simp only [Bool.not_true]
    refine RP.skip ⟨_,_,_,rfl,rfl,rfl,rfl⟩ rfl ?_; refine RP.skip ⟨_,_,_,rfl,rfl,rfl,rfl⟩ rfl ?_; refine RP.o1 (.pick (b := false) rfl rfl) rfl rfl ?_; refine RP.o1 (.assign rfl) rfl rfl ?_; refine RP.nil ?_
    exact XP.ret ⟨.inr rfl, _, _, oneRes rfl, _, rfl, K⟩
  · simp only [decide_eq_false hp5]; simp only [Bool.not_false]
    refine RP.o1 (.move rfl) rfl ⟨_,_,_,rfl,rfl,rfl,rfl⟩ ?_; refine RP.o1 (.bin rfl rfl leqU) rfl ⟨_,_,_,rfl,rfl,rfl,rfl⟩ ?_; refine RP.o1 (.pick (b := true) rfl rfl) rfl rfl ?_; refine RP.o1 (.assign rfl) rfl rfl ?_; refine RP.nil ?_
    exact XP.ret ⟨.inr rfl, _, _, oneRes rfl, _, rfl, K⟩
theorem call37 {S : Sums} (hS : Plain S [37, 56, 57]) {m : AMem} {s : List Nat} (hl : s.length < 100000) : ∃ r m', CallTo Tryz.prog S 37 [.str s] m r m' ∧ ∃ b : Bool, r = .bool b ∧ Kp Nothing m m' ∧ (b = true → s ≠ []) := by
  refine XP.call (hS 37 (by decide)) cd37 nt37 ?_
  show XP _ _ _ _ (toT .leaf [(0, .str s)]) m _
  unfold Tryz.f37
  dsimp only [Option.getD_some]
  have K : Kp Nothing m m := .refl m
  refine XP.seq ?_; refine XP.regionS ?_; refine RP.o1 (.assign rfl) rfl rfl ?_; refine RP.nil ?_; refine XP.seq ?_; refine XP.seq ?_; refine XP.regionS ?_; refine RP.o1 (.assign rfl) rfl rfl ?_; refine RP.nil ?_
  refine XP.block ?_  -- block 0
  refine XP.while (fun d t m1 => ∃ i t0, t = toT t0 [(3, .int .i64 (.ofNat i)), (0, .str s)] ∧ d = s.length - i ∧ i ≤ s.length ∧ Kp Nothing m m1) ?_ s.length _ _ ?_
  rotate_left
  · exact ⟨0, _, toT_less (.cons rfl (.cons rfl (.nil))), rfl, Nat.zero_le _, .refl _⟩
  rintro d t M1 ⟨i, t0, rfl, rfl, hin, K⟩
  refine XP.seq ?_; refine XP.seq ?_; refine XP.regionS ?_; refine RP.o1 (.move rfl) rfl rfl ?_; refine RP.o1 (.move rfl) rfl rfl ?_; refine RP.o1 (.len rfl len9) rfl rfl ?_; refine RP.o1 (.bin rfl rfl (by first | exact lss_nat | exact lss_is)) rfl rfl ?_; refine RP.nil ?_
  refine XP.condD rfl (fun hc7 => ?_) (fun hc7 => ?_)  -- if t7
  · refine XP.skip ?_; refine XP.seq ?_
    refine XP.block ?_  -- block 1
    refine XP.seq ?_
    obtain ⟨c, hc⟩ : ∃ c, s[i]? = some c := ⟨s[i]'hc7, List.getElem?_eq_getElem _⟩
    obtain ⟨v1, M2, hc56, b1, rfl, K2⟩ := call56 (fun f hf => hS f (by simp at hf ⊢; omega)) (m := M1) (.ofNat c)
    obtain ⟨v2, M3, hc57, b2, rfl, K3⟩ := call57 (fun f hf => hS f (by simp at hf ⊢; omega)) (m := M2) (.ofNat c)
    refine XP.regionS ?_; refine RP.o1 (.move rfl) rfl rfl ?_; refine RP.o1 (.move rfl) rfl rfl ?_; refine RP.o1 (.index rfl rfl und9 hc) rfl rfl ?_; refine RP.op (.callS rfl rfl hc56) rfl rfl K2.le ?_
    have K := K.trans K2
    refine RP.o1 (.not_ rfl) rfl rfl ?_; refine RP.o1 (.move rfl) rfl rfl ?_
    rcases Bool.eq_false_or_eq_true ((!b1)) with hp15 | hp15
    · simp only [hp15]
      refine RP.o1 (.move rfl) rfl ⟨_,_,_,rfl,rfl,rfl,rfl⟩ ?_; refine RP.o1 (.bin rfl rfl eql_is) rfl ⟨_,_,_,rfl,rfl,rfl,rfl⟩ ?_; refine RP.o1 (.move rfl) rfl ⟨_,_,_,rfl,rfl,rfl,rfl⟩ ?_
      rcases Decidable.em (Int.ofNat i = 0) with hp18 | hp18
      · simp only [decide_eq_true hp18]
        refine RP.skip ⟨_,_,_,rfl,rfl,rfl,rfl⟩ rfl ?_; refine RP.skip ⟨_,_,_,rfl,rfl,rfl,rfl⟩ rfl ?_; refine RP.skip ⟨_,_,_,rfl,rfl,rfl,rfl⟩ rfl ?_; refine RP.skip ⟨_,_,_,rfl,rfl,rfl,rfl⟩ rfl ?_; refine RP.skip ⟨_,_,_,rfl,rfl,rfl,rfl⟩ rfl ?_; refine RP.o1 (.pick (b := true) rfl rfl) rfl ⟨_,_,_,rfl,rfl,rfl,rfl⟩ ?_; refine RP.o1 (.pick (b := true) rfl rfl) rfl rfl ?_; refine RP.nil ?_
        refine XP.condS true rfl ?_  -- if t25
        refine XP.seq ?_; refine XP.regionS ?_; refine RP.o1 (.assign rfl) rfl rfl ?_; refine RP.nil ?_
        first
        | exact XP.ret ⟨.inr rfl, _, _, oneRes rfl, false, rfl, K, fun h => by cases h⟩
        | exact XP.ret ⟨.inr rfl, _, _, oneRes rfl, _, rfl, K, fun _ e => hp29 (by rw [e]; decide)⟩
      · simp only [decide_eq_false hp18]
        refine RP.o1 (.move rfl) rfl ⟨_,_,_,rfl,rfl,rfl,rfl⟩ ?_; refine RP.o1 (.move rfl) rfl ⟨_,_,_,rfl,rfl,rfl,rfl⟩ ?_; refine RP.o1 (.index rfl rfl und9 hc) rfl ⟨_,_,_,rfl,rfl,rfl,rfl⟩ ?_; refine RP.op (.callS rfl rfl hc57) rfl ⟨_,_,_,rfl,rfl,rfl,rfl⟩ K3.le ?_
        have K := K.trans K3
        refine RP.o1 (.not_ rfl) rfl ⟨_,_,_,rfl,rfl,rfl,rfl⟩ ?_; refine RP.o1 (.pick (b := false) rfl rfl) rfl ⟨_,_,_,rfl,rfl,rfl,rfl⟩ ?_; refine RP.o1 (.pick (b := true) rfl rfl) rfl rfl ?_; refine RP.nil ?_
        refine XP.condB rfl (fun hc25 => ?_) (fun hc25 => ?_)  -- if t25
        · refine XP.seq ?_; refine XP.regionS ?_; refine RP.o1 (.assign rfl) rfl rfl ?_; refine RP.nil ?_
          first
          | exact XP.ret ⟨.inr rfl, _, _, oneRes rfl, false, rfl, K, fun h => by cases h⟩
          | exact XP.ret ⟨.inr rfl, _, _, oneRes rfl, _, rfl, K, fun _ e => hp29 (by rw [e]; decide)⟩
        · refine XP.skip ?_; refine XP.regionS ?_; refine RP.o1 (.move rfl) rfl rfl ?_
          refine RP.o1 (.bin rfl rfl (by first | exact inc_is (by omega) | exact add_is (by omega) (by omega))) rfl rfl ?_
          refine RP.o1 (.assign rfl) rfl rfl ?_; refine RP.nil ?_
          exact ⟨s.length - (i + 1), by omega, i + 1, _, toT_less (.cons rfl (.cons rfl (.nil))), rfl, by omega, K⟩
    · simp only [hp15]
      refine RP.skip ⟨_,_,_,rfl,rfl,rfl,rfl⟩ rfl ?_; refine RP.skip ⟨_,_,_,rfl,rfl,rfl,rfl⟩ rfl ?_; refine RP.skip ⟨_,_,_,rfl,rfl,rfl,rfl⟩ rfl ?_; refine RP.skipU ⟨_, _, rfl, rfl, rfl⟩ rfl ?_; refine RP.skipU ⟨_, _, rfl, rfl, rfl⟩ rfl ?_; refine RP.skipU ⟨_, _, rfl, rfl, rfl⟩ rfl ?_; refine RP.skipU ⟨_, _, rfl, rfl, rfl⟩ rfl ?_; refine RP.skipU ⟨_, _, rfl, rfl, rfl⟩ rfl ?_; refine RP.skip ⟨_,_,_,rfl,rfl,rfl,rfl⟩ rfl ?_; refine RP.o1 (.pick (b := false) rfl rfl) rfl rfl ?_; refine RP.nil ?_
      refine XP.condS false rfl ?_  -- if t25
      refine XP.skip ?_; refine XP.regionS ?_; refine RP.o1 (.move rfl) rfl rfl ?_
      refine RP.o1 (.bin rfl rfl (by first | exact inc_is (by omega) | exact add_is (by omega) (by omega))) rfl rfl ?_
      refine RP.o1 (.assign rfl) rfl rfl ?_; refine RP.nil ?_
      exact ⟨s.length - (i + 1), by omega, i + 1, _, toT_less (.cons rfl (.cons rfl (.nil))), rfl, by omega, K⟩
  · refine XP.exit ?_  -- 0
    refine XP.seq ?_; refine XP.regionS ?_; refine RP.o1 (.move rfl) rfl rfl ?_; refine RP.o1 (.len rfl len9) rfl rfl ?_; refine RP.o1 (.bin rfl rfl geq_is) rfl rfl ?_; refine RP.o1 (.move rfl) rfl rfl ?_
    rcases Decidable.em (Int.ofNat s.length < 1) with hp29 | hp29
    · simp only [decide_eq_true hp29]; simp only [Bool.not_true]
      refine RP.skip ⟨_,_,_,rfl,rfl,rfl,rfl⟩ rfl ?_; refine RP.skip ⟨_,_,_,rfl,rfl,rfl,rfl⟩ rfl ?_; refine RP.skip ⟨_,_,_,rfl,rfl,rfl,rfl⟩ rfl ?_; refine RP.o1 (.pick (b := false) rfl rfl) rfl rfl ?_; refine RP.o1 (.assign rfl) rfl rfl ?_; refine RP.nil ?_
      first
      | exact XP.ret ⟨.inr rfl, _, _, oneRes rfl, false, rfl, K, fun h => by cases h⟩
      | exact XP.ret ⟨.inr rfl, _, _, oneRes rfl, _, rfl, K, fun _ e => hp29 (by rw [e]; decide)⟩
    · simp only [decide_eq_false hp29]; simp only [Bool.not_false]
      refine RP.o1 (.move rfl) rfl ⟨_,_,_,rfl,rfl,rfl,rfl⟩ ?_; refine RP.o1 (.len rfl len9) rfl ⟨_,_,_,rfl,rfl,rfl,rfl⟩ ?_; refine RP.o1 (.bin rfl rfl leq_is) rfl ⟨_,_,_,rfl,rfl,rfl,rfl⟩ ?_; refine RP.o1 (.pick (b := true) rfl rfl) rfl rfl ?_; refine RP.o1 (.assign rfl) rfl rfl ?_; refine RP.nil ?_
      first
      | exact XP.ret ⟨.inr rfl, _, _, oneRes rfl, false, rfl, K, fun h => by cases h⟩
      | exact XP.ret ⟨.inr rfl, _, _, oneRes rfl, _, rfl, K, fun _ e => hp29 (by rw [e]; decide)⟩
theorem call24 {S : Sums} (hS : Plain S [24]) {m : AMem} {v : AV} {xs : List (List Nat)} {s : List Nat} (hv : RowIs strC 1 m v xs) (hl : xs.length < 1048576) : CallTo Tryz.prog S 24 [v, .str s] m (.int .i64 (placeI xs s)) m := by
  suffices H : ∃ r m', CallTo Tryz.prog S 24 [v, .str s] m r m' ∧ r = .int .i64 (placeI xs s) ∧ m' = m by
    obtain ⟨r, m', h, rfl, rfl⟩ := H
    exact h
  refine XP.call (hS 24 (by decide)) cd24 nt24 ?_
  show XP _ _ _ _ (toT .leaf [(1, .str s), (0, v)]) m _
  unfold Tryz.f24
  dsimp only [Option.getD_some]
  have K : Kp Nothing m m := .refl m
  refine XP.seq ?_; refine XP.regionS ?_; refine RP.o1 (.assign rfl) rfl rfl ?_; refine RP.nil ?_; refine XP.seq ?_; refine XP.seq ?_; refine XP.regionS ?_; refine RP.o1 (.assign rfl) rfl rfl ?_; refine RP.nil ?_
  refine XP.block ?_  -- block 0
  refine XP.while (fun d t m1 => ∃ i t0, t = toT t0 [(5, .int .i64 (.ofNat i)), (1, .str s), (0, v)] ∧ d = xs.length - i ∧ i ≤ xs.length ∧ (∀ (j : Nat) x, j < i → xs[j]? = some x → x ≠ s) ∧ m1 = m) ?_ xs.length _ _ ?_
  rotate_left
  · exact ⟨0, _, toT_less (.cons rfl (.cons rfl (.cons rfl (.nil)))), rfl, Nat.zero_le _, fun j _ hj => absurd hj (Nat.not_lt_zero _), rfl⟩
  rintro d t M1 ⟨i, t0, rfl, rfl, hin, hne, rfl⟩
  refine XP.seq ?_; refine XP.seq ?_; refine XP.regionS ?_; refine RP.o1 (.move rfl) rfl rfl ?_; refine RP.o1 (.move rfl) rfl rfl ?_; refine RP.o1 (.len rfl (rowLen27 hv)) rfl rfl ?_; refine RP.o1 (.bin rfl rfl (by first | exact lss_nat | exact lss_is)) rfl rfl ?_; refine RP.nil ?_
  refine XP.condD rfl (fun hc9 => ?_) (fun hc9 => ?_)  -- if t9
  · refine XP.skip ?_; refine XP.seq ?_
    refine XP.block ?_  -- block 1
    refine XP.seq ?_
    obtain ⟨x, hx⟩ : ∃ x, xs[i]? = some x := ⟨xs[i]'hc9, List.getElem?_eq_getElem _⟩
    obtain ⟨b, o, c, rfl, _, E1⟩ := hv.elem encStr (.refl _) hx
    refine XP.regionS ?_; refine RP.o1 (.move rfl) rfl rfl ?_; refine RP.o1 (.move rfl) rfl rfl ?_; refine RP.o1 (.indexAddr rfl rfl ix27 (by assumption)) rfl rfl ?_
    refine RP.o1 (.load1 rfl lay9 (by first | (apply BoxIs.get; assumption; rfl) | (apply ElAt.get; assumption; rfl) | (apply ElAt.get0; assumption; rfl) | assumption)) rfl rfl ?_
    refine RP.o1 (.move rfl) rfl rfl ?_; refine RP.o1 (.bin rfl rfl eqlS) rfl rfl ?_; refine RP.nil ?_
    refine XP.condD rfl (fun hc17 => ?_) (fun hc17 => ?_)  -- if t17
    · refine XP.seq ?_; refine XP.regionS ?_; refine RP.o1 (.move rfl) rfl rfl ?_; refine RP.o1 (.assign rfl) rfl rfl ?_; refine RP.nil ?_
      exact XP.ret ⟨.inr rfl, _, _, oneRes rfl, by rw [placeI_some (by rw [hx, hc17]) hne], rfl⟩
    · refine XP.skip ?_; refine XP.regionS ?_; refine RP.o1 (.move rfl) rfl rfl ?_
      refine RP.o1 (.bin rfl rfl (by first | exact inc_is (by omega) | exact add_is (by omega) (by omega))) rfl rfl ?_
      refine RP.o1 (.assign rfl) rfl rfl ?_; refine RP.nil ?_
      refine ⟨xs.length - (i + 1), by omega, i + 1, _, toT_less (.cons rfl (.cons rfl (.cons rfl (.nil)))), rfl, by omega, fun j y hj hy => ?_, rfl⟩
      rcases Nat.lt_or_ge j i with h | h
      · exact hne j y h hy
      · obtain rfl : j = i := by omega
        rw [hx] at hy; cases hy; exact hc17
  · refine XP.exit ?_  -- 0
    refine XP.seq ?_; refine XP.regionS ?_; refine RP.o1 (.assign rfl) rfl rfl ?_; refine RP.nil ?_
    exact XP.ret ⟨.inr rfl, _, _, oneRes rfl, by rw [placeI_none (fun j x hj hx => hne j x (by omega) hx)]; rfl, rfl⟩
theorem call38 {S : Sums} (hS : Plain S [38]) {m : AMem} {vt vr : AV} {g : GrD} {s : List Nat} (hg : GramIs m vt vr g) (hl : GSmall g) : ∃ r m', CallTo Tryz.prog S 38 [gramV vt g vr, .str s] m r m' ∧ r = .int .i64 (placeI (g.toks.map (·.name)) s) ∧ Kp Nothing m m' := by
  have hlt := hl.t
  refine XP.call (hS 38 (by decide)) cd38 nt38 ?_
  show XP _ _ _ _ (toT .leaf [(1, .str s), (0, gramV vt g vr)]) m _
  unfold Tryz.f38
  dsimp only [Option.getD_some]
  have K : Kp Nothing m m := .refl m
  refine XP.seq ?_; refine XP.regionS ?_
  have hk1 := K.le
  refine RP.box rfl rfl rfl rfl fun M1 K1 B2 N1 => ?_
  have K := K.trans K1
  have B2o := B2
  have hg0 := hg.up K1
  refine RP.o1 (.assign rfl) rfl rfl ?_; refine RP.nil ?_; refine XP.seq ?_; refine XP.seq ?_; refine XP.regionS ?_; refine RP.o1 (.assign rfl) rfl rfl ?_; refine RP.nil ?_
  refine XP.block ?_  -- block 0
  refine XP.while (fun d t m1 => ∃ i t0, t = toT t0 [(5, .int .i64 (.ofNat i)), (2, .ptr m.next 0), (1, .str s)] ∧ d = g.toks.length - i ∧ i ≤ g.toks.length ∧ (∀ (j : Nat) x, j < i → (g.toks.map (·.name))[j]? = some x → x ≠ s) ∧ m1 = M1) ?_ g.toks.length _ _ ?_
  rotate_left
  · exact ⟨0, _, toT_less (.cons rfl (.cons rfl (.cons rfl (.nil)))), rfl, Nat.zero_le _, fun j _ hj => absurd hj (Nat.not_lt_zero _), rfl⟩
  rintro d t M2 ⟨i, t0, rfl, rfl, hin, hne, rfl⟩
  have B2 := B2o
  refine XP.seq ?_; refine XP.seq ?_; refine XP.regionS ?_; refine RP.o1 (.move rfl) rfl rfl ?_; refine RP.o1 (.fieldAddr rfl fa25_0) rfl rfl ?_
  refine RP.o1 (.load1 rfl lay22 (by first | (apply BoxIs.get; assumption; rfl) | (apply ElAt.get; assumption; rfl) | (apply ElAt.get0; assumption; rfl) | assumption)) rfl rfl ?_
  refine RP.o1 (.len rfl (rowLen22 hg0.t)) rfl rfl ?_; refine RP.o1 (.bin rfl rfl (by first | exact lss_nat | exact lss_is)) rfl rfl ?_; refine RP.nil ?_
  refine XP.condD rfl (fun hc10 => ?_) (fun hc10 => ?_)  -- if t10
  · refine XP.skip ?_; refine XP.seq ?_
    refine XP.block ?_  -- block 1
    refine XP.seq ?_
    obtain ⟨x, hx⟩ : ∃ x, g.toks[i]? = some x := ⟨g.toks[i]'hc10, List.getElem?_eq_getElem _⟩
    obtain ⟨b, o, c, rfl, _, E1⟩ := hg0.t.elem encTok (.refl _) hx
    have hx2 : (g.toks.map (·.name))[i]? = some x.name := by rw [List.getElem?_map, hx]; rfl
    refine XP.regionS ?_; refine RP.o1 (.fieldAddr rfl fa25_0) rfl rfl ?_
    refine RP.o1 (.load1 rfl lay22 (by first | (apply BoxIs.get; assumption; rfl) | (apply ElAt.get; assumption; rfl) | (apply ElAt.get0; assumption; rfl) | assumption)) rfl rfl ?_
    refine RP.o1 (.move rfl) rfl rfl ?_; refine RP.o1 (.indexAddr rfl rfl ix22 (by assumption)) rfl rfl ?_; refine RP.o1 (.fieldAddr rfl fa40_0) rfl rfl ?_
    refine RP.o1 (.load1 rfl lay9 (by first | (apply BoxIs.get; assumption; rfl) | (apply ElAt.get; assumption; rfl) | (apply ElAt.get0; assumption; rfl) | assumption)) rfl rfl ?_
    refine RP.o1 (.move rfl) rfl rfl ?_; refine RP.o1 (.bin rfl rfl eqlS) rfl rfl ?_; refine RP.nil ?_
    refine XP.condD rfl (fun hc20 => ?_) (fun hc20 => ?_)  -- if t20
    · refine XP.seq ?_; refine XP.regionS ?_; refine RP.o1 (.move rfl) rfl rfl ?_; refine RP.o1 (.assign rfl) rfl rfl ?_; refine RP.nil ?_
      exact XP.ret ⟨.inr rfl, _, _, oneRes rfl, by rw [placeI_some (by rw [hx2, hc20]) hne], K⟩
    · refine XP.skip ?_; refine XP.regionS ?_; refine RP.o1 (.move rfl) rfl rfl ?_
      refine RP.o1 (.bin rfl rfl (by first | exact inc_is (by omega) | exact add_is (by omega) (by omega))) rfl rfl ?_
      refine RP.o1 (.assign rfl) rfl rfl ?_; refine RP.nil ?_
      refine ⟨g.toks.length - (i + 1), by omega, i + 1, _, toT_less (.cons rfl (.cons rfl (.cons rfl (.nil)))), rfl, by omega, fun j y hj hy => ?_, rfl⟩
      rcases Nat.lt_or_ge j i with h | h
      · exact hne j y h hy
      · obtain rfl : j = i := by omega
        rw [hx2] at hy; cases hy; exact hc20
  · refine XP.exit ?_  -- 0
    refine XP.seq ?_; refine XP.regionS ?_; refine RP.o1 (.assign rfl) rfl rfl ?_; refine RP.nil ?_
    exact XP.ret ⟨.inr rfl, _, _, oneRes rfl, by rw [placeI_none (fun j x hj hx => hne j x (by simp at hj; omega) hx)]; rfl, K⟩
end Go.Ev
end
section
namespace Go.Ev
set_option linter.all false
open Go.Proofs
set_option maxRecDepth 10000
set_option maxHeartbeats 2000000
theorem ap27 : appendable Tryz.prog (some 27) = true := by kernel_rfl
theorem fill27 {s : List Nat} : fillA (fun j => some (Nat.mul j 1, 1)) (repA [.str []] 1) [(0, .str s)] = some (strC s) := rfl
/-- The unlike ones, as they first come. -/
noncomputable def leftsL (rs : List RuleD) : List (List Nat) := rs.foldl (fun l r => if r.left ∈ l then l else l ++ [r.left]) []
theorem lefts_take {rs : List RuleD} {i : Nat} {r : RuleD} (h : rs[i]? = some r) : leftsL (rs.take (i + 1)) = if r.left ∈ leftsL (rs.take i) then leftsL (rs.take i) else leftsL (rs.take i) ++ [r.left] := by
  obtain ⟨hi, he⟩ := List.getElem?_eq_some_iff.1 h
  rw [List.take_succ_eq_append_getElem hi, he]
  unfold leftsL
  rw [List.foldl_append]
  rfl
theorem lefts_len (rs : List RuleD) (i : Nat) : (leftsL (rs.take i)).length ≤ i := by
  induction i with
  | zero => simp [leftsL]
  | succ i ih =>
    by_cases hi : i < rs.length
    · rw [lefts_take (List.getElem?_eq_getElem hi)]
      split
      · omega
      · simp; omega
    · rw [List.take_of_length_le (by omega)] at ih ⊢
      omega
theorem lefts_mem {rs : List RuleD} : ∀ (i : Nat) (j : Nat) r, j < i → rs[j]? = some r → r.left ∈ leftsL (rs.take i) := by
  intro i
  induction i with
  | zero => intro j r hj; omega
  | succ i ih =>
    intro j r hj hr
    by_cases hi : i < rs.length
    · obtain ⟨q, hq⟩ : ∃ q, rs[i]? = some q := ⟨rs[i], List.getElem?_eq_getElem hi⟩
      rw [lefts_take hq]
      by_cases e : j = i
      · subst e
        rw [hq] at hr; cases hr
        split
        · assumption
        · simp
      · have := ih j r (by omega) hr
        split
        · exact this
        · simp [this]
    · have hj2 := (List.getElem?_eq_some_iff.1 hr).1
      have := ih j r (by omega) hr
      rw [List.take_of_length_le (by omega)] at this ⊢
      exact this
theorem call23 {S : Sums} (hS : Plain S [23, 24]) {m : AMem} {vt vr : AV} {g : GrD} (hg : GramIs m vt vr g) (hl : GSmall g) :
    ∃ u m', CallTo Tryz.prog S 23 [gramV vt g vr] m u m' ∧ Kp Nothing m m' ∧ GrowIs strC 1 m.next m' u (leftsL g.rules) := by
  have hS24 : Plain S [24] := fun f hf => hS f (by simp at hf ⊢; omega)
  have hlr := hl.r
  obtain ⟨i27, e27, s27⟩ := ei27
  refine XP.call (hS 23 (by decide)) cd23 nt23 ?_
  show XP _ _ _ _ (toT .leaf [(0, gramV vt g vr)]) m _
  unfold Tryz.f23
  dsimp only [Option.getD_some]
  have K : Kp Nothing m m := .refl m
  refine XP.seq ?_; refine XP.regionS ?_
  have hk1 := K.le
  refine RP.box rfl rfl rfl rfl fun M1 K1 B1 N1 => ?_
  have K := K.trans K1
  have B1o := B1
  have hg0 := hg.up K1
  have hk1' := K1.le
  refine RP.o1 (.assign rfl) rfl rfl ?_; refine RP.nil ?_; refine XP.seq ?_; refine XP.regionS ?_; refine RP.o1 (.assign rfl) rfl rfl ?_; refine RP.nil ?_; refine XP.seq ?_; refine XP.seq ?_; refine XP.regionS ?_; refine RP.o1 (.assign rfl) rfl rfl ?_; refine RP.nil ?_
  refine XP.block ?_  -- block 0
  refine XP.while (fun d t m1 => ∃ i t0 u, t = toT t0 [(4, .int .i64 (.ofNat i)), (3, u), (1, .ptr m.next 0)] ∧ d = g.rules.length - i ∧ i ≤ g.rules.length ∧ Kp Nothing M1 m1 ∧ GrowIs strC 1 M1.next m1 u (leftsL (g.rules.take i))) ?_ g.rules.length _ _ ?_
  rotate_left
  · exact ⟨0, _, .nils, toT_less (.cons rfl (.cons rfl (.cons rfl (.nil)))), rfl, Nat.zero_le _, .refl _, .inl ⟨rfl, rfl⟩⟩
  rintro d t M2 ⟨i, t0, u, rfl, rfl, hin, KA, G⟩
  have K := K1.trans KA
  have B1 := B1o.up KA
  have hgM := hg0.up KA
  have hKA := KA.le
  have hll := lefts_len g.rules i
  refine XP.seq ?_; refine XP.seq ?_; refine XP.regionS ?_; refine RP.o1 (.move rfl) rfl rfl ?_; refine RP.o1 (.fieldAddr rfl fa25_3) rfl rfl ?_
  refine RP.o1 (.load1 rfl lay23 (by first | (apply BoxIs.get; assumption; rfl) | (apply ElAt.get; assumption; rfl) | (apply ElAt.get0; assumption; rfl) | assumption)) rfl rfl ?_
  refine RP.o1 (.len rfl (rowLen23 hgM.r)) rfl rfl ?_; refine RP.o1 (.bin rfl rfl (by first | exact lss_nat | exact lss_is)) rfl rfl ?_; refine RP.nil ?_
  refine XP.condD rfl (fun hc9 => ?_) (fun hc9 => ?_)  -- if t9
  · refine XP.skip ?_; refine XP.seq ?_
    refine XP.block ?_  -- block 1
    refine XP.seq ?_
    obtain ⟨r, hr⟩ : ∃ r, g.rules[i]? = some r := ⟨g.rules[i]'hc9, List.getElem?_eq_getElem _⟩
    obtain ⟨b, o, c, vq, e5, _, E1, RQ, _⟩ := hgM.r.elem (.refl _) hr
    subst e5
    have htk := lefts_take hr
    refine XP.regionS ?_; refine RP.o1 (.move rfl) rfl rfl ?_; refine RP.o1 (.fieldAddr rfl fa25_3) rfl rfl ?_
    refine RP.o1 (.load1 rfl lay23 (by first | (apply BoxIs.get; assumption; rfl) | (apply ElAt.get; assumption; rfl) | (apply ElAt.get0; assumption; rfl) | assumption)) rfl rfl ?_
    refine RP.o1 (.move rfl) rfl rfl ?_; refine RP.o1 (.indexAddr rfl rfl ix23 (by assumption)) rfl rfl ?_; refine RP.o1 (.fieldAddr rfl fa42_0) rfl rfl ?_
    refine RP.o1 (.load1 rfl lay9 (by first | (apply BoxIs.get; assumption; rfl) | (apply ElAt.get; assumption; rfl) | (apply ElAt.get0; assumption; rfl) | assumption)) rfl rfl ?_
    refine RP.o1 (.callS rfl rfl (call24 hS24 G.row (by omega))) rfl rfl ?_; refine RP.o1 (.bin rfl rfl (by first | exact lss_nat | exact lss_is)) rfl rfl ?_; refine RP.nil ?_
    refine XP.condD rfl (fun hc20 => ?_) (fun hc20 => ?_)  -- if t20
    · have hnm : r.left ∉ leftsL (g.rules.take i) := fun h => by have := placeI_mem.1.2 h; omega
      rw [if_neg hnm] at htk
      obtain ⟨u2, M2, ha, hm2, G2, K2, _, _⟩ := append_one (x := r.left) encStr (by decide) e27 s27 ap27 G hKA (by omega)
      refine XP.regionS ?_; refine RP.o1 (.move rfl) rfl rfl ?_; refine RP.o1 (.fieldAddr rfl fa25_3) rfl rfl ?_
      refine RP.o1 (.load1 rfl lay23 (by first | (apply BoxIs.get; assumption; rfl) | (apply ElAt.get; assumption; rfl) | (apply ElAt.get0; assumption; rfl) | assumption)) rfl rfl ?_
      refine RP.o1 (.move rfl) rfl rfl ?_; refine RP.o1 (.indexAddr rfl rfl ix23 (by assumption)) rfl rfl ?_; refine RP.o1 (.fieldAddr rfl fa42_0) rfl rfl ?_
      refine RP.o1 (.load1 rfl lay9 (by first | (apply BoxIs.get; assumption; rfl) | (apply ElAt.get; assumption; rfl) | (apply ElAt.get0; assumption; rfl) | assumption)) rfl rfl ?_
      refine RP.op (.buildSlice rfl e27 (by rw [s27]; rfl) (by rw [s27]; exact fill27)) rfl rfl (Nat.le_succ _) ?_
      rw [s27]
      refine RP.op (OpTo.of fun _ => op_append rfl rfl ha) rfl rfl hm2 ?_; refine RP.o1 (.assign rfl) rfl rfl ?_; refine RP.nil ?_; refine XP.regionS ?_; refine RP.o1 (.move rfl) rfl rfl ?_
      refine RP.o1 (.bin rfl rfl (by first | exact inc_is (by omega) | exact add_is (by omega) (by omega))) rfl rfl ?_
      refine RP.o1 (.assign rfl) rfl rfl ?_; refine RP.nil ?_
      exact ⟨g.rules.length - (i + 1), by omega, i + 1, _, u2, toT_less (.cons rfl (.cons rfl (.cons rfl (.nil)))), rfl, by omega, KA.young K2 (fun _ h => h), by rw [htk]; exact G2⟩
    · refine XP.skip ?_; refine XP.regionS ?_; refine RP.o1 (.move rfl) rfl rfl ?_
      refine RP.o1 (.bin rfl rfl (by first | exact inc_is (by omega) | exact add_is (by omega) (by omega))) rfl rfl ?_
      refine RP.o1 (.assign rfl) rfl rfl ?_; refine RP.nil ?_
      have hm : r.left ∈ leftsL (g.rules.take i) := placeI_mem.1.1 (Int.not_lt.1 hc20)
      rw [if_pos hm] at htk
      exact ⟨g.rules.length - (i + 1), by omega, i + 1, _, u, toT_less (.cons rfl (.cons rfl (.cons rfl (.nil)))), rfl, by omega, KA, by rw [htk]; exact G⟩
  · refine XP.exit ?_  -- 0
    refine XP.seq ?_; refine XP.regionS ?_; refine RP.o1 (.move rfl) rfl rfl ?_; refine RP.o1 (.assign rfl) rfl rfl ?_; refine RP.nil ?_
    obtain rfl : i = g.rules.length := by omega
    rw [List.take_length] at G
    refine XP.ret ⟨.inr rfl, _, _, oneRes rfl, K, ?_⟩
    rcases G with h | ⟨b, c, e, hlo, q⟩
    · exact .inl h
    · exact .inr ⟨b, c, e, by omega, q⟩
/-- Within the limits. -/
structure GLim (g : GrD) : Prop where
  t : g.toks.length ≤ 12
  r : g.rules.length ≤ 30
  rr : ∀ r ∈ g.rules, r.right.length ≤ 6
  l : (leftsL g.rules).length ≤ 10
theorem call21 {S : Sums} (hS : Plain S [21, 23, 24]) {m : AMem} {vt vr : AV} {g : GrD} (hg : GramIs m vt vr g) (hl : GSmall g) :
    ∃ r m', CallTo Tryz.prog S 21 [gramV vt g vr] m r m' ∧ ∃ b : Bool, r = .bool b ∧ Kp Nothing m m' ∧ (b = false → GLim g) := by
  have hS23 : Plain S [23, 24] := fun f hf => hS f (by simp at hf ⊢; omega)
  have hlr := hl.r
  refine XP.call (hS 21 (by decide)) cd21 nt21 ?_
  show XP _ _ _ _ (toT .leaf [(0, gramV vt g vr)]) m _
  unfold Tryz.f21
  dsimp only [Option.getD_some]
  have K : Kp Nothing m m := .refl m
  refine XP.seq ?_; refine XP.regionS ?_
  have hk1 := K.le
  refine RP.box rfl rfl rfl rfl fun M1 K1 B1 N1 => ?_
  have K := K.trans K1
  have B1o := B1
  have hg0 := hg.up K1
  refine RP.o1 (.assign rfl) rfl rfl ?_; refine RP.nil ?_; refine XP.seq ?_; refine XP.seq ?_; refine XP.regionS ?_; refine RP.o1 (.assign rfl) rfl rfl ?_; refine RP.nil ?_
  refine XP.block ?_  -- block 0
  refine XP.while (fun d t m1 => ∃ i t0, t = toT t0 [(3, .int .i64 (.ofNat i)), (1, .ptr m.next 0)] ∧ d = g.rules.length - i ∧ i ≤ g.rules.length ∧ (∀ (j : Nat) r, j < i → g.rules[j]? = some r → r.right.length ≤ 6) ∧ m1 = M1) ?_ g.rules.length _ _ ?_
  rotate_left
  · exact ⟨0, _, toT_less (.cons rfl (.cons rfl (.nil))), rfl, Nat.zero_le _, fun j r hj => absurd hj (Nat.not_lt_zero _), rfl⟩
  rintro d t M2 ⟨i, t0, rfl, rfl, hin, hsh, rfl⟩
  have B1 := B1o
  have hgM := hg0
  refine XP.seq ?_; refine XP.seq ?_; refine XP.regionS ?_; refine RP.o1 (.move rfl) rfl rfl ?_; refine RP.o1 (.fieldAddr rfl fa25_3) rfl rfl ?_
  refine RP.o1 (.load1 rfl lay23 (by first | (apply BoxIs.get; assumption; rfl) | (apply ElAt.get; assumption; rfl) | (apply ElAt.get0; assumption; rfl) | assumption)) rfl rfl ?_
  refine RP.o1 (.len rfl (rowLen23 hgM.r)) rfl rfl ?_; refine RP.o1 (.bin rfl rfl (by first | exact lss_nat | exact lss_is)) rfl rfl ?_; refine RP.nil ?_
  refine XP.condD rfl (fun hc8 => ?_) (fun hc8 => ?_)  -- if t8
  · refine XP.skip ?_; refine XP.seq ?_
    refine XP.block ?_  -- block 1
    refine XP.seq ?_
    obtain ⟨r, hr⟩ : ∃ r, g.rules[i]? = some r := ⟨g.rules[i]'hc8, List.getElem?_eq_getElem _⟩
    obtain ⟨b, o, c, vq, e5, _, E1, RQ, _⟩ := hgM.r.elem (.refl _) hr
    subst e5
    refine XP.regionS ?_; refine RP.o1 (.fieldAddr rfl fa25_3) rfl rfl ?_
    refine RP.o1 (.load1 rfl lay23 (by first | (apply BoxIs.get; assumption; rfl) | (apply ElAt.get; assumption; rfl) | (apply ElAt.get0; assumption; rfl) | assumption)) rfl rfl ?_
    refine RP.o1 (.move rfl) rfl rfl ?_; refine RP.o1 (.indexAddr rfl rfl ix23 (by assumption)) rfl rfl ?_; refine RP.o1 (.fieldAddr rfl fa42_1) rfl rfl ?_
    refine RP.o1 (.load1 rfl lay27 (by first | (apply BoxIs.get; assumption; rfl) | (apply ElAt.get; assumption; rfl) | (apply ElAt.get0; assumption; rfl) | assumption)) rfl rfl ?_
    refine RP.o1 (.len rfl (rowLen27 RQ)) rfl rfl ?_; refine RP.o1 (.bin rfl rfl gtr_is) rfl rfl ?_; refine RP.nil ?_
    refine XP.condD rfl (fun hc18 => ?_) (fun hc18 => ?_)  -- if t18
    · refine XP.seq ?_; refine XP.regionS ?_; refine RP.o1 (.assign rfl) rfl rfl ?_; refine RP.nil ?_
      first
      | exact XP.ret ⟨.inr rfl, _, _, oneRes rfl, true, rfl, K, fun h => by cases h⟩
      | exact XP.ret ⟨.inr rfl, _, _, oneRes rfl, _, rfl, K.trans K9, fun h => by
          have h3 := of_decide_eq_false h
          exact ⟨by omega, by omega, fun r hr => by obtain ⟨j, hj⟩ := List.getElem?_of_mem hr; exact hsh j r (by have := (List.getElem?_eq_some_iff.1 hj).1; omega) hj, by omega⟩⟩
    · refine XP.skip ?_; refine XP.regionS ?_; refine RP.o1 (.move rfl) rfl rfl ?_
      refine RP.o1 (.bin rfl rfl (by first | exact inc_is (by omega) | exact add_is (by omega) (by omega))) rfl rfl ?_
      refine RP.o1 (.assign rfl) rfl rfl ?_; refine RP.nil ?_
      refine ⟨g.rules.length - (i + 1), by omega, i + 1, _, toT_less (.cons rfl (.cons rfl (.nil))), rfl, by omega, fun j q hj hq => ?_, rfl⟩
      rcases Nat.lt_or_ge j i with h | h
      · exact hsh j q h hq
      · obtain rfl : j = i := by omega
        rw [hr] at hq; cases hq
        have h : ¬ (6 : Int) < Int.ofNat r.right.length := hc18
        have e : (Int.ofNat r.right.length : Int) = r.right.length := rfl
        omega
  · refine XP.exit ?_  -- 0
    refine XP.seq ?_
    obtain ⟨u, M9, hc23, K9, G9⟩ := call23 hS23 hgM hl
    have e0 : (Int.ofNat g.toks.length : Int) = g.toks.length := rfl
    have e1 : (Int.ofNat g.rules.length : Int) = g.rules.length := rfl
    have e2 : (Int.ofNat (leftsL g.rules).length : Int) = (leftsL g.rules).length := rfl
    refine XP.regionS ?_; refine RP.o1 (.fieldAddr rfl fa25_0) rfl rfl ?_
    refine RP.o1 (.load1 rfl lay22 (by first | (apply BoxIs.get; assumption; rfl) | (apply ElAt.get; assumption; rfl) | (apply ElAt.get0; assumption; rfl) | assumption)) rfl rfl ?_
    refine RP.o1 (.len rfl (rowLen22 hgM.t)) rfl rfl ?_; refine RP.o1 (.bin rfl rfl gtr_is) rfl rfl ?_; refine RP.o1 (.move rfl) rfl rfl ?_
    rcases Decidable.em ((12 : Int) < Int.ofNat g.toks.length) with hp23 | hp23
    · simp only [decide_eq_true hp23]
      refine RP.skip ⟨_,_,_,rfl,rfl,rfl,rfl⟩ rfl ?_; refine RP.skip ⟨_,_,_,rfl,rfl,rfl,rfl⟩ rfl ?_; refine RP.skip ⟨_,_,_,rfl,rfl,rfl,rfl⟩ rfl ?_; refine RP.skip ⟨_,_,_,rfl,rfl,rfl,rfl⟩ rfl ?_; refine RP.o1 (.pick (b := true) rfl rfl) rfl rfl ?_; refine RP.o1 (.move rfl) rfl rfl ?_; refine RP.skip ⟨_,_,_,rfl,rfl,rfl,rfl⟩ rfl ?_; refine RP.skip ⟨_,_,_,rfl,rfl,rfl,rfl⟩ rfl ?_; refine RP.skip ⟨_,_,_,rfl,rfl,rfl,rfl⟩ rfl ?_; refine RP.skip ⟨_,_,_,rfl,rfl,rfl,rfl⟩ rfl ?_; refine RP.o1 (.pick (b := true) rfl rfl) rfl rfl ?_; refine RP.o1 (.assign rfl) rfl rfl ?_; refine RP.nil ?_
      first
      | exact XP.ret ⟨.inr rfl, _, _, oneRes rfl, true, rfl, K, fun h => by cases h⟩
      | exact XP.ret ⟨.inr rfl, _, _, oneRes rfl, _, rfl, K.trans K9, fun h => by
          have h3 := of_decide_eq_false h
          exact ⟨by omega, by omega, fun r hr => by obtain ⟨j, hj⟩ := List.getElem?_of_mem hr; exact hsh j r (by have := (List.getElem?_eq_some_iff.1 hj).1; omega) hj, by omega⟩⟩
    · simp only [decide_eq_false hp23]
      refine RP.o1 (.fieldAddr rfl fa25_3) rfl ⟨_,_,_,rfl,rfl,rfl,rfl⟩ ?_
      refine RP.o1 (.load1 rfl lay23 (by first | (apply BoxIs.get; assumption; rfl) | (apply ElAt.get; assumption; rfl) | (apply ElAt.get0; assumption; rfl) | assumption)) rfl ⟨_,_,_,rfl,rfl,rfl,rfl⟩ ?_
      refine RP.o1 (.len rfl (rowLen23 hgM.r)) rfl ⟨_,_,_,rfl,rfl,rfl,rfl⟩ ?_; refine RP.o1 (.bin rfl rfl gtr_is) rfl ⟨_,_,_,rfl,rfl,rfl,rfl⟩ ?_; refine RP.o1 (.pick (b := false) rfl rfl) rfl rfl ?_; refine RP.o1 (.move rfl) rfl rfl ?_
      rcases Decidable.em ((30 : Int) < Int.ofNat g.rules.length) with hp29 | hp29
      · simp only [decide_eq_true hp29]
        refine RP.skip ⟨_,_,_,rfl,rfl,rfl,rfl⟩ rfl ?_; refine RP.skip ⟨_,_,_,rfl,rfl,rfl,rfl⟩ rfl ?_; refine RP.skip ⟨_,_,_,rfl,rfl,rfl,rfl⟩ rfl ?_; refine RP.skip ⟨_,_,_,rfl,rfl,rfl,rfl⟩ rfl ?_; refine RP.o1 (.pick (b := true) rfl rfl) rfl rfl ?_; refine RP.o1 (.assign rfl) rfl rfl ?_; refine RP.nil ?_
        first
        | exact XP.ret ⟨.inr rfl, _, _, oneRes rfl, true, rfl, K, fun h => by cases h⟩
        | exact XP.ret ⟨.inr rfl, _, _, oneRes rfl, _, rfl, K.trans K9, fun h => by
            have h3 := of_decide_eq_false h
            exact ⟨by omega, by omega, fun r hr => by obtain ⟨j, hj⟩ := List.getElem?_of_mem hr; exact hsh j r (by have := (List.getElem?_eq_some_iff.1 hj).1; omega) hj, by omega⟩⟩
      · simp only [decide_eq_false hp29]
        refine RP.o1 (.loadE rfl (by first | assumption | (apply BoxIs.el; assumption)) lay25 (by rfl)) rfl ⟨_,_,_,rfl,rfl,rfl,rfl⟩ ?_
        refine RP.op (.callS rfl rfl hc23) rfl ⟨_,_,_,rfl,rfl,rfl,rfl⟩ K9.le ?_; refine RP.o1 (.len rfl (rowLen27 G9.row)) rfl ⟨_,_,_,rfl,rfl,rfl,rfl⟩ ?_; refine RP.o1 (.bin rfl rfl gtr_is) rfl ⟨_,_,_,rfl,rfl,rfl,rfl⟩ ?_; refine RP.o1 (.pick (b := false) rfl rfl) rfl rfl ?_; refine RP.o1 (.assign rfl) rfl rfl ?_; refine RP.nil ?_
        first
        | exact XP.ret ⟨.inr rfl, _, _, oneRes rfl, true, rfl, K, fun h => by cases h⟩
        | exact XP.ret ⟨.inr rfl, _, _, oneRes rfl, _, rfl, K.trans K9, fun h => by
            have h3 := of_decide_eq_false h
            exact ⟨by omega, by omega, fun r hr => by obtain ⟨j, hj⟩ := List.getElem?_of_mem hr; exact hsh j r (by have := (List.getElem?_eq_some_iff.1 hj).1; omega) hj, by omega⟩⟩
end Go.Ev
end
