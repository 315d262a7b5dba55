/- The program's Build: what it comes to. What the program's states answer. Closed facts on the program: types and functions of the document (printed by programs). The document's words on items: less, put, the same. Rows that may be cut; append of rows. The document's Closure. The document's states: what they come to. Are all states just the document's? Yes. Words for grammars in memory: strings, tokens, rules by names. The document's small words on names. The document's lefts, long. -/
import Derived.Test.YtehbmncbojngnaaGreatDoorEvGh
import Derived.Test.YtehbmncbojngnaaGreatDoorEvGf
section
namespace Go.Ev
set_option linter.all false
open Go.Proofs
set_option maxRecDepth 10000
set_option maxHeartbeats 4000000
theorem ap69 : appendable Tryz.prog (some 69) = true := by kernel_rfl
theorem build71 {a b c d : Int} {e f g h : AV} {vb vo vn : Nat} {vc : Option Nat} {m : AMem} : aBuild Tryz.prog 71 [(0, .agg [.int .i64 a, .int .i64 b, .int .i64 c, .int .i64 d, e, f, g, h]), (1, .slice vb vo vn vc)] m = .mk (.agg [.int .i64 a, .int .i64 b, .int .i64 c, .int .i64 d, e, f, g, h, .slice vb vo vn vc, .nils, .nils]) m := by kernel_rfl
theorem build54e {m : AMem} : aBuild Tryz.prog 54 [] m = .mk (.agg [.int .i64 (.ofNat 0), .int .i64 (.ofNat 0)]) m := by kernel_rfl
abbrev buF : List Nat := [16, 32, 33, 34, 35, 42, 43, 44, 45, 46, 47, 48, 59, 60, 61, 62, 63, 73, 74]
theorem call16 {S : Sums} (hS : Plain S buF) (h64 : S 64 = some insW) {m : AMem} {s : SpV} {rs : List Rl} (hr : RulesIs m s.vr rs) (hB : Small rs) (h0 : ∃ r0, rs[0]? = some r0) (hT : s.toks ≤ 12) (hN : s.nts ≤ 10) :
    ∃ r m', CallTo Tryz.prog S 16 [s.v] m r m' ∧ Kp Nothing m m' ∧ ((∃ ba lv gv iv L I R, r = .tup [.ptr ba 0, .int .i64 (.ofNat 0)] ∧ AuSt s Nothing (m.next + 1) ba m' lv gv iv L R I ∧ (s.g rs).IsAuto (symsN s.n) L I R ∧ L.length ≤ 120 ∧ (∀ k ∈ L, Kern rs k)) ∨
      (r = .tup [.nilp, .int .i64 (.ofNat 6)] ∧ (s.g rs).Many (symsN s.n))) := by
  have hsn : s.n ≤ 23 := by show s.toks + 1 + s.nts ≤ 23; omega
  have hS33 : Plain S clF := fun f hf => hS f (by simp at hf ⊢; omega)
  have hS34 : Plain S [34, 46, 47, 48] := fun f hf => hS f (by simp at hf ⊢; omega)
  have hS35 := hS 35 (by decide)
  obtain ⟨i46, e46, s46⟩ := ei46
  obtain ⟨i68, e68, s68⟩ := ei68
  obtain ⟨i69, e69, s69⟩ := ei69
  obtain ⟨i28, e28, s28⟩ := ei28
  refine XP.call (hS 16 (by decide)) cd16 nt16 ?_
  show XP _ _ _ _ (toT .leaf [(0, s.v)]) m _
  unfold Tryz.f16
  dsimp only [Option.getD_some]
  have K : Kp Nothing m m := .refl m
  refine XP.seq ?_; refine XP.regionS ?_
  have hk1 := K.le
  refine RP.box rfl rfl rfl rfl fun M1 K1 B1 N1 => ?_
  have K := K.trans K1
  have hr0 := hr.up K1
  have B1o := B1
  refine RP.o1 (.assign rfl) rfl rfl ?_; refine RP.o1 (.assign rfl) rfl rfl ?_; refine RP.nil ?_; refine XP.seq ?_; refine XP.regionS ?_; refine RP.o1 (.loadE rfl (by first | assumption | (apply BoxIs.el; assumption)) lay31 (by rfl)) rfl rfl ?_
  refine RP.o1 (.build rfl build54e) rfl rfl ?_; refine RP.slice1 encIt e46 s46 rfl rfl (fill46 (x := (0, 0))) rfl rfl fun Ma Ka Ra _ Na => ?_; refine RP.slice1 (x := (⟨.slice M1.next 0 1 (some 1), rfl⟩ : PV)) encPV e68 s68 rfl rfl (fill68 (a := .slice M1.next 0 1 (some 1)) rfl) rfl rfl fun Mb Kb Rb Ob Nb => ?_
  have K := K.trans (Ka.trans Kb)
  have B1 := B1.up (Ka.trans Kb)
  refine RP.o1 (.build rfl build71) rfl rfl ?_
  have hk2 := K.le
  have lt1 := B1.lt
  refine RP.box rfl rfl rfl rfl fun M2 K2 B13 N2 => ?_
  have K := K.trans K2
  have B1 := B1.up K2
  have KA0 : Kp Nothing M1 M2 := (Ka.trans Kb).trans K2
  have B1 := B1o.up KA0
  have au0 : AuSt s Nothing M1.next Mb.next M2 (.slice Ma.next 0 1 (some 1)) .nils .nils [[(0, 0)]] [] [] := by
    have hRb := Rb.keep K2 id
    have hRa : RowIs itC 2 M2 (.slice M1.next 0 1 (some 1)) [((0 : Int), (0 : Int))] := .inr (.inr ⟨M1.next, 0, some 1, rfl, (Ra.keep Kb id).keep K2 id⟩)
    refine ⟨B13, ⟨[⟨.slice M1.next 0 1 (some 1), rfl⟩], .inr ⟨Ma.next, some 1, rfl, by omega, hRb, .inr rfl, AMem.own_of Ob (K2.old _ Rb.lt id)⟩, rfl, fun i a x ha hx => ?_⟩, Rows.nil, Rows.nil, ?_, ?_, ?_, ?_, ?_, ?_, by omega, id, fun _ _ => id, fun _ _ => id, fun _ _ => id, fun _ x => x.elim⟩
    · obtain rfl : i = 0 := by have := (List.getElem?_eq_some_iff.1 ha).1; simp at this; omega
      cases ha; cases hx
      refine ⟨hRa, fun b hb d => ?_⟩
      obtain ⟨o, n, c, e⟩ := hb
      injection e with e
      rcases d with d | ⟨_, _, _, d⟩ | ⟨_, _, _, d⟩ | ⟨_, _, _, d⟩ | d
      · omega
      · injection d with d; omega
      · cases d
      · cases d
      · exact d
    · rintro ⟨_, _, _, e⟩; injection e with e; omega
    · rintro ⟨_, _, _, e⟩; cases e
    · rintro ⟨_, _, _, e⟩; cases e
    · rintro b _ ⟨_, _, _, e⟩; cases e
    · rintro b _ ⟨_, _, _, e⟩; cases e
    · rintro b _ ⟨_, _, _, e⟩; cases e
  have hkn0 : ∀ k ∈ ([[(0, 0)]] : List (List (Int × Int))), Kern rs k := fun k hk => by
    rw [List.mem_singleton] at hk; subst hk
    obtain ⟨r0, h0⟩ := h0
    exact ⟨fun x hx => by rw [List.mem_singleton] at hx; subst hx; exact ⟨0, 0, r0, rfl, h0, Nat.zero_le _⟩, by simp, by simp⟩
  refine RP.o1 (.assign rfl) rfl rfl ?_; refine RP.nil ?_; refine XP.seq ?_; refine XP.seq ?_; refine XP.regionS ?_; refine RP.o1 (.assign rfl) rfl rfl ?_; refine RP.nil ?_
  refine XP.block ?_  -- block 0
  refine XP.while (fun d t m1 => ∃ i t0 lv gv iv L G I, t = toT t0 [(5, .int .i64 (.ofNat i)), (4, .ptr Mb.next 0), (1, .ptr m.next 0)] ∧ d = 121 - i ∧ Kp Nothing M1 m1 ∧ AuSt s Nothing M1.next Mb.next m1 lv gv iv L G I ∧ (s.g rs).Steps (symsN s.n) i L I G ∧ L.length ≤ 120 ∧ (∀ k ∈ L, Kern rs k) ∧ i ≤ L.length) ?_ 121 _ _ ?_
  rotate_left
  · exact ⟨0, _, _, _, _, _, _, _, toT_less (.cons rfl (.cons rfl (.cons rfl (.nil)))), rfl, KA0, au0, .zero, by decide, hkn0, Nat.zero_le _⟩
  rintro d t M3 ⟨i, t0, lv, gv, iv, L, G, I, rfl, rfl, KA, au, hst, hL, hkn, hiL⟩
  clear au0 KA0 hkn0
  have K := K1.trans KA
  have B1 := B1o.up KA
  have hrM := hr0.up KA
  have hB2 := au.B
  have hKA := KA.le
  refine XP.seq ?_; refine XP.seq ?_; refine XP.regionS ?_; refine RP.o1 (.move rfl) rfl rfl ?_; refine RP.o1 (.move rfl) rfl rfl ?_; refine RP.o1 (.nilCheck rfl) rfl rfl ?_; refine RP.o1 (.fieldAddr rfl fa71_1) rfl rfl ?_
  refine RP.o1 (.load1 rfl lay68 (by first | (apply BoxIs.get; assumption; rfl) | (apply ElAt.get; assumption; rfl) | (apply ElAt.get0; assumption; rfl) | assumption)) rfl rfl ?_
  refine RP.o1 (.len rfl (rowLenR au.hl)) rfl rfl ?_; refine RP.o1 (.bin rfl rfl (by first | exact lss_nat | exact lss_is)) rfl rfl ?_; refine RP.nil ?_
  refine XP.condD rfl (fun hc20 => ?_) (fun hc20 => ?_)  -- if t20
  · refine XP.skip ?_; refine XP.seq ?_
    refine XP.block ?_  -- block 1
    refine XP.seq ?_
    obtain ⟨k, hk1⟩ : ∃ k, L[i]? = some k := ⟨L[i]'hc20, List.getElem?_eq_getElem _⟩
    obtain ⟨bl, ol, cl, ka, rfl, hil, E1, Rk, dk⟩ := au.hl.elem hk1
    have hkern := hkn k (List.mem_of_getElem? hk1)
    obtain ⟨cr, M5, hc33, c, K5, Rc, icl, itc, fc⟩ := call33 hS33 h64 (toks := .ofNat s.toks) (nts := .ofNat s.nts) (start := s.start) (expect := s.expect) (vn := s.vn) (vl := s.vl) (va := s.va) hrM Rk hkern.items hkern.nodup hkern.ne hB
    have au5 := au.up K5
    have hB5 := au5.B
    obtain ⟨rawI, hrawI, _⟩ := au.hi.len
    have hIl : I.length = i := hst.lens.1
    have hGl : G.length = i := hst.lens.2
    have hK5 := K5.le
    obtain ⟨u, M6, ha, hm6, K6, new6, pu, R6⟩ := au5.hi.app e68 s68 ap68 Rc (fun b hb d => by obtain ⟨o, n, q, e⟩ := hb; have := fc b o n q e; have := au.under d; omega) (fun b h => .inr (.inr (.inr (.inl h)))) (by omega) (by omega)
    have B6 := hB5.keep K6 au5.ni
    refine XP.drawnS (ms := [0, 0, 2, 6, 14, 0, 0, 64, 192, 448, 0, 1984, 4032, 8160, 16352, 32766, 65535, 131071, 262143]) (by kernel_rfl) ?_; refine DP.pure (.move rfl) rfl rfl rfl ?_; refine DP.pure (.move rfl) rfl rfl rfl ?_; refine DP.pure (.nilCheck rfl) rfl rfl rfl ?_; refine DP.pure (.fieldAddr rfl fa71_3) rfl rfl rfl ?_
    refine DP.read (fun _ => op_load1 (ev_is rfl) lay68 (by first | (apply BoxIs.get; assumption; rfl) | (apply ElAt.get; assumption; rfl) | (apply ElAt.get0; assumption; rfl) | assumption)) rfl rfl rfl (fun _ => op_load_leaf) (.inl (by kernel_rfl)) (fun _ => cuts_nil) ?_
    refine DP.read (fun _ => op_loadE rfl (by first | assumption | (apply BoxIs.el; assumption)) lay31 (by rfl)) rfl rfl rfl (fun _ => op_load_leaf) (.inl (by kernel_rfl)) (fun _ => cuts_nil) ?_
    refine DP.pure (.move rfl) rfl rfl rfl ?_; refine DP.pure (.nilCheck rfl) rfl rfl rfl ?_; refine DP.pure (.fieldAddr rfl fa71_1) rfl rfl rfl ?_
    refine DP.read (fun _ => op_load1 (ev_is rfl) lay68 (by first | (apply BoxIs.get; assumption; rfl) | (apply ElAt.get; assumption; rfl) | (apply ElAt.get0; assumption; rfl) | assumption)) rfl rfl rfl (fun _ => op_load_leaf) (.inl (by kernel_rfl)) (fun _ => cuts_nil) ?_
    refine DP.pure (.move rfl) rfl rfl rfl ?_; refine DP.pure (.indexAddr rfl rfl ix68 (by assumption)) rfl rfl rfl ?_
    refine DP.read (fun _ => op_load1 (ev_is rfl) lay46 (by first | (apply BoxIs.get; assumption; rfl) | (apply ElAt.get; assumption; rfl) | (apply ElAt.get0; assumption; rfl) | assumption)) rfl rfl rfl (fun _ => op_load_leaf) (.inl (by kernel_rfl)) (fun _ => cuts_nil) ?_
    refine DP.heavy (.callS rfl rfl hc33) rfl rfl rfl (by kernel_rfl) (by kernel_rfl) K5.le (pk_drop (by kernel_rfl) (pk_drop (by kernel_rfl) (pk_drop (by kernel_rfl) (pk_keep (by kernel_rfl) (fun call => reads_of (op_load1 (ev_is rfl) lay68 (hB5.get rfl)) (eqV_row hrawI)) pk_nil)))) ?_; refine DP.make (.buildSlice rfl e68 (by rw [s68]; rfl) (by rw [s68]; exact fill68 Rc.plain)) rfl rfl rfl ?_
    rw [s68]
    refine DP.heavy (OpTo.of fun _ => op_append rfl rfl ha) rfl rfl rfl (by kernel_rfl) (by kernel_rfl) hm6 (pk_drop (by kernel_rfl) pk_nil) ?_; refine DP.pure (.nilCheck rfl) rfl rfl rfl ?_; refine DP.pure (.fieldAddr rfl fa71_3) rfl rfl rfl ?_; refine DP.storeP rfl rfl lay68 pu B6 rfl rfl rfl (by kernel_rfl) (by kernel_rfl) (fun _ => pk_nil) fun M4 K4 B6 N4 => ?_
    have au7 := au5.items K6 K4 B6 new6 R6
    have KB : Kp Nothing M1 M4 := (KA.trans K5).young ((K6.mono fun b _ h => (.inr (.inr (.inr (.inl h))) : DD Nothing Mb.next _ gv iv b)).trans (K4.mono fun b _ e => .inl e)) fun b d => au5.low d
    have B1 := B1o.up KB
    refine DP.nil ?_; refine XP.seq ?_; refine XP.regionS ?_; refine RP.o1 (.fieldAddr rfl fa31_0) rfl rfl ?_
    refine RP.o1 (.load1 rfl lay3 (by first | (apply BoxIs.get; assumption; rfl) | (apply ElAt.get; assumption; rfl) | (apply ElAt.get0; assumption; rfl) | assumption)) rfl rfl ?_
    refine RP.o1 (.bin rfl rfl (by first | exact inc_is (by omega) | exact add_is (by omega) (by omega))) rfl rfl ?_
    refine RP.o1 (.fieldAddr rfl fa31_1) rfl rfl ?_
    refine RP.o1 (.load1 rfl lay3 (by first | (apply BoxIs.get; assumption; rfl) | (apply ElAt.get; assumption; rfl) | (apply ElAt.get0; assumption; rfl) | assumption)) rfl rfl ?_
    refine RP.o1 (.bin rfl rfl (addN_is (by omega))) rfl rfl ?_; refine RP.makeInts e28 s28 rfl rfl (by omega) rfl rfl fun Mr Kr BR Nr => ?_
    have auR := au7.own Kr Nr
    have KR := KB.trans Kr
    refine RP.o1 (.assign rfl) rfl rfl ?_; refine RP.nil ?_; refine XP.seq ?_; refine XP.seq ?_; refine XP.regionS ?_; refine RP.o1 (.move rfl) rfl rfl ?_; refine RP.o1 (.len rfl len28) rfl rfl ?_; refine RP.o1 (.move rfl) rfl rfl ?_; refine RP.nil ?_
    refine XP.block ?_  -- block 2
    refine XP.while (fun d t m1 => ∃ j t0 lv2 L2 r, t = toT t0 [(50, .int .i64 (.ofNat j)), (49, .int .i64 (.ofNat s.n)), (6, .slice M4.next 0 s.n (some s.n)), (5, .int .i64 (.ofNat i)), (4, .ptr Mb.next 0), (1, .ptr m.next 0)] ∧ d = s.n - j ∧ j ≤ s.n ∧ Kp Nothing M1 m1 ∧ AuSt s (fun b => b = M4.next) M1.next Mb.next m1 lv2 gv u L2 G (I ++ [c]) ∧ (s.g rs).row c ((symsN s.n).take j) L = some (r, L2) ∧ BoxIs m1 M4.next ((r ++ List.replicate (s.n - j) 0).map fun x => AV.int .i64 x) ∧ L2.length ≤ 120 ∧ (∀ k ∈ L2, Kern rs k)) ?_ s.n _ _ ?_
    rotate_left
    · exact ⟨0, _, _, L, [], toT_less (.cons rfl (.cons rfl (.cons rfl (.cons rfl (.cons rfl (.cons rfl (.nil))))))), rfl, Nat.zero_le _, KR, auR, rfl, BR, hL, hkn⟩
    rintro d t M5 ⟨j, t0, lv2, L2, r, rfl, rfl, hjn, KC, au, hrow, BR, hL2, hkn2⟩
    have K := K1.trans KC
    have B1 := B1o.up KC
    have hrM := hr0.up KC
    have hB2 := au.B
    have hKC := KC.le
    have hrl : r.length = j := by have := (Lr.row_to hrow).1; rw [this]; simp [symsN]; omega
    refine XP.seq ?_; refine XP.regionS ?_; refine RP.o1 (.bin rfl rfl (by first | exact lss_nat | exact lss_is)) rfl rfl ?_; refine RP.nil ?_; refine XP.seq ?_
    refine XP.condD rfl (fun hc51 => ?_) (fun hc51 => ?_)  -- if t51
    · refine XP.skip ?_; refine XP.seq ?_
      refine XP.block ?_  -- block 3
      refine XP.seq ?_; refine XP.regionS ?_; refine RP.o1 (.move rfl) rfl rfl ?_; refine RP.o1 (.assign rfl) rfl rfl ?_; refine RP.nil ?_; refine XP.seq ?_
      have hIc : (I ++ [c])[i]? = some c := by rw [List.getElem?_append_right (by omega), hIl, Nat.sub_self]; rfl
      obtain ⟨bi, oi, ci, ra, rfl, hii, E2, Rc2, _⟩ := au.hi.elem hIc
      obtain ⟨wb, N1', hc35, K35, R35, f35⟩ := call35 hS35 (toks := .ofNat s.toks) (nts := .ofNat s.nts) (start := s.start) (expect := s.expect) (sym := .ofNat j) (vn := s.vn) (vl := s.vl) (va := s.va) hrM Rc2 (by have := items_few hB itc (srt_nodup icl.srt); omega) itc (fun q hq => by have := hB.short q hq; omega)
      have au2 := au.up K35
      have hK35 := K35.le
      have hkb : behindF rs (.ofNat j) c = (s.g rs).beh c (.ofNat j) := beh_same _ _
      have hkk : behindF rs (.ofNat j) c ≠ [] → Kern rs (behindF rs (.ofNat j) c) := fun hne => ⟨beh_items itc, by rw [hkb]; exact srt_nodup ((s.g rs).beh_srt _ icl.srt), hne⟩
      obtain ⟨rv, N2', hc34, lv3, rfl, K34, B34, f34, R34⟩ := call34 hS34 au2.B au2.hl (fun b h => .inr (.inl h)) (.inl rfl) au2.nl R35 (fun b hb d => by obtain ⟨o, n, q, e⟩ := hb; have := f35 b o n q e; have := au.under d; omega) (by omega) (by omega) (fun x hx => by have := hkn2 x hx; have := items_few hB this.items this.nodup; omega)
      have au3 := au2.state K34 B34 f34 R34
      have BR2 := (BR.up K35).keep K34 (by
        rintro (e | e)
        · exact au2.xb e.symm
        · exact au2.xl _ e rfl)
      refine XP.drawnS (ms := [0, 0, 0, 0, 0, 16, 48, 112, 0, 496, 1008, 0, 4088, 8188, 16383, 32767]) (by kernel_rfl) ?_; refine DP.pure (.move rfl) rfl rfl rfl ?_; refine DP.pure (.move rfl) rfl rfl rfl ?_; refine DP.pure (.move rfl) rfl rfl rfl ?_; refine DP.read (fun _ => op_loadE rfl (by first | assumption | (apply BoxIs.el; assumption)) lay31 (by rfl)) rfl rfl rfl (fun _ => op_load_leaf) (.inl (by kernel_rfl)) (fun _ => cuts_nil) ?_
      refine DP.pure (.move rfl) rfl rfl rfl ?_; refine DP.pure (.nilCheck rfl) rfl rfl rfl ?_; refine DP.pure (.fieldAddr rfl fa71_3) rfl rfl rfl ?_
      refine DP.read (fun _ => op_load1 (ev_is rfl) lay68 (by first | (apply BoxIs.get; assumption; rfl) | (apply ElAt.get; assumption; rfl) | (apply ElAt.get0; assumption; rfl) | assumption)) rfl rfl rfl (fun _ => op_load_leaf) (.inl (by kernel_rfl)) (fun _ => cuts_nil) ?_
      refine DP.pure (.move rfl) rfl rfl rfl ?_; refine DP.pure (.indexAddr rfl rfl ix68 (by assumption)) rfl rfl rfl ?_
      refine DP.read (fun _ => op_load1 (ev_is rfl) lay46 (by first | (apply BoxIs.get; assumption; rfl) | (apply ElAt.get; assumption; rfl) | (apply ElAt.get0; assumption; rfl) | assumption)) rfl rfl rfl (fun _ => op_load_leaf) (.inl (by kernel_rfl)) (fun _ => cuts_nil) ?_
      refine DP.pure (.move rfl) rfl rfl rfl ?_; refine DP.heavy (.callS rfl rfl hc35) rfl rfl rfl (by kernel_rfl) (by kernel_rfl) K35.le (pk_drop (by kernel_rfl) (pk_drop (by kernel_rfl) (pk_drop (by kernel_rfl) pk_nil))) ?_; refine DP.heavy (.callS rfl rfl hc34) rfl rfl rfl (by kernel_rfl) (by kernel_rfl) K34.le pk_nil ?_; refine DP.pure (.indexAddr rfl rfl ix28 (by assumption)) rfl rfl rfl ?_; refine DP.store rfl rfl lay3 rfl BR2 (Nat.ble_eq_true_of_le (by simp; omega)) rfl rfl rfl (by kernel_rfl) (by kernel_rfl) (fun _ => pk_nil) fun M6 K6 BR2 N6 => ?_
      have BR3 := BR2
      rw [show (AV.int .i64 (Lr.state L2 (behindF rs (.ofNat j) c)).1).cells = [AV.int .i64 (Lr.state L2 (behindF rs (.ofNat j) c)).1] from rfl, setL_row hrl (by omega)] at BR3
      have au4 := au3.keepX K6
      have KD : Kp Nothing M1 M6 := (KC.trans K35).young ((K34.mono fun b _ h => (by
          rcases h with h | h
          · exact .inl h
          · exact .inr (.inl h) : DD (fun b => b = M4.next) Mb.next lv2 gv _ b)).trans (K6.mono fun b _ e => (.inr (.inr (.inr (.inr e))) : DD (fun b => b = M4.next) Mb.next lv2 gv _ b))) fun b d => au2.low d
      refine DP.nil ?_; refine XP.seq ?_; refine XP.regionS ?_; refine RP.o1 (.move rfl) rfl rfl ?_; refine RP.o1 (.move rfl) rfl rfl ?_; refine RP.o1 (.indexAddr rfl rfl ix28 (by assumption)) rfl rfl ?_; refine RP.o1 (.load1 rfl lay3 (BR3.get (row_at hrl))) rfl rfl ?_; refine RP.o1 (.bin rfl rfl geq_is) rfl rfl ?_; refine RP.nil ?_
      refine XP.condN rfl (fun hc72 => ?_) (fun hc72 => ?_)  -- if t72
      · refine XP.skip ?_; refine XP.regionS ?_
        refine RP.o1 (.bin rfl rfl (by first | exact inc_is (by omega) | exact add_is (by omega) (by omega))) rfl rfl ?_
        refine RP.o1 (.move rfl) rfl rfl ?_; refine RP.nil ?_
        have hs2 : Lr.state L2 ((s.g rs).beh c (.ofNat j)) = ((Lr.state L2 (behindF rs (.ofNat j) c)).1, (Lr.state L2 (behindF rs (.ofNat j) c)).2) := by rw [hkb]
        refine ⟨s.n - (j + 1), by omega, j + 1, _, lv3, _, r ++ [_], toT_less (.cons rfl (.cons rfl (.cons rfl (.cons rfl (.cons rfl (.cons rfl (.nil))))))), rfl, by omega, KD, au4, ?_, BR3, state_len hL2 hc72, state_kern hkn2 hkk⟩
        rw [symsN_take (by omega)]
        exact row_snoc hrow hs2 hc72
      · refine XP.seq ?_; refine XP.regionS ?_; refine RP.o1 (.assign rfl) rfl rfl ?_; refine RP.o1 (.assign rfl) rfl rfl ?_; refine RP.nil ?_
        have hs2 : Lr.state L2 ((s.g rs).beh c (.ofNat j)) = ((Lr.state L2 (behindF rs (.ofNat j) c)).1, (Lr.state L2 (behindF rs (.ofNat j) c)).2) := by rw [hkb]
        refine XP.ret ⟨.inr rfl, _, _, twoRes rfl rfl, K1.trans KD, .inr ⟨rfl, i, L, I, G, k, c, hst, hk1, icl, ?_⟩⟩
        rw [symsN_cut (n := s.n) (j := j) (by omega)]
        exact row_stop hrow hs2 hc72
    · refine XP.exit ?_  -- 2
      obtain rfl : j = s.n := by omega
      have auF := au.free
      rw [Nat.sub_self, List.replicate_zero, List.append_nil] at BR
      rw [show (symsN s.n).take s.n = symsN s.n from List.take_of_length_le (by simp [symsN])] at hrow
      have hRr := BR.row (c := some s.n)
      rw [hrl] at hRr
      obtain ⟨ug, Mg, hag, hmg, Kg, newg, pug, Rg⟩ := auF.hg.app e69 s69 ap69 hRr (fun b hb d => by
        obtain ⟨o, n, q, e⟩ := hb
        injection e with e
        subst e
        rcases d with d | d | d | d | d
        · exact au.xb d.symm
        · exact au.xl _ d rfl
        · exact au.xg _ d rfl
        · exact au.xi _ d rfl
        · exact d) (fun b h => .inr (.inr (.inl h))) (by omega) (by omega)
      have Bg := auF.B.keep Kg auF.ng
      refine XP.regionS ?_; refine RP.o1 (.move rfl) rfl rfl ?_; refine RP.o1 (.move rfl) rfl rfl ?_; refine RP.o1 (.nilCheck rfl) rfl rfl ?_; refine RP.o1 (.fieldAddr rfl fa71_2) rfl rfl ?_
      refine RP.o1 (.load1 rfl lay69 (by first | (apply BoxIs.get; assumption; rfl) | (apply ElAt.get; assumption; rfl) | (apply ElAt.get0; assumption; rfl) | assumption)) rfl rfl ?_
      refine RP.o1 (.move rfl) rfl rfl ?_; refine RP.op (.buildSlice rfl e69 (by rw [s69]; rfl) (by rw [s69]; exact fill68 hRr.plain)) rfl rfl (Nat.le_succ _) ?_
      rw [s69]
      refine RP.op (OpTo.of fun _ => op_append rfl rfl hag) rfl rfl hmg ?_; refine RP.o1 (.nilCheck rfl) rfl rfl ?_; refine RP.o1 (.fieldAddr rfl fa71_2) rfl rfl ?_; refine RP.storeP rfl rfl lay69 pug Bg rfl rfl rfl fun M7 K7 Bg N7 => ?_
      have auG := auF.goes Kg K7 Bg newg Rg
      have KG : Kp Nothing M1 M7 := KC.young ((Kg.mono fun b _ h => (.inr (.inr (.inl h)) : DD Nothing Mb.next lv2 gv u b)).trans (K7.mono fun b _ e => .inl e)) fun b d => auF.low d
      refine RP.nil ?_; refine XP.regionS ?_; refine RP.o1 (.move rfl) rfl rfl ?_
      refine RP.o1 (.bin rfl rfl (by first | exact inc_is (by omega) | exact add_is (by omega) (by omega))) rfl rfl ?_
      refine RP.o1 (.assign rfl) rfl rfl ?_; refine RP.nil ?_
      have hpre := (Lr.row_scan hrow).2.2.length_le
      exact ⟨121 - (i + 1), by omega, i + 1, _, lv2, ug, u, L2, G ++ [r], I ++ [c], toT_less (.cons rfl (.cons rfl (.cons rfl (.nil)))), rfl, KG, auG, hst.succ hk1 icl hrow, hL2, hkn2, by omega⟩
  · refine XP.exit ?_  -- 0
    refine XP.seq ?_; refine XP.regionS ?_; refine RP.o1 (.move rfl) rfl rfl ?_; refine RP.o1 (.assign rfl) rfl rfl ?_; refine RP.o1 (.assign rfl) rfl rfl ?_; refine RP.nil ?_
    obtain rfl : i = L.length := by omega
    refine XP.ret ⟨.inr rfl, _, _, twoRes rfl rfl, K, .inl ⟨Mb.next, lv, gv, iv, L, I, G, rfl, ?_, ⟨hst⟩, hL, hkn⟩⟩
    rw [← N1]; exact au
end Go.Ev
end
section
namespace Go.Ev
set_option linter.all false
open Go.Proofs
set_option maxRecDepth 10000
theorem call12 {S : Sums} (hS : Plain S [12]) {m : AMem} {s : SpV} {X : Nat → Prop} {lo ba : Nat} {lv gv iv : AV} {L : List (List (Int × Int))} {G : List (List Int)} {I : List (List (Int × Int))} (au : AuSt s X lo ba m lv gv iv L G I) :
    CallTo Tryz.prog S 12 [.ptr ba 0] m (.int .i64 (.ofNat L.length)) m := by
  suffices H : ∃ r m', CallTo Tryz.prog S 12 [.ptr ba 0] m r m' ∧ r = .int .i64 (.ofNat L.length) ∧ m' = m by
    obtain ⟨r, m', h, rfl, rfl⟩ := H
    exact h
  have hB := au.B
  refine XP.call (hS 12 (by decide)) cd12 nt12 ?_
  show XP _ _ _ _ (toT .leaf [(0, .ptr ba 0)]) m _
  unfold Tryz.f12
  dsimp only [Option.getD_some]
  have K : Kp Nothing m m := .refl m
  refine XP.seq ?_; refine XP.regionS ?_; refine RP.o1 (.assign rfl) rfl rfl ?_; refine RP.nil ?_; refine XP.seq ?_; refine XP.seq ?_; refine XP.regionS ?_; refine RP.o1 (.move rfl) rfl rfl ?_; refine RP.o1 (.bin (v := .bool false) rfl rfl nil44) rfl rfl ?_; refine RP.nil ?_
  refine XP.condS false rfl ?_  -- if t4
  refine XP.skip ?_; refine XP.seq ?_; refine XP.regionS ?_; refine RP.o1 (.move rfl) rfl rfl ?_; refine RP.o1 (.nilCheck rfl) rfl rfl ?_; refine RP.o1 (.fieldAddr rfl fa71_1) rfl rfl ?_
  refine RP.o1 (.load1 rfl lay68 (by first | (apply BoxIs.get; assumption; rfl) | (apply ElAt.get; assumption; rfl) | (apply ElAt.get0; assumption; rfl) | assumption)) rfl rfl ?_
  refine RP.o1 (.len rfl (rowLenR au.hl)) rfl rfl ?_; refine RP.o1 (.assign rfl) rfl rfl ?_; refine RP.nil ?_
  exact XP.ret ⟨.inr rfl, _, _, oneRes rfl, rfl, rfl⟩
theorem call31 {S : Sums} (hS : Plain S [12, 31]) {m : AMem} {s : SpV} {X : Nat → Prop} {lo ba : Nat} {lv gv iv : AV} {L : List (List (Int × Int))} {G : List (List Int)} {I : List (List (Int × Int))} (au : AuSt s X lo ba m lv gv iv L G I) (x : Int) :
    CallTo Tryz.prog S 31 [.ptr ba 0, .int .i64 x] m (.bool (decide (0 ≤ x ∧ x < Int.ofNat L.length))) m := by
  suffices H : ∃ r m', CallTo Tryz.prog S 31 [.ptr ba 0, .int .i64 x] m r m' ∧ r = .bool (decide (0 ≤ x ∧ x < Int.ofNat L.length)) ∧ m' = m by
    obtain ⟨r, m', h, rfl, rfl⟩ := H
    exact h
  have hS12 : Plain S [12] := fun f hf => hS f (by simp at hf ⊢; omega)
  refine XP.call (hS 31 (by decide)) cd31 nt31 ?_
  show XP _ _ _ _ (toT .leaf [(1, .int .i64 x), (0, .ptr ba 0)]) m _
  unfold Tryz.f31
  dsimp only [Option.getD_some]
  have K : Kp Nothing m m := .refl m
  refine XP.seq ?_; refine XP.regionS ?_; refine RP.o1 (.assign rfl) rfl rfl ?_; refine RP.nil ?_; refine XP.seq ?_; refine XP.regionS ?_; refine RP.o1 (.move rfl) rfl rfl ?_; refine RP.o1 (.bin rfl rfl geq_is) rfl rfl ?_; refine RP.o1 (.move rfl) rfl rfl ?_
  rcases Decidable.em (x < 0) with hp7 | hp7
  · simp only [decide_eq_true hp7]; simp only [Bool.not_true]
    refine RP.skip ⟨_,_,_,rfl,rfl,rfl,rfl⟩ rfl ?_; refine RP.skip ⟨_,_,_,rfl,rfl,rfl,rfl⟩ rfl ?_; refine RP.skip ⟨_,_,_,rfl,rfl,rfl,rfl⟩ rfl ?_; refine RP.skip ⟨_,_,_,rfl,rfl,rfl,rfl⟩ rfl ?_; refine RP.o1 (.pick (b := false) rfl rfl) rfl rfl ?_; refine RP.o1 (.assign rfl) rfl rfl ?_; refine RP.nil ?_
    exact XP.ret ⟨.inr rfl, _, _, oneRes rfl, by rw [decide_eq_false (fun h => by omega)]; rfl, rfl⟩
  · simp only [decide_eq_false hp7]; simp only [Bool.not_false]
    refine RP.o1 (.move rfl) rfl ⟨_,_,_,rfl,rfl,rfl,rfl⟩ ?_; refine RP.o1 (.move rfl) rfl ⟨_,_,_,rfl,rfl,rfl,rfl⟩ ?_; refine RP.o1 (.callS rfl rfl (call12 hS12 au)) rfl ⟨_,_,_,rfl,rfl,rfl,rfl⟩ ?_; refine RP.o1 (.bin rfl rfl (by first | exact lss_nat | exact lss_is)) rfl ⟨_,_,_,rfl,rfl,rfl,rfl⟩ ?_; refine RP.o1 (.pick (b := true) rfl rfl) rfl rfl ?_; refine RP.o1 (.assign rfl) rfl rfl ?_; refine RP.nil ?_
    exact XP.ret ⟨.inr rfl, _, _, oneRes rfl, by congr 1; exact decide_eq_decide.2 ⟨fun h => ⟨by omega, h⟩, fun h => h.2⟩, rfl⟩
theorem call13 {S : Sums} (hS : Plain S [12, 13, 31, 32]) {m : AMem} {s : SpV} {X : Nat → Prop} {lo ba : Nat} {lv gv iv : AV} {L : List (List (Int × Int))} {G : List (List Int)} {I : List (List (Int × Int))} (au : AuSt s X lo ba m lv gv iv L G I) (hl : I.length = L.length) (hs : ∀ k ∈ L, k.length ≤ 1048576) (x : Int) :
    ∃ r m', CallTo Tryz.prog S 13 [.ptr ba 0, .int .i64 x] m r m' ∧ Kp Nothing m m' ∧ RowIs itC 2 m' r (if 0 ≤ x then (L[x.toNat]?).getD [] else []) := by
  have hS31 : Plain S [12, 31] := fun f hf => hS f (by simp at hf ⊢; omega)
  have hB := au.B
  refine XP.call (hS 13 (by decide)) cd13 nt13 ?_
  show XP _ _ _ _ (toT .leaf [(1, .int .i64 x), (0, .ptr ba 0)]) m _
  unfold Tryz.f13
  dsimp only [Option.getD_some]
  have K : Kp Nothing m m := .refl m
  refine XP.seq ?_; refine XP.regionS ?_; refine RP.o1 (.assign rfl) rfl rfl ?_; refine RP.nil ?_; refine XP.seq ?_; refine XP.seq ?_; refine XP.regionS ?_; refine RP.o1 (.move rfl) rfl rfl ?_; refine RP.o1 (.move rfl) rfl rfl ?_; refine RP.o1 (.callS rfl rfl (call31 hS31 au x)) rfl rfl ?_; refine RP.o1 (.not_ rfl) rfl rfl ?_; refine RP.nil ?_
  refine XP.condN rfl (fun hc8 => ?_) (fun hc8 => ?_)  -- if t8
  · refine XP.skip ?_; refine XP.seq ?_
    obtain ⟨i, rfl⟩ : ∃ i : Nat, x = Int.ofNat i := ⟨x.toNat, by have := hc8.1; exact (Int.toNat_of_nonneg this).symm⟩
    have hi : i < L.length := Int.ofNat_lt.1 hc8.2
    obtain ⟨k, hk⟩ : ∃ k, L[i]? = some k := ⟨L[i]'(by omega), List.getElem?_eq_getElem _⟩
    obtain ⟨b, off, cap, a, rfl, hi2, E1, Rk, _⟩ := au.hl.elem hk
    obtain ⟨u, m', hc, K2, R, _, _⟩ := call32 (hS 32 (by decide)) Rk (hs k (List.mem_of_getElem? hk))
    refine XP.regionS ?_; refine RP.o1 (.move rfl) rfl rfl ?_; refine RP.o1 (.nilCheck rfl) rfl rfl ?_; refine RP.o1 (.fieldAddr rfl fa71_1) rfl rfl ?_
    refine RP.o1 (.load1 rfl lay68 (by first | (apply BoxIs.get; assumption; rfl) | (apply ElAt.get; assumption; rfl) | (apply ElAt.get0; assumption; rfl) | assumption)) rfl rfl ?_
    refine RP.o1 (.move rfl) rfl rfl ?_; refine RP.o1 (.indexAddr rfl rfl ix68 (by assumption)) rfl rfl ?_
    refine RP.o1 (.load1 rfl lay46 (by first | (apply BoxIs.get; assumption; rfl) | (apply ElAt.get; assumption; rfl) | (apply ElAt.get0; assumption; rfl) | assumption)) rfl rfl ?_
    refine RP.op (.callS rfl rfl hc) rfl rfl K2.le ?_; refine RP.o1 (.assign rfl) rfl rfl ?_; refine RP.nil ?_
    refine XP.ret ⟨.inr rfl, _, _, oneRes rfl, K2, ?_⟩
    rw [if_pos hc8.1, show (Int.ofNat i).toNat = i from rfl, hk]; exact R
  · refine XP.seq ?_; refine XP.regionS ?_; refine RP.o1 (.assign rfl) rfl rfl ?_; refine RP.nil ?_
    refine XP.ret ⟨.inr rfl, _, _, oneRes rfl, .refl _, .inl ⟨rfl, ?_⟩⟩
    by_cases h0 : 0 ≤ x
    · rw [if_pos h0, List.getElem?_eq_none (by have : ¬ x < Int.ofNat L.length := fun h => hc8 ⟨h0, h⟩; have e : (Int.ofNat L.length : Int) = L.length := rfl; omega)]; rfl
    · rw [if_neg h0]
/-- Where a symbol leads to; -1: nowhere. -/
noncomputable def goesTo (G : List (List Int)) (x y : Int) : Int := if 0 ≤ x ∧ 0 ≤ y then ((G[x.toNat]?).bind fun r => r[y.toNat]?).getD (-1) else -1
theorem call15 {S : Sums} (hS : Plain S [12, 15, 31]) {m : AMem} {s : SpV} {X : Nat → Prop} {lo ba : Nat} {lv gv iv : AV} {L : List (List (Int × Int))} {G : List (List Int)} {I : List (List (Int × Int))} (au : AuSt s X lo ba m lv gv iv L G I) (hl : G.length = L.length) (x y : Int) :
    CallTo Tryz.prog S 15 [.ptr ba 0, .int .i64 x, .int .i64 y] m (.int .i64 (goesTo G x y)) m := by
  suffices H : ∃ r m', CallTo Tryz.prog S 15 [.ptr ba 0, .int .i64 x, .int .i64 y] m r m' ∧ r = .int .i64 (goesTo G x y) ∧ m' = m by
    obtain ⟨r, m', h, rfl, rfl⟩ := H
    exact h
  have hS31 : Plain S [12, 31] := fun f hf => hS f (by simp at hf ⊢; omega)
  have hB := au.B
  refine XP.call (hS 15 (by decide)) cd15 nt15 ?_
  show XP _ _ _ _ (toT .leaf [(2, .int .i64 y), (1, .int .i64 x), (0, .ptr ba 0)]) m _
  unfold Tryz.f15
  dsimp only [Option.getD_some]
  have K : Kp Nothing m m := .refl m
  refine XP.seq ?_; refine XP.regionS ?_; refine RP.o1 (.assign rfl) rfl rfl ?_; refine RP.nil ?_; refine XP.seq ?_; refine XP.seq ?_; refine XP.regionS ?_; refine RP.o1 (.move rfl) rfl rfl ?_; refine RP.o1 (.move rfl) rfl rfl ?_; refine RP.o1 (.callS rfl rfl (call31 hS31 au x)) rfl rfl ?_; refine RP.o1 (.not_ rfl) rfl rfl ?_; refine RP.o1 (.move rfl) rfl rfl ?_
  rcases Decidable.em (0 ≤ x ∧ x < Int.ofNat L.length) with hp11 | hp11
  · simp only [decide_eq_true hp11]; simp only [Bool.not_true]
    refine RP.o1 (.move rfl) rfl ⟨_,_,_,rfl,rfl,rfl,rfl⟩ ?_; refine RP.o1 (.bin rfl rfl (by first | exact lss_nat | exact lss_is)) rfl ⟨_,_,_,rfl,rfl,rfl,rfl⟩ ?_; refine RP.o1 (.pick (b := false) rfl rfl) rfl rfl ?_; refine RP.o1 (.move rfl) rfl rfl ?_
    rcases Decidable.em (y < 0) with hp15 | hp15
    · simp only [decide_eq_true hp15]
      refine RP.skip ⟨_,_,_,rfl,rfl,rfl,rfl⟩ rfl ?_; refine RP.skip ⟨_,_,_,rfl,rfl,rfl,rfl⟩ rfl ?_; refine RP.skip ⟨_,_,_,rfl,rfl,rfl,rfl⟩ rfl ?_; refine RP.skip ⟨_,_,_,rfl,rfl,rfl,rfl⟩ rfl ?_; refine RP.skip ⟨_,_,_,rfl,rfl,rfl,rfl⟩ rfl ?_; refine RP.skip ⟨_,_,_,rfl,rfl,rfl,rfl⟩ rfl ?_; refine RP.skip ⟨_,_,_,rfl,rfl,rfl,rfl⟩ rfl ?_; refine RP.skip ⟨_,_,_,rfl,rfl,rfl,rfl⟩ rfl ?_; refine RP.skip ⟨_,_,_,rfl,rfl,rfl,rfl⟩ rfl ?_; refine RP.skip ⟨_,_,_,rfl,rfl,rfl,rfl⟩ rfl ?_; refine RP.o1 (.pick (b := true) rfl rfl) rfl rfl ?_; refine RP.nil ?_
      refine XP.condS true rfl ?_  -- if t26
      refine XP.seq ?_; refine XP.regionS ?_; refine RP.o1 (.assign rfl) rfl rfl ?_; refine RP.nil ?_
      exact XP.ret ⟨.inr rfl, _, _, oneRes rfl, by unfold goesTo; rw [if_neg (by intro h; exact absurd h.2 (by omega))]; rfl, rfl⟩
    · simp only [decide_eq_false hp15]
      refine RP.o1 (.move rfl) rfl ⟨_,_,_,rfl,rfl,rfl,rfl⟩ ?_
      obtain ⟨i, rfl⟩ : ∃ i : Nat, x = Int.ofNat i := ⟨x.toNat, (Int.toNat_of_nonneg hp11.1).symm⟩
      obtain ⟨j, rfl⟩ : ∃ j : Nat, y = Int.ofNat j := ⟨y.toNat, (Int.toNat_of_nonneg (Int.not_lt.1 hp15)).symm⟩
      have hi : i < L.length := Int.ofNat_lt.1 hp11.2
      obtain ⟨r, hr⟩ : ∃ r, G[i]? = some r := ⟨G[i]'(by omega), List.getElem?_eq_getElem _⟩
      obtain ⟨b, off, cap, a, rfl, hi2, E1, Rr, _⟩ := au.hg.elem hr
      have hgo : goesTo G (.ofNat i) (.ofNat j) = (r[j]?).getD (-1) := by
        unfold goesTo
        rw [if_pos ⟨hp11.1, Int.not_lt.1 hp15⟩, show (Int.ofNat i).toNat = i from rfl, hr]; rfl
      refine RP.o1 (.move rfl) rfl ⟨_,_,_,rfl,rfl,rfl,rfl⟩ ?_; refine RP.o1 (.nilCheck rfl) rfl ⟨_,_,_,rfl,rfl,rfl,rfl⟩ ?_; refine RP.o1 (.fieldAddr rfl fa71_2) rfl ⟨_,_,_,rfl,rfl,rfl,rfl⟩ ?_
      refine RP.o1 (.load1 rfl lay69 (by first | (apply BoxIs.get; assumption; rfl) | (apply ElAt.get; assumption; rfl) | (apply ElAt.get0; assumption; rfl) | assumption)) rfl ⟨_,_,_,rfl,rfl,rfl,rfl⟩ ?_
      refine RP.o1 (.move rfl) rfl ⟨_,_,_,rfl,rfl,rfl,rfl⟩ ?_; refine RP.o1 (.indexAddr rfl rfl ix69 (by assumption)) rfl ⟨_,_,_,rfl,rfl,rfl,rfl⟩ ?_
      refine RP.o1 (.load1 rfl lay28 (by first | (apply BoxIs.get; assumption; rfl) | (apply ElAt.get; assumption; rfl) | (apply ElAt.get0; assumption; rfl) | assumption)) rfl ⟨_,_,_,rfl,rfl,rfl,rfl⟩ ?_
      refine RP.o1 (.len rfl (rowLen28 Rr)) rfl ⟨_,_,_,rfl,rfl,rfl,rfl⟩ ?_; refine RP.o1 (.bin rfl rfl geq_is) rfl ⟨_,_,_,rfl,rfl,rfl,rfl⟩ ?_; refine RP.o1 (.pick (b := false) rfl rfl) rfl rfl ?_; refine RP.nil ?_
      refine XP.condN rfl (fun hc26 => ?_) (fun hc26 => ?_)  -- if t26
      · refine XP.skip ?_; refine XP.seq ?_
        have hj : j < r.length := Int.ofNat_lt.1 hc26
        obtain ⟨v, hv⟩ : ∃ v, r[j]? = some v := ⟨r[j]'hj, List.getElem?_eq_getElem _⟩
        obtain ⟨b2, off2, cap2, rfl, _, E2⟩ := Rr.elem encI (.refl _) hv
        refine XP.regionS ?_; refine RP.o1 (.move rfl) rfl rfl ?_; refine RP.o1 (.nilCheck rfl) rfl rfl ?_; refine RP.o1 (.fieldAddr rfl fa71_2) rfl rfl ?_
        refine RP.o1 (.load1 rfl lay69 (by first | (apply BoxIs.get; assumption; rfl) | (apply ElAt.get; assumption; rfl) | (apply ElAt.get0; assumption; rfl) | assumption)) rfl rfl ?_
        refine RP.o1 (.move rfl) rfl rfl ?_; refine RP.o1 (.indexAddr rfl rfl ix69 (by assumption)) rfl rfl ?_
        refine RP.o1 (.load1 rfl lay28 (by first | (apply BoxIs.get; assumption; rfl) | (apply ElAt.get; assumption; rfl) | (apply ElAt.get0; assumption; rfl) | assumption)) rfl rfl ?_
        refine RP.o1 (.move rfl) rfl rfl ?_; refine RP.o1 (.indexAddr rfl rfl ix28 (by assumption)) rfl rfl ?_
        refine RP.o1 (.load1 rfl lay3 (by first | (apply BoxIs.get; assumption; rfl) | (apply ElAt.get; assumption; rfl) | (apply ElAt.get0; assumption; rfl) | assumption)) rfl rfl ?_
        refine RP.o1 (.assign rfl) rfl rfl ?_; refine RP.nil ?_
        exact XP.ret ⟨.inr rfl, _, _, oneRes rfl, by rw [hgo, hv]; rfl, rfl⟩
      · refine XP.seq ?_; refine XP.regionS ?_; refine RP.o1 (.assign rfl) rfl rfl ?_; refine RP.nil ?_
        exact XP.ret ⟨.inr rfl, _, _, oneRes rfl, by rw [hgo, List.getElem?_eq_none (by have : ¬ j < r.length := fun h => hc26 (Int.ofNat_lt.2 h); omega)]; rfl, rfl⟩
  · simp only [decide_eq_false hp11]; simp only [Bool.not_false]
    refine RP.skip ⟨_,_,_,rfl,rfl,rfl,rfl⟩ rfl ?_; refine RP.skip ⟨_,_,_,rfl,rfl,rfl,rfl⟩ rfl ?_; refine RP.o1 (.pick (b := true) rfl rfl) rfl rfl ?_; refine RP.o1 (.move rfl) rfl rfl ?_; refine RP.skip ⟨_,_,_,rfl,rfl,rfl,rfl⟩ rfl ?_; refine RP.skip ⟨_,_,_,rfl,rfl,rfl,rfl⟩ rfl ?_; refine RP.skip ⟨_,_,_,rfl,rfl,rfl,rfl⟩ rfl ?_; refine RP.skip ⟨_,_,_,rfl,rfl,rfl,rfl⟩ rfl ?_; refine RP.skip ⟨_,_,_,rfl,rfl,rfl,rfl⟩ rfl ?_; refine RP.skip ⟨_,_,_,rfl,rfl,rfl,rfl⟩ rfl ?_; refine RP.skip ⟨_,_,_,rfl,rfl,rfl,rfl⟩ rfl ?_; refine RP.skip ⟨_,_,_,rfl,rfl,rfl,rfl⟩ rfl ?_; refine RP.skip ⟨_,_,_,rfl,rfl,rfl,rfl⟩ rfl ?_; refine RP.skip ⟨_,_,_,rfl,rfl,rfl,rfl⟩ rfl ?_; refine RP.o1 (.pick (b := true) rfl rfl) rfl rfl ?_; refine RP.nil ?_
    refine XP.condS true rfl ?_  -- if t26
    refine XP.seq ?_; refine XP.regionS ?_; refine RP.o1 (.assign rfl) rfl rfl ?_; refine RP.nil ?_
    refine XP.ret ⟨.inr rfl, _, _, oneRes rfl, ?_, rfl⟩
    unfold goesTo
    by_cases h0 : 0 ≤ x ∧ 0 ≤ y
    · rw [if_pos h0, List.getElem?_eq_none (by have : ¬ x < Int.ofNat L.length := fun h => hp11 ⟨h0.1, h⟩; have e : (Int.ofNat L.length : Int) = L.length := rfl; omega)]; rfl
    · rw [if_neg h0]; rfl
end Go.Ev
end
section
namespace Go.Ev
set_option linter.all false
open Go.Proofs
theorem ei22x : (elemInfo Tryz.prog 22).map (fun p => (p.1.size, p.2)) = some (3, [.str [], .int .i64 (.ofNat 0), .int .i64 (.ofNat 0)]) := by kernel_rfl
theorem ei22 : ∃ i : TypeInfo, elemInfo Tryz.prog 22 = some (i, [.str [], .int .i64 (.ofNat 0), .int .i64 (.ofNat 0)]) ∧ i.size = 3 := elemInfo_of ei22x
theorem ei23x : (elemInfo Tryz.prog 23).map (fun p => (p.1.size, p.2)) = some (3, [.str [], .nils, .str []]) := by kernel_rfl
theorem ei23 : ∃ i : TypeInfo, elemInfo Tryz.prog 23 = some (i, [.str [], .nils, .str []]) ∧ i.size = 3 := elemInfo_of ei23x
theorem ei27x : (elemInfo Tryz.prog 27).map (fun p => (p.1.size, p.2)) = some (1, [.str []]) := by kernel_rfl
theorem ei27 : ∃ i : TypeInfo, elemInfo Tryz.prog 27 = some (i, [.str []]) ∧ i.size = 1 := elemInfo_of ei27x
theorem ei29x : (elemInfo Tryz.prog 29).map (fun p => (p.1.size, p.2)) = some (4, [.int .i64 (.ofNat 0), .nils, .int .i64 (.ofNat 0), .int .i64 (.ofNat 0)]) := by kernel_rfl
theorem ei29 : ∃ i : TypeInfo, elemInfo Tryz.prog 29 = some (i, [.int .i64 (.ofNat 0), .nils, .int .i64 (.ofNat 0), .int .i64 (.ofNat 0)]) ∧ i.size = 4 := elemInfo_of ei29x
theorem fa25_0 : fieldAt Tryz.prog 25 0 = some 0 := by kernel_rfl
theorem fa25_1 : fieldAt Tryz.prog 25 1 = some 1 := by kernel_rfl
theorem fa25_2 : fieldAt Tryz.prog 25 2 = some 2 := by kernel_rfl
theorem fa25_3 : fieldAt Tryz.prog 25 3 = some 3 := by kernel_rfl
theorem fa31_2 : fieldAt Tryz.prog 31 2 = some 2 := by kernel_rfl
theorem fa31_4 : fieldAt Tryz.prog 31 4 = some 4 := by kernel_rfl
theorem fa31_5 : fieldAt Tryz.prog 31 5 = some 5 := by kernel_rfl
theorem fa31_6 : fieldAt Tryz.prog 31 6 = some 6 := by kernel_rfl
theorem fa40_0 : fieldAt Tryz.prog 40 0 = some 0 := by kernel_rfl
theorem fa40_1 : fieldAt Tryz.prog 40 1 = some 1 := by kernel_rfl
theorem fa40_2 : fieldAt Tryz.prog 40 2 = some 2 := by kernel_rfl
theorem fa42_0 : fieldAt Tryz.prog 42 0 = some 0 := by kernel_rfl
theorem fa42_1 : fieldAt Tryz.prog 42 1 = some 1 := by kernel_rfl
theorem fa42_2 : fieldAt Tryz.prog 42 2 = some 2 := by kernel_rfl
theorem fa56_2 : fieldAt Tryz.prog 56 2 = some 2 := by kernel_rfl
theorem fa56_3 : fieldAt Tryz.prog 56 3 = some 3 := by kernel_rfl
theorem ix22 : ixOf Tryz.prog 22 = .sl 3 := by kernel_rfl
theorem ix23 : ixOf Tryz.prog 23 = .sl 3 := by kernel_rfl
theorem ix27 : ixOf Tryz.prog 27 = .sl 1 := by kernel_rfl
theorem ix51 : ixOf Tryz.prog 51 = .sl 1 := by kernel_rfl
theorem ix77 : ixOf Tryz.prog 77 = .arr 9 1 := by kernel_rfl
theorem lay4 : layout Tryz.prog 4 = some (false, 1) := by kernel_rfl
theorem lay9 : layout Tryz.prog 9 = some (false, 1) := by kernel_rfl
theorem lay22 : layout Tryz.prog 22 = some (false, 1) := by kernel_rfl
theorem lay23 : layout Tryz.prog 23 = some (false, 1) := by kernel_rfl
theorem lay25 : layout Tryz.prog 25 = some (true, 4) := by kernel_rfl
theorem lay27 : layout Tryz.prog 27 = some (false, 1) := by kernel_rfl
theorem lay40 : layout Tryz.prog 40 = some (true, 3) := by kernel_rfl
theorem lay42 : layout Tryz.prog 42 = some (true, 3) := by kernel_rfl
theorem und9 : Tryz.prog.underlying 9 = some .string := by kernel_rfl
theorem len9 {s : List Nat} {m : AMem} : aLen Tryz.prog 9 (.str s) m = .mk (.int .i64 (.ofNat s.length)) m := by
  unfold aLen
  rw [und9]
  exact fNat_eq _ _
theorem len22 {b o n : Nat} {c : Option Nat} {m : AMem} : aLen Tryz.prog 22 (.slice b o n c) m = .mk (.int .i64 (.ofNat n)) m := by kernel_rfl
theorem len22n {m : AMem} : aLen Tryz.prog 22 .nils m = .mk (.int .i64 (.ofNat 0)) m := by kernel_rfl
theorem len22e {m : AMem} : aLen Tryz.prog 22 .emp m = .mk (.int .i64 (.ofNat 0)) m := by kernel_rfl
theorem len23 {b o n : Nat} {c : Option Nat} {m : AMem} : aLen Tryz.prog 23 (.slice b o n c) m = .mk (.int .i64 (.ofNat n)) m := by kernel_rfl
theorem len23n {m : AMem} : aLen Tryz.prog 23 .nils m = .mk (.int .i64 (.ofNat 0)) m := by kernel_rfl
theorem len23e {m : AMem} : aLen Tryz.prog 23 .emp m = .mk (.int .i64 (.ofNat 0)) m := by kernel_rfl
theorem len27 {b o n : Nat} {c : Option Nat} {m : AMem} : aLen Tryz.prog 27 (.slice b o n c) m = .mk (.int .i64 (.ofNat n)) m := by kernel_rfl
theorem len27n {m : AMem} : aLen Tryz.prog 27 .nils m = .mk (.int .i64 (.ofNat 0)) m := by kernel_rfl
theorem len27e {m : AMem} : aLen Tryz.prog 27 .emp m = .mk (.int .i64 (.ofNat 0)) m := by kernel_rfl
theorem z25 : zeroA Tryz.prog 25 = some [.nils, .str [], .int .i64 (.ofNat 0), .nils] := by kernel_rfl
theorem z31 : zeroA Tryz.prog 31 = some [.int .i64 (.ofNat 0), .int .i64 (.ofNat 0), .int .i64 (.ofNat 0), .int .i64 (.ofNat 0), .nils, .nils, .nils, .nils] := by kernel_rfl
theorem z40 : zeroA Tryz.prog 40 = some [.str [], .int .i64 (.ofNat 0), .int .i64 (.ofNat 0)] := by kernel_rfl
theorem z42 : zeroA Tryz.prog 42 = some [.str [], .nils, .str []] := by kernel_rfl
theorem z77 : zeroA Tryz.prog 77 = some [.int .i64 (.ofNat 0), .int .i64 (.ofNat 0), .int .i64 (.ofNat 0), .int .i64 (.ofNat 0), .int .i64 (.ofNat 0), .int .i64 (.ofNat 0), .int .i64 (.ofNat 0), .int .i64 (.ofNat 0), .int .i64 (.ofNat 0)] := by kernel_rfl
theorem cd6 : codeOf Tryz.prog 6 = some (Tryz.f6, (Tryz.f6.body.getD .skip)) := by kernel_rfl
theorem nt6 : nTmps Tryz.f6 1 = 164 := by kernel_rfl
theorem cd9 : codeOf Tryz.prog 9 = some (Tryz.f9, (Tryz.f9.body.getD .skip)) := by kernel_rfl
theorem nt9 : nTmps Tryz.f9 1 = 157 := by kernel_rfl
theorem cd10 : codeOf Tryz.prog 10 = some (Tryz.f10, (Tryz.f10.body.getD .skip)) := by kernel_rfl
theorem nt10 : nTmps Tryz.f10 1 = 104 := by kernel_rfl
theorem cd17 : codeOf Tryz.prog 17 = some (Tryz.f17, (Tryz.f17.body.getD .skip)) := by kernel_rfl
theorem nt17 : nTmps Tryz.f17 2 = 41 := by kernel_rfl
theorem cd20 : codeOf Tryz.prog 20 = some (Tryz.f20, (Tryz.f20.body.getD .skip)) := by kernel_rfl
theorem nt20 : nTmps Tryz.f20 1 = 185 := by kernel_rfl
theorem cd21 : codeOf Tryz.prog 21 = some (Tryz.f21, (Tryz.f21.body.getD .skip)) := by kernel_rfl
theorem nt21 : nTmps Tryz.f21 1 = 35 := by kernel_rfl
theorem cd22 : codeOf Tryz.prog 22 = some (Tryz.f22, (Tryz.f22.body.getD .skip)) := by kernel_rfl
theorem nt22 : nTmps Tryz.f22 1 = 89 := by kernel_rfl
theorem cd23 : codeOf Tryz.prog 23 = some (Tryz.f23, (Tryz.f23.body.getD .skip)) := by kernel_rfl
theorem nt23 : nTmps Tryz.f23 1 = 31 := by kernel_rfl
theorem cd24 : codeOf Tryz.prog 24 = some (Tryz.f24, (Tryz.f24.body.getD .skip)) := by kernel_rfl
theorem nt24 : nTmps Tryz.f24 2 = 19 := by kernel_rfl
theorem cd25 : codeOf Tryz.prog 25 = some (Tryz.f25, (Tryz.f25.body.getD .skip)) := by kernel_rfl
theorem nt25 : nTmps Tryz.f25 3 = 67 := by kernel_rfl
theorem cd26 : codeOf Tryz.prog 26 = some (Tryz.f26, (Tryz.f26.body.getD .skip)) := by kernel_rfl
theorem nt26 : nTmps Tryz.f26 1 = 81 := by kernel_rfl
theorem cd27 : codeOf Tryz.prog 27 = some (Tryz.f27, (Tryz.f27.body.getD .skip)) := by kernel_rfl
theorem nt27 : nTmps Tryz.f27 1 = 67 := by kernel_rfl
theorem cd28 : codeOf Tryz.prog 28 = some (Tryz.f28, (Tryz.f28.body.getD .skip)) := by kernel_rfl
theorem nt28 : nTmps Tryz.f28 2 = 13 := by kernel_rfl
theorem cd37 : codeOf Tryz.prog 37 = some (Tryz.f37, (Tryz.f37.body.getD .skip)) := by kernel_rfl
theorem nt37 : nTmps Tryz.f37 1 = 34 := by kernel_rfl
theorem cd38 : codeOf Tryz.prog 38 = some (Tryz.f38, (Tryz.f38.body.getD .skip)) := by kernel_rfl
theorem nt38 : nTmps Tryz.f38 2 = 22 := by kernel_rfl
theorem cd56 : codeOf Tryz.prog 56 = some (Tryz.f56, (Tryz.f56.body.getD .skip)) := by kernel_rfl
theorem nt56 : nTmps Tryz.f56 1 = 21 := by kernel_rfl
theorem cd57 : codeOf Tryz.prog 57 = some (Tryz.f57, (Tryz.f57.body.getD .skip)) := by kernel_rfl
theorem nt57 : nTmps Tryz.f57 1 = 9 := by kernel_rfl
end Go.Ev
end
section
namespace Go.Ev
set_option linter.all false
open Go.Proofs
set_option maxRecDepth 10000
set_option maxHeartbeats 2000000
theorem call17 {S : Sums} (hS : Plain S [17]) {m : AMem} {u v : AV} {xs ys : List (Int × Int)} (hu : RowIs itC 2 m u xs) (hv : RowIs itC 2 m v ys) (hx : xs.length < 1048576) : CallTo Tryz.prog S 17 [u, v] m (.bool (decide (xs = ys))) m := by
  suffices H : ∃ r m', CallTo Tryz.prog S 17 [u, v] m r m' ∧ r = .bool (decide (xs = ys)) ∧ m' = m by
    obtain ⟨r, m', h, rfl, rfl⟩ := H
    exact h
  refine XP.call (hS 17 (by decide)) cd17 nt17 ?_
  show XP _ _ _ _ (toT .leaf [(1, v), (0, u)]) m _
  unfold Tryz.f17
  dsimp only [Option.getD_some]
  have K : Kp Nothing m m := .refl m
  refine XP.seq ?_; refine XP.regionS ?_; refine RP.o1 (.assign rfl) rfl rfl ?_; refine RP.nil ?_; refine XP.seq ?_; refine XP.seq ?_; refine XP.regionS ?_; refine RP.o1 (.move rfl) rfl rfl ?_; refine RP.o1 (.len rfl (rowLen hu)) rfl rfl ?_; refine RP.o1 (.move rfl) rfl rfl ?_; refine RP.o1 (.len rfl (rowLen hv)) rfl rfl ?_; refine RP.o1 (.bin rfl rfl neq_is) rfl rfl ?_; refine RP.nil ?_
  refine XP.condN rfl (fun hc10 => ?_) (fun hc10 => ?_)  -- if t10
  · refine XP.skip ?_; refine XP.seq ?_; refine XP.seq ?_; refine XP.regionS ?_; refine RP.o1 (.assign rfl) rfl rfl ?_; refine RP.nil ?_
    refine XP.block ?_  -- block 0
    refine XP.while (fun d t m1 => ∃ i t0, t = toT t0 [(5, .int .i64 (.ofNat i)), (1, v), (0, u)] ∧ d = xs.length - i ∧ i ≤ xs.length ∧ (∀ k : Nat, k < i → xs[k]? = ys[k]?) ∧ m1 = m) ?_ xs.length _ _ ?_
    rotate_left
    · exact ⟨0, _, toT_less (.cons rfl (.cons rfl (.cons rfl (.nil)))), rfl, Nat.zero_le _, fun k hk => absurd hk (Nat.not_lt_zero _), rfl⟩
    rintro d t M1 ⟨i, t0, rfl, rfl, hin, hsame, rfl⟩
    refine XP.seq ?_; refine XP.seq ?_; refine XP.regionS ?_; refine RP.o1 (.move rfl) rfl rfl ?_; refine RP.o1 (.move rfl) rfl rfl ?_; refine RP.o1 (.len rfl (rowLen hu)) rfl rfl ?_; refine RP.o1 (.bin rfl rfl (by first | exact lss_nat | exact lss_is)) rfl rfl ?_; refine RP.nil ?_
    refine XP.condD rfl (fun hc14 => ?_) (fun hc14 => ?_)  -- if t14
    · refine XP.skip ?_; refine XP.seq ?_
      refine XP.block ?_  -- block 1
      refine XP.seq ?_
      obtain ⟨x, hx1⟩ : ∃ x, xs[i]? = some x := ⟨xs[i]'hc14, List.getElem?_eq_getElem _⟩
      obtain ⟨y, hy1⟩ : ∃ y, ys[i]? = some y := ⟨ys[i]'(by have := Int.ofNat.inj hc10; omega), List.getElem?_eq_getElem _⟩
      obtain ⟨b1, o1, c1, rfl, _, E1⟩ := hu.elem encIt (.refl _) hx1
      obtain ⟨b2, o2, c2, rfl, hi2, E2⟩ := hv.elem encIt (.refl _) hy1
      refine XP.drawnS (ms := [0, 0, 3, 7, 15, 0, 0, 96, 224, 480, 1023, 2047, 4095, 4095, 16383, 32767, 65535, 4095, 4095, 397311, 921599, 1970175, 4194303, 8388607]) (by kernel_rfl) ?_; refine DP.pure (.move rfl) rfl rfl rfl ?_; refine DP.pure (.move rfl) rfl rfl rfl ?_; refine DP.pure (.indexAddr rfl rfl ix46 (by assumption)) rfl rfl rfl ?_; refine DP.pure (.fieldAddr rfl fa54_0) rfl rfl rfl ?_
      refine DP.read (fun _ => op_load1 (ev_is rfl) lay3 (by first | (apply BoxIs.get; assumption; rfl) | (apply ElAt.get; assumption; rfl) | (apply ElAt.get0; assumption; rfl) | assumption)) rfl rfl rfl (fun _ => op_load_leaf) (.inl (by kernel_rfl)) (fun _ => cuts_nil) ?_
      refine DP.pure (.move rfl) rfl rfl rfl ?_; refine DP.pure (.move rfl) rfl rfl rfl ?_; refine DP.pure (.indexAddr rfl rfl ix46 (by assumption)) rfl rfl rfl ?_; refine DP.pure (.fieldAddr rfl fa54_0) rfl rfl rfl ?_
      refine DP.read (fun _ => op_load1 (ev_is rfl) lay3 (by first | (apply BoxIs.get; assumption; rfl) | (apply ElAt.get; assumption; rfl) | (apply ElAt.get0; assumption; rfl) | assumption)) rfl rfl rfl (fun _ => op_load_leaf) (.inl (by kernel_rfl)) (fun _ => cuts_nil) ?_
      refine DP.pure (.bin rfl rfl neq_is) rfl rfl rfl ?_; refine DP.pure (.move rfl) rfl rfl rfl ?_
      rcases Decidable.em (x.1 = y.1) with hp28 | hp28
      · simp only [decide_eq_true hp28]; simp only [Bool.not_true]
        refine DP.pure (.move rfl) rfl rfl ⟨_,_,_,rfl,rfl,rfl,rfl⟩ ?_; refine DP.pure (.move rfl) rfl rfl ⟨_,_,_,rfl,rfl,rfl,rfl⟩ ?_; refine DP.pure (.indexAddr rfl rfl ix46 (by assumption)) rfl rfl ⟨_,_,_,rfl,rfl,rfl,rfl⟩ ?_; refine DP.pure (.fieldAddr rfl fa54_1) rfl rfl ⟨_,_,_,rfl,rfl,rfl,rfl⟩ ?_
        refine DP.read (fun _ => op_load1 (ev_is rfl) lay3 (by first | (apply BoxIs.get; assumption; rfl) | (apply ElAt.get; assumption; rfl) | (apply ElAt.get0; assumption; rfl) | assumption)) rfl rfl ⟨_,_,_,rfl,rfl,rfl,rfl⟩ (fun _ => op_load_leaf) (.inl (by kernel_rfl)) (fun _ => cuts_nil) ?_
        refine DP.pure (.move rfl) rfl rfl ⟨_,_,_,rfl,rfl,rfl,rfl⟩ ?_; refine DP.pure (.move rfl) rfl rfl ⟨_,_,_,rfl,rfl,rfl,rfl⟩ ?_; refine DP.pure (.indexAddr rfl rfl ix46 (by assumption)) rfl rfl ⟨_,_,_,rfl,rfl,rfl,rfl⟩ ?_; refine DP.pure (.fieldAddr rfl fa54_1) rfl rfl ⟨_,_,_,rfl,rfl,rfl,rfl⟩ ?_
        refine DP.read (fun _ => op_load1 (ev_is rfl) lay3 (by first | (apply BoxIs.get; assumption; rfl) | (apply ElAt.get; assumption; rfl) | (apply ElAt.get0; assumption; rfl) | assumption)) rfl rfl ⟨_,_,_,rfl,rfl,rfl,rfl⟩ (fun _ => op_load_leaf) (.inl (by kernel_rfl)) (fun _ => cuts_nil) ?_
        refine DP.pure (.bin rfl rfl neq_is) rfl rfl ⟨_,_,_,rfl,rfl,rfl,rfl⟩ ?_; refine DP.pure (.pick (b := false) rfl rfl) rfl rfl rfl ?_; refine DP.nil ?_
        refine XP.condN rfl (fun hc40 => ?_) (fun hc40 => ?_)  -- if t40
        · refine XP.skip ?_; refine XP.regionS ?_; refine RP.o1 (.move rfl) rfl rfl ?_
          refine RP.o1 (.bin rfl rfl (by first | exact inc_is (by omega) | exact add_is (by omega) (by omega))) rfl rfl ?_
          refine RP.o1 (.assign rfl) rfl rfl ?_; refine RP.nil ?_
          refine ⟨xs.length - (i + 1), by omega, i + 1, _, toT_less (.cons rfl (.cons rfl (.cons rfl (.nil)))), rfl, by omega, fun k hk => ?_, rfl⟩
          rcases Nat.lt_or_ge k i with h | h
          · exact hsame k h
          · obtain rfl : k = i := by omega
            rw [hx1, hy1, Prod.ext hp28 hc40]
        · refine XP.seq ?_; refine XP.regionS ?_; refine RP.o1 (.assign rfl) rfl rfl ?_; refine RP.nil ?_
          exact XP.ret ⟨.inr rfl, _, _, oneRes rfl, by rw [decide_eq_false (fun h => hc40 (by rw [h, hy1] at hx1; injection hx1 with e; rw [e]))]; rfl, rfl⟩
      · simp only [decide_eq_false hp28]; simp only [Bool.not_false]
        refine DP.skip ⟨_,_,_,rfl,rfl,rfl,rfl⟩ rfl ?_; refine DP.skip ⟨_,_,_,rfl,rfl,rfl,rfl⟩ rfl ?_; refine DP.skip ⟨_,_,_,rfl,rfl,rfl,rfl⟩ rfl ?_; refine DP.skip ⟨_,_,_,rfl,rfl,rfl,rfl⟩ rfl ?_; refine DP.skip ⟨_,_,_,rfl,rfl,rfl,rfl⟩ rfl ?_; refine DP.skip ⟨_,_,_,rfl,rfl,rfl,rfl⟩ rfl ?_; refine DP.skip ⟨_,_,_,rfl,rfl,rfl,rfl⟩ rfl ?_; refine DP.skip ⟨_,_,_,rfl,rfl,rfl,rfl⟩ rfl ?_; refine DP.skip ⟨_,_,_,rfl,rfl,rfl,rfl⟩ rfl ?_; refine DP.skip ⟨_,_,_,rfl,rfl,rfl,rfl⟩ rfl ?_; refine DP.skip ⟨_,_,_,rfl,rfl,rfl,rfl⟩ rfl ?_; refine DP.pure (.pick (b := true) rfl rfl) rfl rfl rfl ?_; refine DP.nil ?_
        refine XP.condS true rfl ?_  -- if t40
        refine XP.seq ?_; refine XP.regionS ?_; refine RP.o1 (.assign rfl) rfl rfl ?_; refine RP.nil ?_
        exact XP.ret ⟨.inr rfl, _, _, oneRes rfl, by rw [decide_eq_false (fun h => hp28 (by rw [h, hy1] at hx1; injection hx1 with e; rw [e]))]; rfl, rfl⟩
    · refine XP.exit ?_  -- 0
      refine XP.seq ?_; refine XP.regionS ?_; refine RP.o1 (.assign rfl) rfl rfl ?_; refine RP.nil ?_
      have hl := Int.ofNat.inj hc10
      have e : xs = ys := List.ext_getElem? fun k => by
        by_cases hk : k < i
        · exact hsame k hk
        · rw [List.getElem?_eq_none (by omega), List.getElem?_eq_none (by omega)]
      exact XP.ret ⟨.inr rfl, _, _, oneRes rfl, by rw [decide_eq_true e]; rfl, rfl⟩
  · refine XP.seq ?_; refine XP.regionS ?_; refine RP.o1 (.assign rfl) rfl rfl ?_; refine RP.nil ?_
    exact XP.ret ⟨.inr rfl, _, _, oneRes rfl, by rw [decide_eq_false (fun h => hc10 (by rw [h]))]; rfl, rfl⟩
end Go.Ev
end
section
namespace Go.Ev
set_option linter.all false
open Go.Proofs
section
variable {α : Type} {enc : α → List AV} {sz : Nat}
variable {m m' : AMem} {v : AV} {xs : List α}
/-- append of a row to a row of one's own. -/
theorem append_rows {P : Program} {st : TypeId} {xt : Option TypeId} {i : TypeInfo} {z : List AV} {lo : Nat} {w : AV} {ys : List α} (he : Enc enc sz) (hz : 0 < sz) (hi : elemInfo P st = some (i, z)) (hs : i.size = sz) (ha : appendable P xt = true)
    (h : GrowIs enc sz lo m v xs) (hw : RowIs enc sz m w ys) (hlo : lo ≤ m.next) (hx : xs.length ≤ 1048576) (hy : ys.length ≤ 1048576) :
    ∃ u m', aAppend P st xt v w m = .mk u m' ∧ m.next ≤ m'.next ∧ GrowIs enc sz lo m' u (xs ++ ys) ∧ Kp (Blk1 v) m m' ∧ (∀ b, Blk1 u b → m.next ≤ b ∨ u = v) := by
  by_cases h0 : 0 < ys.length
  · rcases h with ⟨rfl, rfl⟩ | ⟨b, c, rfl, hl, R, hc, ho⟩
    · refine ⟨_, _, append_nil he hz hi hs ha hw h0 hy, Nat.le_succ _, .inr ⟨m.next, none, by simp, hlo, RowAt.new he, .inl rfl, ?_⟩, ((Kp.refl m).new _ _ _), ?_⟩
      · have := AMem.new_own m true sz (flat enc ys); rwa [flat_length he.len] at this
      · rintro b ⟨o, n, c, e⟩; injection e with e; left; omega
    · rcases hc with rfl | rfl
      · refine ⟨_, _, append_own he hz hi hs ha R (by simpa using ho) hw h0 hx hy, Nat.le_succ _, .inr ⟨m.next, none, by simp, hlo, RowAt.new he, .inl rfl, ?_⟩, ?_, ?_⟩
        · have := AMem.new_own (m.drop b) true sz (flat enc (xs ++ ys)); rwa [flat_length he.len] at this
        · exact ((Kp.refl m).drop (.inr ⟨_, _, _, rfl⟩)).new _ _ _
        · rintro b' ⟨o, n, c, e⟩; injection e with e; left; omega
      · refine ⟨_, _, append_full he hz hi hs ha R hw (by omega) h0 hx hy, Nat.le_succ _, .inr ⟨m.next, none, by simp, hlo, RowAt.new he, .inl rfl, ?_⟩, ((Kp.refl m).new _ _ _), ?_⟩
        · have := AMem.new_own m true sz (flat enc (xs ++ ys)); rwa [flat_length he.len] at this
        · rintro b' ⟨o, n, c, e⟩; injection e with e; left; omega
  · obtain rfl : ys = [] := List.eq_nil_of_length_eq_zero (by omega)
    rw [List.append_nil]
    refine ⟨v, m, ?_, Nat.le_refl _, h, .refl _, fun _ _ => .inr rfl⟩
    rcases h with ⟨rfl, rfl⟩ | ⟨b, c, rfl, hl, R, hc, ho⟩
    · unfold aAppend
      rw [hi]
      simp only
      rw [ha, hw.lenA]
      rfl
    · exact append_zero hi ha hw
end
section
variable {P : Program} {S : Sums} {nt : Nat}
variable {all : Array Oper} {dst : Option Tmp} {ty : TypeId} {pos : String} {af : Array Edge} {g : Option (Nat × Bool)} {l : List Oper} {a : Nat} {ms : List Nat} {j : Nat} {t0 : T AV} {σ : List (Nat × AV)} {m : AMem} {d : DSt} {Q : T AV → AMem → Prop}
theorem DP.alloc {tb : TypeId} {z : List AV} (hz : zeroA P tb = some z) (hd : dstOk nt dst = true) (hg : WP all σ g true)
    (k : ∀ m', Kp Nothing m m' → BoxIs m' m.next z → m'.next = m.next + 1 → DP P S nt all l ms (j + 1) t0 (putS dst (.ptr m.next 0) σ) m' ⟨Nat.lor d.als (Nat.shiftLeft 1 j), Nat.lor d.alc (Nat.shiftLeft 1 j), d.hv, d.base, d.st, d.pend⟩ Q) :
    DP P S nt all (⟨dst, .alloc tb, ty, pos, af, g⟩ :: l) (a :: ms) j t0 σ m d Q :=
  DP.make (.alloc hz) hd rfl hg (k _ ((Kp.refl m).new _ _ _) BoxIs.new rfl)
end
end Go.Ev
end
section
namespace Go.Ev
set_option linter.all false
open Go.Proofs
set_option maxRecDepth 10000
set_option maxHeartbeats 4000000
/-- A grammar by numbers that means something. -/
structure WfR (toks : Int) (rs : List Rl) : Prop where
  small : Small rs
  pos : 0 ≤ toks
  first : ∃ r0, rs[0]? = some r0 ∧ r0.left < 0
  left : ∀ r ∈ rs, r.left ≠ toks
end Go.Ev
end
section
namespace Go.Ev
set_option linter.all false
open Go.Proofs
set_option maxRecDepth 10000
set_option maxHeartbeats 4000000
theorem fill28 {x : Int} : fillA (fun j => some (Nat.mul j 1, 1)) (repA [.int .i64 (.ofNat 0)] 1) [(0, .int .i64 x)] = some (intC x) := rfl
theorem ap28 : appendable Tryz.prog (some 28) = true := by kernel_rfl
end Go.Ev
end
section
namespace Go.Ev
set_option linter.all false
open Go.Proofs
set_option maxRecDepth 10000
set_option maxHeartbeats 4000000
theorem Steps_at {g : Lr.Gr} {syms : List Int} {i : Nat} {L I : List (List (Int × Int))} {R : List (List Int)} (h : g.Steps syms i L I R) : (∀ (j : Nat) c, I[j]? = some c → ∃ k, L[j]? = some k ∧ g.IsClos k c) ∧ ∀ r ∈ R, r.length = syms.length := by
  induction h with
  | zero => exact ⟨fun j c hc => by simp at hc, fun r hr => by simp at hr⟩
  | @succ i L I R c r L' k hs hk hc hr ih =>
    obtain ⟨_, _, pre⟩ := Lr.row_scan hr
    obtain ⟨t, rfl⟩ := pre
    refine ⟨fun j d hd => ?_, fun q hq => ?_⟩
    · by_cases hj : j < I.length
      · rw [List.getElem?_append_left hj] at hd
        obtain ⟨k', h1, h2⟩ := ih.1 j d hd
        exact ⟨k', (List.getElem?_append_left (List.getElem?_eq_some_iff.1 h1).1).trans h1, h2⟩
      · have hj2 : j = I.length := by have := (List.getElem?_eq_some_iff.1 hd).1; simp at this; omega
        rw [hj2, List.getElem?_append_right (Nat.le_refl _), Nat.sub_self] at hd
        cases hd
        rw [hj2, hs.lens.1]
        exact ⟨k, (List.getElem?_append_left (List.getElem?_eq_some_iff.1 hk).1).trans hk, hc⟩
    · rcases List.mem_append.1 hq with hq | hq
      · exact ih.2 q hq
      · rw [List.mem_singleton] at hq; subst hq; exact (Lr.row_to hr).1
theorem ofNat_nn (i : Nat) : (0 : Int) ≤ Int.ofNat i := Int.natCast_nonneg i
theorem neq_self {P : Program} {ty : TypeId} {l : Bool} {a : Int} {m : AMem} : aBin2 P .neq ty l (.int .i64 a) (.int .i64 a) m = .mk (.bool false) m := by rw [neq_is, decide_eq_true rfl]; rfl
theorem cuts_skip {P : Program} {call : Call} {t : T AV} {op : Op} {v : AV} {a k : Nat} {m : AMem} {l : List (Nat × AMem)} (h : bitA a k = true) (g : atCuts P call op t v a l = true) : atCuts P call op t v a ((k, m) :: l) = true := by
  show bif2 (bitA a k) true (bif2 (readsA P call op t m v) (atCuts P call op t v a l) false) = true
  rw [h, bif2_eq, if_pos rfl]
/-- A grammar's parts are as they are. -/
noncomputable def SpG (s : SpV) : Prop := ∀ n : Nat, eqV (n + 1) s.vn s.vn = true ∧ eqV (n + 1) s.vl s.vl = true ∧ eqV (n + 1) s.va s.va = true ∧ eqV (n + 1) s.vr s.vr = true
theorem eqV_spec {s : SpV} (h : SpG s) : eqV 40 s.v s.v = true := by
  show bif2 (eqV 38 _ _) (bif2 (eqV 37 _ _) (bif2 (eqV 36 _ _) (bif2 (eqV 35 _ _) (bif2 (eqV 34 s.vn s.vn) (bif2 (eqV 33 s.vl s.vl) (bif2 (eqV 32 s.va s.va) (bif2 (eqV 31 s.vr s.vr) true false) false) false) false) false) false) false) false = true
  rw [eqV_int, eqV_int, eqV_int, eqV_int, (h 33).1, (h 32).2.1, (h 31).2.2.1, (h 30).2.2.2]
  rfl
abbrev rgF : List Nat := [11, 12, 13, 14, 15, 16, 17, 29, 30, 31, 32, 33, 34, 35, 39, 40, 41, 42, 43, 44, 45, 46, 47, 48, 58, 59, 60, 61, 62, 63, 73, 74]
end Go.Ev
end
section
namespace Go.Ev
set_option linter.all false
open Go.Proofs
section
variable {P : Program} {ty : TypeId} {lit : Bool} {m : AMem}
theorem eqlS {a b : List Nat} : aBin2 P .eql ty lit (.str a) (.str b) m = .mk (.bool (decide (a = b))) m := by
  show iBool (lEq a b) m = _
  rw [lEq_eq]
  by_cases h : a = b
  · rw [decide_eq_true h, h, beq_self_eq_true]; rfl
  · rw [decide_eq_false h, beq_false_of_ne h]; rfl
theorem neqS {a b : List Nat} : aBin2 P .neq ty lit (.str a) (.str b) m = .mk (.bool (!decide (a = b))) m := by
  show iBool (!lEq a b) m = _
  rw [lEq_eq]
  by_cases h : a = b
  · rw [decide_eq_true h, h, beq_self_eq_true]; rfl
  · rw [decide_eq_false h, beq_false_of_ne h]; rfl
theorem geqU {a b : Int} : aBin2 P .geq ty lit (.int .u8 a) (.int .u8 b) m = .mk (.bool (!decide (a < b))) m := by
  show iBool (!iLt a b) m = _
  rw [iLt_eq]; cases decide (a < b) <;> rfl
theorem leqU {a b : Int} : aBin2 P .leq ty lit (.int .u8 a) (.int .u8 b) m = .mk (.bool (!decide (b < a))) m := by
  show iBool (!iLt b a) m = _
  rw [iLt_eq]; cases decide (b < a) <;> rfl
theorem eqlU {a b : Int} : aBin2 P .eql ty lit (.int .u8 a) (.int .u8 b) m = .mk (.bool (decide (a = b))) m := by
  show iBool (iEq a b) m = _
  rw [iEq_eq, show (a == b) = decide (a = b) from rfl]; cases decide (a = b) <;> rfl
end
theorem OpTo.index {P : Program} {S : Sums} {t0 : T AV} {σ : List (Nat × AV)} {m : AMem} {ty : TypeId} {x i : Operand} {s : List Nat} {k : IntKind} {j c : Nat} (hx : ev σ x = some (.str s)) (hi : ev σ i = some (.int k (.ofNat j))) (ht : P.underlying ty = some .string) (hc : s[j]? = some c) :
    OpTo P S (.index ty x i) (toT t0 σ) m (.int .u8 (.ofNat c)) m := OpTo.of fun call => by
  show evK (toT t0 σ) x (fun x => evK (toT t0 σ) i fun i => aIndex P ty x i m) = _
  rw [evK_eq, evK_eq, ev_is hx, ev_is hi]
  unfold aIndex
  simp only [ht, hc]
/-- A part of a string from its beginning. -/
theorem strTo {P : Program} {ty : TypeId} {s : List Nat} {k : IntKind} {i : Nat} {m : AMem} (ht : P.underlying ty = some .string) (hi : i ≤ s.length) : aSlice P ty (.str s) none (some (.int k (.ofNat i))) none m = .mk (.str (s.take i)) m := by
  unfold aSlice
  rw [ht]
  simp only
  rw [fNat_eq]
  show bif2 (Nat.ble 0 i && Nat.ble i s.length) (OR.mk (.str ((s.drop 0).take (Nat.sub i 0))) m) (.fail 67) = _
  rw [Nat.ble_eq_true_of_le (Nat.zero_le i), Nat.ble_eq_true_of_le hi]
  rfl
structure TokD where
  name : List Nat
  level : Int
  assoc : Int
structure RuleD where
  left : List Nat
  right : List (List Nat)
  prec : List Nat
abbrev strC (s : List Nat) : List AV := [.str s]
abbrev tokC (t : TokD) : List AV := [.str t.name, .int .i64 t.level, .int .i64 t.assoc]
abbrev rdC (q : List Nat × PV × List Nat) : List AV := [.str q.1, q.2.1.1, .str q.2.2]
theorem encStr : Enc strC 1 := ⟨fun _ => rfl, fun _ => rfl⟩
theorem encTok : Enc tokC 3 := ⟨fun _ => rfl, fun _ => rfl⟩
theorem encRd : Enc rdC 3 := ⟨fun _ => rfl, fun q => by show (true && (q.2.1.1.plain && (true && true))) = true; rw [q.2.1.2]; rfl⟩
/-- Rules by names. -/
noncomputable def GRulesIs (m : AMem) (v : AV) (rs : List RuleD) : Prop := ∃ raw : List (List Nat × PV × List Nat), RowIs rdC 3 m v raw ∧ raw.length = rs.length ∧ ∀ (i : Nat) q r, raw[i]? = some q → rs[i]? = some r → q.1 = r.left ∧ q.2.2 = r.prec ∧ RowIs strC 1 m q.2.1.1 r.right
theorem GRulesIs.up {m m' : AMem} {v : AV} {rs : List RuleD} (h : GRulesIs m v rs) (k : Kp Nothing m m') : GRulesIs m' v rs := by
  obtain ⟨raw, h1, h2, h3⟩ := h
  exact ⟨raw, h1.up k, h2, fun i q r hq hr => let ⟨a, b, c⟩ := h3 i q r hq hr; ⟨a, b, c.up k⟩⟩
theorem GRulesIs.elem {m M : AMem} {v : AV} {rs : List RuleD} (h : GRulesIs m v rs) (K : Kp Nothing m M) {i : Nat} {r : RuleD} (hx : rs[i]? = some r) :
    ∃ b off cap vr, v = .slice b off rs.length cap ∧ i < rs.length ∧ ElAt M b (off + i * 3) [.str r.left, vr, .str r.prec] ∧ RowIs strC 1 M vr r.right ∧ [.str r.left, vr, .str r.prec].all AV.plain = true := by
  obtain ⟨raw, h1, h2, h3⟩ := h.up K
  obtain ⟨hi, _⟩ := List.getElem?_eq_some_iff.1 hx
  obtain ⟨q, hq⟩ : ∃ q, raw[i]? = some q := ⟨raw[i]'(by omega), List.getElem?_eq_getElem _⟩
  obtain ⟨e1, e2, R⟩ := h3 i q r hq hx
  obtain ⟨b, off, cap, e, _, E⟩ := h1.elem encRd (.refl _) hq
  refine ⟨b, off, cap, q.2.1.1, by rw [e, h2], hi, ?_, R, by show (true && (q.2.1.1.plain && (true && true))) = true; rw [q.2.1.2]; rfl⟩
  rw [← e1, ← e2]; exact E
/-- A grammar. -/
structure GrD where
  toks : List TokD
  start : List Nat
  expect : Int
  rules : List RuleD
abbrev gramV (vt : AV) (g : GrD) (vr : AV) : AV := .agg [vt, .str g.start, .int .i64 g.expect, vr]
structure GramIs (m : AMem) (vt vr : AV) (g : GrD) : Prop where
  t : RowIs tokC 3 m vt g.toks
  r : GRulesIs m vr g.rules
theorem GramIs.up {m m' : AMem} {vt vr : AV} {g : GrD} (h : GramIs m vt vr g) (k : Kp Nothing m m') : GramIs m' vt vr g := ⟨h.t.up k, h.r.up k⟩
/-- No more of all than may be. -/
structure GSmall (g : GrD) : Prop where
  t : g.toks.length < 100000
  r : g.rules.length < 100000
  rr : ∀ r ∈ g.rules, r.right.length < 100000
theorem rowLen22 {α : Type} {enc : α → List AV} {sz : Nat} {m : AMem} {v : AV} {raw : List α} (h : RowIs enc sz m v raw) {M : AMem} : aLen Tryz.prog 22 v M = .mk (.int .i64 (.ofNat raw.length)) M := by
  rcases h with ⟨rfl, rfl⟩ | ⟨rfl, rfl⟩ | ⟨b, off, cap, rfl, _⟩
  · exact len22n
  · exact len22e
  · exact len22
theorem rowLen27 {α : Type} {enc : α → List AV} {sz : Nat} {m : AMem} {v : AV} {raw : List α} (h : RowIs enc sz m v raw) {M : AMem} : aLen Tryz.prog 27 v M = .mk (.int .i64 (.ofNat raw.length)) M := by
  rcases h with ⟨rfl, rfl⟩ | ⟨rfl, rfl⟩ | ⟨b, off, cap, rfl, _⟩
  · exact len27n
  · exact len27e
  · exact len27
theorem rowLen23 {m : AMem} {v : AV} {rs : List RuleD} (h : GRulesIs m v rs) {M : AMem} : aLen Tryz.prog 23 v M = .mk (.int .i64 (.ofNat rs.length)) M := by
  obtain ⟨raw, h1, h2, _⟩ := h
  rw [← h2]
  rcases h1 with ⟨rfl, rfl⟩ | ⟨rfl, rfl⟩ | ⟨b, off, cap, rfl, _⟩
  · exact len23n
  · exact len23e
  · exact len23
/-- Where a name stands first; -1. -/
noncomputable def placeI (l : List (List Nat)) (s : List Nat) : Int := match l.findIdx? (fun x => decide (x = s)) with
  | some i => Int.ofNat i
  | none => -1
theorem placeI_some {l : List (List Nat)} {s : List Nat} {i : Nat} (hi : l[i]? = some s) (h : ∀ (j : Nat) x, j < i → l[j]? = some x → x ≠ s) : placeI l s = Int.ofNat i := by
  have : l.findIdx? (fun x => decide (x = s)) = some i := by
    rw [List.findIdx?_eq_some_iff_getElem]
    obtain ⟨h1, h2⟩ := List.getElem?_eq_some_iff.1 hi
    refine ⟨h1, by rw [h2]; simp, fun j hj => ?_⟩
    simpa using h j _ hj (List.getElem?_eq_getElem (by omega))
  rw [placeI, this]
theorem placeI_none {l : List (List Nat)} {s : List Nat} (h : ∀ (j : Nat) x, j < l.length → l[j]? = some x → x ≠ s) : placeI l s = -1 := by
  have : l.findIdx? (fun x => decide (x = s)) = none := by
    rw [List.findIdx?_eq_none_iff]
    intro x hx
    obtain ⟨j, hj, e⟩ := List.getElem_of_mem hx
    simpa using h j x hj (by rw [List.getElem?_eq_getElem hj, e])
  rw [placeI, this]
theorem placeI_mem {l : List (List Nat)} {s : List Nat} : (0 ≤ placeI l s ↔ s ∈ l) ∧ (s ∈ l → ∃ i : Nat, placeI l s = Int.ofNat i ∧ l[i]? = some s) ∧ placeI l s < l.length := by
  unfold placeI
  cases e : l.findIdx? (fun x => decide (x = s)) with
  | some i =>
    rw [List.findIdx?_eq_some_iff_getElem] at e
    obtain ⟨h1, h2, _⟩ := e
    have h3 : l[i] = s := by simpa using h2
    have hm : s ∈ l := h3 ▸ List.getElem_mem h1
    refine ⟨⟨fun _ => hm, fun _ => ofNat_nn i⟩, fun _ => ⟨i, rfl, by rw [List.getElem?_eq_getElem h1, h3]⟩, by show (i : Int) < l.length; omega⟩
  | none =>
    rw [List.findIdx?_eq_none_iff] at e
    have hm : s ∉ l := fun hm => by have := e s hm; simp at this
    exact ⟨⟨fun h => absurd h (by decide), fun h => absurd h hm⟩, fun h => absurd h hm, by show (-1 : Int) < l.length; omega⟩
end Go.Ev
end
section
namespace Go.Ev
set_option linter.all false
open Go.Proofs
set_option maxRecDepth 10000
set_option maxHeartbeats 2000000
theorem call56 {S : Sums} (hS : Plain S [56]) {m : AMem} (c : Int) : ∃ r m', CallTo Tryz.prog S 56 [.int .u8 c] m r m' ∧ ∃ b : Bool, r = .bool b ∧ Kp Nothing m m' := by
  refine XP.call (hS 56 (by decide)) cd56 nt56 ?_
  show XP _ _ _ _ (toT .leaf [(0, .int .u8 c)]) m _
  unfold Tryz.f56
  dsimp only [Option.getD_some]
  have K : Kp Nothing m m := .refl m
  refine XP.seq ?_; refine XP.regionS ?_; refine RP.o1 (.assign rfl) rfl rfl ?_; refine RP.nil ?_; refine XP.seq ?_; refine XP.regionS ?_; refine RP.o1 (.move rfl) rfl rfl ?_; refine RP.o1 (.bin rfl rfl geqU) rfl rfl ?_; refine RP.o1 (.move rfl) rfl rfl ?_
  rcases Decidable.em (c < 97) with hp5 | hp5
  · simp only [decide_eq_true hp5]; simp only [Bool.not_true]
    refine RP.skip ⟨_,_,_,rfl,rfl,rfl,rfl⟩ rfl ?_; refine RP.skip ⟨_,_,_,rfl,rfl,rfl,rfl⟩ rfl ?_; refine RP.o1 (.pick (b := false) rfl rfl) rfl rfl ?_; refine RP.o1 (.move rfl) rfl rfl ?_; refine RP.o1 (.move rfl) rfl ⟨_,_,_,rfl,rfl,rfl,rfl⟩ ?_; refine RP.o1 (.bin rfl rfl geqU) rfl ⟨_,_,_,rfl,rfl,rfl,rfl⟩ ?_; refine RP.o1 (.move rfl) rfl ⟨_,_,_,rfl,rfl,rfl,rfl⟩ ?_
    rcases Decidable.em (c < 65) with hp12 | hp12
    · simp only [decide_eq_true hp12]; simp only [Bool.not_true]
      refine RP.skip ⟨_,_,_,rfl,rfl,rfl,rfl⟩ rfl ?_; refine RP.skip ⟨_,_,_,rfl,rfl,rfl,rfl⟩ rfl ?_; refine RP.o1 (.pick (b := false) rfl rfl) rfl ⟨_,_,_,rfl,rfl,rfl,rfl⟩ ?_; refine RP.o1 (.pick (b := false) rfl rfl) rfl rfl ?_; refine RP.o1 (.move rfl) rfl rfl ?_; refine RP.o1 (.move rfl) rfl ⟨_,_,_,rfl,rfl,rfl,rfl⟩ ?_; refine RP.o1 (.bin rfl rfl eqlU) rfl ⟨_,_,_,rfl,rfl,rfl,rfl⟩ ?_; refine RP.o1 (.pick (b := false) rfl rfl) rfl rfl ?_; refine RP.o1 (.assign rfl) rfl rfl ?_; refine RP.nil ?_
      exact XP.ret ⟨.inr rfl, _, _, oneRes rfl, _, rfl, K⟩
    · simp only [decide_eq_false hp12]; simp only [Bool.not_false]
      refine RP.o1 (.move rfl) rfl ⟨_,_,_,rfl,rfl,rfl,rfl⟩ ?_; refine RP.o1 (.bin rfl rfl leqU) rfl ⟨_,_,_,rfl,rfl,rfl,rfl⟩ ?_; refine RP.o1 (.pick (b := true) rfl rfl) rfl ⟨_,_,_,rfl,rfl,rfl,rfl⟩ ?_; refine RP.o1 (.pick (b := false) rfl rfl) rfl rfl ?_; refine RP.o1 (.move rfl) rfl rfl ?_
      rcases Decidable.em (90 < c) with hp17 | hp17
      · simp only [decide_eq_true hp17]; simp only [Bool.not_true]
        refine RP.o1 (.move rfl) rfl ⟨_,_,_,rfl,rfl,rfl,rfl⟩ ?_; refine RP.o1 (.bin rfl rfl eqlU) rfl ⟨_,_,_,rfl,rfl,rfl,rfl⟩ ?_; refine RP.o1 (.pick (b := false) rfl rfl) rfl rfl ?_; refine RP.o1 (.assign rfl) rfl rfl ?_; refine RP.nil ?_
        exact XP.ret ⟨.inr rfl, _, _, oneRes rfl, _, rfl, K⟩
      · simp only [decide_eq_false hp17]; simp only [Bool.not_false]
        refine RP.skip ⟨_,_,_,rfl,rfl,rfl,rfl⟩ rfl ?_; refine RP.skip ⟨_,_,_,rfl,rfl,rfl,rfl⟩ rfl ?_; refine RP.o1 (.pick (b := true) rfl rfl) rfl rfl ?_; refine RP.o1 (.assign rfl) rfl rfl ?_; refine RP.nil ?_
        exact XP.ret ⟨.inr rfl, _, _, oneRes rfl, _, rfl, K⟩
  · simp only [decide_eq_false hp5]; simp only [Bool.not_false]
    refine RP.o1 (.move rfl) rfl ⟨_,_,_,rfl,rfl,rfl,rfl⟩ ?_; refine RP.o1 (.bin rfl rfl leqU) rfl ⟨_,_,_,rfl,rfl,rfl,rfl⟩ ?_; refine RP.o1 (.pick (b := true) rfl rfl) rfl rfl ?_; refine RP.o1 (.move rfl) rfl rfl ?_
    rcases Decidable.em (122 < c) with hp9 | hp9
    · simp only [decide_eq_true hp9]; simp only [Bool.not_true]
      refine RP.o1 (.move rfl) rfl ⟨_,_,_,rfl,rfl,rfl,rfl⟩ ?_; refine RP.o1 (.bin rfl rfl geqU) rfl ⟨_,_,_,rfl,rfl,rfl,rfl⟩ ?_; refine RP.o1 (.move rfl) rfl ⟨_,_,_,rfl,rfl,rfl,rfl⟩ ?_
      rcases Decidable.em (c < 65) with hp12 | hp12
      · simp only [decide_eq_true hp12]; simp only [Bool.not_true]
        refine RP.skip ⟨_,_,_,rfl,rfl,rfl,rfl⟩ rfl ?_; refine RP.skip ⟨_,_,_,rfl,rfl,rfl,rfl⟩ rfl ?_; refine RP.o1 (.pick (b := false) rfl rfl) rfl ⟨_,_,_,rfl,rfl,rfl,rfl⟩ ?_; refine RP.o1 (.pick (b := false) rfl rfl) rfl rfl ?_; refine RP.o1 (.move rfl) rfl rfl ?_; refine RP.o1 (.move rfl) rfl ⟨_,_,_,rfl,rfl,rfl,rfl⟩ ?_; refine RP.o1 (.bin rfl rfl eqlU) rfl ⟨_,_,_,rfl,rfl,rfl,rfl⟩ ?_; refine RP.o1 (.pick (b := false) rfl rfl) rfl rfl ?_; refine RP.o1 (.assign rfl) rfl rfl ?_; refine RP.nil ?_
        exact XP.ret ⟨.inr rfl, _, _, oneRes rfl, _, rfl, K⟩
      · simp only [decide_eq_false hp12]; simp only [Bool.not_false]
        refine RP.o1 (.move rfl) rfl ⟨_,_,_,rfl,rfl,rfl,rfl⟩ ?_; refine RP.o1 (.bin rfl rfl leqU) rfl ⟨_,_,_,rfl,rfl,rfl,rfl⟩ ?_; refine RP.o1 (.pick (b := true) rfl rfl) rfl ⟨_,_,_,rfl,rfl,rfl,rfl⟩ ?_; refine RP.o1 (.pick (b := false) rfl rfl) rfl rfl ?_; refine RP.o1 (.move rfl) rfl rfl ?_
        rcases Decidable.em (90 < c) with hp17 | hp17
        · simp only [decide_eq_true hp17]; simp only [Bool.not_true]
          refine RP.o1 (.move rfl) rfl ⟨_,_,_,rfl,rfl,rfl,rfl⟩ ?_; refine RP.o1 (.bin rfl rfl eqlU) rfl ⟨_,_,_,rfl,rfl,rfl,rfl⟩ ?_; refine RP.o1 (.pick (b := false) rfl rfl) rfl rfl ?_; refine RP.o1 (.assign rfl) rfl rfl ?_; refine RP.nil ?_
          exact XP.ret ⟨.inr rfl, _, _, oneRes rfl, _, rfl, K⟩
        · simp only [decide_eq_false hp17]; simp only [Bool.not_false]
          refine RP.skip ⟨_,_,_,rfl,rfl,rfl,rfl⟩ rfl ?_; refine RP.skip ⟨_,_,_,rfl,rfl,rfl,rfl⟩ rfl ?_; refine RP.o1 (.pick (b := true) rfl rfl) rfl rfl ?_; refine RP.o1 (.assign rfl) rfl rfl ?_; refine RP.nil ?_
          exact XP.ret ⟨.inr rfl, _, _, oneRes rfl, _, rfl, K⟩
    · simp only [decide_eq_false hp9]; simp only [Bool.not_false]
      refine RP.skip ⟨_,_,_,rfl,rfl,rfl,rfl⟩ rfl ?_; refine RP.skip ⟨_,_,_,rfl,rfl,rfl,rfl⟩ rfl ?_; refine RP.skip ⟨_,_,_,rfl,rfl,rfl,rfl⟩ rfl ?_; refine RP.skipU ⟨_, _, rfl, rfl, rfl⟩ rfl ?_; refine RP.skipU ⟨_, _, rfl, rfl, rfl⟩ rfl ?_; refine RP.skip ⟨_,_,_,rfl,rfl,rfl,rfl⟩ rfl ?_; refine RP.o1 (.pick (b := true) rfl rfl) rfl rfl ?_; refine RP.o1 (.move rfl) rfl rfl ?_; refine RP.skip ⟨_,_,_,rfl,rfl,rfl,rfl⟩ rfl ?_; refine RP.skip ⟨_,_,_,rfl,rfl,rfl,rfl⟩ rfl ?_; refine RP.o1 (.pick (b := true) rfl rfl) rfl rfl ?_; refine RP.o1 (.assign rfl) rfl rfl ?_; refine RP.nil ?_
      exact XP.ret ⟨.inr rfl, _, _, oneRes rfl, _, rfl, K⟩
theorem call57 {S : Sums} (hS : Plain S [57]) {m : AMem} (c : Int) : ∃ r m', CallTo Tryz.prog S 57 [.int .u8 c] m r m' ∧ ∃ b : Bool, r = .bool b ∧ Kp Nothing m m' := by
  refine XP.call (hS 57 (by decide)) cd57 nt57 ?_
  show XP _ _ _ _ (toT .leaf [(0, .int .u8 c)]) m _
  unfold Tryz.f57
  dsimp only [Option.getD_some]
  have K : Kp Nothing m m := .refl m
  refine XP.seq ?_; refine XP.regionS ?_; refine RP.o1 (.assign rfl) rfl rfl ?_; refine RP.nil ?_; refine XP.seq ?_; refine XP.regionS ?_; refine RP.o1 (.move rfl) rfl rfl ?_; refine RP.o1 (.bin rfl rfl geqU) rfl rfl ?_; refine RP.o1 (.move rfl) rfl rfl ?_
  rcases Decidable.em (c < 48) with hp5 | hp5
  · simp only [decide_eq_true hp5]; simp only [Bool.not_true]
    refine RP.skip ⟨_,_,_,rfl,rfl,rfl,rfl⟩ rfl ?_; refine RP.skip ⟨_,_,_,rfl,rfl,rfl,rfl⟩ rfl ?_; refine RP.o1 (.pick (b := false) rfl rfl) rfl rfl ?_; refine RP.o1 (.assign rfl) rfl rfl ?_; refine RP.nil ?_
    exact XP.ret ⟨.inr rfl, _, _, oneRes rfl, _, rfl, K⟩
  · simp only [decide_eq_false hp5]; simp only [Bool.not_false]
    refine RP.o1 (.move rfl) rfl ⟨_,_,_,rfl,rfl,rfl,rfl⟩ ?_; refine RP.o1 (.bin rfl rfl leqU) rfl ⟨_,_,_,rfl,rfl,rfl,rfl⟩ ?_; refine RP.o1 (.pick (b := true) rfl rfl) rfl rfl ?_; refine RP.o1 (.assign rfl) rfl rfl ?_; refine RP.nil ?_
    exact XP.ret ⟨.inr rfl, _, _, oneRes rfl, _, rfl, K⟩
theorem call37 {S : Sums} (hS : Plain S [37, 56, 57]) {m : AMem} {s : List Nat} (hl : s.length < 100000) : ∃ r m', CallTo Tryz.prog S 37 [.str s] m r m' ∧ ∃ b : Bool, r = .bool b ∧ Kp Nothing m m' ∧ (b = true → s ≠ []) := by
  refine XP.call (hS 37 (by decide)) cd37 nt37 ?_
  show XP _ _ _ _ (toT .leaf [(0, .str s)]) m _
  unfold Tryz.f37
  dsimp only [Option.getD_some]
  have K : Kp Nothing m m := .refl m
  refine XP.seq ?_; refine XP.regionS ?_; refine RP.o1 (.assign rfl) rfl rfl ?_; refine RP.nil ?_; refine XP.seq ?_; refine XP.seq ?_; refine XP.regionS ?_; refine RP.o1 (.assign rfl) rfl rfl ?_; refine RP.nil ?_
  refine XP.block ?_  -- block 0
  refine XP.while (fun d t m1 => ∃ i t0, t = toT t0 [(3, .int .i64 (.ofNat i)), (0, .str s)] ∧ d = s.length - i ∧ i ≤ s.length ∧ Kp Nothing m m1) ?_ s.length _ _ ?_
  rotate_left
  · exact ⟨0, _, toT_less (.cons rfl (.cons rfl (.nil))), rfl, Nat.zero_le _, .refl _⟩
  rintro d t M1 ⟨i, t0, rfl, rfl, hin, K⟩
  refine XP.seq ?_; refine XP.seq ?_; refine XP.regionS ?_; refine RP.o1 (.move rfl) rfl rfl ?_; refine RP.o1 (.move rfl) rfl rfl ?_; refine RP.o1 (.len rfl len9) rfl rfl ?_; refine RP.o1 (.bin rfl rfl (by first | exact lss_nat | exact lss_is)) rfl rfl ?_; refine RP.nil ?_
  refine XP.condD rfl (fun hc7 => ?_) (fun hc7 => ?_)  -- if t7
  · refine XP.skip ?_; refine XP.seq ?_
    refine XP.block ?_  -- block 1
    refine XP.seq ?_
    obtain ⟨c, hc⟩ : ∃ c, s[i]? = some c := ⟨s[i]'hc7, List.getElem?_eq_getElem _⟩
    obtain ⟨v1, M2, hc56, b1, rfl, K2⟩ := call56 (fun f hf => hS f (by simp at hf ⊢; omega)) (m := M1) (.ofNat c)
    obtain ⟨v2, M3, hc57, b2, rfl, K3⟩ := call57 (fun f hf => hS f (by simp at hf ⊢; omega)) (m := M2) (.ofNat c)
    refine XP.regionS ?_; refine RP.o1 (.move rfl) rfl rfl ?_; refine RP.o1 (.move rfl) rfl rfl ?_; refine RP.o1 (.index rfl rfl und9 hc) rfl rfl ?_; refine RP.op (.callS rfl rfl hc56) rfl rfl K2.le ?_
    have K := K.trans K2
    refine RP.o1 (.not_ rfl) rfl rfl ?_; refine RP.o1 (.move rfl) rfl rfl ?_
    rcases Bool.eq_false_or_eq_true ((!b1)) with hp15 | hp15
    · simp only [hp15]
      refine RP.o1 (.move rfl) rfl ⟨_,_,_,rfl,rfl,rfl,rfl⟩ ?_; refine RP.o1 (.bin rfl rfl eql_is) rfl ⟨_,_,_,rfl,rfl,rfl,rfl⟩ ?_; refine RP.o1 (.move rfl) rfl ⟨_,_,_,rfl,rfl,rfl,rfl⟩ ?_
      rcases Decidable.em (Int.ofNat i = 0) with hp18 | hp18
      · simp only [decide_eq_true hp18]
        refine RP.skip ⟨_,_,_,rfl,rfl,rfl,rfl⟩ rfl ?_; refine RP.skip ⟨_,_,_,rfl,rfl,rfl,rfl⟩ rfl ?_; refine RP.skip ⟨_,_,_,rfl,rfl,rfl,rfl⟩ rfl ?_; refine RP.skip ⟨_,_,_,rfl,rfl,rfl,rfl⟩ rfl ?_; refine RP.skip ⟨_,_,_,rfl,rfl,rfl,rfl⟩ rfl ?_; refine RP.o1 (.pick (b := true) rfl rfl) rfl ⟨_,_,_,rfl,rfl,rfl,rfl⟩ ?_; refine RP.o1 (.pick (b := true) rfl rfl) rfl rfl ?_; refine RP.nil ?_
        refine XP.condS true rfl ?_  -- if t25
        refine XP.seq ?_; refine XP.regionS ?_; refine RP.o1 (.assign rfl) rfl rfl ?_; refine RP.nil ?_
        first
        | exact XP.ret ⟨.inr rfl, _, _, oneRes rfl, false, rfl, K, fun h => by cases h⟩
        | exact XP.ret ⟨.inr rfl, _, _, oneRes rfl, _, rfl, K, fun _ e => hp29 (by rw [e]; decide)⟩
      · simp only [decide_eq_false hp18]
        refine RP.o1 (.move rfl) rfl ⟨_,_,_,rfl,rfl,rfl,rfl⟩ ?_; refine RP.o1 (.move rfl) rfl ⟨_,_,_,rfl,rfl,rfl,rfl⟩ ?_; refine RP.o1 (.index rfl rfl und9 hc) rfl ⟨_,_,_,rfl,rfl,rfl,rfl⟩ ?_; refine RP.op (.callS rfl rfl hc57) rfl ⟨_,_,_,rfl,rfl,rfl,rfl⟩ K3.le ?_
        have K := K.trans K3
        refine RP.o1 (.not_ rfl) rfl ⟨_,_,_,rfl,rfl,rfl,rfl⟩ ?_; refine RP.o1 (.pick (b := false) rfl rfl) rfl ⟨_,_,_,rfl,rfl,rfl,rfl⟩ ?_; refine RP.o1 (.pick (b := true) rfl rfl) rfl rfl ?_; refine RP.nil ?_
        refine XP.condB rfl (fun hc25 => ?_) (fun hc25 => ?_)  -- if t25
        · refine XP.seq ?_; refine XP.regionS ?_; refine RP.o1 (.assign rfl) rfl rfl ?_; refine RP.nil ?_
          first
          | exact XP.ret ⟨.inr rfl, _, _, oneRes rfl, false, rfl, K, fun h => by cases h⟩
          | exact XP.ret ⟨.inr rfl, _, _, oneRes rfl, _, rfl, K, fun _ e => hp29 (by rw [e]; decide)⟩
        · refine XP.skip ?_; refine XP.regionS ?_; refine RP.o1 (.move rfl) rfl rfl ?_
          refine RP.o1 (.bin rfl rfl (by first | exact inc_is (by omega) | exact add_is (by omega) (by omega))) rfl rfl ?_
          refine RP.o1 (.assign rfl) rfl rfl ?_; refine RP.nil ?_
          exact ⟨s.length - (i + 1), by omega, i + 1, _, toT_less (.cons rfl (.cons rfl (.nil))), rfl, by omega, K⟩
    · simp only [hp15]
      refine RP.skip ⟨_,_,_,rfl,rfl,rfl,rfl⟩ rfl ?_; refine RP.skip ⟨_,_,_,rfl,rfl,rfl,rfl⟩ rfl ?_; refine RP.skip ⟨_,_,_,rfl,rfl,rfl,rfl⟩ rfl ?_; refine RP.skipU ⟨_, _, rfl, rfl, rfl⟩ rfl ?_; refine RP.skipU ⟨_, _, rfl, rfl, rfl⟩ rfl ?_; refine RP.skipU ⟨_, _, rfl, rfl, rfl⟩ rfl ?_; refine RP.skipU ⟨_, _, rfl, rfl, rfl⟩ rfl ?_; refine RP.skipU ⟨_, _, rfl, rfl, rfl⟩ rfl ?_; refine RP.skip ⟨_,_,_,rfl,rfl,rfl,rfl⟩ rfl ?_; refine RP.o1 (.pick (b := false) rfl rfl) rfl rfl ?_; refine RP.nil ?_
      refine XP.condS false rfl ?_  -- if t25
      refine XP.skip ?_; refine XP.regionS ?_; refine RP.o1 (.move rfl) rfl rfl ?_
      refine RP.o1 (.bin rfl rfl (by first | exact inc_is (by omega) | exact add_is (by omega) (by omega))) rfl rfl ?_
      refine RP.o1 (.assign rfl) rfl rfl ?_; refine RP.nil ?_
      exact ⟨s.length - (i + 1), by omega, i + 1, _, toT_less (.cons rfl (.cons rfl (.nil))), rfl, by omega, K⟩
  · refine XP.exit ?_  -- 0
    refine XP.seq ?_; refine XP.regionS ?_; refine RP.o1 (.move rfl) rfl rfl ?_; refine RP.o1 (.len rfl len9) rfl rfl ?_; refine RP.o1 (.bin rfl rfl geq_is) rfl rfl ?_; refine RP.o1 (.move rfl) rfl rfl ?_
    rcases Decidable.em (Int.ofNat s.length < 1) with hp29 | hp29
    · simp only [decide_eq_true hp29]; simp only [Bool.not_true]
      refine RP.skip ⟨_,_,_,rfl,rfl,rfl,rfl⟩ rfl ?_; refine RP.skip ⟨_,_,_,rfl,rfl,rfl,rfl⟩ rfl ?_; refine RP.skip ⟨_,_,_,rfl,rfl,rfl,rfl⟩ rfl ?_; refine RP.o1 (.pick (b := false) rfl rfl) rfl rfl ?_; refine RP.o1 (.assign rfl) rfl rfl ?_; refine RP.nil ?_
      first
      | exact XP.ret ⟨.inr rfl, _, _, oneRes rfl, false, rfl, K, fun h => by cases h⟩
      | exact XP.ret ⟨.inr rfl, _, _, oneRes rfl, _, rfl, K, fun _ e => hp29 (by rw [e]; decide)⟩
    · simp only [decide_eq_false hp29]; simp only [Bool.not_false]
      refine RP.o1 (.move rfl) rfl ⟨_,_,_,rfl,rfl,rfl,rfl⟩ ?_; refine RP.o1 (.len rfl len9) rfl ⟨_,_,_,rfl,rfl,rfl,rfl⟩ ?_; refine RP.o1 (.bin rfl rfl leq_is) rfl ⟨_,_,_,rfl,rfl,rfl,rfl⟩ ?_; refine RP.o1 (.pick (b := true) rfl rfl) rfl rfl ?_; refine RP.o1 (.assign rfl) rfl rfl ?_; refine RP.nil ?_
      first
      | exact XP.ret ⟨.inr rfl, _, _, oneRes rfl, false, rfl, K, fun h => by cases h⟩
      | exact XP.ret ⟨.inr rfl, _, _, oneRes rfl, _, rfl, K, fun _ e => hp29 (by rw [e]; decide)⟩
theorem call24 {S : Sums} (hS : Plain S [24]) {m : AMem} {v : AV} {xs : List (List Nat)} {s : List Nat} (hv : RowIs strC 1 m v xs) (hl : xs.length < 1048576) : CallTo Tryz.prog S 24 [v, .str s] m (.int .i64 (placeI xs s)) m := by
  suffices H : ∃ r m', CallTo Tryz.prog S 24 [v, .str s] m r m' ∧ r = .int .i64 (placeI xs s) ∧ m' = m by
    obtain ⟨r, m', h, rfl, rfl⟩ := H
    exact h
  refine XP.call (hS 24 (by decide)) cd24 nt24 ?_
  show XP _ _ _ _ (toT .leaf [(1, .str s), (0, v)]) m _
  unfold Tryz.f24
  dsimp only [Option.getD_some]
  have K : Kp Nothing m m := .refl m
  refine XP.seq ?_; refine XP.regionS ?_; refine RP.o1 (.assign rfl) rfl rfl ?_; refine RP.nil ?_; refine XP.seq ?_; refine XP.seq ?_; refine XP.regionS ?_; refine RP.o1 (.assign rfl) rfl rfl ?_; refine RP.nil ?_
  refine XP.block ?_  -- block 0
  refine XP.while (fun d t m1 => ∃ i t0, t = toT t0 [(5, .int .i64 (.ofNat i)), (1, .str s), (0, v)] ∧ d = xs.length - i ∧ i ≤ xs.length ∧ (∀ (j : Nat) x, j < i → xs[j]? = some x → x ≠ s) ∧ m1 = m) ?_ xs.length _ _ ?_
  rotate_left
  · exact ⟨0, _, toT_less (.cons rfl (.cons rfl (.cons rfl (.nil)))), rfl, Nat.zero_le _, fun j _ hj => absurd hj (Nat.not_lt_zero _), rfl⟩
  rintro d t M1 ⟨i, t0, rfl, rfl, hin, hne, rfl⟩
  refine XP.seq ?_; refine XP.seq ?_; refine XP.regionS ?_; refine RP.o1 (.move rfl) rfl rfl ?_; refine RP.o1 (.move rfl) rfl rfl ?_; refine RP.o1 (.len rfl (rowLen27 hv)) rfl rfl ?_; refine RP.o1 (.bin rfl rfl (by first | exact lss_nat | exact lss_is)) rfl rfl ?_; refine RP.nil ?_
  refine XP.condD rfl (fun hc9 => ?_) (fun hc9 => ?_)  -- if t9
  · refine XP.skip ?_; refine XP.seq ?_
    refine XP.block ?_  -- block 1
    refine XP.seq ?_
    obtain ⟨x, hx⟩ : ∃ x, xs[i]? = some x := ⟨xs[i]'hc9, List.getElem?_eq_getElem _⟩
    obtain ⟨b, o, c, rfl, _, E1⟩ := hv.elem encStr (.refl _) hx
    refine XP.regionS ?_; refine RP.o1 (.move rfl) rfl rfl ?_; refine RP.o1 (.move rfl) rfl rfl ?_; refine RP.o1 (.indexAddr rfl rfl ix27 (by assumption)) rfl rfl ?_
    refine RP.o1 (.load1 rfl lay9 (by first | (apply BoxIs.get; assumption; rfl) | (apply ElAt.get; assumption; rfl) | (apply ElAt.get0; assumption; rfl) | assumption)) rfl rfl ?_
    refine RP.o1 (.move rfl) rfl rfl ?_; refine RP.o1 (.bin rfl rfl eqlS) rfl rfl ?_; refine RP.nil ?_
    refine XP.condD rfl (fun hc17 => ?_) (fun hc17 => ?_)  -- if t17
    · refine XP.seq ?_; refine XP.regionS ?_; refine RP.o1 (.move rfl) rfl rfl ?_; refine RP.o1 (.assign rfl) rfl rfl ?_; refine RP.nil ?_
      exact XP.ret ⟨.inr rfl, _, _, oneRes rfl, by rw [placeI_some (by rw [hx, hc17]) hne], rfl⟩
    · refine XP.skip ?_; refine XP.regionS ?_; refine RP.o1 (.move rfl) rfl rfl ?_
      refine RP.o1 (.bin rfl rfl (by first | exact inc_is (by omega) | exact add_is (by omega) (by omega))) rfl rfl ?_
      refine RP.o1 (.assign rfl) rfl rfl ?_; refine RP.nil ?_
      refine ⟨xs.length - (i + 1), by omega, i + 1, _, toT_less (.cons rfl (.cons rfl (.cons rfl (.nil)))), rfl, by omega, fun j y hj hy => ?_, rfl⟩
      rcases Nat.lt_or_ge j i with h | h
      · exact hne j y h hy
      · obtain rfl : j = i := by omega
        rw [hx] at hy; cases hy; exact hc17
  · refine XP.exit ?_  -- 0
    refine XP.seq ?_; refine XP.regionS ?_; refine RP.o1 (.assign rfl) rfl rfl ?_; refine RP.nil ?_
    exact XP.ret ⟨.inr rfl, _, _, oneRes rfl, by rw [placeI_none (fun j x hj hx => hne j x (by omega) hx)]; rfl, rfl⟩
theorem call38 {S : Sums} (hS : Plain S [38]) {m : AMem} {vt vr : AV} {g : GrD} {s : List Nat} (hg : GramIs m vt vr g) (hl : GSmall g) : ∃ r m', CallTo Tryz.prog S 38 [gramV vt g vr, .str s] m r m' ∧ r = .int .i64 (placeI (g.toks.map (·.name)) s) ∧ Kp Nothing m m' := by
  have hlt := hl.t
  refine XP.call (hS 38 (by decide)) cd38 nt38 ?_
  show XP _ _ _ _ (toT .leaf [(1, .str s), (0, gramV vt g vr)]) m _
  unfold Tryz.f38
  dsimp only [Option.getD_some]
  have K : Kp Nothing m m := .refl m
  refine XP.seq ?_; refine XP.regionS ?_
  have hk1 := K.le
  refine RP.box rfl rfl rfl rfl fun M1 K1 B2 N1 => ?_
  have K := K.trans K1
  have B2o := B2
  have hg0 := hg.up K1
  refine RP.o1 (.assign rfl) rfl rfl ?_; refine RP.nil ?_; refine XP.seq ?_; refine XP.seq ?_; refine XP.regionS ?_; refine RP.o1 (.assign rfl) rfl rfl ?_; refine RP.nil ?_
  refine XP.block ?_  -- block 0
  refine XP.while (fun d t m1 => ∃ i t0, t = toT t0 [(5, .int .i64 (.ofNat i)), (2, .ptr m.next 0), (1, .str s)] ∧ d = g.toks.length - i ∧ i ≤ g.toks.length ∧ (∀ (j : Nat) x, j < i → (g.toks.map (·.name))[j]? = some x → x ≠ s) ∧ m1 = M1) ?_ g.toks.length _ _ ?_
  rotate_left
  · exact ⟨0, _, toT_less (.cons rfl (.cons rfl (.cons rfl (.nil)))), rfl, Nat.zero_le _, fun j _ hj => absurd hj (Nat.not_lt_zero _), rfl⟩
  rintro d t M2 ⟨i, t0, rfl, rfl, hin, hne, rfl⟩
  have B2 := B2o
  refine XP.seq ?_; refine XP.seq ?_; refine XP.regionS ?_; refine RP.o1 (.move rfl) rfl rfl ?_; refine RP.o1 (.fieldAddr rfl fa25_0) rfl rfl ?_
  refine RP.o1 (.load1 rfl lay22 (by first | (apply BoxIs.get; assumption; rfl) | (apply ElAt.get; assumption; rfl) | (apply ElAt.get0; assumption; rfl) | assumption)) rfl rfl ?_
  refine RP.o1 (.len rfl (rowLen22 hg0.t)) rfl rfl ?_; refine RP.o1 (.bin rfl rfl (by first | exact lss_nat | exact lss_is)) rfl rfl ?_; refine RP.nil ?_
  refine XP.condD rfl (fun hc10 => ?_) (fun hc10 => ?_)  -- if t10
  · refine XP.skip ?_; refine XP.seq ?_
    refine XP.block ?_  -- block 1
    refine XP.seq ?_
    obtain ⟨x, hx⟩ : ∃ x, g.toks[i]? = some x := ⟨g.toks[i]'hc10, List.getElem?_eq_getElem _⟩
    obtain ⟨b, o, c, rfl, _, E1⟩ := hg0.t.elem encTok (.refl _) hx
    have hx2 : (g.toks.map (·.name))[i]? = some x.name := by rw [List.getElem?_map, hx]; rfl
    refine XP.regionS ?_; refine RP.o1 (.fieldAddr rfl fa25_0) rfl rfl ?_
    refine RP.o1 (.load1 rfl lay22 (by first | (apply BoxIs.get; assumption; rfl) | (apply ElAt.get; assumption; rfl) | (apply ElAt.get0; assumption; rfl) | assumption)) rfl rfl ?_
    refine RP.o1 (.move rfl) rfl rfl ?_; refine RP.o1 (.indexAddr rfl rfl ix22 (by assumption)) rfl rfl ?_; refine RP.o1 (.fieldAddr rfl fa40_0) rfl rfl ?_
    refine RP.o1 (.load1 rfl lay9 (by first | (apply BoxIs.get; assumption; rfl) | (apply ElAt.get; assumption; rfl) | (apply ElAt.get0; assumption; rfl) | assumption)) rfl rfl ?_
    refine RP.o1 (.move rfl) rfl rfl ?_; refine RP.o1 (.bin rfl rfl eqlS) rfl rfl ?_; refine RP.nil ?_
    refine XP.condD rfl (fun hc20 => ?_) (fun hc20 => ?_)  -- if t20
    · refine XP.seq ?_; refine XP.regionS ?_; refine RP.o1 (.move rfl) rfl rfl ?_; refine RP.o1 (.assign rfl) rfl rfl ?_; refine RP.nil ?_
      exact XP.ret ⟨.inr rfl, _, _, oneRes rfl, by rw [placeI_some (by rw [hx2, hc20]) hne], K⟩
    · refine XP.skip ?_; refine XP.regionS ?_; refine RP.o1 (.move rfl) rfl rfl ?_
      refine RP.o1 (.bin rfl rfl (by first | exact inc_is (by omega) | exact add_is (by omega) (by omega))) rfl rfl ?_
      refine RP.o1 (.assign rfl) rfl rfl ?_; refine RP.nil ?_
      refine ⟨g.toks.length - (i + 1), by omega, i + 1, _, toT_less (.cons rfl (.cons rfl (.cons rfl (.nil)))), rfl, by omega, fun j y hj hy => ?_, rfl⟩
      rcases Nat.lt_or_ge j i with h | h
      · exact hne j y h hy
      · obtain rfl : j = i := by omega
        rw [hx2] at hy; cases hy; exact hc20
  · refine XP.exit ?_  -- 0
    refine XP.seq ?_; refine XP.regionS ?_; refine RP.o1 (.assign rfl) rfl rfl ?_; refine RP.nil ?_
    exact XP.ret ⟨.inr rfl, _, _, oneRes rfl, by rw [placeI_none (fun j x hj hx => hne j x (by simp at hj; omega) hx)]; rfl, K⟩
theorem call28 {S : Sums} (hS : Plain S [28]) {m : AMem} {s : List Nat} {n : Nat} : CallTo Tryz.prog S 28 [.str s, .int .i64 (.ofNat n)] m (.str (s.take n)) m := by
  suffices H : ∃ r m', CallTo Tryz.prog S 28 [.str s, .int .i64 (.ofNat n)] m r m' ∧ r = .str (s.take n) ∧ m' = m by
    obtain ⟨r, m', h, rfl, rfl⟩ := H
    exact h
  refine XP.call (hS 28 (by decide)) cd28 nt28 ?_
  show XP _ _ _ _ (toT .leaf [(1, .int .i64 (.ofNat n)), (0, .str s)]) m _
  unfold Tryz.f28
  dsimp only [Option.getD_some]
  have K : Kp Nothing m m := .refl m
  refine XP.seq ?_; refine XP.regionS ?_; refine RP.o1 (.assign rfl) rfl rfl ?_; refine RP.nil ?_; refine XP.seq ?_; refine XP.seq ?_; refine XP.regionS ?_; refine RP.o1 (.move rfl) rfl rfl ?_; refine RP.o1 (.len rfl len9) rfl rfl ?_; refine RP.o1 (.move rfl) rfl rfl ?_; refine RP.o1 (.bin rfl rfl gtr_is) rfl rfl ?_; refine RP.nil ?_
  refine XP.condD rfl (fun hc8 => ?_) (fun hc8 => ?_)  -- if t8
  · refine XP.seq ?_
    have hlt : n < s.length := Int.ofNat_lt.1 hc8
    refine XP.regionS ?_; refine RP.o1 (.move rfl) rfl rfl ?_; refine RP.o1 (.move rfl) rfl rfl ?_; refine RP.o1 (OpTo.of fun _ => op_slice rfl rfl (map_some rfl) rfl (strTo und9 (by omega))) rfl rfl ?_; refine RP.o1 (.assign rfl) rfl rfl ?_; refine RP.nil ?_
    exact XP.ret ⟨.inr rfl, _, _, oneRes rfl, rfl, rfl⟩
  · refine XP.skip ?_; refine XP.seq ?_
    have hge : ¬ n < s.length := fun h => hc8 (Int.ofNat_lt.2 h)
    refine XP.regionS ?_; refine RP.o1 (.move rfl) rfl rfl ?_; refine RP.o1 (.assign rfl) rfl rfl ?_; refine RP.nil ?_
    exact XP.ret ⟨.inr rfl, _, _, oneRes rfl, by rw [List.take_of_length_le (by omega)], rfl⟩
end Go.Ev
end
section
namespace Go.Ev
set_option linter.all false
open Go.Proofs
set_option maxRecDepth 10000
set_option maxHeartbeats 2000000
theorem ap27 : appendable Tryz.prog (some 27) = true := by kernel_rfl
theorem fill27 {s : List Nat} : fillA (fun j => some (Nat.mul j 1, 1)) (repA [.str []] 1) [(0, .str s)] = some (strC s) := rfl
/-- The unlike ones, as they first come. -/
noncomputable def leftsL (rs : List RuleD) : List (List Nat) := rs.foldl (fun l r => if r.left ∈ l then l else l ++ [r.left]) []
theorem lefts_take {rs : List RuleD} {i : Nat} {r : RuleD} (h : rs[i]? = some r) : leftsL (rs.take (i + 1)) = if r.left ∈ leftsL (rs.take i) then leftsL (rs.take i) else leftsL (rs.take i) ++ [r.left] := by
  obtain ⟨hi, he⟩ := List.getElem?_eq_some_iff.1 h
  rw [List.take_succ_eq_append_getElem hi, he]
  unfold leftsL
  rw [List.foldl_append]
  rfl
theorem lefts_len (rs : List RuleD) (i : Nat) : (leftsL (rs.take i)).length ≤ i := by
  induction i with
  | zero => simp [leftsL]
  | succ i ih =>
    by_cases hi : i < rs.length
    · rw [lefts_take (List.getElem?_eq_getElem hi)]
      split
      · omega
      · simp; omega
    · rw [List.take_of_length_le (by omega)] at ih ⊢
      omega
theorem lefts_mem {rs : List RuleD} : ∀ (i : Nat) (j : Nat) r, j < i → rs[j]? = some r → r.left ∈ leftsL (rs.take i) := by
  intro i
  induction i with
  | zero => intro j r hj; omega
  | succ i ih =>
    intro j r hj hr
    by_cases hi : i < rs.length
    · obtain ⟨q, hq⟩ : ∃ q, rs[i]? = some q := ⟨rs[i], List.getElem?_eq_getElem hi⟩
      rw [lefts_take hq]
      by_cases e : j = i
      · subst e
        rw [hq] at hr; cases hr
        split
        · assumption
        · simp
      · have := ih j r (by omega) hr
        split
        · exact this
        · simp [this]
    · have hj2 := (List.getElem?_eq_some_iff.1 hr).1
      have := ih j r (by omega) hr
      rw [List.take_of_length_le (by omega)] at this ⊢
      exact this
theorem call23 {S : Sums} (hS : Plain S [23, 24]) {m : AMem} {vt vr : AV} {g : GrD} (hg : GramIs m vt vr g) (hl : GSmall g) :
    ∃ u m', CallTo Tryz.prog S 23 [gramV vt g vr] m u m' ∧ Kp Nothing m m' ∧ GrowIs strC 1 m.next m' u (leftsL g.rules) := by
  have hS24 : Plain S [24] := fun f hf => hS f (by simp at hf ⊢; omega)
  have hlr := hl.r
  obtain ⟨i27, e27, s27⟩ := ei27
  refine XP.call (hS 23 (by decide)) cd23 nt23 ?_
  show XP _ _ _ _ (toT .leaf [(0, gramV vt g vr)]) m _
  unfold Tryz.f23
  dsimp only [Option.getD_some]
  have K : Kp Nothing m m := .refl m
  refine XP.seq ?_; refine XP.regionS ?_
  have hk1 := K.le
  refine RP.box rfl rfl rfl rfl fun M1 K1 B1 N1 => ?_
  have K := K.trans K1
  have B1o := B1
  have hg0 := hg.up K1
  have hk1' := K1.le
  refine RP.o1 (.assign rfl) rfl rfl ?_; refine RP.nil ?_; refine XP.seq ?_; refine XP.regionS ?_; refine RP.o1 (.assign rfl) rfl rfl ?_; refine RP.nil ?_; refine XP.seq ?_; refine XP.seq ?_; refine XP.regionS ?_; refine RP.o1 (.assign rfl) rfl rfl ?_; refine RP.nil ?_
  refine XP.block ?_  -- block 0
  refine XP.while (fun d t m1 => ∃ i t0 u, t = toT t0 [(4, .int .i64 (.ofNat i)), (3, u), (1, .ptr m.next 0)] ∧ d = g.rules.length - i ∧ i ≤ g.rules.length ∧ Kp Nothing M1 m1 ∧ GrowIs strC 1 M1.next m1 u (leftsL (g.rules.take i))) ?_ g.rules.length _ _ ?_
  rotate_left
  · exact ⟨0, _, .nils, toT_less (.cons rfl (.cons rfl (.cons rfl (.nil)))), rfl, Nat.zero_le _, .refl _, .inl ⟨rfl, rfl⟩⟩
  rintro d t M2 ⟨i, t0, u, rfl, rfl, hin, KA, G⟩
  have K := K1.trans KA
  have B1 := B1o.up KA
  have hgM := hg0.up KA
  have hKA := KA.le
  have hll := lefts_len g.rules i
  refine XP.seq ?_; refine XP.seq ?_; refine XP.regionS ?_; refine RP.o1 (.move rfl) rfl rfl ?_; refine RP.o1 (.fieldAddr rfl fa25_3) rfl rfl ?_
  refine RP.o1 (.load1 rfl lay23 (by first | (apply BoxIs.get; assumption; rfl) | (apply ElAt.get; assumption; rfl) | (apply ElAt.get0; assumption; rfl) | assumption)) rfl rfl ?_
  refine RP.o1 (.len rfl (rowLen23 hgM.r)) rfl rfl ?_; refine RP.o1 (.bin rfl rfl (by first | exact lss_nat | exact lss_is)) rfl rfl ?_; refine RP.nil ?_
  refine XP.condD rfl (fun hc9 => ?_) (fun hc9 => ?_)  -- if t9
  · refine XP.skip ?_; refine XP.seq ?_
    refine XP.block ?_  -- block 1
    refine XP.seq ?_
    obtain ⟨r, hr⟩ : ∃ r, g.rules[i]? = some r := ⟨g.rules[i]'hc9, List.getElem?_eq_getElem _⟩
    obtain ⟨b, o, c, vq, e5, _, E1, RQ, _⟩ := hgM.r.elem (.refl _) hr
    subst e5
    have htk := lefts_take hr
    refine XP.regionS ?_; refine RP.o1 (.move rfl) rfl rfl ?_; refine RP.o1 (.fieldAddr rfl fa25_3) rfl rfl ?_
    refine RP.o1 (.load1 rfl lay23 (by first | (apply BoxIs.get; assumption; rfl) | (apply ElAt.get; assumption; rfl) | (apply ElAt.get0; assumption; rfl) | assumption)) rfl rfl ?_
    refine RP.o1 (.move rfl) rfl rfl ?_; refine RP.o1 (.indexAddr rfl rfl ix23 (by assumption)) rfl rfl ?_; refine RP.o1 (.fieldAddr rfl fa42_0) rfl rfl ?_
    refine RP.o1 (.load1 rfl lay9 (by first | (apply BoxIs.get; assumption; rfl) | (apply ElAt.get; assumption; rfl) | (apply ElAt.get0; assumption; rfl) | assumption)) rfl rfl ?_
    refine RP.o1 (.callS rfl rfl (call24 hS24 G.row (by omega))) rfl rfl ?_; refine RP.o1 (.bin rfl rfl (by first | exact lss_nat | exact lss_is)) rfl rfl ?_; refine RP.nil ?_
    refine XP.condD rfl (fun hc20 => ?_) (fun hc20 => ?_)  -- if t20
    · have hnm : r.left ∉ leftsL (g.rules.take i) := fun h => by have := placeI_mem.1.2 h; omega
      rw [if_neg hnm] at htk
      obtain ⟨u2, M2, ha, hm2, G2, K2, _, _⟩ := append_one (x := r.left) encStr (by decide) e27 s27 ap27 G hKA (by omega)
      refine XP.regionS ?_; refine RP.o1 (.move rfl) rfl rfl ?_; refine RP.o1 (.fieldAddr rfl fa25_3) rfl rfl ?_
      refine RP.o1 (.load1 rfl lay23 (by first | (apply BoxIs.get; assumption; rfl) | (apply ElAt.get; assumption; rfl) | (apply ElAt.get0; assumption; rfl) | assumption)) rfl rfl ?_
      refine RP.o1 (.move rfl) rfl rfl ?_; refine RP.o1 (.indexAddr rfl rfl ix23 (by assumption)) rfl rfl ?_; refine RP.o1 (.fieldAddr rfl fa42_0) rfl rfl ?_
      refine RP.o1 (.load1 rfl lay9 (by first | (apply BoxIs.get; assumption; rfl) | (apply ElAt.get; assumption; rfl) | (apply ElAt.get0; assumption; rfl) | assumption)) rfl rfl ?_
      refine RP.op (.buildSlice rfl e27 (by rw [s27]; rfl) (by rw [s27]; exact fill27)) rfl rfl (Nat.le_succ _) ?_
      rw [s27]
      refine RP.op (OpTo.of fun _ => op_append rfl rfl ha) rfl rfl hm2 ?_; refine RP.o1 (.assign rfl) rfl rfl ?_; refine RP.nil ?_; refine XP.regionS ?_; refine RP.o1 (.move rfl) rfl rfl ?_
      refine RP.o1 (.bin rfl rfl (by first | exact inc_is (by omega) | exact add_is (by omega) (by omega))) rfl rfl ?_
      refine RP.o1 (.assign rfl) rfl rfl ?_; refine RP.nil ?_
      exact ⟨g.rules.length - (i + 1), by omega, i + 1, _, u2, toT_less (.cons rfl (.cons rfl (.cons rfl (.nil)))), rfl, by omega, KA.young K2 (fun _ h => h), by rw [htk]; exact G2⟩
    · refine XP.skip ?_; refine XP.regionS ?_; refine RP.o1 (.move rfl) rfl rfl ?_
      refine RP.o1 (.bin rfl rfl (by first | exact inc_is (by omega) | exact add_is (by omega) (by omega))) rfl rfl ?_
      refine RP.o1 (.assign rfl) rfl rfl ?_; refine RP.nil ?_
      have hm : r.left ∈ leftsL (g.rules.take i) := placeI_mem.1.1 (Int.not_lt.1 hc20)
      rw [if_pos hm] at htk
      exact ⟨g.rules.length - (i + 1), by omega, i + 1, _, u, toT_less (.cons rfl (.cons rfl (.cons rfl (.nil)))), rfl, by omega, KA, by rw [htk]; exact G⟩
  · refine XP.exit ?_  -- 0
    refine XP.seq ?_; refine XP.regionS ?_; refine RP.o1 (.move rfl) rfl rfl ?_; refine RP.o1 (.assign rfl) rfl rfl ?_; refine RP.nil ?_
    obtain rfl : i = g.rules.length := by omega
    rw [List.take_length] at G
    refine XP.ret ⟨.inr rfl, _, _, oneRes rfl, K, ?_⟩
    rcases G with h | ⟨b, c, e, hlo, q⟩
    · exact .inl h
    · exact .inr ⟨b, c, e, by omega, q⟩
/-- Within the limits. -/
structure GLim (g : GrD) : Prop where
  t : g.toks.length ≤ 12
  r : g.rules.length ≤ 30
  rr : ∀ r ∈ g.rules, r.right.length ≤ 6
  l : (leftsL g.rules).length ≤ 10
theorem call21 {S : Sums} (hS : Plain S [21, 23, 24]) {m : AMem} {vt vr : AV} {g : GrD} (hg : GramIs m vt vr g) (hl : GSmall g) :
    ∃ r m', CallTo Tryz.prog S 21 [gramV vt g vr] m r m' ∧ ∃ b : Bool, r = .bool b ∧ Kp Nothing m m' ∧ (b = false → GLim g) := by
  have hS23 : Plain S [23, 24] := fun f hf => hS f (by simp at hf ⊢; omega)
  have hlr := hl.r
  refine XP.call (hS 21 (by decide)) cd21 nt21 ?_
  show XP _ _ _ _ (toT .leaf [(0, gramV vt g vr)]) m _
  unfold Tryz.f21
  dsimp only [Option.getD_some]
  have K : Kp Nothing m m := .refl m
  refine XP.seq ?_; refine XP.regionS ?_
  have hk1 := K.le
  refine RP.box rfl rfl rfl rfl fun M1 K1 B1 N1 => ?_
  have K := K.trans K1
  have B1o := B1
  have hg0 := hg.up K1
  refine RP.o1 (.assign rfl) rfl rfl ?_; refine RP.nil ?_; refine XP.seq ?_; refine XP.seq ?_; refine XP.regionS ?_; refine RP.o1 (.assign rfl) rfl rfl ?_; refine RP.nil ?_
  refine XP.block ?_  -- block 0
  refine XP.while (fun d t m1 => ∃ i t0, t = toT t0 [(3, .int .i64 (.ofNat i)), (1, .ptr m.next 0)] ∧ d = g.rules.length - i ∧ i ≤ g.rules.length ∧ (∀ (j : Nat) r, j < i → g.rules[j]? = some r → r.right.length ≤ 6) ∧ m1 = M1) ?_ g.rules.length _ _ ?_
  rotate_left
  · exact ⟨0, _, toT_less (.cons rfl (.cons rfl (.nil))), rfl, Nat.zero_le _, fun j r hj => absurd hj (Nat.not_lt_zero _), rfl⟩
  rintro d t M2 ⟨i, t0, rfl, rfl, hin, hsh, rfl⟩
  have B1 := B1o
  have hgM := hg0
  refine XP.seq ?_; refine XP.seq ?_; refine XP.regionS ?_; refine RP.o1 (.move rfl) rfl rfl ?_; refine RP.o1 (.fieldAddr rfl fa25_3) rfl rfl ?_
  refine RP.o1 (.load1 rfl lay23 (by first | (apply BoxIs.get; assumption; rfl) | (apply ElAt.get; assumption; rfl) | (apply ElAt.get0; assumption; rfl) | assumption)) rfl rfl ?_
  refine RP.o1 (.len rfl (rowLen23 hgM.r)) rfl rfl ?_; refine RP.o1 (.bin rfl rfl (by first | exact lss_nat | exact lss_is)) rfl rfl ?_; refine RP.nil ?_
  refine XP.condD rfl (fun hc8 => ?_) (fun hc8 => ?_)  -- if t8
  · refine XP.skip ?_; refine XP.seq ?_
    refine XP.block ?_  -- block 1
    refine XP.seq ?_
    obtain ⟨r, hr⟩ : ∃ r, g.rules[i]? = some r := ⟨g.rules[i]'hc8, List.getElem?_eq_getElem _⟩
    obtain ⟨b, o, c, vq, e5, _, E1, RQ, _⟩ := hgM.r.elem (.refl _) hr
    subst e5
    refine XP.regionS ?_; refine RP.o1 (.fieldAddr rfl fa25_3) rfl rfl ?_
    refine RP.o1 (.load1 rfl lay23 (by first | (apply BoxIs.get; assumption; rfl) | (apply ElAt.get; assumption; rfl) | (apply ElAt.get0; assumption; rfl) | assumption)) rfl rfl ?_
    refine RP.o1 (.move rfl) rfl rfl ?_; refine RP.o1 (.indexAddr rfl rfl ix23 (by assumption)) rfl rfl ?_; refine RP.o1 (.fieldAddr rfl fa42_1) rfl rfl ?_
    refine RP.o1 (.load1 rfl lay27 (by first | (apply BoxIs.get; assumption; rfl) | (apply ElAt.get; assumption; rfl) | (apply ElAt.get0; assumption; rfl) | assumption)) rfl rfl ?_
    refine RP.o1 (.len rfl (rowLen27 RQ)) rfl rfl ?_; refine RP.o1 (.bin rfl rfl gtr_is) rfl rfl ?_; refine RP.nil ?_
    refine XP.condD rfl (fun hc18 => ?_) (fun hc18 => ?_)  -- if t18
    · refine XP.seq ?_; refine XP.regionS ?_; refine RP.o1 (.assign rfl) rfl rfl ?_; refine RP.nil ?_
      first
      | exact XP.ret ⟨.inr rfl, _, _, oneRes rfl, true, rfl, K, fun h => by cases h⟩
      | exact XP.ret ⟨.inr rfl, _, _, oneRes rfl, _, rfl, K.trans K9, fun h => by
          have h3 := of_decide_eq_false h
          exact ⟨by omega, by omega, fun r hr => by obtain ⟨j, hj⟩ := List.getElem?_of_mem hr; exact hsh j r (by have := (List.getElem?_eq_some_iff.1 hj).1; omega) hj, by omega⟩⟩
    · refine XP.skip ?_; refine XP.regionS ?_; refine RP.o1 (.move rfl) rfl rfl ?_
      refine RP.o1 (.bin rfl rfl (by first | exact inc_is (by omega) | exact add_is (by omega) (by omega))) rfl rfl ?_
      refine RP.o1 (.assign rfl) rfl rfl ?_; refine RP.nil ?_
      refine ⟨g.rules.length - (i + 1), by omega, i + 1, _, toT_less (.cons rfl (.cons rfl (.nil))), rfl, by omega, fun j q hj hq => ?_, rfl⟩
      rcases Nat.lt_or_ge j i with h | h
      · exact hsh j q h hq
      · obtain rfl : j = i := by omega
        rw [hr] at hq; cases hq
        have h : ¬ (6 : Int) < Int.ofNat r.right.length := hc18
        have e : (Int.ofNat r.right.length : Int) = r.right.length := rfl
        omega
  · refine XP.exit ?_  -- 0
    refine XP.seq ?_
    obtain ⟨u, M9, hc23, K9, G9⟩ := call23 hS23 hgM hl
    have e0 : (Int.ofNat g.toks.length : Int) = g.toks.length := rfl
    have e1 : (Int.ofNat g.rules.length : Int) = g.rules.length := rfl
    have e2 : (Int.ofNat (leftsL g.rules).length : Int) = (leftsL g.rules).length := rfl
    refine XP.regionS ?_; refine RP.o1 (.fieldAddr rfl fa25_0) rfl rfl ?_
    refine RP.o1 (.load1 rfl lay22 (by first | (apply BoxIs.get; assumption; rfl) | (apply ElAt.get; assumption; rfl) | (apply ElAt.get0; assumption; rfl) | assumption)) rfl rfl ?_
    refine RP.o1 (.len rfl (rowLen22 hgM.t)) rfl rfl ?_; refine RP.o1 (.bin rfl rfl gtr_is) rfl rfl ?_; refine RP.o1 (.move rfl) rfl rfl ?_
    rcases Decidable.em ((12 : Int) < Int.ofNat g.toks.length) with hp23 | hp23
    · simp only [decide_eq_true hp23]
      refine RP.skip ⟨_,_,_,rfl,rfl,rfl,rfl⟩ rfl ?_; refine RP.skip ⟨_,_,_,rfl,rfl,rfl,rfl⟩ rfl ?_; refine RP.skip ⟨_,_,_,rfl,rfl,rfl,rfl⟩ rfl ?_; refine RP.skip ⟨_,_,_,rfl,rfl,rfl,rfl⟩ rfl ?_; refine RP.o1 (.pick (b := true) rfl rfl) rfl rfl ?_; refine RP.o1 (.move rfl) rfl rfl ?_; refine RP.skip ⟨_,_,_,rfl,rfl,rfl,rfl⟩ rfl ?_; refine RP.skip ⟨_,_,_,rfl,rfl,rfl,rfl⟩ rfl ?_; refine RP.skip ⟨_,_,_,rfl,rfl,rfl,rfl⟩ rfl ?_; refine RP.skip ⟨_,_,_,rfl,rfl,rfl,rfl⟩ rfl ?_; refine RP.o1 (.pick (b := true) rfl rfl) rfl rfl ?_; refine RP.o1 (.assign rfl) rfl rfl ?_; refine RP.nil ?_
      first
      | exact XP.ret ⟨.inr rfl, _, _, oneRes rfl, true, rfl, K, fun h => by cases h⟩
      | exact XP.ret ⟨.inr rfl, _, _, oneRes rfl, _, rfl, K.trans K9, fun h => by
          have h3 := of_decide_eq_false h
          exact ⟨by omega, by omega, fun r hr => by obtain ⟨j, hj⟩ := List.getElem?_of_mem hr; exact hsh j r (by have := (List.getElem?_eq_some_iff.1 hj).1; omega) hj, by omega⟩⟩
    · simp only [decide_eq_false hp23]
      refine RP.o1 (.fieldAddr rfl fa25_3) rfl ⟨_,_,_,rfl,rfl,rfl,rfl⟩ ?_
      refine RP.o1 (.load1 rfl lay23 (by first | (apply BoxIs.get; assumption; rfl) | (apply ElAt.get; assumption; rfl) | (apply ElAt.get0; assumption; rfl) | assumption)) rfl ⟨_,_,_,rfl,rfl,rfl,rfl⟩ ?_
      refine RP.o1 (.len rfl (rowLen23 hgM.r)) rfl ⟨_,_,_,rfl,rfl,rfl,rfl⟩ ?_; refine RP.o1 (.bin rfl rfl gtr_is) rfl ⟨_,_,_,rfl,rfl,rfl,rfl⟩ ?_; refine RP.o1 (.pick (b := false) rfl rfl) rfl rfl ?_; refine RP.o1 (.move rfl) rfl rfl ?_
      rcases Decidable.em ((30 : Int) < Int.ofNat g.rules.length) with hp29 | hp29
      · simp only [decide_eq_true hp29]
        refine RP.skip ⟨_,_,_,rfl,rfl,rfl,rfl⟩ rfl ?_; refine RP.skip ⟨_,_,_,rfl,rfl,rfl,rfl⟩ rfl ?_; refine RP.skip ⟨_,_,_,rfl,rfl,rfl,rfl⟩ rfl ?_; refine RP.skip ⟨_,_,_,rfl,rfl,rfl,rfl⟩ rfl ?_; refine RP.o1 (.pick (b := true) rfl rfl) rfl rfl ?_; refine RP.o1 (.assign rfl) rfl rfl ?_; refine RP.nil ?_
        first
        | exact XP.ret ⟨.inr rfl, _, _, oneRes rfl, true, rfl, K, fun h => by cases h⟩
        | exact XP.ret ⟨.inr rfl, _, _, oneRes rfl, _, rfl, K.trans K9, fun h => by
            have h3 := of_decide_eq_false h
            exact ⟨by omega, by omega, fun r hr => by obtain ⟨j, hj⟩ := List.getElem?_of_mem hr; exact hsh j r (by have := (List.getElem?_eq_some_iff.1 hj).1; omega) hj, by omega⟩⟩
      · simp only [decide_eq_false hp29]
        refine RP.o1 (.loadE rfl (by first | assumption | (apply BoxIs.el; assumption)) lay25 (by rfl)) rfl ⟨_,_,_,rfl,rfl,rfl,rfl⟩ ?_
        refine RP.op (.callS rfl rfl hc23) rfl ⟨_,_,_,rfl,rfl,rfl,rfl⟩ K9.le ?_; refine RP.o1 (.len rfl (rowLen27 G9.row)) rfl ⟨_,_,_,rfl,rfl,rfl,rfl⟩ ?_; refine RP.o1 (.bin rfl rfl gtr_is) rfl ⟨_,_,_,rfl,rfl,rfl,rfl⟩ ?_; refine RP.o1 (.pick (b := false) rfl rfl) rfl rfl ?_; refine RP.o1 (.assign rfl) rfl rfl ?_; refine RP.nil ?_
        first
        | exact XP.ret ⟨.inr rfl, _, _, oneRes rfl, true, rfl, K, fun h => by cases h⟩
        | exact XP.ret ⟨.inr rfl, _, _, oneRes rfl, _, rfl, K.trans K9, fun h => by
            have h3 := of_decide_eq_false h
            exact ⟨by omega, by omega, fun r hr => by obtain ⟨j, hj⟩ := List.getElem?_of_mem hr; exact hsh j r (by have := (List.getElem?_eq_some_iff.1 hj).1; omega) hj, by omega⟩⟩
end Go.Ev
end
