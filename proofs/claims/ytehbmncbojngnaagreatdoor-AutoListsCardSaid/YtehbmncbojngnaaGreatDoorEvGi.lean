/- The program's Build: what it comes to. What the program's states answer. Closed facts on the program: types and functions of the document (printed by programs). The document's words on items: less, put, the same. Rows that may be cut; append of rows. -/
import Derived.Test.YtehbmncbojngnaaGreatDoorEvGh
import Derived.Test.YtehbmncbojngnaaGreatDoorEvGf
section
namespace Go.Ev
set_option linter.all false
open Go.Proofs
set_option maxRecDepth 10000
set_option maxHeartbeats 4000000
theorem ap69 : appendable Tryz.prog (some 69) = true := by kernel_rfl
theorem build71 {a b c d : Int} {e f g h : AV} {vb vo vn : Nat} {vc : Option Nat} {m : AMem} : aBuild Tryz.prog 71 [(0, .agg [.int .i64 a, .int .i64 b, .int .i64 c, .int .i64 d, e, f, g, h]), (1, .slice vb vo vn vc)] m = .mk (.agg [.int .i64 a, .int .i64 b, .int .i64 c, .int .i64 d, e, f, g, h, .slice vb vo vn vc, .nils, .nils]) m := by kernel_rfl
theorem build54e {m : AMem} : aBuild Tryz.prog 54 [] m = .mk (.agg [.int .i64 (.ofNat 0), .int .i64 (.ofNat 0)]) m := by kernel_rfl
abbrev buF : List Nat := [16, 32, 33, 34, 35, 42, 43, 44, 45, 46, 47, 48, 59, 60, 61, 62, 63, 73, 74]
theorem call16 {S : Sums} (hS : Plain S buF) (h64 : S 64 = some insW) {m : AMem} {s : SpV} {rs : List Rl} (hr : RulesIs m s.vr rs) (hB : Small rs) (h0 : ∃ r0, rs[0]? = some r0) (hT : s.toks ≤ 12) (hN : s.nts ≤ 10) :
    ∃ r m', CallTo Tryz.prog S 16 [s.v] m r m' ∧ Kp Nothing m m' ∧ ((∃ ba lv gv iv L I R, r = .tup [.ptr ba 0, .int .i64 (.ofNat 0)] ∧ AuSt s Nothing (m.next + 1) ba m' lv gv iv L R I ∧ (s.g rs).IsAuto (symsN s.n) L I R ∧ L.length ≤ 120 ∧ (∀ k ∈ L, Kern rs k)) ∨
      (r = .tup [.nilp, .int .i64 (.ofNat 6)] ∧ (s.g rs).Many (symsN s.n))) := by
  have hsn : s.n ≤ 23 := by show s.toks + 1 + s.nts ≤ 23; omega
  have hS33 : Plain S clF := fun f hf => hS f (by simp at hf ⊢; omega)
  have hS34 : Plain S [34, 46, 47, 48] := fun f hf => hS f (by simp at hf ⊢; omega)
  have hS35 := hS 35 (by decide)
  obtain ⟨i46, e46, s46⟩ := ei46
  obtain ⟨i68, e68, s68⟩ := ei68
  obtain ⟨i69, e69, s69⟩ := ei69
  obtain ⟨i28, e28, s28⟩ := ei28
  refine XP.call (hS 16 (by decide)) cd16 nt16 ?_
  show XP _ _ _ _ (toT .leaf [(0, s.v)]) m _
  unfold Tryz.f16
  dsimp only [Option.getD_some]
  have K : Kp Nothing m m := .refl m
  refine XP.seq ?_; refine XP.regionS ?_
  have hk1 := K.le
  refine RP.box rfl rfl rfl rfl fun M1 K1 B1 N1 => ?_
  have K := K.trans K1
  have hr0 := hr.up K1
  have B1o := B1
  refine RP.o1 (.assign rfl) rfl rfl ?_; refine RP.o1 (.assign rfl) rfl rfl ?_; refine RP.nil ?_; refine XP.seq ?_; refine XP.regionS ?_; refine RP.o1 (.loadE rfl (by first | assumption | (apply BoxIs.el; assumption)) lay31 (by rfl)) rfl rfl ?_
  refine RP.o1 (.build rfl build54e) rfl rfl ?_; refine RP.slice1 encIt e46 s46 rfl rfl (fill46 (x := (0, 0))) rfl rfl fun Ma Ka Ra _ Na => ?_; refine RP.slice1 (x := (⟨.slice M1.next 0 1 (some 1), rfl⟩ : PV)) encPV e68 s68 rfl rfl (fill68 (a := .slice M1.next 0 1 (some 1)) rfl) rfl rfl fun Mb Kb Rb Ob Nb => ?_
  have K := K.trans (Ka.trans Kb)
  have B1 := B1.up (Ka.trans Kb)
  refine RP.o1 (.build rfl build71) rfl rfl ?_
  have hk2 := K.le
  have lt1 := B1.lt
  refine RP.box rfl rfl rfl rfl fun M2 K2 B13 N2 => ?_
  have K := K.trans K2
  have B1 := B1.up K2
  have KA0 : Kp Nothing M1 M2 := (Ka.trans Kb).trans K2
  have B1 := B1o.up KA0
  have au0 : AuSt s Nothing M1.next Mb.next M2 (.slice Ma.next 0 1 (some 1)) .nils .nils [[(0, 0)]] [] [] := by
    have hRb := Rb.keep K2 id
    have hRa : RowIs itC 2 M2 (.slice M1.next 0 1 (some 1)) [((0 : Int), (0 : Int))] := .inr (.inr ⟨M1.next, 0, some 1, rfl, (Ra.keep Kb id).keep K2 id⟩)
    refine ⟨B13, ⟨[⟨.slice M1.next 0 1 (some 1), rfl⟩], .inr ⟨Ma.next, some 1, rfl, by omega, hRb, .inr rfl, AMem.own_of Ob (K2.old _ Rb.lt id)⟩, rfl, fun i a x ha hx => ?_⟩, Rows.nil, Rows.nil, ?_, ?_, ?_, ?_, ?_, ?_, by omega, id, fun _ _ => id, fun _ _ => id, fun _ _ => id, fun _ x => x.elim⟩
    · obtain rfl : i = 0 := by have := (List.getElem?_eq_some_iff.1 ha).1; simp at this; omega
      cases ha; cases hx
      refine ⟨hRa, fun b hb d => ?_⟩
      obtain ⟨o, n, c, e⟩ := hb
      injection e with e
      rcases d with d | ⟨_, _, _, d⟩ | ⟨_, _, _, d⟩ | ⟨_, _, _, d⟩ | d
      · omega
      · injection d with d; omega
      · cases d
      · cases d
      · exact d
    · rintro ⟨_, _, _, e⟩; injection e with e; omega
    · rintro ⟨_, _, _, e⟩; cases e
    · rintro ⟨_, _, _, e⟩; cases e
    · rintro b _ ⟨_, _, _, e⟩; cases e
    · rintro b _ ⟨_, _, _, e⟩; cases e
    · rintro b _ ⟨_, _, _, e⟩; cases e
  have hkn0 : ∀ k ∈ ([[(0, 0)]] : List (List (Int × Int))), Kern rs k := fun k hk => by
    rw [List.mem_singleton] at hk; subst hk
    obtain ⟨r0, h0⟩ := h0
    exact ⟨fun x hx => by rw [List.mem_singleton] at hx; subst hx; exact ⟨0, 0, r0, rfl, h0, Nat.zero_le _⟩, by simp, by simp⟩
  refine RP.o1 (.assign rfl) rfl rfl ?_; refine RP.nil ?_; refine XP.seq ?_; refine XP.seq ?_; refine XP.regionS ?_; refine RP.o1 (.assign rfl) rfl rfl ?_; refine RP.nil ?_
  refine XP.block ?_  -- block 0
  refine XP.while (fun d t m1 => ∃ i t0 lv gv iv L G I, t = toT t0 [(5, .int .i64 (.ofNat i)), (4, .ptr Mb.next 0), (1, .ptr m.next 0)] ∧ d = 121 - i ∧ Kp Nothing M1 m1 ∧ AuSt s Nothing M1.next Mb.next m1 lv gv iv L G I ∧ (s.g rs).Steps (symsN s.n) i L I G ∧ L.length ≤ 120 ∧ (∀ k ∈ L, Kern rs k) ∧ i ≤ L.length) ?_ 121 _ _ ?_
  rotate_left
  · exact ⟨0, _, _, _, _, _, _, _, toT_less (.cons rfl (.cons rfl (.cons rfl (.nil)))), rfl, KA0, au0, .zero, by decide, hkn0, Nat.zero_le _⟩
  rintro d t M3 ⟨i, t0, lv, gv, iv, L, G, I, rfl, rfl, KA, au, hst, hL, hkn, hiL⟩
  clear au0 KA0 hkn0
  have K := K1.trans KA
  have B1 := B1o.up KA
  have hrM := hr0.up KA
  have hB2 := au.B
  have hKA := KA.le
  refine XP.seq ?_; refine XP.seq ?_; refine XP.regionS ?_; refine RP.o1 (.move rfl) rfl rfl ?_; refine RP.o1 (.move rfl) rfl rfl ?_; refine RP.o1 (.nilCheck rfl) rfl rfl ?_; refine RP.o1 (.fieldAddr rfl fa71_1) rfl rfl ?_
  refine RP.o1 (.load1 rfl lay68 (by first | (apply BoxIs.get; assumption; rfl) | (apply ElAt.get; assumption; rfl) | (apply ElAt.get0; assumption; rfl) | assumption)) rfl rfl ?_
  refine RP.o1 (.len rfl (rowLenR au.hl)) rfl rfl ?_; refine RP.o1 (.bin rfl rfl (by first | exact lss_nat | exact lss_is)) rfl rfl ?_; refine RP.nil ?_
  refine XP.condD rfl (fun hc20 => ?_) (fun hc20 => ?_)  -- if t20
  · refine XP.skip ?_; refine XP.seq ?_
    refine XP.block ?_  -- block 1
    refine XP.seq ?_
    obtain ⟨k, hk1⟩ : ∃ k, L[i]? = some k := ⟨L[i]'hc20, List.getElem?_eq_getElem _⟩
    obtain ⟨bl, ol, cl, ka, rfl, hil, E1, Rk, dk⟩ := au.hl.elem hk1
    have hkern := hkn k (List.mem_of_getElem? hk1)
    obtain ⟨cr, M5, hc33, c, K5, Rc, icl, itc, fc⟩ := call33 hS33 h64 (toks := .ofNat s.toks) (nts := .ofNat s.nts) (start := s.start) (expect := s.expect) (vn := s.vn) (vl := s.vl) (va := s.va) hrM Rk hkern.items hkern.nodup hkern.ne hB
    have au5 := au.up K5
    have hB5 := au5.B
    obtain ⟨rawI, hrawI, _⟩ := au.hi.len
    have hIl : I.length = i := hst.lens.1
    have hGl : G.length = i := hst.lens.2
    have hK5 := K5.le
    obtain ⟨u, M6, ha, hm6, K6, new6, pu, R6⟩ := au5.hi.app e68 s68 ap68 Rc (fun b hb d => by obtain ⟨o, n, q, e⟩ := hb; have := fc b o n q e; have := au.under d; omega) (fun b h => .inr (.inr (.inr (.inl h)))) (by omega) (by omega)
    have B6 := hB5.keep K6 au5.ni
    refine XP.drawnS (ms := [0, 0, 2, 6, 14, 0, 0, 64, 192, 448, 0, 1984, 4032, 8160, 16352, 32766, 65535, 131071, 262143]) (by kernel_rfl) ?_; refine DP.pure (.move rfl) rfl rfl rfl ?_; refine DP.pure (.move rfl) rfl rfl rfl ?_; refine DP.pure (.nilCheck rfl) rfl rfl rfl ?_; refine DP.pure (.fieldAddr rfl fa71_3) rfl rfl rfl ?_
    refine DP.read (fun _ => op_load1 (ev_is rfl) lay68 (by first | (apply BoxIs.get; assumption; rfl) | (apply ElAt.get; assumption; rfl) | (apply ElAt.get0; assumption; rfl) | assumption)) rfl rfl rfl (fun _ => op_load_leaf) (.inl (by kernel_rfl)) (fun _ => cuts_nil) ?_
    refine DP.read (fun _ => op_loadE rfl (by first | assumption | (apply BoxIs.el; assumption)) lay31 (by rfl)) rfl rfl rfl (fun _ => op_load_leaf) (.inl (by kernel_rfl)) (fun _ => cuts_nil) ?_
    refine DP.pure (.move rfl) rfl rfl rfl ?_; refine DP.pure (.nilCheck rfl) rfl rfl rfl ?_; refine DP.pure (.fieldAddr rfl fa71_1) rfl rfl rfl ?_
    refine DP.read (fun _ => op_load1 (ev_is rfl) lay68 (by first | (apply BoxIs.get; assumption; rfl) | (apply ElAt.get; assumption; rfl) | (apply ElAt.get0; assumption; rfl) | assumption)) rfl rfl rfl (fun _ => op_load_leaf) (.inl (by kernel_rfl)) (fun _ => cuts_nil) ?_
    refine DP.pure (.move rfl) rfl rfl rfl ?_; refine DP.pure (.indexAddr rfl rfl ix68 (by assumption)) rfl rfl rfl ?_
    refine DP.read (fun _ => op_load1 (ev_is rfl) lay46 (by first | (apply BoxIs.get; assumption; rfl) | (apply ElAt.get; assumption; rfl) | (apply ElAt.get0; assumption; rfl) | assumption)) rfl rfl rfl (fun _ => op_load_leaf) (.inl (by kernel_rfl)) (fun _ => cuts_nil) ?_
    refine DP.heavy (.callS rfl rfl hc33) rfl rfl rfl (by kernel_rfl) (by kernel_rfl) K5.le (pk_drop (by kernel_rfl) (pk_drop (by kernel_rfl) (pk_drop (by kernel_rfl) (pk_keep (by kernel_rfl) (fun call => reads_of (op_load1 (ev_is rfl) lay68 (hB5.get rfl)) (eqV_row hrawI)) pk_nil)))) ?_; refine DP.make (.buildSlice rfl e68 (by rw [s68]; rfl) (by rw [s68]; exact fill68 Rc.plain)) rfl rfl rfl ?_
    rw [s68]
    refine DP.heavy (OpTo.of fun _ => op_append rfl rfl ha) rfl rfl rfl (by kernel_rfl) (by kernel_rfl) hm6 (pk_drop (by kernel_rfl) pk_nil) ?_; refine DP.pure (.nilCheck rfl) rfl rfl rfl ?_; refine DP.pure (.fieldAddr rfl fa71_3) rfl rfl rfl ?_; refine DP.storeP rfl rfl lay68 pu B6 rfl rfl rfl (by kernel_rfl) (by kernel_rfl) (fun _ => pk_nil) fun M4 K4 B6 N4 => ?_
    have au7 := au5.items K6 K4 B6 new6 R6
    have KB : Kp Nothing M1 M4 := (KA.trans K5).young ((K6.mono fun b _ h => (.inr (.inr (.inr (.inl h))) : DD Nothing Mb.next _ gv iv b)).trans (K4.mono fun b _ e => .inl e)) fun b d => au5.low d
    have B1 := B1o.up KB
    refine DP.nil ?_; refine XP.seq ?_; refine XP.regionS ?_; refine RP.o1 (.fieldAddr rfl fa31_0) rfl rfl ?_
    refine RP.o1 (.load1 rfl lay3 (by first | (apply BoxIs.get; assumption; rfl) | (apply ElAt.get; assumption; rfl) | (apply ElAt.get0; assumption; rfl) | assumption)) rfl rfl ?_
    refine RP.o1 (.bin rfl rfl (by first | exact inc_is (by omega) | exact add_is (by omega) (by omega))) rfl rfl ?_
    refine RP.o1 (.fieldAddr rfl fa31_1) rfl rfl ?_
    refine RP.o1 (.load1 rfl lay3 (by first | (apply BoxIs.get; assumption; rfl) | (apply ElAt.get; assumption; rfl) | (apply ElAt.get0; assumption; rfl) | assumption)) rfl rfl ?_
    refine RP.o1 (.bin rfl rfl (addN_is (by omega))) rfl rfl ?_; refine RP.makeInts e28 s28 rfl rfl (by omega) rfl rfl fun Mr Kr BR Nr => ?_
    have auR := au7.own Kr Nr
    have KR := KB.trans Kr
    refine RP.o1 (.assign rfl) rfl rfl ?_; refine RP.nil ?_; refine XP.seq ?_; refine XP.seq ?_; refine XP.regionS ?_; refine RP.o1 (.move rfl) rfl rfl ?_; refine RP.o1 (.len rfl len28) rfl rfl ?_; refine RP.o1 (.move rfl) rfl rfl ?_; refine RP.nil ?_
    refine XP.block ?_  -- block 2
    refine XP.while (fun d t m1 => ∃ j t0 lv2 L2 r, t = toT t0 [(50, .int .i64 (.ofNat j)), (49, .int .i64 (.ofNat s.n)), (6, .slice M4.next 0 s.n (some s.n)), (5, .int .i64 (.ofNat i)), (4, .ptr Mb.next 0), (1, .ptr m.next 0)] ∧ d = s.n - j ∧ j ≤ s.n ∧ Kp Nothing M1 m1 ∧ AuSt s (fun b => b = M4.next) M1.next Mb.next m1 lv2 gv u L2 G (I ++ [c]) ∧ (s.g rs).row c ((symsN s.n).take j) L = some (r, L2) ∧ BoxIs m1 M4.next ((r ++ List.replicate (s.n - j) 0).map fun x => AV.int .i64 x) ∧ L2.length ≤ 120 ∧ (∀ k ∈ L2, Kern rs k)) ?_ s.n _ _ ?_
    rotate_left
    · exact ⟨0, _, _, L, [], toT_less (.cons rfl (.cons rfl (.cons rfl (.cons rfl (.cons rfl (.cons rfl (.nil))))))), rfl, Nat.zero_le _, KR, auR, rfl, BR, hL, hkn⟩
    rintro d t M5 ⟨j, t0, lv2, L2, r, rfl, rfl, hjn, KC, au, hrow, BR, hL2, hkn2⟩
    have K := K1.trans KC
    have B1 := B1o.up KC
    have hrM := hr0.up KC
    have hB2 := au.B
    have hKC := KC.le
    have hrl : r.length = j := by have := (Lr.row_to hrow).1; rw [this]; simp [symsN]; omega
    refine XP.seq ?_; refine XP.regionS ?_; refine RP.o1 (.bin rfl rfl (by first | exact lss_nat | exact lss_is)) rfl rfl ?_; refine RP.nil ?_; refine XP.seq ?_
    refine XP.condD rfl (fun hc51 => ?_) (fun hc51 => ?_)  -- if t51
    · refine XP.skip ?_; refine XP.seq ?_
      refine XP.block ?_  -- block 3
      refine XP.seq ?_; refine XP.regionS ?_; refine RP.o1 (.move rfl) rfl rfl ?_; refine RP.o1 (.assign rfl) rfl rfl ?_; refine RP.nil ?_; refine XP.seq ?_
      have hIc : (I ++ [c])[i]? = some c := by rw [List.getElem?_append_right (by omega), hIl, Nat.sub_self]; rfl
      obtain ⟨bi, oi, ci, ra, rfl, hii, E2, Rc2, _⟩ := au.hi.elem hIc
      obtain ⟨wb, N1', hc35, K35, R35, f35⟩ := call35 hS35 (toks := .ofNat s.toks) (nts := .ofNat s.nts) (start := s.start) (expect := s.expect) (sym := .ofNat j) (vn := s.vn) (vl := s.vl) (va := s.va) hrM Rc2 (by have := items_few hB itc (srt_nodup icl.srt); omega) itc (fun q hq => by have := hB.short q hq; omega)
      have au2 := au.up K35
      have hK35 := K35.le
      have hkb : behindF rs (.ofNat j) c = (s.g rs).beh c (.ofNat j) := beh_same _ _
      have hkk : behindF rs (.ofNat j) c ≠ [] → Kern rs (behindF rs (.ofNat j) c) := fun hne => ⟨beh_items itc, by rw [hkb]; exact srt_nodup ((s.g rs).beh_srt _ icl.srt), hne⟩
      obtain ⟨rv, N2', hc34, lv3, rfl, K34, B34, f34, R34⟩ := call34 hS34 au2.B au2.hl (fun b h => .inr (.inl h)) (.inl rfl) au2.nl R35 (fun b hb d => by obtain ⟨o, n, q, e⟩ := hb; have := f35 b o n q e; have := au.under d; omega) (by omega) (by omega) (fun x hx => by have := hkn2 x hx; have := items_few hB this.items this.nodup; omega)
      have au3 := au2.state K34 B34 f34 R34
      have BR2 := (BR.up K35).keep K34 (by
        rintro (e | e)
        · exact au2.xb e.symm
        · exact au2.xl _ e rfl)
      refine XP.drawnS (ms := [0, 0, 0, 0, 0, 16, 48, 112, 0, 496, 1008, 0, 4088, 8188, 16383, 32767]) (by kernel_rfl) ?_; refine DP.pure (.move rfl) rfl rfl rfl ?_; refine DP.pure (.move rfl) rfl rfl rfl ?_; refine DP.pure (.move rfl) rfl rfl rfl ?_; refine DP.read (fun _ => op_loadE rfl (by first | assumption | (apply BoxIs.el; assumption)) lay31 (by rfl)) rfl rfl rfl (fun _ => op_load_leaf) (.inl (by kernel_rfl)) (fun _ => cuts_nil) ?_
      refine DP.pure (.move rfl) rfl rfl rfl ?_; refine DP.pure (.nilCheck rfl) rfl rfl rfl ?_; refine DP.pure (.fieldAddr rfl fa71_3) rfl rfl rfl ?_
      refine DP.read (fun _ => op_load1 (ev_is rfl) lay68 (by first | (apply BoxIs.get; assumption; rfl) | (apply ElAt.get; assumption; rfl) | (apply ElAt.get0; assumption; rfl) | assumption)) rfl rfl rfl (fun _ => op_load_leaf) (.inl (by kernel_rfl)) (fun _ => cuts_nil) ?_
      refine DP.pure (.move rfl) rfl rfl rfl ?_; refine DP.pure (.indexAddr rfl rfl ix68 (by assumption)) rfl rfl rfl ?_
      refine DP.read (fun _ => op_load1 (ev_is rfl) lay46 (by first | (apply BoxIs.get; assumption; rfl) | (apply ElAt.get; assumption; rfl) | (apply ElAt.get0; assumption; rfl) | assumption)) rfl rfl rfl (fun _ => op_load_leaf) (.inl (by kernel_rfl)) (fun _ => cuts_nil) ?_
      refine DP.pure (.move rfl) rfl rfl rfl ?_; refine DP.heavy (.callS rfl rfl hc35) rfl rfl rfl (by kernel_rfl) (by kernel_rfl) K35.le (pk_drop (by kernel_rfl) (pk_drop (by kernel_rfl) (pk_drop (by kernel_rfl) pk_nil))) ?_; refine DP.heavy (.callS rfl rfl hc34) rfl rfl rfl (by kernel_rfl) (by kernel_rfl) K34.le pk_nil ?_; refine DP.pure (.indexAddr rfl rfl ix28 (by assumption)) rfl rfl rfl ?_; refine DP.store rfl rfl lay3 rfl BR2 (Nat.ble_eq_true_of_le (by simp; omega)) rfl rfl rfl (by kernel_rfl) (by kernel_rfl) (fun _ => pk_nil) fun M6 K6 BR2 N6 => ?_
      have BR3 := BR2
      rw [show (AV.int .i64 (Lr.state L2 (behindF rs (.ofNat j) c)).1).cells = [AV.int .i64 (Lr.state L2 (behindF rs (.ofNat j) c)).1] from rfl, setL_row hrl (by omega)] at BR3
      have au4 := au3.keepX K6
      have KD : Kp Nothing M1 M6 := (KC.trans K35).young ((K34.mono fun b _ h => (by
          rcases h with h | h
          · exact .inl h
          · exact .inr (.inl h) : DD (fun b => b = M4.next) Mb.next lv2 gv _ b)).trans (K6.mono fun b _ e => (.inr (.inr (.inr (.inr e))) : DD (fun b => b = M4.next) Mb.next lv2 gv _ b))) fun b d => au2.low d
      refine DP.nil ?_; refine XP.seq ?_; refine XP.regionS ?_; refine RP.o1 (.move rfl) rfl rfl ?_; refine RP.o1 (.move rfl) rfl rfl ?_; refine RP.o1 (.indexAddr rfl rfl ix28 (by assumption)) rfl rfl ?_; refine RP.o1 (.load1 rfl lay3 (BR3.get (row_at hrl))) rfl rfl ?_; refine RP.o1 (.bin rfl rfl geq_is) rfl rfl ?_; refine RP.nil ?_
      refine XP.condN rfl (fun hc72 => ?_) (fun hc72 => ?_)  -- if t72
      · refine XP.skip ?_; refine XP.regionS ?_
        refine RP.o1 (.bin rfl rfl (by first | exact inc_is (by omega) | exact add_is (by omega) (by omega))) rfl rfl ?_
        refine RP.o1 (.move rfl) rfl rfl ?_; refine RP.nil ?_
        have hs2 : Lr.state L2 ((s.g rs).beh c (.ofNat j)) = ((Lr.state L2 (behindF rs (.ofNat j) c)).1, (Lr.state L2 (behindF rs (.ofNat j) c)).2) := by rw [hkb]
        refine ⟨s.n - (j + 1), by omega, j + 1, _, lv3, _, r ++ [_], toT_less (.cons rfl (.cons rfl (.cons rfl (.cons rfl (.cons rfl (.cons rfl (.nil))))))), rfl, by omega, KD, au4, ?_, BR3, state_len hL2 hc72, state_kern hkn2 hkk⟩
        rw [symsN_take (by omega)]
        exact row_snoc hrow hs2 hc72
      · refine XP.seq ?_; refine XP.regionS ?_; refine RP.o1 (.assign rfl) rfl rfl ?_; refine RP.o1 (.assign rfl) rfl rfl ?_; refine RP.nil ?_
        have hs2 : Lr.state L2 ((s.g rs).beh c (.ofNat j)) = ((Lr.state L2 (behindF rs (.ofNat j) c)).1, (Lr.state L2 (behindF rs (.ofNat j) c)).2) := by rw [hkb]
        refine XP.ret ⟨.inr rfl, _, _, twoRes rfl rfl, K1.trans KD, .inr ⟨rfl, i, L, I, G, k, c, hst, hk1, icl, ?_⟩⟩
        rw [symsN_cut (n := s.n) (j := j) (by omega)]
        exact row_stop hrow hs2 hc72
    · refine XP.exit ?_  -- 2
      obtain rfl : j = s.n := by omega
      have auF := au.free
      rw [Nat.sub_self, List.replicate_zero, List.append_nil] at BR
      rw [show (symsN s.n).take s.n = symsN s.n from List.take_of_length_le (by simp [symsN])] at hrow
      have hRr := BR.row (c := some s.n)
      rw [hrl] at hRr
      obtain ⟨ug, Mg, hag, hmg, Kg, newg, pug, Rg⟩ := auF.hg.app e69 s69 ap69 hRr (fun b hb d => by
        obtain ⟨o, n, q, e⟩ := hb
        injection e with e
        subst e
        rcases d with d | d | d | d | d
        · exact au.xb d.symm
        · exact au.xl _ d rfl
        · exact au.xg _ d rfl
        · exact au.xi _ d rfl
        · exact d) (fun b h => .inr (.inr (.inl h))) (by omega) (by omega)
      have Bg := auF.B.keep Kg auF.ng
      refine XP.regionS ?_; refine RP.o1 (.move rfl) rfl rfl ?_; refine RP.o1 (.move rfl) rfl rfl ?_; refine RP.o1 (.nilCheck rfl) rfl rfl ?_; refine RP.o1 (.fieldAddr rfl fa71_2) rfl rfl ?_
      refine RP.o1 (.load1 rfl lay69 (by first | (apply BoxIs.get; assumption; rfl) | (apply ElAt.get; assumption; rfl) | (apply ElAt.get0; assumption; rfl) | assumption)) rfl rfl ?_
      refine RP.o1 (.move rfl) rfl rfl ?_; refine RP.op (.buildSlice rfl e69 (by rw [s69]; rfl) (by rw [s69]; exact fill68 hRr.plain)) rfl rfl (Nat.le_succ _) ?_
      rw [s69]
      refine RP.op (OpTo.of fun _ => op_append rfl rfl hag) rfl rfl hmg ?_; refine RP.o1 (.nilCheck rfl) rfl rfl ?_; refine RP.o1 (.fieldAddr rfl fa71_2) rfl rfl ?_; refine RP.storeP rfl rfl lay69 pug Bg rfl rfl rfl fun M7 K7 Bg N7 => ?_
      have auG := auF.goes Kg K7 Bg newg Rg
      have KG : Kp Nothing M1 M7 := KC.young ((Kg.mono fun b _ h => (.inr (.inr (.inl h)) : DD Nothing Mb.next lv2 gv u b)).trans (K7.mono fun b _ e => .inl e)) fun b d => auF.low d
      refine RP.nil ?_; refine XP.regionS ?_; refine RP.o1 (.move rfl) rfl rfl ?_
      refine RP.o1 (.bin rfl rfl (by first | exact inc_is (by omega) | exact add_is (by omega) (by omega))) rfl rfl ?_
      refine RP.o1 (.assign rfl) rfl rfl ?_; refine RP.nil ?_
      have hpre := (Lr.row_scan hrow).2.2.length_le
      exact ⟨121 - (i + 1), by omega, i + 1, _, lv2, ug, u, L2, G ++ [r], I ++ [c], toT_less (.cons rfl (.cons rfl (.cons rfl (.nil)))), rfl, KG, auG, hst.succ hk1 icl hrow, hL2, hkn2, by omega⟩
  · refine XP.exit ?_  -- 0
    refine XP.seq ?_; refine XP.regionS ?_; refine RP.o1 (.move rfl) rfl rfl ?_; refine RP.o1 (.assign rfl) rfl rfl ?_; refine RP.o1 (.assign rfl) rfl rfl ?_; refine RP.nil ?_
    obtain rfl : i = L.length := by omega
    refine XP.ret ⟨.inr rfl, _, _, twoRes rfl rfl, K, .inl ⟨Mb.next, lv, gv, iv, L, I, G, rfl, ?_, ⟨hst⟩, hL, hkn⟩⟩
    rw [← N1]; exact au
end Go.Ev
end
section
namespace Go.Ev
set_option linter.all false
open Go.Proofs
set_option maxRecDepth 10000
theorem call12 {S : Sums} (hS : Plain S [12]) {m : AMem} {s : SpV} {X : Nat → Prop} {lo ba : Nat} {lv gv iv : AV} {L : List (List (Int × Int))} {G : List (List Int)} {I : List (List (Int × Int))} (au : AuSt s X lo ba m lv gv iv L G I) :
    CallTo Tryz.prog S 12 [.ptr ba 0] m (.int .i64 (.ofNat L.length)) m := by
  suffices H : ∃ r m', CallTo Tryz.prog S 12 [.ptr ba 0] m r m' ∧ r = .int .i64 (.ofNat L.length) ∧ m' = m by
    obtain ⟨r, m', h, rfl, rfl⟩ := H
    exact h
  have hB := au.B
  refine XP.call (hS 12 (by decide)) cd12 nt12 ?_
  show XP _ _ _ _ (toT .leaf [(0, .ptr ba 0)]) m _
  unfold Tryz.f12
  dsimp only [Option.getD_some]
  have K : Kp Nothing m m := .refl m
  refine XP.seq ?_; refine XP.regionS ?_; refine RP.o1 (.assign rfl) rfl rfl ?_; refine RP.nil ?_; refine XP.seq ?_; refine XP.seq ?_; refine XP.regionS ?_; refine RP.o1 (.move rfl) rfl rfl ?_; refine RP.o1 (.bin (v := .bool false) rfl rfl nil44) rfl rfl ?_; refine RP.nil ?_
  refine XP.condS false rfl ?_  -- if t4
  refine XP.skip ?_; refine XP.seq ?_; refine XP.regionS ?_; refine RP.o1 (.move rfl) rfl rfl ?_; refine RP.o1 (.nilCheck rfl) rfl rfl ?_; refine RP.o1 (.fieldAddr rfl fa71_1) rfl rfl ?_
  refine RP.o1 (.load1 rfl lay68 (by first | (apply BoxIs.get; assumption; rfl) | (apply ElAt.get; assumption; rfl) | (apply ElAt.get0; assumption; rfl) | assumption)) rfl rfl ?_
  refine RP.o1 (.len rfl (rowLenR au.hl)) rfl rfl ?_; refine RP.o1 (.assign rfl) rfl rfl ?_; refine RP.nil ?_
  exact XP.ret ⟨.inr rfl, _, _, oneRes rfl, rfl, rfl⟩
theorem call31 {S : Sums} (hS : Plain S [12, 31]) {m : AMem} {s : SpV} {X : Nat → Prop} {lo ba : Nat} {lv gv iv : AV} {L : List (List (Int × Int))} {G : List (List Int)} {I : List (List (Int × Int))} (au : AuSt s X lo ba m lv gv iv L G I) (x : Int) :
    CallTo Tryz.prog S 31 [.ptr ba 0, .int .i64 x] m (.bool (decide (0 ≤ x ∧ x < Int.ofNat L.length))) m := by
  suffices H : ∃ r m', CallTo Tryz.prog S 31 [.ptr ba 0, .int .i64 x] m r m' ∧ r = .bool (decide (0 ≤ x ∧ x < Int.ofNat L.length)) ∧ m' = m by
    obtain ⟨r, m', h, rfl, rfl⟩ := H
    exact h
  have hS12 : Plain S [12] := fun f hf => hS f (by simp at hf ⊢; omega)
  refine XP.call (hS 31 (by decide)) cd31 nt31 ?_
  show XP _ _ _ _ (toT .leaf [(1, .int .i64 x), (0, .ptr ba 0)]) m _
  unfold Tryz.f31
  dsimp only [Option.getD_some]
  have K : Kp Nothing m m := .refl m
  refine XP.seq ?_; refine XP.regionS ?_; refine RP.o1 (.assign rfl) rfl rfl ?_; refine RP.nil ?_; refine XP.seq ?_; refine XP.regionS ?_; refine RP.o1 (.move rfl) rfl rfl ?_; refine RP.o1 (.bin rfl rfl geq_is) rfl rfl ?_; refine RP.o1 (.move rfl) rfl rfl ?_
  rcases Decidable.em (x < 0) with hp7 | hp7
  · simp only [decide_eq_true hp7]; simp only [Bool.not_true]
    refine RP.skip ⟨_,_,_,rfl,rfl,rfl,rfl⟩ rfl ?_; refine RP.skip ⟨_,_,_,rfl,rfl,rfl,rfl⟩ rfl ?_; refine RP.skip ⟨_,_,_,rfl,rfl,rfl,rfl⟩ rfl ?_; refine RP.skip ⟨_,_,_,rfl,rfl,rfl,rfl⟩ rfl ?_; refine RP.o1 (.pick (b := false) rfl rfl) rfl rfl ?_; refine RP.o1 (.assign rfl) rfl rfl ?_; refine RP.nil ?_
    exact XP.ret ⟨.inr rfl, _, _, oneRes rfl, by rw [decide_eq_false (fun h => by omega)]; rfl, rfl⟩
  · simp only [decide_eq_false hp7]; simp only [Bool.not_false]
    refine RP.o1 (.move rfl) rfl ⟨_,_,_,rfl,rfl,rfl,rfl⟩ ?_; refine RP.o1 (.move rfl) rfl ⟨_,_,_,rfl,rfl,rfl,rfl⟩ ?_; refine RP.o1 (.callS rfl rfl (call12 hS12 au)) rfl ⟨_,_,_,rfl,rfl,rfl,rfl⟩ ?_; refine RP.o1 (.bin rfl rfl (by first | exact lss_nat | exact lss_is)) rfl ⟨_,_,_,rfl,rfl,rfl,rfl⟩ ?_; refine RP.o1 (.pick (b := true) rfl rfl) rfl rfl ?_; refine RP.o1 (.assign rfl) rfl rfl ?_; refine RP.nil ?_
    exact XP.ret ⟨.inr rfl, _, _, oneRes rfl, by congr 1; exact decide_eq_decide.2 ⟨fun h => ⟨by omega, h⟩, fun h => h.2⟩, rfl⟩
theorem call13 {S : Sums} (hS : Plain S [12, 13, 31, 32]) {m : AMem} {s : SpV} {X : Nat → Prop} {lo ba : Nat} {lv gv iv : AV} {L : List (List (Int × Int))} {G : List (List Int)} {I : List (List (Int × Int))} (au : AuSt s X lo ba m lv gv iv L G I) (hl : I.length = L.length) (hs : ∀ k ∈ L, k.length ≤ 1048576) (x : Int) :
    ∃ r m', CallTo Tryz.prog S 13 [.ptr ba 0, .int .i64 x] m r m' ∧ Kp Nothing m m' ∧ RowIs itC 2 m' r (if 0 ≤ x then (L[x.toNat]?).getD [] else []) := by
  have hS31 : Plain S [12, 31] := fun f hf => hS f (by simp at hf ⊢; omega)
  have hB := au.B
  refine XP.call (hS 13 (by decide)) cd13 nt13 ?_
  show XP _ _ _ _ (toT .leaf [(1, .int .i64 x), (0, .ptr ba 0)]) m _
  unfold Tryz.f13
  dsimp only [Option.getD_some]
  have K : Kp Nothing m m := .refl m
  refine XP.seq ?_; refine XP.regionS ?_; refine RP.o1 (.assign rfl) rfl rfl ?_; refine RP.nil ?_; refine XP.seq ?_; refine XP.seq ?_; refine XP.regionS ?_; refine RP.o1 (.move rfl) rfl rfl ?_; refine RP.o1 (.move rfl) rfl rfl ?_; refine RP.o1 (.callS rfl rfl (call31 hS31 au x)) rfl rfl ?_; refine RP.o1 (.not_ rfl) rfl rfl ?_; refine RP.nil ?_
  refine XP.condN rfl (fun hc8 => ?_) (fun hc8 => ?_)  -- if t8
  · refine XP.skip ?_; refine XP.seq ?_
    obtain ⟨i, rfl⟩ : ∃ i : Nat, x = Int.ofNat i := ⟨x.toNat, by have := hc8.1; exact (Int.toNat_of_nonneg this).symm⟩
    have hi : i < L.length := Int.ofNat_lt.1 hc8.2
    obtain ⟨k, hk⟩ : ∃ k, L[i]? = some k := ⟨L[i]'(by omega), List.getElem?_eq_getElem _⟩
    obtain ⟨b, off, cap, a, rfl, hi2, E1, Rk, _⟩ := au.hl.elem hk
    obtain ⟨u, m', hc, K2, R, _, _⟩ := call32 (hS 32 (by decide)) Rk (hs k (List.mem_of_getElem? hk))
    refine XP.regionS ?_; refine RP.o1 (.move rfl) rfl rfl ?_; refine RP.o1 (.nilCheck rfl) rfl rfl ?_; refine RP.o1 (.fieldAddr rfl fa71_1) rfl rfl ?_
    refine RP.o1 (.load1 rfl lay68 (by first | (apply BoxIs.get; assumption; rfl) | (apply ElAt.get; assumption; rfl) | (apply ElAt.get0; assumption; rfl) | assumption)) rfl rfl ?_
    refine RP.o1 (.move rfl) rfl rfl ?_; refine RP.o1 (.indexAddr rfl rfl ix68 (by assumption)) rfl rfl ?_
    refine RP.o1 (.load1 rfl lay46 (by first | (apply BoxIs.get; assumption; rfl) | (apply ElAt.get; assumption; rfl) | (apply ElAt.get0; assumption; rfl) | assumption)) rfl rfl ?_
    refine RP.op (.callS rfl rfl hc) rfl rfl K2.le ?_; refine RP.o1 (.assign rfl) rfl rfl ?_; refine RP.nil ?_
    refine XP.ret ⟨.inr rfl, _, _, oneRes rfl, K2, ?_⟩
    rw [if_pos hc8.1, show (Int.ofNat i).toNat = i from rfl, hk]; exact R
  · refine XP.seq ?_; refine XP.regionS ?_; refine RP.o1 (.assign rfl) rfl rfl ?_; refine RP.nil ?_
    refine XP.ret ⟨.inr rfl, _, _, oneRes rfl, .refl _, .inl ⟨rfl, ?_⟩⟩
    by_cases h0 : 0 ≤ x
    · rw [if_pos h0, List.getElem?_eq_none (by have : ¬ x < Int.ofNat L.length := fun h => hc8 ⟨h0, h⟩; have e : (Int.ofNat L.length : Int) = L.length := rfl; omega)]; rfl
    · rw [if_neg h0]
theorem call14 {S : Sums} (hS : Plain S [12, 14, 31, 32]) {m : AMem} {s : SpV} {X : Nat → Prop} {lo ba : Nat} {lv gv iv : AV} {L : List (List (Int × Int))} {G : List (List Int)} {I : List (List (Int × Int))} (au : AuSt s X lo ba m lv gv iv L G I) (hl : I.length = L.length) (hs : ∀ k ∈ I, k.length ≤ 1048576) (x : Int) :
    ∃ r m', CallTo Tryz.prog S 14 [.ptr ba 0, .int .i64 x] m r m' ∧ Kp Nothing m m' ∧ RowIs itC 2 m' r (if 0 ≤ x then (I[x.toNat]?).getD [] else []) := by
  have hS31 : Plain S [12, 31] := fun f hf => hS f (by simp at hf ⊢; omega)
  have hB := au.B
  refine XP.call (hS 14 (by decide)) cd14 nt14 ?_
  show XP _ _ _ _ (toT .leaf [(1, .int .i64 x), (0, .ptr ba 0)]) m _
  unfold Tryz.f14
  dsimp only [Option.getD_some]
  have K : Kp Nothing m m := .refl m
  refine XP.seq ?_; refine XP.regionS ?_; refine RP.o1 (.assign rfl) rfl rfl ?_; refine RP.nil ?_; refine XP.seq ?_; refine XP.seq ?_; refine XP.regionS ?_; refine RP.o1 (.move rfl) rfl rfl ?_; refine RP.o1 (.move rfl) rfl rfl ?_; refine RP.o1 (.callS rfl rfl (call31 hS31 au x)) rfl rfl ?_; refine RP.o1 (.not_ rfl) rfl rfl ?_; refine RP.nil ?_
  refine XP.condN rfl (fun hc8 => ?_) (fun hc8 => ?_)  -- if t8
  · refine XP.skip ?_; refine XP.seq ?_
    obtain ⟨i, rfl⟩ : ∃ i : Nat, x = Int.ofNat i := ⟨x.toNat, by have := hc8.1; exact (Int.toNat_of_nonneg this).symm⟩
    have hi : i < L.length := Int.ofNat_lt.1 hc8.2
    obtain ⟨k, hk⟩ : ∃ k, I[i]? = some k := ⟨I[i]'(by omega), List.getElem?_eq_getElem _⟩
    obtain ⟨b, off, cap, a, rfl, hi2, E1, Rk, _⟩ := au.hi.elem hk
    obtain ⟨u, m', hc, K2, R, _, _⟩ := call32 (hS 32 (by decide)) Rk (hs k (List.mem_of_getElem? hk))
    refine XP.regionS ?_; refine RP.o1 (.move rfl) rfl rfl ?_; refine RP.o1 (.nilCheck rfl) rfl rfl ?_; refine RP.o1 (.fieldAddr rfl fa71_3) rfl rfl ?_
    refine RP.o1 (.load1 rfl lay68 (by first | (apply BoxIs.get; assumption; rfl) | (apply ElAt.get; assumption; rfl) | (apply ElAt.get0; assumption; rfl) | assumption)) rfl rfl ?_
    refine RP.o1 (.move rfl) rfl rfl ?_; refine RP.o1 (.indexAddr rfl rfl ix68 (by assumption)) rfl rfl ?_
    refine RP.o1 (.load1 rfl lay46 (by first | (apply BoxIs.get; assumption; rfl) | (apply ElAt.get; assumption; rfl) | (apply ElAt.get0; assumption; rfl) | assumption)) rfl rfl ?_
    refine RP.op (.callS rfl rfl hc) rfl rfl K2.le ?_; refine RP.o1 (.assign rfl) rfl rfl ?_; refine RP.nil ?_
    refine XP.ret ⟨.inr rfl, _, _, oneRes rfl, K2, ?_⟩
    rw [if_pos hc8.1, show (Int.ofNat i).toNat = i from rfl, hk]; exact R
  · refine XP.seq ?_; refine XP.regionS ?_; refine RP.o1 (.assign rfl) rfl rfl ?_; refine RP.nil ?_
    refine XP.ret ⟨.inr rfl, _, _, oneRes rfl, .refl _, .inl ⟨rfl, ?_⟩⟩
    by_cases h0 : 0 ≤ x
    · rw [if_pos h0, List.getElem?_eq_none (by have : ¬ x < Int.ofNat L.length := fun h => hc8 ⟨h0, h⟩; have e : (Int.ofNat L.length : Int) = L.length := rfl; omega)]; rfl
    · rw [if_neg h0]
/-- Where a symbol leads to; -1: nowhere. -/
noncomputable def goesTo (G : List (List Int)) (x y : Int) : Int := if 0 ≤ x ∧ 0 ≤ y then ((G[x.toNat]?).bind fun r => r[y.toNat]?).getD (-1) else -1
theorem call15 {S : Sums} (hS : Plain S [12, 15, 31]) {m : AMem} {s : SpV} {X : Nat → Prop} {lo ba : Nat} {lv gv iv : AV} {L : List (List (Int × Int))} {G : List (List Int)} {I : List (List (Int × Int))} (au : AuSt s X lo ba m lv gv iv L G I) (hl : G.length = L.length) (x y : Int) :
    CallTo Tryz.prog S 15 [.ptr ba 0, .int .i64 x, .int .i64 y] m (.int .i64 (goesTo G x y)) m := by
  suffices H : ∃ r m', CallTo Tryz.prog S 15 [.ptr ba 0, .int .i64 x, .int .i64 y] m r m' ∧ r = .int .i64 (goesTo G x y) ∧ m' = m by
    obtain ⟨r, m', h, rfl, rfl⟩ := H
    exact h
  have hS31 : Plain S [12, 31] := fun f hf => hS f (by simp at hf ⊢; omega)
  have hB := au.B
  refine XP.call (hS 15 (by decide)) cd15 nt15 ?_
  show XP _ _ _ _ (toT .leaf [(2, .int .i64 y), (1, .int .i64 x), (0, .ptr ba 0)]) m _
  unfold Tryz.f15
  dsimp only [Option.getD_some]
  have K : Kp Nothing m m := .refl m
  refine XP.seq ?_; refine XP.regionS ?_; refine RP.o1 (.assign rfl) rfl rfl ?_; refine RP.nil ?_; refine XP.seq ?_; refine XP.seq ?_; refine XP.regionS ?_; refine RP.o1 (.move rfl) rfl rfl ?_; refine RP.o1 (.move rfl) rfl rfl ?_; refine RP.o1 (.callS rfl rfl (call31 hS31 au x)) rfl rfl ?_; refine RP.o1 (.not_ rfl) rfl rfl ?_; refine RP.o1 (.move rfl) rfl rfl ?_
  rcases Decidable.em (0 ≤ x ∧ x < Int.ofNat L.length) with hp11 | hp11
  · simp only [decide_eq_true hp11]; simp only [Bool.not_true]
    refine RP.o1 (.move rfl) rfl ⟨_,_,_,rfl,rfl,rfl,rfl⟩ ?_; refine RP.o1 (.bin rfl rfl (by first | exact lss_nat | exact lss_is)) rfl ⟨_,_,_,rfl,rfl,rfl,rfl⟩ ?_; refine RP.o1 (.pick (b := false) rfl rfl) rfl rfl ?_; refine RP.o1 (.move rfl) rfl rfl ?_
    rcases Decidable.em (y < 0) with hp15 | hp15
    · simp only [decide_eq_true hp15]
      refine RP.skip ⟨_,_,_,rfl,rfl,rfl,rfl⟩ rfl ?_; refine RP.skip ⟨_,_,_,rfl,rfl,rfl,rfl⟩ rfl ?_; refine RP.skip ⟨_,_,_,rfl,rfl,rfl,rfl⟩ rfl ?_; refine RP.skip ⟨_,_,_,rfl,rfl,rfl,rfl⟩ rfl ?_; refine RP.skip ⟨_,_,_,rfl,rfl,rfl,rfl⟩ rfl ?_; refine RP.skip ⟨_,_,_,rfl,rfl,rfl,rfl⟩ rfl ?_; refine RP.skip ⟨_,_,_,rfl,rfl,rfl,rfl⟩ rfl ?_; refine RP.skip ⟨_,_,_,rfl,rfl,rfl,rfl⟩ rfl ?_; refine RP.skip ⟨_,_,_,rfl,rfl,rfl,rfl⟩ rfl ?_; refine RP.skip ⟨_,_,_,rfl,rfl,rfl,rfl⟩ rfl ?_; refine RP.o1 (.pick (b := true) rfl rfl) rfl rfl ?_; refine RP.nil ?_
      refine XP.condS true rfl ?_  -- if t26
      refine XP.seq ?_; refine XP.regionS ?_; refine RP.o1 (.assign rfl) rfl rfl ?_; refine RP.nil ?_
      exact XP.ret ⟨.inr rfl, _, _, oneRes rfl, by unfold goesTo; rw [if_neg (by intro h; exact absurd h.2 (by omega))]; rfl, rfl⟩
    · simp only [decide_eq_false hp15]
      refine RP.o1 (.move rfl) rfl ⟨_,_,_,rfl,rfl,rfl,rfl⟩ ?_
      obtain ⟨i, rfl⟩ : ∃ i : Nat, x = Int.ofNat i := ⟨x.toNat, (Int.toNat_of_nonneg hp11.1).symm⟩
      obtain ⟨j, rfl⟩ : ∃ j : Nat, y = Int.ofNat j := ⟨y.toNat, (Int.toNat_of_nonneg (Int.not_lt.1 hp15)).symm⟩
      have hi : i < L.length := Int.ofNat_lt.1 hp11.2
      obtain ⟨r, hr⟩ : ∃ r, G[i]? = some r := ⟨G[i]'(by omega), List.getElem?_eq_getElem _⟩
      obtain ⟨b, off, cap, a, rfl, hi2, E1, Rr, _⟩ := au.hg.elem hr
      have hgo : goesTo G (.ofNat i) (.ofNat j) = (r[j]?).getD (-1) := by
        unfold goesTo
        rw [if_pos ⟨hp11.1, Int.not_lt.1 hp15⟩, show (Int.ofNat i).toNat = i from rfl, hr]; rfl
      refine RP.o1 (.move rfl) rfl ⟨_,_,_,rfl,rfl,rfl,rfl⟩ ?_; refine RP.o1 (.nilCheck rfl) rfl ⟨_,_,_,rfl,rfl,rfl,rfl⟩ ?_; refine RP.o1 (.fieldAddr rfl fa71_2) rfl ⟨_,_,_,rfl,rfl,rfl,rfl⟩ ?_
      refine RP.o1 (.load1 rfl lay69 (by first | (apply BoxIs.get; assumption; rfl) | (apply ElAt.get; assumption; rfl) | (apply ElAt.get0; assumption; rfl) | assumption)) rfl ⟨_,_,_,rfl,rfl,rfl,rfl⟩ ?_
      refine RP.o1 (.move rfl) rfl ⟨_,_,_,rfl,rfl,rfl,rfl⟩ ?_; refine RP.o1 (.indexAddr rfl rfl ix69 (by assumption)) rfl ⟨_,_,_,rfl,rfl,rfl,rfl⟩ ?_
      refine RP.o1 (.load1 rfl lay28 (by first | (apply BoxIs.get; assumption; rfl) | (apply ElAt.get; assumption; rfl) | (apply ElAt.get0; assumption; rfl) | assumption)) rfl ⟨_,_,_,rfl,rfl,rfl,rfl⟩ ?_
      refine RP.o1 (.len rfl (rowLen28 Rr)) rfl ⟨_,_,_,rfl,rfl,rfl,rfl⟩ ?_; refine RP.o1 (.bin rfl rfl geq_is) rfl ⟨_,_,_,rfl,rfl,rfl,rfl⟩ ?_; refine RP.o1 (.pick (b := false) rfl rfl) rfl rfl ?_; refine RP.nil ?_
      refine XP.condN rfl (fun hc26 => ?_) (fun hc26 => ?_)  -- if t26
      · refine XP.skip ?_; refine XP.seq ?_
        have hj : j < r.length := Int.ofNat_lt.1 hc26
        obtain ⟨v, hv⟩ : ∃ v, r[j]? = some v := ⟨r[j]'hj, List.getElem?_eq_getElem _⟩
        obtain ⟨b2, off2, cap2, rfl, _, E2⟩ := Rr.elem encI (.refl _) hv
        refine XP.regionS ?_; refine RP.o1 (.move rfl) rfl rfl ?_; refine RP.o1 (.nilCheck rfl) rfl rfl ?_; refine RP.o1 (.fieldAddr rfl fa71_2) rfl rfl ?_
        refine RP.o1 (.load1 rfl lay69 (by first | (apply BoxIs.get; assumption; rfl) | (apply ElAt.get; assumption; rfl) | (apply ElAt.get0; assumption; rfl) | assumption)) rfl rfl ?_
        refine RP.o1 (.move rfl) rfl rfl ?_; refine RP.o1 (.indexAddr rfl rfl ix69 (by assumption)) rfl rfl ?_
        refine RP.o1 (.load1 rfl lay28 (by first | (apply BoxIs.get; assumption; rfl) | (apply ElAt.get; assumption; rfl) | (apply ElAt.get0; assumption; rfl) | assumption)) rfl rfl ?_
        refine RP.o1 (.move rfl) rfl rfl ?_; refine RP.o1 (.indexAddr rfl rfl ix28 (by assumption)) rfl rfl ?_
        refine RP.o1 (.load1 rfl lay3 (by first | (apply BoxIs.get; assumption; rfl) | (apply ElAt.get; assumption; rfl) | (apply ElAt.get0; assumption; rfl) | assumption)) rfl rfl ?_
        refine RP.o1 (.assign rfl) rfl rfl ?_; refine RP.nil ?_
        exact XP.ret ⟨.inr rfl, _, _, oneRes rfl, by rw [hgo, hv]; rfl, rfl⟩
      · refine XP.seq ?_; refine XP.regionS ?_; refine RP.o1 (.assign rfl) rfl rfl ?_; refine RP.nil ?_
        exact XP.ret ⟨.inr rfl, _, _, oneRes rfl, by rw [hgo, List.getElem?_eq_none (by have : ¬ j < r.length := fun h => hc26 (Int.ofNat_lt.2 h); omega)]; rfl, rfl⟩
  · simp only [decide_eq_false hp11]; simp only [Bool.not_false]
    refine RP.skip ⟨_,_,_,rfl,rfl,rfl,rfl⟩ rfl ?_; refine RP.skip ⟨_,_,_,rfl,rfl,rfl,rfl⟩ rfl ?_; refine RP.o1 (.pick (b := true) rfl rfl) rfl rfl ?_; refine RP.o1 (.move rfl) rfl rfl ?_; refine RP.skip ⟨_,_,_,rfl,rfl,rfl,rfl⟩ rfl ?_; refine RP.skip ⟨_,_,_,rfl,rfl,rfl,rfl⟩ rfl ?_; refine RP.skip ⟨_,_,_,rfl,rfl,rfl,rfl⟩ rfl ?_; refine RP.skip ⟨_,_,_,rfl,rfl,rfl,rfl⟩ rfl ?_; refine RP.skip ⟨_,_,_,rfl,rfl,rfl,rfl⟩ rfl ?_; refine RP.skip ⟨_,_,_,rfl,rfl,rfl,rfl⟩ rfl ?_; refine RP.skip ⟨_,_,_,rfl,rfl,rfl,rfl⟩ rfl ?_; refine RP.skip ⟨_,_,_,rfl,rfl,rfl,rfl⟩ rfl ?_; refine RP.skip ⟨_,_,_,rfl,rfl,rfl,rfl⟩ rfl ?_; refine RP.skip ⟨_,_,_,rfl,rfl,rfl,rfl⟩ rfl ?_; refine RP.o1 (.pick (b := true) rfl rfl) rfl rfl ?_; refine RP.nil ?_
    refine XP.condS true rfl ?_  -- if t26
    refine XP.seq ?_; refine XP.regionS ?_; refine RP.o1 (.assign rfl) rfl rfl ?_; refine RP.nil ?_
    refine XP.ret ⟨.inr rfl, _, _, oneRes rfl, ?_, rfl⟩
    unfold goesTo
    by_cases h0 : 0 ≤ x ∧ 0 ≤ y
    · rw [if_pos h0, List.getElem?_eq_none (by have : ¬ x < Int.ofNat L.length := fun h => hp11 ⟨h0.1, h⟩; have e : (Int.ofNat L.length : Int) = L.length := rfl; omega)]; rfl
    · rw [if_neg h0]; rfl
end Go.Ev
end
section
namespace Go.Ev
set_option linter.all false
open Go.Proofs
theorem ei22x : (elemInfo Tryz.prog 22).map (fun p => (p.1.size, p.2)) = some (3, [.str [], .int .i64 (.ofNat 0), .int .i64 (.ofNat 0)]) := by kernel_rfl
theorem ei22 : ∃ i : TypeInfo, elemInfo Tryz.prog 22 = some (i, [.str [], .int .i64 (.ofNat 0), .int .i64 (.ofNat 0)]) ∧ i.size = 3 := elemInfo_of ei22x
theorem ei23x : (elemInfo Tryz.prog 23).map (fun p => (p.1.size, p.2)) = some (3, [.str [], .nils, .str []]) := by kernel_rfl
theorem ei23 : ∃ i : TypeInfo, elemInfo Tryz.prog 23 = some (i, [.str [], .nils, .str []]) ∧ i.size = 3 := elemInfo_of ei23x
theorem ei27x : (elemInfo Tryz.prog 27).map (fun p => (p.1.size, p.2)) = some (1, [.str []]) := by kernel_rfl
theorem ei27 : ∃ i : TypeInfo, elemInfo Tryz.prog 27 = some (i, [.str []]) ∧ i.size = 1 := elemInfo_of ei27x
theorem ei29x : (elemInfo Tryz.prog 29).map (fun p => (p.1.size, p.2)) = some (4, [.int .i64 (.ofNat 0), .nils, .int .i64 (.ofNat 0), .int .i64 (.ofNat 0)]) := by kernel_rfl
theorem ei29 : ∃ i : TypeInfo, elemInfo Tryz.prog 29 = some (i, [.int .i64 (.ofNat 0), .nils, .int .i64 (.ofNat 0), .int .i64 (.ofNat 0)]) ∧ i.size = 4 := elemInfo_of ei29x
theorem ei38x : (elemInfo Tryz.prog 38).map (fun p => (p.1.size, p.2)) = some (1, [.int .u8 (.ofNat 0)]) := by kernel_rfl
theorem ei38 : ∃ i : TypeInfo, elemInfo Tryz.prog 38 = some (i, [.int .u8 (.ofNat 0)]) ∧ i.size = 1 := elemInfo_of ei38x
theorem fa25_0 : fieldAt Tryz.prog 25 0 = some 0 := by kernel_rfl
theorem fa25_1 : fieldAt Tryz.prog 25 1 = some 1 := by kernel_rfl
theorem fa25_2 : fieldAt Tryz.prog 25 2 = some 2 := by kernel_rfl
theorem fa25_3 : fieldAt Tryz.prog 25 3 = some 3 := by kernel_rfl
theorem fa31_2 : fieldAt Tryz.prog 31 2 = some 2 := by kernel_rfl
theorem fa31_4 : fieldAt Tryz.prog 31 4 = some 4 := by kernel_rfl
theorem fa31_5 : fieldAt Tryz.prog 31 5 = some 5 := by kernel_rfl
theorem fa31_6 : fieldAt Tryz.prog 31 6 = some 6 := by kernel_rfl
theorem fa40_0 : fieldAt Tryz.prog 40 0 = some 0 := by kernel_rfl
theorem fa40_1 : fieldAt Tryz.prog 40 1 = some 1 := by kernel_rfl
theorem fa40_2 : fieldAt Tryz.prog 40 2 = some 2 := by kernel_rfl
theorem fa42_0 : fieldAt Tryz.prog 42 0 = some 0 := by kernel_rfl
theorem fa42_1 : fieldAt Tryz.prog 42 1 = some 1 := by kernel_rfl
theorem fa42_2 : fieldAt Tryz.prog 42 2 = some 2 := by kernel_rfl
theorem fa56_2 : fieldAt Tryz.prog 56 2 = some 2 := by kernel_rfl
theorem fa56_3 : fieldAt Tryz.prog 56 3 = some 3 := by kernel_rfl
theorem ix22 : ixOf Tryz.prog 22 = .sl 3 := by kernel_rfl
theorem ix23 : ixOf Tryz.prog 23 = .sl 3 := by kernel_rfl
theorem ix27 : ixOf Tryz.prog 27 = .sl 1 := by kernel_rfl
theorem ix51 : ixOf Tryz.prog 51 = .sl 1 := by kernel_rfl
theorem ix77 : ixOf Tryz.prog 77 = .arr 9 1 := by kernel_rfl
theorem lay4 : layout Tryz.prog 4 = some (false, 1) := by kernel_rfl
theorem lay9 : layout Tryz.prog 9 = some (false, 1) := by kernel_rfl
theorem lay22 : layout Tryz.prog 22 = some (false, 1) := by kernel_rfl
theorem lay23 : layout Tryz.prog 23 = some (false, 1) := by kernel_rfl
theorem lay25 : layout Tryz.prog 25 = some (true, 4) := by kernel_rfl
theorem lay27 : layout Tryz.prog 27 = some (false, 1) := by kernel_rfl
theorem lay40 : layout Tryz.prog 40 = some (true, 3) := by kernel_rfl
theorem lay42 : layout Tryz.prog 42 = some (true, 3) := by kernel_rfl
theorem und9 : Tryz.prog.underlying 9 = some .string := by kernel_rfl
theorem len9 {s : List Nat} {m : AMem} : aLen Tryz.prog 9 (.str s) m = .mk (.int .i64 (.ofNat s.length)) m := by
  unfold aLen
  rw [und9]
  exact fNat_eq _ _
theorem len22 {b o n : Nat} {c : Option Nat} {m : AMem} : aLen Tryz.prog 22 (.slice b o n c) m = .mk (.int .i64 (.ofNat n)) m := by kernel_rfl
theorem len22n {m : AMem} : aLen Tryz.prog 22 .nils m = .mk (.int .i64 (.ofNat 0)) m := by kernel_rfl
theorem len22e {m : AMem} : aLen Tryz.prog 22 .emp m = .mk (.int .i64 (.ofNat 0)) m := by kernel_rfl
theorem len23 {b o n : Nat} {c : Option Nat} {m : AMem} : aLen Tryz.prog 23 (.slice b o n c) m = .mk (.int .i64 (.ofNat n)) m := by kernel_rfl
theorem len23n {m : AMem} : aLen Tryz.prog 23 .nils m = .mk (.int .i64 (.ofNat 0)) m := by kernel_rfl
theorem len23e {m : AMem} : aLen Tryz.prog 23 .emp m = .mk (.int .i64 (.ofNat 0)) m := by kernel_rfl
theorem len27 {b o n : Nat} {c : Option Nat} {m : AMem} : aLen Tryz.prog 27 (.slice b o n c) m = .mk (.int .i64 (.ofNat n)) m := by kernel_rfl
theorem len27n {m : AMem} : aLen Tryz.prog 27 .nils m = .mk (.int .i64 (.ofNat 0)) m := by kernel_rfl
theorem len27e {m : AMem} : aLen Tryz.prog 27 .emp m = .mk (.int .i64 (.ofNat 0)) m := by kernel_rfl
theorem nil63 {m : AMem} {b o n : Nat} {c : Option Nat} {l : Bool} : aBin2 Tryz.prog .eql 63 l (.slice b o n c) .nils m = .mk (.bool false) m := by kernel_rfl
theorem nil63n {m : AMem} {l : Bool} : aBin2 Tryz.prog .eql 63 l .nils .nils m = .mk (.bool true) m := by kernel_rfl
theorem nil63e {m : AMem} {l : Bool} : aBin2 Tryz.prog .eql 63 l .emp .nils m = .mk (.bool false) m := by kernel_rfl
theorem z25 : zeroA Tryz.prog 25 = some [.nils, .str [], .int .i64 (.ofNat 0), .nils] := by kernel_rfl
theorem z31 : zeroA Tryz.prog 31 = some [.int .i64 (.ofNat 0), .int .i64 (.ofNat 0), .int .i64 (.ofNat 0), .int .i64 (.ofNat 0), .nils, .nils, .nils, .nils] := by kernel_rfl
theorem z40 : zeroA Tryz.prog 40 = some [.str [], .int .i64 (.ofNat 0), .int .i64 (.ofNat 0)] := by kernel_rfl
theorem z42 : zeroA Tryz.prog 42 = some [.str [], .nils, .str []] := by kernel_rfl
theorem z77 : zeroA Tryz.prog 77 = some [.int .i64 (.ofNat 0), .int .i64 (.ofNat 0), .int .i64 (.ofNat 0), .int .i64 (.ofNat 0), .int .i64 (.ofNat 0), .int .i64 (.ofNat 0), .int .i64 (.ofNat 0), .int .i64 (.ofNat 0), .int .i64 (.ofNat 0)] := by kernel_rfl
theorem cd4 : codeOf Tryz.prog 4 = some (Tryz.f4, (Tryz.f4.body.getD .skip)) := by kernel_rfl
theorem nt4 : nTmps Tryz.f4 2 = 104 := by kernel_rfl
theorem cd9 : codeOf Tryz.prog 9 = some (Tryz.f9, (Tryz.f9.body.getD .skip)) := by kernel_rfl
theorem nt9 : nTmps Tryz.f9 1 = 157 := by kernel_rfl
theorem cd11 : codeOf Tryz.prog 11 = some (Tryz.f11, (Tryz.f11.body.getD .skip)) := by kernel_rfl
theorem nt11 : nTmps Tryz.f11 1 = 129 := by kernel_rfl
theorem cd17 : codeOf Tryz.prog 17 = some (Tryz.f17, (Tryz.f17.body.getD .skip)) := by kernel_rfl
theorem nt17 : nTmps Tryz.f17 2 = 41 := by kernel_rfl
theorem cd20 : codeOf Tryz.prog 20 = some (Tryz.f20, (Tryz.f20.body.getD .skip)) := by kernel_rfl
theorem nt20 : nTmps Tryz.f20 1 = 185 := by kernel_rfl
theorem cd21 : codeOf Tryz.prog 21 = some (Tryz.f21, (Tryz.f21.body.getD .skip)) := by kernel_rfl
theorem nt21 : nTmps Tryz.f21 1 = 35 := by kernel_rfl
theorem cd22 : codeOf Tryz.prog 22 = some (Tryz.f22, (Tryz.f22.body.getD .skip)) := by kernel_rfl
theorem nt22 : nTmps Tryz.f22 1 = 89 := by kernel_rfl
theorem cd23 : codeOf Tryz.prog 23 = some (Tryz.f23, (Tryz.f23.body.getD .skip)) := by kernel_rfl
theorem nt23 : nTmps Tryz.f23 1 = 31 := by kernel_rfl
theorem cd24 : codeOf Tryz.prog 24 = some (Tryz.f24, (Tryz.f24.body.getD .skip)) := by kernel_rfl
theorem nt24 : nTmps Tryz.f24 2 = 19 := by kernel_rfl
theorem cd25 : codeOf Tryz.prog 25 = some (Tryz.f25, (Tryz.f25.body.getD .skip)) := by kernel_rfl
theorem nt25 : nTmps Tryz.f25 3 = 67 := by kernel_rfl
theorem cd26 : codeOf Tryz.prog 26 = some (Tryz.f26, (Tryz.f26.body.getD .skip)) := by kernel_rfl
theorem nt26 : nTmps Tryz.f26 1 = 81 := by kernel_rfl
theorem cd27 : codeOf Tryz.prog 27 = some (Tryz.f27, (Tryz.f27.body.getD .skip)) := by kernel_rfl
theorem nt27 : nTmps Tryz.f27 1 = 67 := by kernel_rfl
theorem cd37 : codeOf Tryz.prog 37 = some (Tryz.f37, (Tryz.f37.body.getD .skip)) := by kernel_rfl
theorem nt37 : nTmps Tryz.f37 1 = 34 := by kernel_rfl
theorem cd38 : codeOf Tryz.prog 38 = some (Tryz.f38, (Tryz.f38.body.getD .skip)) := by kernel_rfl
theorem nt38 : nTmps Tryz.f38 2 = 22 := by kernel_rfl
theorem cd40 : codeOf Tryz.prog 40 = some (Tryz.f40, (Tryz.f40.body.getD .skip)) := by kernel_rfl
theorem nt40 : nTmps Tryz.f40 2 = 20 := by kernel_rfl
theorem cd56 : codeOf Tryz.prog 56 = some (Tryz.f56, (Tryz.f56.body.getD .skip)) := by kernel_rfl
theorem nt56 : nTmps Tryz.f56 1 = 21 := by kernel_rfl
theorem cd57 : codeOf Tryz.prog 57 = some (Tryz.f57, (Tryz.f57.body.getD .skip)) := by kernel_rfl
theorem nt57 : nTmps Tryz.f57 1 = 9 := by kernel_rfl
theorem cd58 : codeOf Tryz.prog 58 = some (Tryz.f58, (Tryz.f58.body.getD .skip)) := by kernel_rfl
theorem nt58 : nTmps Tryz.f58 2 = 24 := by kernel_rfl
end Go.Ev
end
section
namespace Go.Ev
set_option linter.all false
open Go.Proofs
set_option maxRecDepth 10000
set_option maxHeartbeats 2000000
theorem call58 {S : Sums} (hS : Plain S [58]) {m : AMem} (x y : Int × Int) : ∃ r m', CallTo Tryz.prog S 58 [itV x, itV y] m r m' ∧ r = .bool (decide (Lr.lt x y)) ∧ Kp Nothing m m' := by
  refine XP.call (hS 58 (by decide)) cd58 nt58 ?_
  show XP _ _ _ _ (toT .leaf [(1, itV y), (0, itV x)]) m _
  unfold Tryz.f58
  dsimp only [Option.getD_some]
  have K : Kp Nothing m m := .refl m
  refine XP.seq ?_; refine XP.regionS ?_
  have hk1 := K.le
  refine RP.box rfl rfl rfl rfl fun M1 K1 B2 N1 => ?_
  have K := K.trans K1
  have hk2 := K.le
  have lt2 := B2.lt
  refine RP.box rfl rfl rfl rfl fun M2 K2 B3 N2 => ?_
  have K := K.trans K2
  have B2 := B2.up K2
  refine RP.o1 (.assign rfl) rfl rfl ?_; refine RP.nil ?_; refine XP.seq ?_; refine XP.regionS ?_; refine RP.o1 (.fieldAddr rfl fa54_0) rfl rfl ?_
  refine RP.o1 (.load1 rfl lay3 (by first | (apply BoxIs.get; assumption; rfl) | (apply ElAt.get; assumption; rfl) | (apply ElAt.get0; assumption; rfl) | assumption)) rfl rfl ?_
  refine RP.o1 (.fieldAddr rfl fa54_0) rfl rfl ?_
  refine RP.o1 (.load1 rfl lay3 (by first | (apply BoxIs.get; assumption; rfl) | (apply ElAt.get; assumption; rfl) | (apply ElAt.get0; assumption; rfl) | assumption)) rfl rfl ?_
  refine RP.o1 (.bin rfl rfl (by first | exact lss_nat | exact lss_is)) rfl rfl ?_; refine RP.o1 (.move rfl) rfl rfl ?_
  rcases Decidable.em (x.1 < y.1) with hp10 | hp10
  · simp only [decide_eq_true hp10]
    refine RP.skip ⟨_,_,_,rfl,rfl,rfl,rfl⟩ rfl ?_; refine RP.skip ⟨_,_,_,rfl,rfl,rfl,rfl⟩ rfl ?_; refine RP.skip ⟨_,_,_,rfl,rfl,rfl,rfl⟩ rfl ?_; refine RP.skip ⟨_,_,_,rfl,rfl,rfl,rfl⟩ rfl ?_; refine RP.skip ⟨_,_,_,rfl,rfl,rfl,rfl⟩ rfl ?_; refine RP.skip ⟨_,_,_,rfl,rfl,rfl,rfl⟩ rfl ?_; refine RP.skipU ⟨_, _, rfl, rfl, rfl⟩ rfl ?_; refine RP.skipU ⟨_, _, rfl, rfl, rfl⟩ rfl ?_; refine RP.skipU ⟨_, _, rfl, rfl, rfl⟩ rfl ?_; refine RP.skipU ⟨_, _, rfl, rfl, rfl⟩ rfl ?_; refine RP.skipU ⟨_, _, rfl, rfl, rfl⟩ rfl ?_; refine RP.skip ⟨_,_,_,rfl,rfl,rfl,rfl⟩ rfl ?_; refine RP.o1 (.pick (b := true) rfl rfl) rfl rfl ?_; refine RP.o1 (.assign rfl) rfl rfl ?_; refine RP.nil ?_
    exact XP.ret ⟨.inr rfl, _, _, oneRes rfl, by rw [decide_eq_true (show Lr.lt x y from .inl hp10)]; rfl, K⟩
  · simp only [decide_eq_false hp10]
    refine RP.o1 (.fieldAddr rfl fa54_0) rfl ⟨_,_,_,rfl,rfl,rfl,rfl⟩ ?_
    refine RP.o1 (.load1 rfl lay3 (by first | (apply BoxIs.get; assumption; rfl) | (apply ElAt.get; assumption; rfl) | (apply ElAt.get0; assumption; rfl) | assumption)) rfl ⟨_,_,_,rfl,rfl,rfl,rfl⟩ ?_
    refine RP.o1 (.fieldAddr rfl fa54_0) rfl ⟨_,_,_,rfl,rfl,rfl,rfl⟩ ?_
    refine RP.o1 (.load1 rfl lay3 (by first | (apply BoxIs.get; assumption; rfl) | (apply ElAt.get; assumption; rfl) | (apply ElAt.get0; assumption; rfl) | assumption)) rfl ⟨_,_,_,rfl,rfl,rfl,rfl⟩ ?_
    refine RP.o1 (.bin rfl rfl eql_is) rfl ⟨_,_,_,rfl,rfl,rfl,rfl⟩ ?_; refine RP.o1 (.move rfl) rfl ⟨_,_,_,rfl,rfl,rfl,rfl⟩ ?_
    rcases Decidable.em (x.1 = y.1) with hp16 | hp16
    · simp only [decide_eq_true hp16]
      refine RP.o1 (.fieldAddr rfl fa54_1) rfl ⟨_,_,_,rfl,rfl,rfl,rfl⟩ ?_
      refine RP.o1 (.load1 rfl lay3 (by first | (apply BoxIs.get; assumption; rfl) | (apply ElAt.get; assumption; rfl) | (apply ElAt.get0; assumption; rfl) | assumption)) rfl ⟨_,_,_,rfl,rfl,rfl,rfl⟩ ?_
      refine RP.o1 (.fieldAddr rfl fa54_1) rfl ⟨_,_,_,rfl,rfl,rfl,rfl⟩ ?_
      refine RP.o1 (.load1 rfl lay3 (by first | (apply BoxIs.get; assumption; rfl) | (apply ElAt.get; assumption; rfl) | (apply ElAt.get0; assumption; rfl) | assumption)) rfl ⟨_,_,_,rfl,rfl,rfl,rfl⟩ ?_
      refine RP.o1 (.bin rfl rfl (by first | exact lss_nat | exact lss_is)) rfl ⟨_,_,_,rfl,rfl,rfl,rfl⟩ ?_; refine RP.o1 (.pick (b := true) rfl rfl) rfl ⟨_,_,_,rfl,rfl,rfl,rfl⟩ ?_; refine RP.o1 (.pick (b := false) rfl rfl) rfl rfl ?_; refine RP.o1 (.assign rfl) rfl rfl ?_; refine RP.nil ?_
      exact XP.ret ⟨.inr rfl, _, _, oneRes rfl, by congr 1; exact decide_eq_decide.2 ⟨fun h => .inr ⟨hp16, h⟩, fun h => by rcases h with h | h; exact absurd h hp10; exact h.2⟩, K⟩
    · simp only [decide_eq_false hp16]
      refine RP.skip ⟨_,_,_,rfl,rfl,rfl,rfl⟩ rfl ?_; refine RP.skip ⟨_,_,_,rfl,rfl,rfl,rfl⟩ rfl ?_; refine RP.skip ⟨_,_,_,rfl,rfl,rfl,rfl⟩ rfl ?_; refine RP.skip ⟨_,_,_,rfl,rfl,rfl,rfl⟩ rfl ?_; refine RP.skip ⟨_,_,_,rfl,rfl,rfl,rfl⟩ rfl ?_; refine RP.o1 (.pick (b := false) rfl rfl) rfl ⟨_,_,_,rfl,rfl,rfl,rfl⟩ ?_; refine RP.o1 (.pick (b := false) rfl rfl) rfl rfl ?_; refine RP.o1 (.assign rfl) rfl rfl ?_; refine RP.nil ?_
      exact XP.ret ⟨.inr rfl, _, _, oneRes rfl, by rw [decide_eq_false (show ¬ Lr.lt x y from fun h => by rcases h with h | h; exact hp10 h; exact hp16 h.1)]; rfl, K⟩
theorem call17 {S : Sums} (hS : Plain S [17]) {m : AMem} {u v : AV} {xs ys : List (Int × Int)} (hu : RowIs itC 2 m u xs) (hv : RowIs itC 2 m v ys) (hx : xs.length < 1048576) : CallTo Tryz.prog S 17 [u, v] m (.bool (decide (xs = ys))) m := by
  suffices H : ∃ r m', CallTo Tryz.prog S 17 [u, v] m r m' ∧ r = .bool (decide (xs = ys)) ∧ m' = m by
    obtain ⟨r, m', h, rfl, rfl⟩ := H
    exact h
  refine XP.call (hS 17 (by decide)) cd17 nt17 ?_
  show XP _ _ _ _ (toT .leaf [(1, v), (0, u)]) m _
  unfold Tryz.f17
  dsimp only [Option.getD_some]
  have K : Kp Nothing m m := .refl m
  refine XP.seq ?_; refine XP.regionS ?_; refine RP.o1 (.assign rfl) rfl rfl ?_; refine RP.nil ?_; refine XP.seq ?_; refine XP.seq ?_; refine XP.regionS ?_; refine RP.o1 (.move rfl) rfl rfl ?_; refine RP.o1 (.len rfl (rowLen hu)) rfl rfl ?_; refine RP.o1 (.move rfl) rfl rfl ?_; refine RP.o1 (.len rfl (rowLen hv)) rfl rfl ?_; refine RP.o1 (.bin rfl rfl neq_is) rfl rfl ?_; refine RP.nil ?_
  refine XP.condN rfl (fun hc10 => ?_) (fun hc10 => ?_)  -- if t10
  · refine XP.skip ?_; refine XP.seq ?_; refine XP.seq ?_; refine XP.regionS ?_; refine RP.o1 (.assign rfl) rfl rfl ?_; refine RP.nil ?_
    refine XP.block ?_  -- block 0
    refine XP.while (fun d t m1 => ∃ i t0, t = toT t0 [(5, .int .i64 (.ofNat i)), (1, v), (0, u)] ∧ d = xs.length - i ∧ i ≤ xs.length ∧ (∀ k : Nat, k < i → xs[k]? = ys[k]?) ∧ m1 = m) ?_ xs.length _ _ ?_
    rotate_left
    · exact ⟨0, _, toT_less (.cons rfl (.cons rfl (.cons rfl (.nil)))), rfl, Nat.zero_le _, fun k hk => absurd hk (Nat.not_lt_zero _), rfl⟩
    rintro d t M1 ⟨i, t0, rfl, rfl, hin, hsame, rfl⟩
    refine XP.seq ?_; refine XP.seq ?_; refine XP.regionS ?_; refine RP.o1 (.move rfl) rfl rfl ?_; refine RP.o1 (.move rfl) rfl rfl ?_; refine RP.o1 (.len rfl (rowLen hu)) rfl rfl ?_; refine RP.o1 (.bin rfl rfl (by first | exact lss_nat | exact lss_is)) rfl rfl ?_; refine RP.nil ?_
    refine XP.condD rfl (fun hc14 => ?_) (fun hc14 => ?_)  -- if t14
    · refine XP.skip ?_; refine XP.seq ?_
      refine XP.block ?_  -- block 1
      refine XP.seq ?_
      obtain ⟨x, hx1⟩ : ∃ x, xs[i]? = some x := ⟨xs[i]'hc14, List.getElem?_eq_getElem _⟩
      obtain ⟨y, hy1⟩ : ∃ y, ys[i]? = some y := ⟨ys[i]'(by have := Int.ofNat.inj hc10; omega), List.getElem?_eq_getElem _⟩
      obtain ⟨b1, o1, c1, rfl, _, E1⟩ := hu.elem encIt (.refl _) hx1
      obtain ⟨b2, o2, c2, rfl, hi2, E2⟩ := hv.elem encIt (.refl _) hy1
      refine XP.drawnS (ms := [0, 0, 3, 7, 15, 0, 0, 96, 224, 480, 1023, 2047, 4095, 4095, 16383, 32767, 65535, 4095, 4095, 397311, 921599, 1970175, 4194303, 8388607]) (by kernel_rfl) ?_; refine DP.pure (.move rfl) rfl rfl rfl ?_; refine DP.pure (.move rfl) rfl rfl rfl ?_; refine DP.pure (.indexAddr rfl rfl ix46 (by assumption)) rfl rfl rfl ?_; refine DP.pure (.fieldAddr rfl fa54_0) rfl rfl rfl ?_
      refine DP.read (fun _ => op_load1 (ev_is rfl) lay3 (by first | (apply BoxIs.get; assumption; rfl) | (apply ElAt.get; assumption; rfl) | (apply ElAt.get0; assumption; rfl) | assumption)) rfl rfl rfl (fun _ => op_load_leaf) (.inl (by kernel_rfl)) (fun _ => cuts_nil) ?_
      refine DP.pure (.move rfl) rfl rfl rfl ?_; refine DP.pure (.move rfl) rfl rfl rfl ?_; refine DP.pure (.indexAddr rfl rfl ix46 (by assumption)) rfl rfl rfl ?_; refine DP.pure (.fieldAddr rfl fa54_0) rfl rfl rfl ?_
      refine DP.read (fun _ => op_load1 (ev_is rfl) lay3 (by first | (apply BoxIs.get; assumption; rfl) | (apply ElAt.get; assumption; rfl) | (apply ElAt.get0; assumption; rfl) | assumption)) rfl rfl rfl (fun _ => op_load_leaf) (.inl (by kernel_rfl)) (fun _ => cuts_nil) ?_
      refine DP.pure (.bin rfl rfl neq_is) rfl rfl rfl ?_; refine DP.pure (.move rfl) rfl rfl rfl ?_
      rcases Decidable.em (x.1 = y.1) with hp28 | hp28
      · simp only [decide_eq_true hp28]; simp only [Bool.not_true]
        refine DP.pure (.move rfl) rfl rfl ⟨_,_,_,rfl,rfl,rfl,rfl⟩ ?_; refine DP.pure (.move rfl) rfl rfl ⟨_,_,_,rfl,rfl,rfl,rfl⟩ ?_; refine DP.pure (.indexAddr rfl rfl ix46 (by assumption)) rfl rfl ⟨_,_,_,rfl,rfl,rfl,rfl⟩ ?_; refine DP.pure (.fieldAddr rfl fa54_1) rfl rfl ⟨_,_,_,rfl,rfl,rfl,rfl⟩ ?_
        refine DP.read (fun _ => op_load1 (ev_is rfl) lay3 (by first | (apply BoxIs.get; assumption; rfl) | (apply ElAt.get; assumption; rfl) | (apply ElAt.get0; assumption; rfl) | assumption)) rfl rfl ⟨_,_,_,rfl,rfl,rfl,rfl⟩ (fun _ => op_load_leaf) (.inl (by kernel_rfl)) (fun _ => cuts_nil) ?_
        refine DP.pure (.move rfl) rfl rfl ⟨_,_,_,rfl,rfl,rfl,rfl⟩ ?_; refine DP.pure (.move rfl) rfl rfl ⟨_,_,_,rfl,rfl,rfl,rfl⟩ ?_; refine DP.pure (.indexAddr rfl rfl ix46 (by assumption)) rfl rfl ⟨_,_,_,rfl,rfl,rfl,rfl⟩ ?_; refine DP.pure (.fieldAddr rfl fa54_1) rfl rfl ⟨_,_,_,rfl,rfl,rfl,rfl⟩ ?_
        refine DP.read (fun _ => op_load1 (ev_is rfl) lay3 (by first | (apply BoxIs.get; assumption; rfl) | (apply ElAt.get; assumption; rfl) | (apply ElAt.get0; assumption; rfl) | assumption)) rfl rfl ⟨_,_,_,rfl,rfl,rfl,rfl⟩ (fun _ => op_load_leaf) (.inl (by kernel_rfl)) (fun _ => cuts_nil) ?_
        refine DP.pure (.bin rfl rfl neq_is) rfl rfl ⟨_,_,_,rfl,rfl,rfl,rfl⟩ ?_; refine DP.pure (.pick (b := false) rfl rfl) rfl rfl rfl ?_; refine DP.nil ?_
        refine XP.condN rfl (fun hc40 => ?_) (fun hc40 => ?_)  -- if t40
        · refine XP.skip ?_; refine XP.regionS ?_; refine RP.o1 (.move rfl) rfl rfl ?_
          refine RP.o1 (.bin rfl rfl (by first | exact inc_is (by omega) | exact add_is (by omega) (by omega))) rfl rfl ?_
          refine RP.o1 (.assign rfl) rfl rfl ?_; refine RP.nil ?_
          refine ⟨xs.length - (i + 1), by omega, i + 1, _, toT_less (.cons rfl (.cons rfl (.cons rfl (.nil)))), rfl, by omega, fun k hk => ?_, rfl⟩
          rcases Nat.lt_or_ge k i with h | h
          · exact hsame k h
          · obtain rfl : k = i := by omega
            rw [hx1, hy1, Prod.ext hp28 hc40]
        · refine XP.seq ?_; refine XP.regionS ?_; refine RP.o1 (.assign rfl) rfl rfl ?_; refine RP.nil ?_
          exact XP.ret ⟨.inr rfl, _, _, oneRes rfl, by rw [decide_eq_false (fun h => hc40 (by rw [h, hy1] at hx1; injection hx1 with e; rw [e]))]; rfl, rfl⟩
      · simp only [decide_eq_false hp28]; simp only [Bool.not_false]
        refine DP.skip ⟨_,_,_,rfl,rfl,rfl,rfl⟩ rfl ?_; refine DP.skip ⟨_,_,_,rfl,rfl,rfl,rfl⟩ rfl ?_; refine DP.skip ⟨_,_,_,rfl,rfl,rfl,rfl⟩ rfl ?_; refine DP.skip ⟨_,_,_,rfl,rfl,rfl,rfl⟩ rfl ?_; refine DP.skip ⟨_,_,_,rfl,rfl,rfl,rfl⟩ rfl ?_; refine DP.skip ⟨_,_,_,rfl,rfl,rfl,rfl⟩ rfl ?_; refine DP.skip ⟨_,_,_,rfl,rfl,rfl,rfl⟩ rfl ?_; refine DP.skip ⟨_,_,_,rfl,rfl,rfl,rfl⟩ rfl ?_; refine DP.skip ⟨_,_,_,rfl,rfl,rfl,rfl⟩ rfl ?_; refine DP.skip ⟨_,_,_,rfl,rfl,rfl,rfl⟩ rfl ?_; refine DP.skip ⟨_,_,_,rfl,rfl,rfl,rfl⟩ rfl ?_; refine DP.pure (.pick (b := true) rfl rfl) rfl rfl rfl ?_; refine DP.nil ?_
        refine XP.condS true rfl ?_  -- if t40
        refine XP.seq ?_; refine XP.regionS ?_; refine RP.o1 (.assign rfl) rfl rfl ?_; refine RP.nil ?_
        exact XP.ret ⟨.inr rfl, _, _, oneRes rfl, by rw [decide_eq_false (fun h => hp28 (by rw [h, hy1] at hx1; injection hx1 with e; rw [e]))]; rfl, rfl⟩
    · refine XP.exit ?_  -- 0
      refine XP.seq ?_; refine XP.regionS ?_; refine RP.o1 (.assign rfl) rfl rfl ?_; refine RP.nil ?_
      have hl := Int.ofNat.inj hc10
      have e : xs = ys := List.ext_getElem? fun k => by
        by_cases hk : k < i
        · exact hsame k hk
        · rw [List.getElem?_eq_none (by omega), List.getElem?_eq_none (by omega)]
      exact XP.ret ⟨.inr rfl, _, _, oneRes rfl, by rw [decide_eq_true e]; rfl, rfl⟩
  · refine XP.seq ?_; refine XP.regionS ?_; refine RP.o1 (.assign rfl) rfl rfl ?_; refine RP.nil ?_
    exact XP.ret ⟨.inr rfl, _, _, oneRes rfl, by rw [decide_eq_false (fun h => hc10 (by rw [h]))]; rfl, rfl⟩
end Go.Ev
end
section
namespace Go.Ev
set_option linter.all false
open Go.Proofs
section
variable {α : Type} {enc : α → List AV} {sz : Nat}
/-- A row that may be cut anywhere. -/
noncomputable def RowG (enc : α → List AV) (sz : Nat) (m : AMem) (v : AV) (xs : List α) : Prop := (v = .nils ∧ xs = []) ∨ ∃ b off c, v = .slice b off xs.length c ∧ RowAt enc sz m b off xs ∧ (∀ q, c = some q → xs.length ≤ q) ∧ (c = none → ∃ N, m.blk b sz N)
variable {m m' : AMem} {v : AV} {xs : List α}
theorem RowG.row (h : RowG enc sz m v xs) : RowIs enc sz m v xs := by
  rcases h with h | ⟨b, off, c, e, R, _⟩
  · exact .inl h
  · exact .inr (.inr ⟨b, off, c, e, R⟩)
theorem RowG.stays {D : Nat → Prop} (h : RowG enc sz m v xs) (k : Kp D m m') (hd : ∀ b, Blk1 v b → ¬ D b) : RowG enc sz m' v xs := by
  rcases h with h | ⟨b, off, c, rfl, R, h1, h2⟩
  · exact .inl h
  · have hb := hd b ⟨_, _, _, rfl⟩
    exact .inr ⟨b, off, c, rfl, R.keep k hb, h1, fun e => let ⟨N, q⟩ := h2 e; ⟨N, AMem.blk_of q (k.old b R.lt hb)⟩⟩
theorem RowG.up (h : RowG enc sz m v xs) (k : Kp Nothing m m') : RowG enc sz m' v xs := h.stays k fun _ _ => id
theorem GrowIs.cut {lo : Nat} (h : GrowIs enc sz lo m v xs) : RowG enc sz m v xs := by
  rcases h with h | ⟨b, c, rfl, _, R, hc, ho⟩
  · exact .inl h
  · refine .inr ⟨b, 0, c, rfl, R, fun q e => ?_, fun e => ⟨_, ho.blk⟩⟩
    rcases hc with e' | e'
    · rw [e] at e'; cases e'
    · rw [e] at e'; injection e' with e'; omega
theorem RowAt.part {b off : Nat} (h : RowAt enc sz m b off xs) (i n : Nat) (hn : i + n ≤ xs.length) : RowAt enc sz m b (off + i * sz) ((xs.drop i).take n) := by
  obtain ⟨E, N, h1, h2⟩ := h.blk
  have hl : ((xs.drop i).take n).length = n := by simp; omega
  refine ⟨h.lt, ⟨E, N, h1, ?_⟩, fun k x hx j hj => ?_⟩
  · rw [hl]
    have : (i + n) * sz ≤ xs.length * sz := Nat.mul_le_mul_right _ hn
    rw [Nat.add_mul] at this; omega
  · rw [List.getElem?_take] at hx
    by_cases hk : k < n
    · rw [if_pos hk, List.getElem?_drop] at hx
      have := h.at_ (i + k) x hx j hj
      rw [← this]
      congr 1
      rw [Nat.add_mul]; omega
    · rw [if_neg hk] at hx; cases hx
/-- s[:i]. -/
theorem cut_to {P : Program} {ty e : TypeId} {j : TypeInfo} {i : Nat} {k : IntKind} (ht : P.underlying ty = some (.slice e)) (hj : P.info? e = some j) (hs : j.size = sz) (h : RowG enc sz m v xs) (hi : i ≤ xs.length) :
    ∃ w, (∀ M, aSlice P ty v none (some (.int k (.ofNat i))) none M = .mk w M) ∧ RowIs enc sz m w (xs.take i) := by
  rcases h with ⟨rfl, rfl⟩ | ⟨b, off, c, rfl, R, h1, h2⟩
  · obtain rfl : i = 0 := by simpa using hi
    refine ⟨.nils, fun M => ?_, .inl ⟨rfl, rfl⟩⟩
    unfold aSlice
    rw [ht]
    simp only [hj]
    rfl
  · have hp := R.part 0 i (by omega)
    rw [Nat.zero_mul, Nat.add_zero, List.drop_zero] at hp
    have hl : (xs.take i).length = i := by simp; omega
    cases c with
    | some c =>
      refine ⟨.slice b off i (some c), fun M => slice_to ht hj (Nat.le_trans hi (h1 c rfl)), .inr (.inr ⟨b, off, some c, by rw [hl], hp⟩)⟩
    | none =>
      refine ⟨.slice b off i none, fun M => ?_, .inr (.inr ⟨b, off, none, by rw [hl], hp⟩)⟩
      unfold aSlice
      rw [ht]
      simp only [hj]
      show bif2 (Nat.ble 0 i && Nat.ble i xs.length) (bif2 (Nat.beq 0 0) (OR.mk (.slice b off i none) M) _) _ = _
      rw [Nat.ble_eq_true_of_le (Nat.zero_le i), Nat.ble_eq_true_of_le hi]
      rfl
/-- s[i:]. -/
theorem cut_from {P : Program} {ty e : TypeId} {j : TypeInfo} {i : Nat} {k : IntKind} (ht : P.underlying ty = some (.slice e)) (hj : P.info? e = some j) (hs : j.size = sz) (h : RowG enc sz m v xs) (hi : i ≤ xs.length) :
    ∃ w, RowIs enc sz m w (xs.drop i) ∧ ((∀ M, aSlice P ty v (some (.int k (.ofNat i))) none none M = .mk w M) ∨
      (w.plain = true ∧ (∀ n : Nat, eqV (n + 1) w w = true) ∧ (∀ n, ∃ c, aSlice P ty v (some (.int k (.ofNat i))) none none ⟨n, .leaf⟩ = .fail c) ∧ ∀ M, (∀ b, Blk1 v b → M.t.get b = m.t.get b) → aSlice P ty v (some (.int k (.ofNat i))) none none M = .mk w M)) := by
  rcases h with ⟨rfl, rfl⟩ | ⟨b, off, c, rfl, R, h1, h2⟩
  · obtain rfl : i = 0 := by simpa using hi
    refine ⟨.nils, .inl ⟨rfl, rfl⟩, .inl fun M => ?_⟩
    unfold aSlice
    rw [ht]
    simp only [hj]
    rfl
  · have hp := R.part i (xs.length - i) (by omega)
    rw [List.take_of_length_le (by simp)] at hp
    have hl : (xs.drop i).length = xs.length - i := by simp
    cases c with
    | some c =>
      have hc := h1 c rfl
      obtain ⟨o, e1, e2⟩ := slice_from (P := P) (ty := ty) (e := e) (j := j) (b := b) (off := off) (len := xs.length) (m := m) (c := c) (i := i) (k := k) ht hj hi hc
      refine ⟨.slice b o (xs.length - i) (some (c - i)), ?_, .inl fun M => ?_⟩
      · by_cases hic : i < c
        · rw [e2 hic, hs]; exact .inr (.inr ⟨b, _, _, by rw [hl], hp⟩)
        · have h0 : xs.drop i = [] := List.drop_eq_nil_of_le (by omega)
          rw [h0]
          obtain ⟨E, N, b1, b2⟩ := R.blk
          refine .inr (.inr ⟨b, o, _, by rw [show xs.length - i = 0 by omega]; rfl, R.lt, ?_, fun i x hx => by simp at hx⟩)
          have ho : o = off := by
            have : aSlice P ty (.slice b off xs.length (some c)) (some (.int k (.ofNat i))) none none m = .mk (.slice b off (xs.length - i) (some (c - i))) m := by
              unfold aSlice
              rw [ht]
              simp only [hj]
              show bif2 (((none : Option AV).isSome || !(none : Option AV).isSome) && Nat.ble i xs.length && Nat.ble xs.length c && Nat.ble c c) (cutAt b off j.size i xs.length c m) _ = _
              rw [Nat.ble_eq_true_of_le hi, Nat.ble_eq_true_of_le hc, Nat.ble_eq_true_of_le (Nat.le_refl c)]
              show bif2 true (cutAt b off j.size i xs.length c m) _ = _
              rw [bif2_eq, if_pos rfl]
              unfold cutAt
              rw [fNat_eq, fNat_eq, fNat_eq, bif2_eq, if_pos (by rw [show c = i by omega]; exact Nat.beq_refl _)]
              rfl
            rw [e1] at this
            injection this with this
            injection this
          exact ⟨E, N, b1, by rw [ho]; simp; omega⟩
      · obtain ⟨o', e1', _⟩ := slice_from (P := P) (ty := ty) (e := e) (j := j) (b := b) (off := off) (len := xs.length) (m := M) (c := c) (i := i) (k := k) ht hj hi hc
        rw [e1']
        have hoo : ∀ M o, aSlice P ty (.slice b off xs.length (some c)) (some (.int k (.ofNat i))) none none M = .mk (.slice b o (xs.length - i) (some (c - i))) M → o = bif2 (Nat.beq c i) off (Nat.add off (Nat.mul i j.size)) := by
          intro M o h
          have : aSlice P ty (.slice b off xs.length (some c)) (some (.int k (.ofNat i))) none none M = .mk (.slice b (bif2 (Nat.beq c i) off (Nat.add off (Nat.mul i j.size))) (xs.length - i) (some (c - i))) M := by
            unfold aSlice
            rw [ht]
            simp only [hj]
            show bif2 (((none : Option AV).isSome || !(none : Option AV).isSome) && Nat.ble i xs.length && Nat.ble xs.length c && Nat.ble c c) (cutAt b off j.size i xs.length c M) _ = _
            rw [Nat.ble_eq_true_of_le hi, Nat.ble_eq_true_of_le hc, Nat.ble_eq_true_of_le (Nat.le_refl c)]
            show bif2 true (cutAt b off j.size i xs.length c M) _ = _
            rw [bif2_eq, if_pos rfl]
            unfold cutAt
            rw [fNat_eq, fNat_eq, fNat_eq]
            rfl
          rw [h] at this
          injection this with this
          injection this
        rw [hoo M o' e1', ← hoo m o e1]
    | none =>
      obtain ⟨N, hb⟩ := h2 rfl
      by_cases h0 : i = 0
      · subst h0
        refine ⟨.slice b off xs.length none, by rw [List.drop_zero]; exact .inr (.inr ⟨b, off, none, rfl, R⟩), .inl fun M => ?_⟩
        unfold aSlice
        rw [ht]
        simp only [hj]
        show bif2 (Nat.ble 0 xs.length && Nat.ble xs.length xs.length) (bif2 (Nat.beq 0 0) (OR.mk (.slice b off xs.length none) M) _) _ = _
        rw [Nat.ble_eq_true_of_le (Nat.zero_le _), Nat.ble_eq_true_of_le (Nat.le_refl _)]
        rfl
      · by_cases hlt : i < xs.length
        · refine ⟨.slice b (off + i * sz) (xs.length - i) none, .inr (.inr ⟨b, _, none, by rw [hl], hp⟩), .inr ⟨rfl, fun n => eqV_row (enc := enc) (sz := sz) (m := m) (xs := xs.drop i) (.inr (.inr ⟨b, off + i * sz, none, by rw [hl], hp⟩)), fun n => slice_rest_leaf ht hj (by omega) hlt, fun M hM => ?_⟩⟩
          have hbM : M.blk b j.size N := by rw [hs]; exact AMem.blk_of hb (hM b ⟨_, _, _, rfl⟩)
          rw [slice_rest ht hj hlt hbM, hs]
        · obtain rfl : i = xs.length := by omega
          refine ⟨.emp, .inr (.inl ⟨rfl, by simp⟩), .inl fun M => ?_⟩
          unfold aSlice
          rw [ht]
          simp only [hj]
          show bif2 (Nat.ble xs.length xs.length && Nat.ble xs.length xs.length) (bif2 (Nat.beq xs.length 0) _ (bif2 (Nat.blt xs.length xs.length) _ (OR.mk .emp M))) _ = _
          rw [Nat.ble_eq_true_of_le (Nat.le_refl _)]
          show bif2 true (bif2 (Nat.beq xs.length 0) _ (bif2 (Nat.blt xs.length xs.length) _ (OR.mk .emp M))) _ = _
          rw [bif2_eq, if_pos rfl, bif2_eq, if_neg (fun k => h0 (Nat.eq_of_beq_eq_true k)), bif2_eq, if_neg (by simp [Nat.blt_eq])]
/-- append of a row to a row of one's own. -/
theorem append_rows {P : Program} {st : TypeId} {xt : Option TypeId} {i : TypeInfo} {z : List AV} {lo : Nat} {w : AV} {ys : List α} (he : Enc enc sz) (hz : 0 < sz) (hi : elemInfo P st = some (i, z)) (hs : i.size = sz) (ha : appendable P xt = true)
    (h : GrowIs enc sz lo m v xs) (hw : RowIs enc sz m w ys) (hlo : lo ≤ m.next) (hx : xs.length ≤ 1048576) (hy : ys.length ≤ 1048576) :
    ∃ u m', aAppend P st xt v w m = .mk u m' ∧ m.next ≤ m'.next ∧ GrowIs enc sz lo m' u (xs ++ ys) ∧ Kp (Blk1 v) m m' ∧ (∀ b, Blk1 u b → m.next ≤ b ∨ u = v) := by
  by_cases h0 : 0 < ys.length
  · rcases h with ⟨rfl, rfl⟩ | ⟨b, c, rfl, hl, R, hc, ho⟩
    · refine ⟨_, _, append_nil he hz hi hs ha hw h0 hy, Nat.le_succ _, .inr ⟨m.next, none, by simp, hlo, RowAt.new he, .inl rfl, ?_⟩, ((Kp.refl m).new _ _ _), ?_⟩
      · have := AMem.new_own m true sz (flat enc ys); rwa [flat_length he.len] at this
      · rintro b ⟨o, n, c, e⟩; injection e with e; left; omega
    · rcases hc with rfl | rfl
      · refine ⟨_, _, append_own he hz hi hs ha R (by simpa using ho) hw h0 hx hy, Nat.le_succ _, .inr ⟨m.next, none, by simp, hlo, RowAt.new he, .inl rfl, ?_⟩, ?_, ?_⟩
        · have := AMem.new_own (m.drop b) true sz (flat enc (xs ++ ys)); rwa [flat_length he.len] at this
        · exact ((Kp.refl m).drop (.inr ⟨_, _, _, rfl⟩)).new _ _ _
        · rintro b' ⟨o, n, c, e⟩; injection e with e; left; omega
      · refine ⟨_, _, append_full he hz hi hs ha R hw (by omega) h0 hx hy, Nat.le_succ _, .inr ⟨m.next, none, by simp, hlo, RowAt.new he, .inl rfl, ?_⟩, ((Kp.refl m).new _ _ _), ?_⟩
        · have := AMem.new_own m true sz (flat enc (xs ++ ys)); rwa [flat_length he.len] at this
        · rintro b' ⟨o, n, c, e⟩; injection e with e; left; omega
  · obtain rfl : ys = [] := List.eq_nil_of_length_eq_zero (by omega)
    rw [List.append_nil]
    refine ⟨v, m, ?_, Nat.le_refl _, h, .refl _, fun _ _ => .inr rfl⟩
    rcases h with ⟨rfl, rfl⟩ | ⟨b, c, rfl, hl, R, hc, ho⟩
    · unfold aAppend
      rw [hi]
      simp only
      rw [ha, hw.lenA]
      rfl
    · exact append_zero hi ha hw
end
section
variable {P : Program} {S : Sums} {nt : Nat}
variable {all : Array Oper} {dst : Option Tmp} {ty : TypeId} {pos : String} {af : Array Edge} {g : Option (Nat × Bool)} {l : List Oper} {a : Nat} {ms : List Nat} {j : Nat} {t0 : T AV} {σ : List (Nat × AV)} {m : AMem} {d : DSt} {Q : T AV → AMem → Prop}
theorem DP.alloc {tb : TypeId} {z : List AV} (hz : zeroA P tb = some z) (hd : dstOk nt dst = true) (hg : WP all σ g true)
    (k : ∀ m', Kp Nothing m m' → BoxIs m' m.next z → m'.next = m.next + 1 → DP P S nt all l ms (j + 1) t0 (putS dst (.ptr m.next 0) σ) m' ⟨Nat.lor d.als (Nat.shiftLeft 1 j), Nat.lor d.alc (Nat.shiftLeft 1 j), d.hv, d.base, d.st, d.pend⟩ Q) :
    DP P S nt all (⟨dst, .alloc tb, ty, pos, af, g⟩ :: l) (a :: ms) j t0 σ m d Q :=
  DP.make (.alloc hz) hd rfl hg (k _ ((Kp.refl m).new _ _ _) BoxIs.new rfl)
/-- s[i:] in a region whose order is drawn. -/
theorem DP.cutFrom {α : Type} {enc : α → List AV} {sz : Nat} {tys e : TypeId} {x lo : Operand} {v : AV} {xs : List α} {i : Nat} {kk : IntKind} {jj : TypeInfo} (ht : P.underlying tys = some (.slice e)) (hj : P.info? e = some jj) (hs : jj.size = sz) (hx : ev σ x = some v) (hlo : ev σ lo = some (.int kk (.ofNat i)))
    (hv : RowG enc sz m v xs) (hi : i ≤ xs.length) (hd : dstOk nt dst = true) (hg : WP all σ g true) (hal : subA d.alc a = true) (hst : ∀ q ∈ d.st, ∀ b, Blk1 v b → q.2.t.get b = m.t.get b)
    (k : ∀ w pd, RowIs enc sz m w (xs.drop i) → (pd = d.pend ∨ ∃ p : Pend, p.j = j ∧ pd = p :: d.pend) → DP P S nt all l ms (j + 1) t0 (putS dst w σ) m ⟨d.als, d.alc, d.hv, d.base, d.st, pd⟩ Q) :
    DP P S nt all (⟨dst, .slice tys x (some lo) none none, ty, pos, af, g⟩ :: l) (a :: ms) j t0 σ m d Q := by
  obtain ⟨w, hw, h⟩ := cut_from (k := kk) ht hj hs hv hi
  rcases h with h | ⟨hp, he, hl, h⟩
  · exact DP.pure (OpTo.of fun _ => op_slice hx (map_some hlo) rfl rfl (h _)) hd rfl hg (k w d.pend hw (.inl rfl))
  · have hr : ∀ M, (∀ b, Blk1 v b → M.t.get b = m.t.get b) → ∀ call, readsA P call (.slice tys x (some lo) none none) (toT t0 σ) M w = true := fun M hM call => reads_of (op_slice hx (map_some hlo) rfl rfl (h M hM)) (he _)
    have hc : ∀ call (st : List (Nat × AMem)), (∀ q ∈ st, ∀ b, Blk1 v b → q.2.t.get b = m.t.get b) → atCuts P call (.slice tys x (some lo) none none) (toT t0 σ) w a st = true := by
      intro call st
      induction st with
      | nil => intro _; exact cuts_nil
      | cons q st ih => intro hq; exact cuts_cons (hr _ (hq q (by simp)) call) (ih fun q' h' => hq q' (List.mem_cons_of_mem _ h'))
    exact DP.read (fun _ => op_slice hx (map_some hlo) rfl rfl (h m fun _ _ => rfl)) hd rfl hg (fun _ => op_slice_leaf hx (map_some hlo) rfl rfl (hl _)) (.inl hal) (fun call => hc call d.st hst) (k w _ hw (.inr ⟨_, rfl, rfl⟩))
end
/-- Where put puts. -/
theorem put_cut {xs : List (Int × Int)} {x : Int × Int} : ∀ {i : Nat}, (∀ k y, k < i → xs[k]? = some y → Lr.lt y x) → (∀ y, xs[i]? = some y → ¬ Lr.lt y x) → i ≤ xs.length → Lr.put xs x = if xs[i]? = some x then xs else xs.take i ++ [x] ++ xs.drop i := by
  induction xs with
  | nil =>
    intro i _ _ hi
    obtain rfl : i = 0 := by simpa using hi
    rfl
  | cons z zs ih =>
    intro i h1 h2 hi
    unfold Lr.put
    cases i with
    | zero =>
      have hz := h2 z rfl
      rw [if_neg hz]
      by_cases e : z = x
      · rw [if_pos e, if_pos (by rw [e]; rfl)]
      · rw [if_neg e, if_neg (by intro k; injection k with k; exact e k)]; rfl
    | succ i =>
      rw [if_pos (h1 0 z (by omega) rfl), ih (i := i) (fun k y hk hy => h1 (k + 1) y (by omega) hy) (fun y hy => h2 y hy) (by simpa using hi)]
      show (z :: if zs[i]? = some x then zs else _) = if zs[i]? = some x then z :: zs else _
      by_cases e : zs[i]? = some x
      · rw [if_pos e, if_pos e]
      · rw [if_neg e, if_neg e]; rfl
end Go.Ev
end
