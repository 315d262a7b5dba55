/- A region whose order is drawn: what a run of it in the order of the text finds. A region whose order is drawn: who is ahead of whom. A region whose order is drawn: what its run in the order of the text says of all orders. A region whose order is drawn: in any order it comes to what the order of the text comes to. A region whose order is drawn: the proof's end. Code and calls: whatever the evaluator answers the model comes to. slices.Insert: the run of its code where its capacity tells nothing, and both runs where it does. Summaries: what stands for a call of a function, and why it may. -/
import Derived.Test.YtehbmncbojngnaaGreatDoorEvGc
import Derived.LoopN
import Derived.Scope
import Derived.Test.YtehbmncbojngnaaGreatDoorEvGa
import Derived.Lib.Bytealg
section
namespace Go.Ev
set_option linter.all false
section
variable {P : Program} {call : Call} {nt : Nat} {all : Array Oper}
theorem dstK_get {dst : Option Tmp} {v : AV} {t : T AV} {k : T AV → Res} {x : X} {t' : T AV} {m' : AMem} (h : dstK nt dst v t k = .mk x t' m') :
    ∃ t1, k t1 = .mk x t' m' ∧ (∀ d, dst = some d → d < nt) ∧ ∀ u, t1.get u = if dst = some u then some v else t.get u := by
  cases dst with
  | none => exact ⟨t, h, fun d e => (by cases e), fun u => by simp⟩
  | some d =>
    have h : bif2 (Nat.blt d nt) (T.setK (.fail 121) (some v) t d k) (.fail 122) = .mk x t' m' := h
    rw [bif2_eq] at h
    split at h
    · rename_i hd
      have hd : d < nt := by simpa [Nat.blt_eq] using hd
      rcases T.setK_eq (Res.fail 121) (some v) t d k with e | ⟨t1, ht, e⟩
      · rw [e] at h; cases h
      · rw [e] at h
        refine ⟨t1, h, fun d' e => (by cases e; exact hd), fun u => ?_⟩
        rw [ht]
        by_cases hu : u = d
        · subst hu; simp
        · rw [if_neg hu, if_neg (fun e => hu (by cases e; rfl))]
    · cases h
/-- What one operation does. -/
inductive Did (P : Program) (call : Call) (o : Op) (a j : Nat) (t : T AV) (m : AMem) (d : DSt) (v : AV) : Bool → Bool → Option Blk → AMem → DSt → Prop
  | skip (hv : v = .undef) : Did P call o a j t m d v false false none m d
  | pure (h : opTab o P call t ⟨m.next, .leaf⟩ = .mk v ⟨m.next, .leaf⟩) : Did P call o a j t m d v true false none m d
  | alloc (y : Blk) (t2 : T Blk) (tr : T Blk) (h : opTab o P call t ⟨m.next, .leaf⟩ = .mk v ⟨m.next + 1, t2⟩) (hy : t2.get m.next = some y) (ht : ∀ i, tr.get i = if i = m.next then some y else m.t.get i) :
      Did P call o a j t m d v true false (some y) ⟨m.next + 1, tr⟩ ⟨d.als ||| (1 <<< j), d.alc ||| (1 <<< j), d.hv, d.base, d.st, d.pend⟩
  | read (hk : opKind o = 1) (h : opTab o P call t m = .mk v m) (hb : subA d.alc a = true ∨ readsA P call o t d.base v = true) (hc : atCuts P call o t v a d.st = true) :
      Did P call o a j t m d v true false none m ⟨d.als, d.alc, d.hv, d.base, d.st, ⟨j, o, t, v⟩ :: d.pend⟩
  | heavy (m1 : AMem) (pend : List Pend) (h1 : subA d.hv a = true) (h2 : subA d.als a = true) (h : opTab o P call t m = .mk v m1) (hn : m.next ≤ m1.next)
      (hp : ∀ p ∈ d.pend, bitA a p.j = true ∨ (readsA P call p.op p.t m1 p.v = true ∧ p ∈ pend)) :
      Did P call o a j t m d v true true none m1 ⟨d.als, 0, d.hv ||| (1 <<< j), m1, (j, d.base) :: d.st, pend⟩
theorem pendK_inv {a : Nat} {m : AMem} {x : X} {t' : T AV} {m' : AMem} : ∀ {l : List Pend} {k : List Pend → Res}, pendK P call a m l k = .mk x t' m' →
    ∃ l', k l' = .mk x t' m' ∧ ∀ p ∈ l, bitA a p.j = true ∨ (readsA P call p.op p.t m p.v = true ∧ p ∈ l')
  | [], k, h => ⟨[], h, fun p hp => by cases hp⟩
  | q :: l, k, h => by
    have h : bif2 (bitA a q.j) (pendK P call a m l k) (bif2 (readsA P call q.op q.t m q.v) (pendK P call a m l fun l => k (q :: l)) (.fail 131)) = .mk x t' m' := h
    rw [bif2_eq, bif2_eq] at h
    split at h
    · rename_i hb
      obtain ⟨l', h1, h2⟩ := pendK_inv h
      refine ⟨l', h1, fun p hp => ?_⟩
      rcases List.mem_cons.1 hp with rfl | hp
      · exact .inl hb
      · exact h2 p hp
    · split at h
      · rename_i hr
        obtain ⟨l', h1, h2⟩ := pendK_inv h
        refine ⟨q :: l', h1, fun p hp => ?_⟩
        rcases List.mem_cons.1 hp with rfl | hp
        · exact .inr ⟨hr, by simp⟩
        · exact (h2 p hp).imp id fun ⟨a, b⟩ => ⟨a, List.mem_cons_of_mem _ b⟩
      · cases h
theorem isLeaf_eq {t : T Blk} (h : isLeaf t = true) : t = .leaf := by cases t <;> first | rfl | cases h
theorem goD_inv {dst : Option Tmp} {op : Op} {a j : Nat} {t : T AV} {m : AMem} {d : DSt} {k : KD} {x : X} {t' : T AV} {m' : AMem} (h : goD P call nt dst op a j t m d k = .mk x t' m') :
    ∃ v hv y t1 m1 d1, Did P call op a j t m d v true hv y m1 d1 ∧ k t1 m1 d1 = .mk x t' m' ∧ (∀ d, dst = some d → d < nt) ∧ ∀ u, t1.get u = if dst = some u then some v else t.get u := by
  unfold goD at h
  rw [bif2_eq] at h
  split at h
  · -- one that turns memory
    unfold heavyD at h
    rw [bif2_eq, bif2_eq] at h
    split at h
    · rename_i h1
      split at h
      · rename_i h2
        cases ho : opTab op P call t m with
        | fail c => rw [ho] at h; cases h
        | mk v m1 =>
          rw [ho] at h
          have h : bif2 (Nat.ble m.next m1.next) (pendK P call a m1 d.pend fun pend => dstK nt dst v t fun t => fNat (Nat.lor d.hv (Nat.shiftLeft 1 j)) fun hv => k t m1 ⟨d.als, 0, hv, m1, (j, d.base) :: d.st, pend⟩) (.fail 132) = .mk x t' m' := h
          rw [bif2_eq] at h
          split at h
          · rename_i h3
            obtain ⟨pend, h, hp⟩ := pendK_inv h
            obtain ⟨t1, h, h4, h5⟩ := dstK_get h
            rw [fNat_eq] at h
            exact ⟨v, true, none, t1, m1, _, .heavy m1 pend h1 h2 ho (by simpa [Nat.ble_eq] using h3) hp, h, h4, h5⟩
          · cases h
      · cases h
    · cases h
  · cases ho : opTab op P call t ⟨m.next, .leaf⟩ with
    | fail c =>
      rw [ho] at h
      have h : readD P call nt dst op a j t m d k = .mk x t' m' := h
      unfold readD at h
      rw [bif2_eq] at h
      split at h
      · rename_i hk
        have hk : opKind op = 1 := Nat.eq_of_beq_eq_true hk
        cases ho2 : opTab op P call t m with
        | fail c => rw [ho2] at h; cases h
        | mk v m1 =>
          rw [ho2] at h
          have h : bif2 (Nat.beq m1.next m.next) (bif2 (bif2 (subA d.alc a) true (readsA P call op t d.base v)) (bif2 (atCuts P call op t v a d.st)
            (dstK nt dst v t fun t1 => k t1 m ⟨d.als, d.alc, d.hv, d.base, d.st, ⟨j, op, t, v⟩ :: d.pend⟩) (.fail 135)) (.fail 136)) (.fail 137) = .mk x t' m' := h
          rw [bif2_eq, bif2_eq, bif2_eq (atCuts P call op t v a d.st)] at h
          split at h
          · rename_i h1
            have e := reads_keeps hk t m v m1 ho2 (Nat.eq_of_beq_eq_true h1)
            subst e
            split at h
            · rename_i h2
              split at h
              · rename_i h3
                obtain ⟨t1, h, h4, h5⟩ := dstK_get h
                refine ⟨v, false, none, t1, _, _, .read hk ho2 ?_ h3, h, h4, h5⟩
                cases hs : subA d.alc a with
                | true => exact .inl rfl
                | false => rw [hs] at h2; exact .inr h2
              · cases h
            · cases h
          · cases h
      · cases h
    | mk v m1 =>
      rw [ho] at h
      replace h : bif2 (Nat.beq m1.next m.next) (bif2 (isLeaf m1.t) (dstK nt dst v t fun t => k t m d) (.fail 140))
        (bif2 (Nat.beq m1.next (Nat.succ m.next)) (@Option.rec Blk (fun _ => Res) (.fail 141) (newD nt dst v j t m d k) (m1.t.get m.next)) (.fail 142)) = .mk x t' m' := h
      obtain ⟨n1, tr1⟩ := m1
      rw [bif2_eq, bif2_eq, bif2_eq] at h
      split at h
      · rename_i h1
        have h1 : n1 = m.next := Nat.eq_of_beq_eq_true h1
        subst h1
        split at h
        · rename_i h2
          have h2 : tr1 = .leaf := isLeaf_eq h2
          subst h2
          obtain ⟨t1, h, h4, h5⟩ := dstK_get h
          exact ⟨v, false, none, t1, m, d, .pure ho, h, h4, h5⟩
        · cases h
      · split at h
        · rename_i h2
          have h2 : n1 = m.next + 1 := Nat.eq_of_beq_eq_true h2
          subst h2
          cases hg : tr1.get m.next with
          | none => simp only [hg] at h; cases h
          | some y =>
            simp only [hg] at h
            have h : newD nt dst v j t m d k y = .mk x t' m' := h
            unfold newD at h
            rcases T.setK_eq (Res.fail 139) (some y) m.t m.next (fun tr => fNat (Nat.succ m.next) fun nx => dstK nt dst v t fun t => fNat (Nat.lor d.als (Nat.shiftLeft 1 j)) fun als => fNat (Nat.lor d.alc (Nat.shiftLeft 1 j)) fun alc =>
              k t ⟨nx, tr⟩ ⟨als, alc, d.hv, d.base, d.st, d.pend⟩) with e | ⟨tr, htr, e⟩
            · rw [e] at h; cases h
            · rw [e, fNat_eq] at h
              obtain ⟨t1, h, h4, h5⟩ := dstK_get h
              rw [fNat_eq, fNat_eq] at h
              exact ⟨v, false, some y, t1, _, _, .alloc y tr1 tr ho hg htr, h, h4, h5⟩
        · cases h
theorem regD_inv {o : Oper} {a j : Nat} {t : T AV} {m : AMem} {d : DSt} {k : KD} {x : X} {t' : T AV} {m' : AMem} (h : regD P call nt all o a j t m d k = .mk x t' m') :
    ∃ b v hv y t1 m1 d1, (match o.guard with | none => some true | some g => wantedA all t g.1 g.2) = some b ∧ Did P call o.op a j t m d v b hv y m1 d1 ∧ k t1 m1 d1 = .mk x t' m' ∧ (∀ d, o.dst = some d → d < nt) ∧
      ∀ u, t1.get u = if o.dst = some u then some v else t.get u := by
  obtain ⟨dst, op, ty, pos, after, guard⟩ := o
  cases guard with
  | none =>
    obtain ⟨v, hv, y, t1, m1, d1, h1, h2, h3, h4⟩ := goD_inv (show goD P call nt dst op a j t m d k = .mk x t' m' from h)
    exact ⟨true, v, hv, y, t1, m1, d1, rfl, h1, h2, h3, h4⟩
  | some g =>
    have h : @Option.rec Bool (fun _ => Res) (.fail 143) (fun w => bif2 w (goD P call nt dst op a j t m d k) (dstK nt dst .undef t fun t => k t m d)) (wantedA all t g.1 g.2) = .mk x t' m' := h
    cases hw : wantedA all t g.1 g.2 with
    | none => rw [hw] at h; cases h
    | some b =>
      rw [hw] at h
      cases b with
      | true =>
        obtain ⟨v, hv, y, t1, m1, d1, h1, h2, h3, h4⟩ := goD_inv (show goD P call nt dst op a j t m d k = .mk x t' m' from h)
        exact ⟨true, v, hv, y, t1, m1, d1, hw, h1, h2, h3, h4⟩
      | false =>
        obtain ⟨t1, h1, h2, h3⟩ := dstK_get (show (dstK nt dst .undef t fun t => k t m d) = .mk x t' m' from h)
        exact ⟨false, .undef, false, none, t1, m, d, hw, .skip rfl, h1, h2, h3⟩
/-- A run of the region in the order of the text. -/
structure Trace where
  tt : Nat → T AV
  mm : Nat → AMem
  dd : Nat → DSt
  vv : Nat → AV
  bb : Nat → Bool
  hv : Nat → Bool
  al : Nat → Option Blk
noncomputable def Trace.push (R : Trace) (t : T AV) (m : AMem) (d : DSt) (v : AV) (b h : Bool) (y : Option Blk) : Trace where
  tt i := match i with | 0 => t | i + 1 => R.tt i
  mm i := match i with | 0 => m | i + 1 => R.mm i
  dd i := match i with | 0 => d | i + 1 => R.dd i
  vv i := match i with | 0 => v | i + 1 => R.vv i
  bb i := match i with | 0 => b | i + 1 => R.bb i
  hv i := match i with | 0 => h | i + 1 => R.hv i
  al i := match i with | 0 => y | i + 1 => R.al i
/-- What holds at each place of a run that begins at the place j. -/
noncomputable def Trace.At (P : Program) (call : Call) (nt : Nat) (all : Array Oper) (R : Trace) (j i : Nat) (o : Oper) (a : Nat) : Prop :=
  (match o.guard with | none => some true | some g => wantedA all (R.tt i) g.1 g.2) = some (R.bb i) ∧ Did P call o.op a (j + i) (R.tt i) (R.mm i) (R.dd i) (R.vv i) (R.bb i) (R.hv i) (R.al i) (R.mm (i + 1)) (R.dd (i + 1)) ∧
    (∀ d, o.dst = some d → d < nt) ∧ ∀ u, (R.tt (i + 1)).get u = if o.dst = some u then some (R.vv i) else (R.tt i).get u
theorem opsD_trace : ∀ {l : List Oper} {ms : List Nat} {j : Nat} {t : T AV} {m : AMem} {d : DSt} {x : X} {t' : T AV} {m' : AMem}, opsD P call nt all l ms j t m d = .mk x t' m' →
    x = .norm ∧ ∃ R : Trace, R.tt 0 = t ∧ R.mm 0 = m ∧ R.dd 0 = d ∧ R.tt l.length = t' ∧ R.mm l.length = m' ∧ (∀ i, l.length ≤ i → R.hv i = false ∧ R.al i = none) ∧ ∀ i o, l[i]? = some o → ∃ a, ms[i]? = some a ∧ R.At P call nt all j i o a
  | [], ms, j, t, m, d, x, t', m', h => by
    cases h
    exact ⟨rfl, ⟨fun _ => t, fun _ => m, fun _ => d, fun _ => .undef, fun _ => false, fun _ => false, fun _ => none⟩, rfl, rfl, rfl, rfl, rfl, fun i _ => ⟨rfl, rfl⟩, fun i o e => by cases e⟩
  | o :: l, [], j, t, m, d, x, t', m', h => by cases h
  | o :: l, a :: ms, j, t, m, d, x, t', m', h => by
    have h : regD P call nt all o a j t m d (fun t m d => fNat (Nat.succ j) fun j => opsD P call nt all l ms j t m d) = .mk x t' m' := h
    obtain ⟨b, v, hv, y, t1, m1, d1, h1, h2, h3, h4, h5⟩ := regD_inv h
    rw [fNat_eq] at h3
    obtain ⟨hx, R, e1, e2, e3, e4, e5, e7, e6⟩ := opsD_trace h3
    refine ⟨hx, R.push t m d v b hv y, rfl, rfl, rfl, e4, e5, fun i hi => ?_, fun i q e => ?_⟩
    · cases i with
      | zero => simp at hi
      | succ i => exact e7 i (by simpa using hi)
    cases i with
    | zero =>
      cases e
      refine ⟨a, rfl, h1, ?_, h4, fun u => ?_⟩
      · show Did P call o.op a (j + 0) t m d v b hv y (R.mm 0) (R.dd 0)
        rw [e2, e3]; exact h2
      · show (R.tt 0).get u = _
        rw [e1]; exact h5 u
    | succ i =>
      obtain ⟨a', ha, q1, q2, q3, q4⟩ := e6 i q (by simpa using e)
      refine ⟨a', by simpa using ha, q1, ?_, q3, q4⟩
      have e : j + (i + 1) = j + 1 + i := by omega
      show Did P call q.op a' (j + (i + 1)) (R.tt i) (R.mm i) (R.dd i) (R.vv i) (R.bb i) (R.hv i) (R.al i) (R.mm (i + 1)) (R.dd (i + 1))
      rw [e]; exact q2
end
end Go.Ev
end
section
namespace Go.Ev
set_option linter.all false
section
variable {all : Array Oper}
theorem bindsA_eq (e : Edge) : bindsA e = Region.binds .any e := by
  unfold bindsA Region.binds
  cases e.ground <;> rfl
theorem one_shl (n i : Nat) : (1 <<< n : Nat).testBit i = true ↔ i = n := by
  rw [Nat.one_shiftLeft, Nat.testBit_two_pow]
  simp [eq_comm]
theorem ancOf_bit (A : T Nat) (i : Nat) : ∀ l : List Edge, (ancOf A l).testBit i = true ↔ ∃ e, e ∈ l ∧ bindsA e = true ∧ (i = e.on ∨ (natAt A e.on).testBit i = true)
  | [] => by
    have : ancOf A [] = 0 := rfl
    simp [this]
  | e :: l => by
    have h : ancOf A (e :: l) = bif2 (bindsA e) (((1 <<< e.on) ||| natAt A e.on) ||| ancOf A l) (ancOf A l) := rfl
    rw [h, bif2_eq]
    have ih := ancOf_bit A i l
    split
    · rename_i hb
      rw [Nat.testBit_or, Nat.testBit_or, Bool.or_eq_true, Bool.or_eq_true, ih, one_shl]
      constructor
      · rintro (h | ⟨e', h1, h2⟩)
        · exact ⟨e, by simp, hb, h⟩
        · exact ⟨e', by simp [h1], h2⟩
      · rintro ⟨e', h1, h2, h3⟩
        rcases List.mem_cons.1 h1 with rfl | h1
        · exact .inl h3
        · exact .inr ⟨e', h1, h2, h3⟩
    · rename_i hb
      rw [ih]
      constructor
      · rintro ⟨e', h1, h2⟩
        exact ⟨e', by simp [h1], h2⟩
      · rintro ⟨e', h1, h2, h3⟩
        rcases List.mem_cons.1 h1 with rfl | h1
        · exact absurd h2 hb
        · exact ⟨e', h1, h2, h3⟩
theorem lowA_spec {j : Nat} : ∀ {l : List Edge}, lowA j l = true → ∀ e ∈ l, bindsA e = true → e.on < j
  | e :: l, h, e', he, hb => by
    have h : bif2 (bindsA e) (bif2 (Nat.blt e.on j) (lowA j l) false) (lowA j l) = true := h
    rcases List.mem_cons.1 he with rfl | he
    · rw [hb] at h
      have h := (bif2_and h).1
      simpa [Nat.blt_eq] using h
    · rw [bif2_eq] at h
      split at h
      · exact lowA_spec (bif2_and h).2 e' he hb
      · exact lowA_spec h e' he hb
theorem namesA_spec {a : Nat} {W : T Nat} : ∀ {l : List Tmp}, namesA a W l = true → ∀ u ∈ l, subA (natAt W u) a = true
  | u :: l, h, u', hu => by
    have h : bif2 (subA (natAt W u) a) (namesA a W l) false = true := h
    rcases List.mem_cons.1 hu with rfl | hu
    · exact (bif2_and h).1
    · exact namesA_spec (bif2_and h).2 u' hu
theorem natAt_set {t t' : T Nat} {i n : Nat} (h : ∀ j, t'.get j = if j = i then some n else t.get j) (j : Nat) : natAt t' j = if j = i then n else natAt t j := by
  unfold natAt
  rw [h]
  split <;> rfl
theorem addNames_inv {j : Nat} {r : List Nat} : ∀ {l : List Tmp} {N : T Nat} {k : T Nat → Option (List Nat)}, addNames j l N k = some r →
    ∃ N', k N' = some r ∧ ∀ u i, (natAt N' u).testBit i = true ↔ ((natAt N u).testBit i = true ∨ (u ∈ l ∧ i = j))
  | [], N, k, h => ⟨N, h, fun u i => by simp⟩
  | q :: l, N, k, h => by
    have h : fNat (Nat.lor (natAt N q) (Nat.shiftLeft 1 j)) (fun n => T.setK none (some n) N q fun N => addNames j l N k) = some r := h
    rw [fNat_eq] at h
    rcases T.setK_eq (none : Option (List Nat)) (some (Nat.lor (natAt N q) (Nat.shiftLeft 1 j))) N q (fun N => addNames j l N k) with e | ⟨N1, h1, e⟩
    · rw [e] at h; cases h
    · rw [e] at h
      obtain ⟨N', h2, h3⟩ := addNames_inv h
      refine ⟨N', h2, fun u i => ?_⟩
      rw [h3, natAt_set h1]
      by_cases hu : u = q
      · subst hu
        have : Nat.lor (natAt N u) (Nat.shiftLeft 1 j) = natAt N u ||| (1 <<< j) := rfl
        rw [if_pos rfl, this, Nat.testBit_or, Bool.or_eq_true, one_shl]
        constructor
        · rintro ((h | h) | h)
          · exact .inl h
          · exact .inr ⟨by simp, h⟩
          · exact .inr ⟨by simp, h.2⟩
        · rintro (h | h)
          · exact .inl (.inl h)
          · exact .inl (.inr h.2)
      · rw [if_neg hu]
        simp [hu]
/-- What is asked at one place. -/
structure MaskAt (all : Array Oper) (o : Oper) (j : Nat) (A W N : T Nat) (a : Nat) (A' W' N' : T Nat) : Prop where
  eq : a = ancOf A o.after.toList
  low : ∀ e ∈ o.after, bindsA e = true → e.on < j
  names : ∀ u ∈ o.looksAt all, ∀ i, (natAt W u).testBit i = true → a.testBit i = true
  hA : ∀ u, natAt A' u = if u = j then a else natAt A u
  hN : ∀ u i, (natAt N' u).testBit i = true ↔ ((natAt N u).testBit i = true ∨ (u ∈ o.looksAt all ∧ i = j))
  hW : ∀ u, natAt W' u = if o.dst = some u then 1 <<< j else natAt W u
  free : ∀ d, o.dst = some d → natAt W d = 0 ∧ ∀ i, (natAt N' d).testBit i = true → a.testBit i = true
theorem consO_inv {a : Nat} {x : Option (List Nat)} {r : List Nat} (h : consO a x = some r) : ∃ r', x = some r' ∧ r = a :: r' := by
  cases x with
  | none => cases h
  | some l => cases h; exact ⟨l, rfl, rfl⟩
theorem maskOne_inv {o : Oper} {j : Nat} {A W N : T Nat} {k : T Nat → T Nat → T Nat → Option (List Nat)} {r : List Nat} (h : maskOne all o j A W N k = some r) :
    ∃ a A' W' N' r', MaskAt all o j A W N a A' W' N' ∧ k A' W' N' = some r' ∧ r = a :: r' := by
  unfold maskOne at h
  rw [fNat_eq, bif2_eq, bif2_eq] at h
  split at h
  · rename_i h1
    split at h
    · rename_i h2
      obtain ⟨N', h, hN⟩ := addNames_inv h
      rcases T.setK_eq (none : Option (List Nat)) (some (ancOf A o.after.toList)) A j (fun A' => @Option.rec Nat (fun _ => Option (List Nat)) (consO (ancOf A o.after.toList) (k A' W N')) (fun d =>
        bif2 (Nat.beq (natAt W d) 0) (bif2 (subA (natAt N' d) (ancOf A o.after.toList)) (fNat (Nat.shiftLeft 1 j) fun n => T.setK none (some n) W d fun W => consO (ancOf A o.after.toList) (k A' W N')) none) none) o.dst) with e | ⟨A', hA, e⟩
      · rw [e] at h; cases h
      · rw [e] at h
        have hl : ∀ e ∈ o.after, bindsA e = true → e.on < j := fun e he hb => lowA_spec h1 e (by simpa using he) hb
        have hn : ∀ u ∈ o.looksAt all, ∀ i, (natAt W u).testBit i = true → (ancOf A o.after.toList).testBit i = true := fun u hu i hi => subA_spec (namesA_spec h2 u hu) hi
        cases hd : o.dst with
        | none =>
          rw [hd] at h
          obtain ⟨r', h3, h4⟩ := consO_inv h
          exact ⟨_, A', W, N', r', ⟨rfl, hl, hn, natAt_set hA, hN, fun u => by rw [hd]; simp, fun d e => by rw [hd] at e; cases e⟩, h3, h4⟩
        | some d =>
          rw [hd] at h
          have h : bif2 (Nat.beq (natAt W d) 0) (bif2 (subA (natAt N' d) (ancOf A o.after.toList)) (fNat (Nat.shiftLeft 1 j) fun n => T.setK none (some n) W d fun W => consO (ancOf A o.after.toList) (k A' W N')) none) none = some r := h
          rw [bif2_eq, bif2_eq, fNat_eq] at h
          split at h
          · rename_i h5
            split at h
            · rename_i h6
              rcases T.setK_eq (none : Option (List Nat)) (some (Nat.shiftLeft 1 j)) W d (fun W => consO (ancOf A o.after.toList) (k A' W N')) with e | ⟨W', hW, e⟩
              · rw [e] at h; cases h
              · rw [e] at h
                obtain ⟨r', h3, h4⟩ := consO_inv h
                refine ⟨_, A', W', N', r', ⟨rfl, hl, hn, natAt_set hA, hN, fun u => ?_, fun d' e => ?_⟩, h3, h4⟩
                · rw [natAt_set hW, hd]
                  by_cases hu : u = d
                  · subst hu; simp
                  · rw [if_neg hu, if_neg fun e => hu (by cases e; rfl)]
                · rw [hd] at e; cases e
                  exact ⟨Nat.eq_of_beq_eq_true h5, fun i hi => subA_spec h6 hi⟩
            · cases h
          · cases h
    · cases h
  · cases h
theorem masksFrom_inv : ∀ {l : List Oper} {j : Nat} {A W N : T Nat} {r : List Nat}, masksFrom all l j A W N = some r →
    ∃ (AA WW NN : Nat → T Nat), AA 0 = A ∧ WW 0 = W ∧ NN 0 = N ∧ r.length = l.length ∧ ∀ i o, l[i]? = some o → ∃ a, r[i]? = some a ∧ MaskAt all o (j + i) (AA i) (WW i) (NN i) a (AA (i + 1)) (WW (i + 1)) (NN (i + 1))
  | [], j, A, W, N, r, h => by
    cases h
    exact ⟨fun _ => A, fun _ => W, fun _ => N, rfl, rfl, rfl, rfl, fun i o e => by cases e⟩
  | o :: l, j, A, W, N, r, h => by
    have h : maskOne all o j A W N (fun A W N => fNat (Nat.succ j) fun j => masksFrom all l j A W N) = some r := h
    obtain ⟨a, A', W', N', r', h1, h2, rfl⟩ := maskOne_inv h
    rw [fNat_eq] at h2
    obtain ⟨AA, WW, NN, e1, e2, e3, e4, e5⟩ := masksFrom_inv h2
    refine ⟨fun i => match i with | 0 => A | i + 1 => AA i, fun i => match i with | 0 => W | i + 1 => WW i, fun i => match i with | 0 => N | i + 1 => NN i, rfl, rfl, rfl, by simp [e4], fun i q e => ?_⟩
    cases i with
    | zero =>
      cases e
      exact ⟨a, rfl, by simpa [e1, e2, e3] using h1⟩
    | succ i =>
      obtain ⟨a', ha, hm⟩ := e5 i q (by simpa using e)
      refine ⟨a', by simpa using ha, ?_⟩
      have e : j + (i + 1) = j.succ + i := by omega
      simpa [e] using hm
/-- What the masks say. -/
structure MasksOK (all : Array Oper) (anc : Nat → Nat → Prop) : Prop where
  low : ∀ j i, anc j i → i < j
  edge : ∀ (j : Nat) (o : Oper) (e : Edge), all[j]? = some o → e ∈ o.after → Region.binds .any e = true → anc j e.on
  clo : ∀ (j i : Nat) (o : Oper), all[j]? = some o → anc j i → ∃ e, e ∈ o.after ∧ Region.binds .any e = true ∧ (i = e.on ∨ anc e.on i)
  dst : ∀ (i j : Nat) (oi oj : Oper) d, all[i]? = some oi → all[j]? = some oj → oi.dst = some d → oj.dst = some d → i = j
  race : ∀ (i j : Nat) (oi oj : Oper) u, all[i]? = some oi → all[j]? = some oj → u ∈ oj.looksAt all → oi.dst = some u → anc j i ∨ anc i j
theorem masks_ok {ms : List Nat} (h : masks all = some ms) : ms.length = all.size ∧ MasksOK all fun j i => ∃ a, ms[j]? = some a ∧ Nat.testBit a i = true := by
  obtain ⟨AA, WW, NN, e1, e2, e3, e4, e5⟩ := masksFrom_inv (show masksFrom all all.toList 0 .leaf .leaf .leaf = some ms from h)
  have step : ∀ (i : Nat) (o : Oper), all[i]? = some o → ∃ a, ms[i]? = some a ∧ MaskAt all o i (AA i) (WW i) (NN i) a (AA (i + 1)) (WW (i + 1)) (NN (i + 1)) := fun i o ho => by
    obtain ⟨a, h1, h2⟩ := e5 i o (by simpa using ho)
    rw [Nat.zero_add] at h2
    exact ⟨a, h1, h2⟩
  have sz : ∀ {i}, i < all.size → ∃ o, all[i]? = some o := fun {i} hi => ⟨all[i], by simp [hi]⟩
  have hA : ∀ j, j ≤ all.size → ∀ i a, i < j → ms[i]? = some a → natAt (AA j) i = a := by
    intro j
    induction j with
    | zero => intro _ i a hi; omega
    | succ j ih =>
      intro hj i a hi ha
      obtain ⟨o, ho⟩ := sz (show j < all.size by omega)
      obtain ⟨a', h1, h2⟩ := step j o ho
      rw [h2.hA]
      by_cases e : i = j
      · subst e; rw [ha] at h1; cases h1; simp
      · rw [if_neg e]; exact ih (by omega) i a (by omega) ha
  have hW : ∀ j, j ≤ all.size → ∀ u i, (natAt (WW j) u).testBit i = true ↔ i < j ∧ ∃ o, all[i]? = some o ∧ o.dst = some u := by
    intro j
    induction j with
    | zero =>
      intro _ u i
      have : natAt (T.leaf : T Nat) u = 0 := rfl
      rw [e2, this]; simp
    | succ j ih =>
      intro hj u i
      obtain ⟨o, ho⟩ := sz (show j < all.size by omega)
      obtain ⟨a', h1, h2⟩ := step j o ho
      rw [h2.hW]
      by_cases hd : o.dst = some u
      · rw [if_pos hd, one_shl]
        have h0 := (h2.free u hd).1
        constructor
        · rintro rfl; exact ⟨by omega, o, ho, hd⟩
        · rintro ⟨hi, o', ho', hd'⟩
          by_cases e : i = j
          · exact e
          · have := (ih (by omega) u i).2 ⟨by omega, o', ho', hd'⟩
            rw [h0] at this; simp at this
      · rw [if_neg hd, ih (by omega)]
        constructor
        · rintro ⟨a, b⟩; exact ⟨by omega, b⟩
        · rintro ⟨a, o', ho', hd'⟩
          refine ⟨?_, o', ho', hd'⟩
          by_cases e : i = j
          · subst e; rw [ho] at ho'; cases ho'; exact absurd hd' hd
          · omega
  have hN : ∀ j, j ≤ all.size → ∀ u i, (natAt (NN j) u).testBit i = true ↔ i < j ∧ ∃ o, all[i]? = some o ∧ u ∈ o.looksAt all := by
    intro j
    induction j with
    | zero =>
      intro _ u i
      have : natAt (T.leaf : T Nat) u = 0 := rfl
      rw [e3, this]; simp
    | succ j ih =>
      intro hj u i
      obtain ⟨o, ho⟩ := sz (show j < all.size by omega)
      obtain ⟨a', h1, h2⟩ := step j o ho
      rw [h2.hN, ih (by omega)]
      constructor
      · rintro (⟨a, b⟩ | ⟨a, rfl⟩)
        · exact ⟨by omega, b⟩
        · exact ⟨by omega, o, ho, a⟩
      · rintro ⟨a, o', ho', hd'⟩
        by_cases e : i = j
        · subst e; rw [ho] at ho'; cases ho'; exact .inr ⟨hd', rfl⟩
        · exact .inl ⟨by omega, o', ho', hd'⟩
  have bit : ∀ (j : Nat) (o : Oper) (i : Nat), all[j]? = some o → ((∃ a, ms[j]? = some a ∧ Nat.testBit a i = true) ↔ ∃ e, e ∈ o.after ∧ Region.binds .any e = true ∧ (i = e.on ∨ ∃ a, ms[e.on]? = some a ∧ Nat.testBit a i = true)) := by
    intro j o i ho
    have hj : j < all.size := (Array.getElem?_eq_some_iff.1 ho).1
    obtain ⟨a, h1, h2⟩ := step j o ho
    have nat : ∀ e ∈ o.after, bindsA e = true → ∃ a', ms[e.on]? = some a' ∧ natAt (AA j) e.on = a' := fun e he hb => by
      have hlt := h2.low e he hb
      obtain ⟨o', ho'⟩ := sz (show e.on < all.size by omega)
      obtain ⟨a', h1', _⟩ := step e.on o' ho'
      exact ⟨a', h1', hA j (by omega) _ _ hlt h1'⟩
    constructor
    · rintro ⟨a', ha', hb⟩
      rw [h1] at ha'; cases ha'
      rw [h2.eq, ancOf_bit] at hb
      obtain ⟨e, q1, q2, q3⟩ := hb
      have q1 : e ∈ o.after := by simpa using q1
      obtain ⟨a', w1, w2⟩ := nat e q1 q2
      exact ⟨e, q1, by rw [← bindsA_eq]; exact q2, q3.imp id fun q => ⟨a', w1, by rw [← w2]; exact q⟩⟩
    · rintro ⟨e, q1, q2, q3⟩
      rw [← bindsA_eq] at q2
      refine ⟨a, h1, ?_⟩
      rw [h2.eq, ancOf_bit]
      obtain ⟨a', w1, w2⟩ := nat e q1 q2
      refine ⟨e, by simpa using q1, q2, q3.imp id ?_⟩
      rintro ⟨a2, w3, w4⟩
      rw [w1] at w3; cases w3
      rw [w2]; exact w4
  have low : ∀ (j i : Nat), (∃ a, ms[j]? = some a ∧ Nat.testBit a i = true) → i < j := by
    intro j
    induction j using Nat.strongRecOn with
    | _ j ih =>
      intro i hh
      have hj : j < all.size := by
        obtain ⟨a, ha, _⟩ := hh
        have := (List.getElem?_eq_some_iff.1 ha).1
        simpa [e4] using this
      obtain ⟨o, ho⟩ := sz hj
      obtain ⟨a, h1, h2⟩ := step j o ho
      obtain ⟨e, q1, q2, q3⟩ := (bit j o i ho).1 hh
      have hlt := h2.low e q1 (by rw [bindsA_eq]; exact q2)
      rcases q3 with rfl | q3
      · exact hlt
      · have := ih e.on hlt i q3; omega
  refine ⟨by simpa using e4, low, fun j o e ho he hb => (bit j o _ ho).2 ⟨e, he, hb, .inl rfl⟩, fun j i o ho hh => (bit j o i ho).1 hh, ?_, ?_⟩
  · have main : ∀ (i j : Nat) (oi oj : Oper) d, i < j → all[i]? = some oi → all[j]? = some oj → oi.dst = some d → oj.dst = some d → False := fun i j oi oj d hij hi hj h1 h2 => by
      have hjs : j < all.size := (Array.getElem?_eq_some_iff.1 hj).1
      obtain ⟨a, _, hm⟩ := step j oj hj
      have h0 := (hm.free d h2).1
      have := (hW j (by omega) d i).2 ⟨hij, oi, hi, h1⟩
      rw [h0] at this; simp at this
    intro i j oi oj d hi hj h1 h2
    rcases Nat.lt_trichotomy i j with h | h | h
    · exact (main i j oi oj d h hi hj h1 h2).elim
    · exact h
    · exact (main j i oj oi d h hj hi h2 h1).elim
  · intro i j oi oj u hi hj hu hd
    have his : i < all.size := (Array.getElem?_eq_some_iff.1 hi).1
    have hjs : j < all.size := (Array.getElem?_eq_some_iff.1 hj).1
    rcases Nat.lt_or_ge i j with h | h
    · obtain ⟨a, h1, hm⟩ := step j oj hj
      exact .inl ⟨a, h1, hm.names u hu i ((hW j (by omega) u i).2 ⟨h, oi, hi, hd⟩)⟩
    · obtain ⟨a, h1, hm⟩ := step i oi hi
      exact .inr ⟨a, h1, (hm.free u hd).2 j ((hN (i + 1) (by omega) u j).2 ⟨by omega, oj, hj, hu⟩)⟩
end
end Go.Ev
end
section
namespace Go.Ev
set_option linter.all false
section
variable {P : Program} {call : Call} {nt : Nat} {all : Array Oper}
/-- Where memory stands: ahead of all, or behind one that turns it. -/
noncomputable def Cut (hv : Nat → Bool) (s : Nat) : Prop := s = 0 ∨ ∃ h, hv h = true ∧ s = h + 1
/-- What one operation does, wherever it comes. -/
inductive Kind (P : Program) (call : Call) (R : Trace) (anc : Nat → Nat → Prop) (j : Nat) (o : Op) : Prop
  | skip (hb : R.bb j = false) (hv : R.vv j = .undef) (hm : R.mm (j + 1) = R.mm j) (hh : R.hv j = false) (ha : R.al j = none)
  | pure (hb : R.bb j = true) (hm : R.mm (j + 1) = R.mm j) (hh : R.hv j = false) (ha : R.al j = none) (h : opTab o P call (R.tt j) ⟨(R.mm j).next, .leaf⟩ = .mk (R.vv j) ⟨(R.mm j).next, .leaf⟩)
  | alloc (hb : R.bb j = true) (hh : R.hv j = false) (y : Blk) (t2 : T Blk) (ha : R.al j = some y) (h : opTab o P call (R.tt j) ⟨(R.mm j).next, .leaf⟩ = .mk (R.vv j) ⟨(R.mm j).next + 1, t2⟩) (hy : t2.get (R.mm j).next = some y)
      (hn : (R.mm (j + 1)).next = (R.mm j).next + 1) (ht : ∀ i, (R.mm (j + 1)).t.get i = if i = (R.mm j).next then some y else (R.mm j).t.get i)
  | read (hb : R.bb j = true) (hm : R.mm (j + 1) = R.mm j) (hh : R.hv j = false) (ha : R.al j = none)
      (h : ∀ s, Cut R.hv s → (∀ h, R.hv h = true → h < s → ¬ anc h j) → (∀ h, R.hv h = true → s ≤ h → ¬ anc j h) → ∃ μ, opTab o P call (R.tt j) μ = .mk (R.vv j) μ ∧
        (μ = R.mm s ∨ (s ≤ j ∧ μ = R.mm j ∧ (∀ h, R.hv h = true → s ≤ h → j ≤ h) ∧ ∀ i y, s ≤ i → i < j → R.al i = some y → anc j i)))
  | heavy (hb : R.bb j = true) (hh : R.hv j = true) (ha : R.al j = none) (h : opTab o P call (R.tt j) (R.mm j) = .mk (R.vv j) (R.mm (j + 1))) (hn : (R.mm j).next ≤ (R.mm (j + 1)).next)
structure Facts (P : Program) (call : Call) (nt : Nat) (all : Array Oper) (R : Trace) (anc : Nat → Nat → Prop) : Prop where
  masks : MasksOK all anc
  dlt : ∀ (j : Nat) (o : Oper) d, all[j]? = some o → o.dst = some d → d < nt
  tset : ∀ (j : Nat) (o : Oper) u, all[j]? = some o → (R.tt (j + 1)).get u = if o.dst = some u then some (R.vv j) else (R.tt j).get u
  want : ∀ (j : Nat) (o : Oper), all[j]? = some o → (match o.guard with | none => some true | some g => wantedA all (R.tt j) g.1 g.2) = some (R.bb j)
  kind : ∀ (j : Nat) (o : Oper), all[j]? = some o → Kind P call R anc j o.op
  size : ∀ h, R.hv h = true → h < all.size
  asize : ∀ i y, R.al i = some y → i < all.size
  heav : ∀ h h', R.hv h = true → R.hv h' = true → h < h' → anc h' h
  hal : ∀ h i y, R.hv h = true → i < h → R.al i = some y → anc h i
theorem readsA_eq {o : Op} (hk : opKind o = 1) {t : T AV} {m : AMem} {v : AV} (h : readsA P call o t m v = true) : opTab o P call t m = .mk v m := by
  unfold readsA at h
  cases ho : opTab o P call t m with
  | fail c => rw [ho] at h; cases h
  | mk u m1 =>
    rw [ho] at h
    have h : bif2 (Nat.beq m1.next m.next) (eqV 40 u v) false = true := h
    obtain ⟨h1, h2⟩ := bif2_and h
    rw [reads_keeps hk t m u m1 ho (Nat.eq_of_beq_eq_true h1), eqV_eq h2]
theorem atCuts_app {o : Op} {t : T AV} {v : AV} {a : Nat} {c : Nat × AMem} {l2 : List (Nat × AMem)} : ∀ {l1 : List (Nat × AMem)}, atCuts P call o t v a (l1 ++ c :: l2) = true →
    (∀ q ∈ l1, bitA a q.1 = false) → bitA a c.1 = false → readsA P call o t c.2 v = true
  | [], h, _, hc => by
    have h : bif2 (bitA a c.1) true (bif2 (readsA P call o t c.2 v) (atCuts P call o t v a l2) false) = true := h
    rw [hc] at h
    exact (bif2_and h).1
  | q :: l1, h, hl, hc => by
    have h : bif2 (bitA a q.1) true (bif2 (readsA P call o t q.2 v) (atCuts P call o t v a (l1 ++ c :: l2)) false) = true := h
    rw [hl q (by simp)] at h
    exact atCuts_app (bif2_and h).2 (fun q hq => hl q (by simp [hq])) hc
/-- What the run knows at each place of what was ahead of it. -/
structure Known (all : Array Oper) (R : Trace) (anc : Nat → Nat → Prop) (j : Nat) (d : DSt) : Prop where
  als : ∀ i y, i < j → R.al i = some y → d.als.testBit i = true
  alc : ∀ i y, i < j → R.al i = some y → (∀ h, R.hv h = true → i ≤ h → j ≤ h) → d.alc.testBit i = true
  hv : ∀ h, h < j → R.hv h = true → d.hv.testBit h = true
  base : ∀ s, Cut R.hv s → s ≤ j → (∀ h, R.hv h = true → s ≤ h → j ≤ h) → d.base = R.mm s
  st : ∀ s h, Cut R.hv s → R.hv h = true → s ≤ h → h < j → (∀ h', R.hv h' = true → s ≤ h' → h ≤ h') → ∃ l1 l2, d.st = l1 ++ (h, R.mm s) :: l2 ∧ ∀ c ∈ l1, R.hv c.1 = true ∧ h < c.1
variable {R : Trace} {ms : List Nat}
theorem facts_of (hms : masks all = some ms) (hout : ∀ i, all.size ≤ i → R.hv i = false ∧ R.al i = none)
    (h0 : R.dd 0 = ⟨0, 0, 0, R.mm 0, [], []⟩)
    (HT : ∀ (i : Nat) (o : Oper), all[i]? = some o → ∃ a, ms[i]? = some a ∧ R.At P call nt all 0 i o a) :
    Facts P call nt all R fun j i => ∃ a, ms[j]? = some a ∧ Nat.testBit a i = true := by
  obtain ⟨hlen, hM⟩ := masks_ok hms
  have hsz : ∀ h, R.hv h = true → h < all.size := fun h hh => by
    rcases Nat.lt_or_ge h all.size with q | q
    · exact q
    · rw [(hout h q).1] at hh; cases hh
  have hasz : ∀ i y, R.al i = some y → i < all.size := fun i y hh => by
    rcases Nat.lt_or_ge i all.size with q | q
    · exact q
    · rw [(hout i q).2] at hh; cases hh
  have sz : ∀ {i}, i < all.size → ∃ o, all[i]? = some o := fun {i} hi => ⟨all[i], by simp [hi]⟩
  have did : ∀ (i : Nat) (o : Oper), all[i]? = some o → ∃ a, ms[i]? = some a ∧ Did P call o.op a i (R.tt i) (R.mm i) (R.dd i) (R.vv i) (R.bb i) (R.hv i) (R.al i) (R.mm (i + 1)) (R.dd (i + 1)) := fun i o ho => by
    obtain ⟨a, h1, _, h2, _⟩ := HT i o ho
    rw [Nat.zero_add] at h2
    exact ⟨a, h1, h2⟩
  have known : ∀ j, j ≤ all.size → Known all R (fun j i => ∃ a, ms[j]? = some a ∧ Nat.testBit a i = true) j (R.dd j) := by
    intro j
    induction j with
    | zero =>
      intro _
      rw [h0]
      refine ⟨fun i y hi => by omega, fun i y hi => by omega, fun h hi => by omega, fun s hc hs _ => ?_, fun s h _ _ _ hh => by omega⟩
      have : s = 0 := by omega
      subst this; rfl
    | succ j ih =>
      intro hj
      obtain ⟨o, ho⟩ := sz (show j < all.size by omega)
      obtain ⟨a, ha, hd⟩ := did j o ho
      have K := ih (by omega)
      generalize hD : R.dd (j + 1) = D' at hd
      generalize hMm : R.mm (j + 1) = M' at hd
      generalize hH : R.hv j = H at hd
      generalize hY : R.al j = Y at hd
      generalize hB : R.bb j = B at hd
      have keep : H = false → D'.als = (R.dd j).als → D'.alc = (R.dd j).alc → Y = none → D'.hv = (R.dd j).hv → D'.base = (R.dd j).base → D'.st = (R.dd j).st → Known all R (fun j i => ∃ a, ms[j]? = some a ∧ Nat.testBit a i = true) (j + 1) D' := by
        intro q1 q2 q3 q4 q5 q6 q7
        subst q1 q4
        have ne : ∀ h, R.hv h = true → h ≠ j := fun h hh e => by rw [e, hH] at hh; cases hh
        have nea : ∀ i y, R.al i = some y → i ≠ j := fun i y hh e => by rw [e, hY] at hh; cases hh
        refine ⟨fun i y hi hy => ?_, fun i y hi hy hn => ?_, fun h hi hh => ?_, fun s hc hs hn => ?_, fun s h hc hh hs hi hl => ?_⟩
        · rw [q2]; exact K.als i y (by have := nea i y hy; omega) hy
        · rw [q3]; exact K.alc i y (by have := nea i y hy; omega) hy fun h hh hl => by have := hn h hh hl; omega
        · rw [q5]; exact K.hv h (by have := ne h hh; omega) hh
        · rw [q6]
          have : s ≠ j + 1 := by
            rintro rfl
            rcases hc with hc | ⟨h, hh, e⟩
            · omega
            · exact ne h hh (by omega)
          exact K.base s hc (by omega) fun h hh hl => by have := hn h hh hl; omega
        · rw [q7]; exact K.st s h hc hh hs (by have := ne h hh; omega) hl
      cases hd with
      | skip hv => exact keep rfl rfl rfl rfl rfl rfl rfl
      | pure h => exact keep rfl rfl rfl rfl rfl rfl rfl
      | read hk h hb hc => exact keep rfl rfl rfl rfl rfl rfl rfl
      | alloc y t2 tr h hy ht =>
        have ne : ∀ h, R.hv h = true → h ≠ j := fun h hh e => by rw [e, hH] at hh; cases hh
        refine ⟨fun i y hi hy => ?_, fun i y hi hy hn => ?_, fun h hi hh => K.hv h (by have := ne h hh; omega) hh, fun s hc hs hn => ?_, fun s h hc hh hs hi hl => K.st s h hc hh hs (by have := ne h hh; omega) hl⟩
        · simp only [Nat.testBit_or, Bool.or_eq_true, one_shl]
          by_cases e : i = j
          · exact .inr e
          · exact .inl (K.als i y (by omega) hy)
        · simp only [Nat.testBit_or, Bool.or_eq_true, one_shl]
          by_cases e : i = j
          · exact .inr e
          · exact .inl (K.alc i y (by omega) hy fun h hh hl => by have := hn h hh hl; omega)
        · have : s ≠ j + 1 := by
            rintro rfl
            rcases hc with hc | ⟨h, hh, e⟩
            · omega
            · exact ne h hh (by omega)
          exact K.base s hc (by omega) fun h hh hl => by have := hn h hh hl; omega
      | heavy m1 pend h1 h2 hop hn hp =>
        have nea : ∀ i y, R.al i = some y → i ≠ j := fun i y hh e => by rw [e, hY] at hh; cases hh
        refine ⟨fun i y hi hy => K.als i y (by have := nea i y hy; omega) hy, fun i y hi hy hn => ?_, fun h hi hh => ?_, fun s hc hs hn => ?_, fun s h hc hh hs hi hl => ?_⟩
        · have e1 := nea i y hy
          have := hn j hH (by omega)
          omega
        · simp only [Nat.testBit_or, Bool.or_eq_true, one_shl]
          by_cases e : h = j
          · exact .inr e
          · exact .inl (K.hv h (by omega) hh)
        · have : s = j + 1 := by
            rcases Nat.lt_or_ge j s with q | q
            · omega
            · have := hn j hH q; omega
          subst this
          exact hMm.symm
        · by_cases e : h = j
          · subst e
            refine ⟨[], (R.dd h).st, ?_, fun c hc => by cases hc⟩
            rw [K.base s hc hs hl]; rfl
          · obtain ⟨l1, l2, e1, e2⟩ := K.st s h hc hh hs (by omega) hl
            refine ⟨(j, (R.dd j).base) :: l1, l2, by simp only [e1]; rfl, fun c hc => ?_⟩
            rcases List.mem_cons.1 hc with rfl | hc
            · exact ⟨hH, by show h < j; omega⟩
            · exact e2 c hc
  have pends : ∀ i p, p ∈ (R.dd i).pend → ∀ k, i + k ≤ all.size → (∃ h, i ≤ h ∧ h < i + k ∧ R.hv h = true ∧ ∃ a, ms[h]? = some a ∧ Nat.testBit a p.j = true) ∨ p ∈ (R.dd (i + k)).pend := by
    intro i p hp k
    induction k with
    | zero => intro _; exact .inr hp
    | succ k ih =>
      intro hk
      rcases ih (by omega) with ⟨h, q1, q2, q3⟩ | hp'
      · exact .inl ⟨h, q1, by omega, q3⟩
      · obtain ⟨o, ho⟩ := sz (show i + k < all.size by omega)
        obtain ⟨a, ha, hd⟩ := did (i + k) o ho
        have e : i + (k + 1) = i + k + 1 := by omega
        rw [e]
        generalize hD : R.dd (i + k + 1) = D' at hd
        generalize hMm : R.mm (i + k + 1) = M' at hd
        generalize hH : R.hv (i + k) = H at hd
        generalize hY : R.al (i + k) = Y at hd
        generalize hB : R.bb (i + k) = B at hd
        cases hd with
        | skip hv => exact .inr hp'
        | pure h => exact .inr hp'
        | read hk h hb hc => exact .inr (List.mem_cons_of_mem _ hp')
        | alloc y t2 tr h hy ht => exact .inr hp'
        | heavy m1 pend h1 h2 h hn hp2 =>
          rcases hp2 p hp' with q | q
          · exact .inl ⟨i + k, by omega, by omega, hH, a, ha, by rw [← bitA_eq]; exact q⟩
          · exact .inr q.2
  have heav : ∀ h h', R.hv h = true → R.hv h' = true → h < h' → ∃ a, ms[h']? = some a ∧ Nat.testBit a h = true := fun h h' hh hh' hlt => by
    obtain ⟨o, ho⟩ := sz (hsz h' hh')
    obtain ⟨a, ha, hd⟩ := did h' o ho
    have K := known h' (Nat.le_of_lt (hsz h' hh'))
    generalize R.dd (h' + 1) = D' at hd
    generalize R.mm (h' + 1) = M' at hd
    rw [hh'] at hd
    generalize R.al h' = Y at hd
    generalize R.bb h' = B at hd
    cases hd with
    | heavy m1 pend h1 h2 h hn hp => exact ⟨a, ha, subA_spec h1 (K.hv _ hlt hh)⟩
  refine ⟨hM, fun j o d ho hd => ?_, fun j o u ho => ?_, fun j o ho => ?_, fun j o ho => ?_, hsz, hasz, heav, fun h i y hh hi hy => ?_⟩
  · obtain ⟨a, _, _, _, h3, _⟩ := HT j o ho; exact h3 d hd
  · obtain ⟨a, _, _, _, _, h4⟩ := HT j o ho; exact h4 u
  · obtain ⟨a, _, h1, _⟩ := HT j o ho; exact h1
  · have hj : j < all.size := (Array.getElem?_eq_some_iff.1 ho).1
    obtain ⟨a, ha, hd⟩ := did j o ho
    have K := known j (by omega)
    generalize hD : R.dd (j + 1) = D' at hd
    generalize hMm : R.mm (j + 1) = M' at hd
    generalize hH : R.hv j = H at hd
    generalize hY : R.al j = Y at hd
    generalize hB : R.bb j = B at hd
    cases hd with
    | skip hv => exact .skip hB hv hMm hH hY
    | pure h => exact .pure hB hMm hH hY h
    | alloc y t2 tr h hy ht => exact .alloc hB hH y t2 hY h hy (by rw [hMm]) (by rw [hMm]; exact ht)
    | heavy m1 pend h1 h2 h hn hp => exact .heavy hB hH hY (by rw [hMm]; exact h) (by rw [hMm]; exact hn)
    | read hk h hb hc =>
      refine .read hB hMm hH hY fun s hcut hbef hbeh => ?_
      have abit : ∀ i, (¬ ∃ a, ms[j]? = some a ∧ Nat.testBit a i = true) → bitA a i = false := fun i hi => by
        rw [bitA_eq]
        cases hb : Nat.testBit a i with
        | false => rfl
        | true => exact absurd ⟨a, ha, hb⟩ hi
      rcases Nat.lt_or_ge j s with hlt | hge
      · -- behind one that comes later
        rcases hcut with rfl | ⟨h1, hh1, rfl⟩
        · omega
        · have hne : h1 ≠ j := fun e => by rw [e, hH] at hh1; cases hh1
          have h1s := hsz h1 hh1
          have hp0 : (⟨j, o.op, R.tt j, R.vv j⟩ : Pend) ∈ (R.dd (j + 1)).pend := by rw [hD]; simp
          rcases pends (j + 1) _ hp0 (h1 - (j + 1)) (by omega) with ⟨h2, q1, q2, q3, q4⟩ | hp1
          · exact absurd q4 (hbef h2 q3 (by omega))
          · rw [show j + 1 + (h1 - (j + 1)) = h1 by omega] at hp1
            obtain ⟨o1, ho1⟩ := sz h1s
            obtain ⟨a1, ha1, hd1⟩ := did h1 o1 ho1
            have hna := hbef h1 hh1 (by omega)
            clear hD
            generalize R.dd (h1 + 1) = D2 at hd1
            generalize hM2 : R.mm (h1 + 1) = M2 at hd1
            rw [hh1] at hd1
            generalize R.al h1 = Y1 at hd1
            generalize R.bb h1 = B1 at hd1
            cases hd1 with
            | heavy m1 pend g1 g2 g3 gn gp =>
              rcases gp _ hp1 with q | q
              · exact absurd ⟨a1, ha1, by rw [← bitA_eq]; exact q⟩ hna
              · exact ⟨M2, readsA_eq hk q.1, .inl rfl⟩
      · by_cases hmid : ∃ h, R.hv h = true ∧ s ≤ h ∧ h < j
        · -- ahead of one that comes earlier
          obtain ⟨h2, q1, q2, q3, q4⟩ : ∃ h, R.hv h = true ∧ s ≤ h ∧ h < j ∧ ∀ h', R.hv h' = true → s ≤ h' → h ≤ h' := by
            obtain ⟨h, hh, hs, hlt⟩ := hmid
            induction h using Nat.strongRecOn with
            | _ h ih =>
              by_cases hm : ∃ h', R.hv h' = true ∧ s ≤ h' ∧ h' < h
              · obtain ⟨h', e1, e2, e3⟩ := hm
                exact ih h' e3 e1 e2 (by omega)
              · exact ⟨h, hh, hs, hlt, fun h' e1 e2 => by
                  rcases Nat.lt_or_ge h' h with q | q
                  · exact absurd ⟨h', e1, e2, q⟩ hm
                  · exact q⟩
          obtain ⟨l1, l2, e1, e2⟩ := K.st s h2 hcut q1 q2 q3 q4
          rw [e1] at hc
          exact ⟨R.mm s, readsA_eq hk (atCuts_app hc (fun q hq => abit _ (hbeh _ (e2 q hq).1 (by have := (e2 q hq).2; omega))) (abit _ (hbeh _ q1 q2))), .inl rfl⟩
        · have hno : ∀ h, R.hv h = true → s ≤ h → j ≤ h := fun h hh hs => by
            rcases Nat.lt_or_ge h j with q | q
            · exact absurd ⟨h, hh, hs, q⟩ hmid
            · exact q
          rcases hb with hb | hb
          · refine ⟨R.mm j, h, .inr ⟨hge, rfl, hno, fun i y hi1 hi2 hy => ⟨a, ha, subA_spec hb (K.alc i y hi2 hy fun h hh hl => hno h hh (by omega))⟩⟩⟩
          · rw [K.base s hcut hge hno] at hb
            exact ⟨R.mm s, readsA_eq hk hb, .inl rfl⟩
  · obtain ⟨o, ho⟩ := sz (hsz h hh)
    obtain ⟨a, ha, hd⟩ := did h o ho
    have K := known h (Nat.le_of_lt (hsz h hh))
    generalize R.dd (h + 1) = D' at hd
    generalize R.mm (h + 1) = M' at hd
    rw [hh] at hd
    generalize R.al h = Y at hd
    generalize R.bb h = B at hd
    cases hd with
    | heavy m1 pend h1 h2 h hn hp => exact ⟨a, ha, subA_spec h2 (K.als _ _ hi hy)⟩
end
end Go.Ev
end
section
namespace Go.Ev
set_option linter.all false
section
variable {P : Program} {call : Call} {nt : Nat} {all : Array Oper} {R : Trace} {anc : Nat → Nat → Prop}
theorem Facts.next (F : Facts P call nt all R anc) {j : Nat} (hj : j < all.size) : (R.mm j).next ≤ (R.mm (j + 1)).next := by
  cases F.kind j all[j] (by simp [hj]) with
  | skip hb hv hm hh ha => rw [hm]; exact Nat.le_refl _
  | pure hb hm hh ha h => rw [hm]; exact Nat.le_refl _
  | read hb hm hh ha h => rw [hm]; exact Nat.le_refl _
  | alloc hb hh y t2 ha h hy hn ht => omega
  | heavy hb hh ha h hn => exact hn
theorem Facts.mono (F : Facts P call nt all R anc) {i j : Nat} (hij : i ≤ j) (hj : j ≤ all.size) : (R.mm i).next ≤ (R.mm j).next := by
  induction j with
  | zero => have : i = 0 := by omega
            subst this; exact Nat.le_refl _
  | succ j ih =>
    by_cases e : i = j + 1
    · subst e; exact Nat.le_refl _
    · exact Nat.le_trans (ih (by omega) (by omega)) (F.next (by omega))
theorem Facts.anext (F : Facts P call nt all R anc) {i : Nat} {y : Blk} (h : R.al i = some y) : (R.mm (i + 1)).next = (R.mm i).next + 1 := by
  have hi := F.asize i y h
  cases F.kind i all[i] (by simp [hi]) with
  | skip hb hv hm hh ha => rw [ha] at h; cases h
  | pure hb hm hh ha h' => rw [ha] at h; cases h
  | read hb hm hh ha h' => rw [ha] at h; cases h
  | alloc hb hh y t2 ha h hy hn ht => exact hn
  | heavy hb hh ha h' hn => rw [ha] at h; cases h
/-- Between operations that turn memory. -/
theorem Facts.between (F : Facts P call nt all R anc) {s : Nat} : ∀ j, s ≤ j → j ≤ all.size → (∀ h, R.hv h = true → s ≤ h → j ≤ h) → ∀ b x, (R.mm j).t.get b = some x →
    (R.mm s).t.get b = some x ∨ ∃ i, s ≤ i ∧ i < j ∧ R.al i = some x ∧ b = (R.mm i).next := by
  intro j
  induction j with
  | zero => intro h1 _ _ b x h; have : s = 0 := by omega
            subst this; exact .inl h
  | succ j ih =>
    intro h1 h2 h3 b x h
    by_cases e : s = j + 1
    · subst e; exact .inl h
    · have hno : ∀ h, R.hv h = true → s ≤ h → j ≤ h := fun h hh hs => by have := h3 h hh hs; omega
      have same : R.mm (j + 1) = R.mm j → (R.mm s).t.get b = some x ∨ ∃ i, s ≤ i ∧ i < j + 1 ∧ R.al i = some x ∧ b = (R.mm i).next := fun q => by
        rw [q] at h
        exact (ih (by omega) (by omega) hno b x h).imp id fun ⟨i, a, b, c, d⟩ => ⟨i, a, by omega, c, d⟩
      cases F.kind j all[j] (by simp [show j < all.size by omega]) with
      | skip hb hv hm hh ha => exact same hm
      | pure hb hm hh ha h' => exact same hm
      | read hb hm hh ha h' => exact same hm
      | alloc hb hh y t2 ha h' hy hn ht =>
        rw [ht] at h
        split at h
        · rename_i hbj; cases h; exact .inr ⟨j, by omega, by omega, ha, hbj⟩
        · exact (ih (by omega) (by omega) hno b x h).imp id fun ⟨i, a, b, c, d⟩ => ⟨i, a, by omega, c, d⟩
      | heavy hb hh ha h' hn => have := h3 j hh (by omega); omega
/-- What is carried out so far: with each what is ahead of it. -/
noncomputable def Closed (all : Array Oper) (D : Nat → Prop) : Prop := ∀ (j : Nat) (o : Oper), D j → all[j]? = some o → ∀ e ∈ o.after, Region.binds .any e = true → D e.on
theorem anc_in (M : MasksOK all anc) {D : Nat → Prop} (hD : Closed all D) : ∀ (j : Nat) (o : Oper), all[j]? = some o → (∀ e ∈ o.after, Region.binds .any e = true → D e.on) → ∀ i, anc j i → D i := by
  intro j
  induction j using Nat.strongRecOn with
  | _ j ih =>
    intro o ho he i hi
    obtain ⟨e, h1, h2, h3⟩ := M.clo j i o ho hi
    have hlt := M.low j e.on (M.edge j o e ho h1 h2)
    have hj : j < all.size := (Array.getElem?_eq_some_iff.1 ho).1
    rcases h3 with rfl | h3
    · exact he e h1 h2
    · have ho' : all[e.on]? = some all[e.on] := by simp [show e.on < all.size by omega]
      exact ih e.on hlt _ ho' (hD e.on _ (he e h1 h2) ho') i h3
theorem done_in (M : MasksOK all anc) {D : Nat → Prop} (hD : Closed all D) {h : Nat} (hlt : h < all.size) (hd : D h) {i : Nat} (hi : anc h i) : D i := by
  have ho : all[h]? = some all[h] := by simp [hlt]
  exact anc_in M hD h _ ho (hD h _ hd ho) i hi
structure Inv (P : Program) (call : Call) (nt : Nat) (all : Array Oper) (R : Trace) (ρ0 : Ren) (g0 : Nat → Option Blk) (w0 : World) (dfs : List Deferred) (D : Nat → Prop) (ρ : Ren) (s : Nat) (G : Nat → Option Blk) (a : Act) (w : World) : Prop where
  step : GStep ρ0 g0 (R.mm 0).next w0 ρ G (R.mm all.size).next w
  cut : Cut R.hv s
  cutD : ∀ h, R.hv h = true → (D h ↔ h < s)
  sn : s ≤ all.size
  wf : ∀ b x, (R.mm s).t.get b = some x → b < (R.mm s).next
  mem : ∀ b x, (R.mm s).t.get b = some x → G b = some x
  als : ∀ i y, D i → s ≤ i → R.al i = some y → G (R.mm i).next = some y
  fresh : ∀ i, i < all.size → ¬ D i → ∀ b, (R.mm i).next ≤ b → b < (R.mm (i + 1)).next → ρ b = none
  size : a.tmps.size = nt
  val : ∀ u (i : Nat) (o : Oper), D i → all[i]? = some o → o.dst = some u → VR ρ (R.vv i) (a.tmps.getD u undef)
  old : ∀ u, (∀ (i : Nat) (o : Oper), D i → all[i]? = some o → o.dst ≠ some u) → VR ρ (((R.tt 0).get u).getD .undef) (a.tmps.getD u undef)
  dfs : a.defers = dfs
theorem put_same {a : Act} {u : Tmp} {v : Value} (h : u < a.tmps.size) : (a.put (some u) v).tmps.getD u undef = v := by
  simp [Act.put, Array.getElem?_setIfInBounds_self_of_lt h]
theorem put_other {a : Act} {dst : Option Tmp} {u : Tmp} {v : Value} (h : dst ≠ some u) : (a.put dst v).tmps.getD u undef = a.tmps.getD u undef := by
  cases dst with
  | none => rfl
  | some d =>
    have : d ≠ u := fun e => h (by rw [e])
    simp [Act.put, Array.getElem?_setIfInBounds_ne this]
variable {ρ0 : Ren} {g0 : Nat → Option Blk} {w0 : World} {dfs : List Deferred} {D : Nat → Prop} {ρ : Ren} {s : Nat} {G : Nat → Option Blk} {a : Act} {w : World}
theorem Inv.go (F : Facts P call nt all R anc) (I : Inv P call nt all R ρ0 g0 w0 dfs D ρ s G a w) {j : Nat} {o : Oper} (hj : all[j]? = some o) {ρ' : Ren} {w' : World} {G' : Nat → Option Blk} {s' : Nat} {vc : Value}
    (B' : GStep ρ0 g0 (R.mm 0).next w0 ρ' G' (R.mm all.size).next w') (hsub : Sub ρ ρ') (hren : ∀ b, ¬ ((R.mm j).next ≤ b ∧ b < (R.mm (j + 1)).next) → ρ' b = ρ b) (hv : VR ρ' (R.vv j) vc)
    (cut' : Cut R.hv s') (cutD' : ∀ h, R.hv h = true → ((D h ∨ h = j) ↔ h < s')) (sn' : s' ≤ all.size) (wf' : ∀ b x, (R.mm s').t.get b = some x → b < (R.mm s').next) (mem' : ∀ b x, (R.mm s').t.get b = some x → G' b = some x)
    (als' : ∀ i y, (D i ∨ i = j) → s' ≤ i → R.al i = some y → G' (R.mm i).next = some y) : Inv P call nt all R ρ0 g0 w0 dfs (fun i => D i ∨ i = j) ρ' s' G' (a.put o.dst vc) w' where
  step := B'
  cut := cut'
  cutD := cutD'
  sn := sn'
  wf := wf'
  mem := mem'
  als := als'
  fresh i hi hn b h1 h2 := by
    have hij : i ≠ j := fun e => hn (.inr e)
    rw [hren b, I.fresh i hi (fun h => hn (.inl h)) b h1 h2]
    rintro ⟨h3, h4⟩
    have hjs : j < all.size := (Array.getElem?_eq_some_iff.1 hj).1
    rcases Nat.lt_or_ge i j with q | q
    · have := F.mono (show i + 1 ≤ j by omega) (by omega); omega
    · have := F.mono (show j + 1 ≤ i by omega) (by omega); omega
  size := by cases o.dst <;> simp [Act.put, I.size]
  val u i oi hd hi hu := by
    by_cases e : o.dst = some u
    · have : i = j := F.masks.dst i j oi o u hi hj hu e
      subst this
      rw [e, put_same (by rw [I.size]; exact F.dlt i o u hj e)]
      exact hv
    · rw [put_other e]
      rcases hd with hd | rfl
      · exact (I.val u i oi hd hi hu).mono hsub
      · rw [hj] at hi; cases hi; exact absurd hu e
  old u hu := by
    rw [put_other (hu j o (.inr rfl) hj)]
    exact (I.old u fun i oi hd => hu i oi (.inl hd)).mono hsub
  dfs := by rw [← I.dfs]; cases o.dst <;> rfl
theorem Facts.tt_set (F : Facts P call nt all R anc) {i : Nat} {oi : Oper} {u : Tmp} (hi : all[i]? = some oi) (hu : oi.dst = some u) : ∀ j, i < j → j ≤ all.size → (R.tt j).get u = some (R.vv i) := by
  intro j
  induction j with
  | zero => intro h; omega
  | succ j ih =>
    intro h1 h2
    have hj : all[j]? = some all[j] := by simp [show j < all.size by omega]
    rw [F.tset j _ u hj]
    by_cases e : i = j
    · subst e; rw [hj] at hi; cases hi; rw [if_pos hu]
    · rw [if_neg fun q => e (F.masks.dst i j _ _ u hi hj hu q)]
      exact ih (by omega) (by omega)
theorem Facts.tt_old (F : Facts P call nt all R anc) {u : Tmp} : ∀ j, j ≤ all.size → (∀ (i : Nat) (o : Oper), i < j → all[i]? = some o → o.dst ≠ some u) → (R.tt j).get u = (R.tt 0).get u := by
  intro j
  induction j with
  | zero => intro _ _; rfl
  | succ j ih =>
    intro h1 h2
    have hj : all[j]? = some all[j] := by simp [show j < all.size by omega]
    rw [F.tset j _ u hj, if_neg (h2 j _ (by omega) hj)]
    exact ih (by omega) fun i o hi => h2 i o (by omega)
theorem Inv.vals (F : Facts P call nt all R anc) (I : Inv P call nt all R ρ0 g0 w0 dfs D ρ s G a w) (hD : Closed all D) {j : Nat} {o : Oper} (hj : all[j]? = some o) (hn : ¬ D j) (he : ∀ e ∈ o.after, Region.binds .any e = true → D e.on)
    {u : Tmp} (hu : u ∈ o.looksAt all) : VR ρ (((R.tt j).get u).getD .undef) (a.tmps.getD u undef) := by
  have hjs : j < all.size := (Array.getElem?_eq_some_iff.1 hj).1
  by_cases h : ∃ (i : Nat) (oi : Oper), i < j ∧ all[i]? = some oi ∧ oi.dst = some u
  · obtain ⟨i, oi, h1, h2, h3⟩ := h
    rw [F.tt_set h2 h3 j h1 (by omega)]
    refine I.val u i oi ?_ h2 h3
    rcases F.masks.race i j oi o u h2 hj hu h3 with q | q
    · exact anc_in F.masks hD j o hj he i q
    · have := F.masks.low i j q; omega
  · have hno : ∀ (i : Nat) (oi : Oper), i < j → all[i]? = some oi → oi.dst ≠ some u := fun i oi h1 h2 h3 => h ⟨i, oi, h1, h2, h3⟩
    rw [F.tt_old j (by omega) hno]
    refine I.old u fun i oi hi h2 h3 => ?_
    rcases F.masks.race i j oi o u h2 hj hu h3 with q | q
    · exact hno i oi (F.masks.low j i q) h2 h3
    · exact hn (anc_in F.masks hD i oi h2 (hD i oi hi h2) j q)
theorem Inv.rel (F : Facts P call nt all R anc) (I : Inv P call nt all R ρ0 g0 w0 dfs D ρ s G a w) (hD : Closed all D) {j : Nat} {o : Oper} (hj : all[j]? = some o) (hn : ¬ D j) (he : ∀ e ∈ o.after, Region.binds .any e = true → D e.on) :
    OpRel ρ (R.tt j) a.eval o.op.operands.toList := fun x hx => by
  cases x with
  | tmp u =>
    refine I.vals F hD hj hn he (u := u) ?_
    unfold Oper.looksAt
    exact List.mem_append_left _ (List.mem_filterMap.2 ⟨.tmp u, hx, rfl⟩)
  | const v => exact cstA_rel ρ v
  | global g => exact .any _
  | func f => exact .fn f [] #[] .nil
theorem Inv.wanted (F : Facts P call nt all R anc) (I : Inv P call nt all R ρ0 g0 w0 dfs D ρ s G a w) (hD : Closed all D) {j : Nat} {o : Oper} (hj : all[j]? = some o) (hn : ¬ D j) (he : ∀ e ∈ o.after, Region.binds .any e = true → D e.on) :
    Region.wanted o (yielded all a.tmps) = R.bb j :=
  wanted_eq (F.want j o hj) fun j' want g d h1 h2 h3 => I.vals F hD hj hn he (u := d) (by
    unfold Oper.looksAt
    refine List.mem_append_right _ ?_
    rw [h1]
    simp [h2, h3])
theorem View.leaf (ρ : Ren) (n : Nat) (w : World) : View ρ ⟨n, .leaf⟩ w := ⟨⟨fun b x h => (by cases h), fun b b' x x' L L' h => (by cases h)⟩, fun b x h => (by cases h)⟩
/-- One operation, whichever comes next. -/
theorem Inv.one (hcall : CallOK P call) (F : Facts P call nt all R anc) (I : Inv P call nt all R ρ0 g0 w0 dfs D ρ s G a w) (hD : Closed all D) {j : Nat} {o : Oper} (hj : all[j]? = some o) (hn : ¬ D j)
    (he : ∀ e ∈ o.after, Region.binds .any e = true → D e.on) {Q : Exit → Act → World → Prop} {K : Act → World → Prop}
    (hK : ∀ ρ' s' G' a' w', Inv P call nt all R ρ0 g0 w0 dfs (fun i => D i ∨ i = j) ρ' s' G' a' w' → K a' w') : wpOp P all Q j K a w := by
  have hjs : j < all.size := (Array.getElem?_eq_some_iff.1 hj).1
  have hO := I.rel F hD hj hn he
  have hin := anc_in F.masks hD j o hj he
  have h0j : (R.mm 0).next ≤ (R.mm j).next := F.mono (Nat.zero_le _) (by omega)
  have hjn : (R.mm j).next ≤ (R.mm all.size).next := F.mono (by omega) (Nat.le_refl _)
  have hsj : s ≤ j ∨ j < s := by omega
  have quiet : R.hv j = false → ∀ h, R.hv h = true → ((D h ∨ h = j) ↔ h < s) := fun hh h hvh => by
    have : h ≠ j := fun e => by rw [e, hh] at hvh; cases hvh
    rw [← I.cutD h hvh]
    constructor
    · rintro (q | q)
      · exact q
      · exact absurd q this
    · exact .inl
  have fj : ∀ b, (R.mm j).next ≤ b → b < (R.mm (j + 1)).next → ρ b = none := I.fresh j hjs hn
  unfold wpOp
  rw [hj]
  simp only []
  rw [I.wanted F hD hj hn he]
  cases F.kind j o hj with
  | skip hb hv hm hh ha =>
    rw [hb, if_neg (by decide)]
    refine hK ρ s G _ w (I.go F hj I.step (fun _ _ e => e) (fun _ _ => rfl) (by rw [hv]; exact VR.undef _) I.cut (quiet hh) I.sn I.wf I.mem fun i y hi hs hy => ?_)
    rcases hi with hi | rfl
    · exact I.als i y hi hs hy
    · rw [ha] at hy; cases hy
  | pure hb hm hh ha h =>
    rw [hb, if_pos rfl]
    have hfr : Fresh ρ (R.mm j).next (R.mm j).next := fun b h1 h2 => by omega
    refine .inl (op_wp hcall (View.leaf ρ (R.mm j).next w) hO h hfr fun ρ' w' vc S hv => hK ρ' s _ _ w' (I.go F hj (I.step.extend S (fun b x h => by cases h) h0j hjn hfr) (S.sub hfr) (fun b _ => S.ren b (by omega)) hv I.cut (quiet hh) I.sn I.wf
      (fun b x h => (over_old rfl rfl).trans (I.mem b x h)) fun i y hi hs hy => ?_))
    rcases hi with hi | rfl
    · exact (over_old rfl rfl).trans (I.als i y hi hs hy)
    · rw [ha] at hy; cases hy
  | alloc hb hh y t2 ha h hy hnx ht =>
    rw [hb, if_pos rfl]
    have hfr : Fresh ρ (R.mm j).next ((R.mm j).next + 1) := fun b h1 h2 => fj b h1 (by omega)
    refine .inl (op_wp hcall (View.leaf ρ (R.mm j).next w) hO h hfr fun ρ' w' vc S hv => ?_)
    have S' : GStep ρ (T.leaf : T Blk).get (R.mm j).next w ρ' (fun b => if b = (R.mm j).next then some y else none) ((R.mm j).next + 1) w' :=
      GStep.less S (fun b x q => by
        split at q
        · rename_i e; cases q; rw [e]; exact hy
        · cases q) (fun b x q => by
        split at q
        · omega
        · cases q) rfl
    have hjn' : (R.mm j).next + 1 ≤ (R.mm all.size).next := by rw [← hnx]; exact F.mono (by omega) (Nat.le_refl _)
    have old : ∀ b, b ≠ (R.mm j).next → over G (T.leaf : T Blk).get (fun b => if b = (R.mm j).next then some y else none) b = G b := fun b hb => over_old (by rw [if_neg hb]) rfl
    have hsj : s ≤ j := by
      rcases Nat.lt_or_ge j s with q | q
      · exfalso
        rcases I.cut with rfl | ⟨h, hvh, rfl⟩
        · omega
        · have hne : h ≠ j := fun e => by rw [e, hh] at hvh; cases hvh
          exact hn (done_in F.masks hD (F.size h hvh) ((I.cutD h hvh).2 (by omega)) (F.hal h j y hvh (by omega) ha))
      · exact q
    refine hK ρ' s _ _ w' (I.go F hj (I.step.extend S' (fun b x h => by cases h) h0j hjn' hfr) (S'.sub hfr) (fun b q => S'.ren b (by omega)) hv I.cut (quiet hh) I.sn I.wf (fun b x q => ?_) fun i z hi hs hz => ?_)
    · rw [old b]
      · exact I.mem b x q
      · have := I.wf b x q
        have := F.mono hsj (by omega)
        omega
    · by_cases e : i = j
      · subst e; rw [ha] at hz; cases hz
        exact over_new (by rw [if_pos rfl])
      · have hi : D i := hi.resolve_right e
        rw [old]
        · exact I.als i z hi hs hz
        · have h1 := F.anext hz
          have h2 := F.asize i z hz
          rcases Nat.lt_or_ge i j with q | q
          · have := F.mono (show i + 1 ≤ j by omega) (by omega); omega
          · have := F.mono (show j + 1 ≤ i by omega) (by omega); omega
  | read hb hm hh ha h =>
    rw [hb, if_pos rfl]
    obtain ⟨μ, h, hμ⟩ := h s I.cut (fun h hvh hlt q => hn (done_in F.masks hD (F.size h hvh) ((I.cutD h hvh).2 hlt) q))
      (fun h hvh hge q => by have := (I.cutD h hvh).1 (hin h q); omega)
    have hw : (∀ b x, μ.t.get b = some x → G b = some x) ∧ (∀ b x, μ.t.get b = some x → b < μ.next) ∧ (R.mm 0).next ≤ μ.next ∧ μ.next ≤ (R.mm all.size).next := by
      rcases hμ with rfl | ⟨q1, rfl, q2, q3⟩
      · exact ⟨I.mem, I.wf, F.mono (Nat.zero_le _) I.sn, F.mono I.sn (Nat.le_refl _)⟩
      · refine ⟨fun b x hx => ?_, fun b x hx => ?_, h0j, hjn⟩
        · rcases F.between j q1 (by omega) q2 b x hx with q | ⟨i, r1, r2, r3, rfl⟩
          · exact I.mem b x q
          · exact I.als i x (hin i (q3 i x r1 r2 r3)) r1 r3
        · rcases F.between j q1 (by omega) q2 b x hx with q | ⟨i, r1, r2, r3, rfl⟩
          · have := I.wf b x q; have := F.mono q1 (show j ≤ all.size by omega); omega
          · have := F.anext r3; have := F.mono (show i + 1 ≤ j by omega) (by omega); omega
    obtain ⟨w1, w2, w3, w4⟩ := hw
    have hfr : Fresh ρ μ.next μ.next := fun b h1 h2 => by omega
    have V : View ρ μ w := ⟨I.step.sim.less w1, w2⟩
    have oe : ∀ b, over G μ.t.get μ.t.get b = G b := fun b => by
      cases hb : μ.t.get b with
      | some x => rw [over_new hb, w1 b x hb]
      | none => exact over_old hb hb
    refine .inl (op_wp hcall V hO h hfr fun ρ' w' vc S hv => hK ρ' s _ _ w' (I.go F hj (I.step.extend S w1 w3 w4 hfr) (S.sub hfr) (fun b _ => S.ren b (by omega)) hv I.cut (quiet hh) I.sn I.wf
      (fun b x h => (oe b).trans (I.mem b x h)) fun i y hi hs hy => ?_))
    rcases hi with hi | rfl
    · exact (oe _).trans (I.als i y hi hs hy)
    · rw [ha] at hy; cases hy
  | heavy hb hh ha h hnx =>
    rw [hb, if_pos rfl]
    have hsj : s ≤ j := by
      rcases Nat.lt_or_ge j s with q | q
      · exact absurd ((I.cutD j hh).2 q) hn
      · exact q
    have hno : ∀ h, R.hv h = true → s ≤ h → j ≤ h := fun h hvh hs => by
      rcases Nat.lt_or_ge h j with q | q
      · have := (I.cutD h hvh).1 (hin h (F.heav h j hvh hh q)); omega
      · exact q
    have w1 : ∀ b x, (R.mm j).t.get b = some x → G b = some x := fun b x hx => by
      rcases F.between j hsj (by omega) hno b x hx with q | ⟨i, r1, r2, r3, rfl⟩
      · exact I.mem b x q
      · exact I.als i x (hin i (F.hal j i x hh r2 r3)) r1 r3
    have w2 : ∀ b x, (R.mm j).t.get b = some x → b < (R.mm j).next := fun b x hx => by
      rcases F.between j hsj (by omega) hno b x hx with q | ⟨i, r1, r2, r3, rfl⟩
      · have := I.wf b x q; have := F.mono hsj (show j ≤ all.size by omega); omega
      · have := F.anext r3; have := F.mono (show i + 1 ≤ j by omega) (by omega); omega
    have hjn' : (R.mm (j + 1)).next ≤ (R.mm all.size).next := F.mono (by omega) (Nat.le_refl _)
    refine .inl (op_wp hcall ⟨I.step.sim.less w1, w2⟩ hO h fj fun ρ' w' vc S hv => hK ρ' (j + 1) _ _ w' (I.go F hj (I.step.extend S w1 h0j hjn' fj) (S.sub fj) (fun b q => S.ren b q) hv (.inr ⟨j, hh, rfl⟩) (fun h' hvh => ?_) (by omega) S.wf
      (fun b x q => over_new q) fun i y hi hs hy => ?_))
    · constructor
      · rintro (q | q)
        · have := (I.cutD h' hvh).1 q; omega
        · omega
      · intro q
        rcases Nat.lt_or_ge h' j with r | r
        · exact .inl (hin h' (F.heav h' j hvh hh r))
        · exact .inr (by omega)
    · have hij : i ≠ j := by omega
      have hi : D i := hi.resolve_right hij
      have g1 := F.mono hs (Nat.le_of_lt (F.asize i y hy))
      rw [over_old]
      · exact I.als i y hi (by omega) hy
      · cases hg : (R.mm (j + 1)).t.get (R.mm i).next with
        | none => rfl
        | some x => have := S.wf _ _ hg; omega
      · cases hg : (R.mm j).t.get (R.mm i).next with
        | none => rfl
        | some x => have := w2 _ _ hg; omega
end
end Go.Ev
end
section
namespace Go.Ev
set_option linter.all false
section
variable {P : Program} {call : Call} {nt : Nat} {all : Array Oper} {R : Trace} {anc : Nat → Nat → Prop}
variable {ρ0 : Ren} {g0 : Nat → Option Blk} {w0 : World} {dfs : List Deferred}
theorem listed_false {l : Array Bool} {i : Nat} (hi : i < l.size) (h : l.getD i false ≠ true) : l[i]? = some false := by
  have e : l[i]? = some l[i] := by simp [hi]
  have : l.getD i false = l[i] := by simp [hi]
  rw [this] at h
  rw [e]
  cases hh : l[i] with
  | false => rfl
  | true => exact absurd hh h
theorem all_listed (M : MasksOK all anc) {l : Array Bool} (hs : l.size = all.size) (h : Region.ready .any all l = []) : ∀ i, i < all.size → l.getD i false = true := by
  intro i
  induction i using Nat.strongRecOn with
  | _ i ih =>
    intro hi
    by_cases hl : l.getD i false = true
    · exact hl
    · exfalso
      have hf := listed_false (by omega) hl
      have ho : all[i]? = some all[i] := by simp [hi]
      have : i ∈ Region.ready .any all l := mem_ready.2 ⟨by simp [hf], all[i], ho, fun e he hb => ih e.on (M.low i e.on (M.edge i _ e ho he hb)) (by have := M.low i e.on (M.edge i _ e ho he hb); omega)⟩
      rw [h] at this
      cases this
theorem rep_false (n i : Nat) : ¬ (Array.replicate n false).getD i false = true := by
  by_cases h : i < n <;> simp [h]
theorem any_wp (hcall : CallOK P call) (F : Facts P call nt all R anc) {Q : Exit → Act → World → Prop}
    (hQ : ∀ ρ s G a w, Inv P call nt all R ρ0 g0 w0 dfs (fun i => i < all.size) ρ s G a w → Q .normal a w) : ∀ (fuel : Nat) (l : Array Bool) (a : Act) (w : World) (ρ : Ren) (s : Nat) (G : Nat → Option Blk),
    l.size = all.size → Closed all (fun i => l.getD i false = true) → l.toList.count false ≤ fuel → Inv P call nt all R ρ0 g0 w0 dfs (fun i => l.getD i false = true) ρ s G a w → wpAny P .any all Q fuel l a w := by
  intro fuel
  have done : ∀ (l : Array Bool) (a : Act) (w : World) (ρ : Ren) (s : Nat) (G : Nat → Option Blk), l.size = all.size → (∀ i, i < all.size → l.getD i false = true) → Inv P call nt all R ρ0 g0 w0 dfs (fun i => l.getD i false = true) ρ s G a w → Q .normal a w := by
    intro l a w ρ s G hs h I
    have e : (fun i => l.getD i false = true) = (fun i => i < all.size) := by
      funext i
      apply propext
      constructor
      · intro q
        rcases Nat.lt_or_ge i all.size with r | r
        · exact r
        · rw [← hs] at r; simp [Array.getElem?_eq_none r] at q
      · exact h i
    rw [e] at I
    exact hQ ρ s G a w I
  induction fuel with
  | zero =>
    intro l a w ρ s G hs hc hn I
    have h0 : l.toList.count false = 0 := by omega
    rw [List.count_eq_zero] at h0
    have full : ∀ i, i < all.size → l.getD i false = true := fun i hi => by
      by_cases q : l.getD i false = true
      · exact q
      · have := listed_false (by omega) q
        exact absurd (by simpa using Array.mem_of_getElem? this) h0
    refine ⟨?_, done l a w ρ s G hs full I⟩
    cases hr : Region.ready .any all l with
    | nil => rfl
    | cons i r =>
      have hi : i ∈ Region.ready .any all l := by rw [hr]; simp
      obtain ⟨h1, o, h2, h3⟩ := mem_ready.1 hi
      have hi : i < all.size := (Array.getElem?_eq_some_iff.1 h2).1
      have := full i hi
      simp [show i < l.size by omega] at h1 this
      rw [h1] at this; cases this
  | succ fuel ih =>
    intro l a w ρ s G hs hc hn I
    refine ⟨fun h => done l a w ρ s G hs (all_listed F.masks hs h) I, fun i hi => ?_⟩
    obtain ⟨h1, o, h2, h3⟩ := mem_ready.1 hi
    have hia : i < all.size := (Array.getElem?_eq_some_iff.1 h2).1
    have hil : i < l.size := by omega
    have hf : l[i]? = some false := by
      simp [hil] at h1
      simp [hil, h1]
    have hnD : ¬ l.getD i false = true := by simp [hf]
    refine Inv.one hcall F I hc h2 hnD h3 fun ρ' s' G' a' w' I' => ?_
    have e : (fun k => (l.setIfInBounds i true).getD k false = true) = fun k => l.getD k false = true ∨ k = i := by
      funext k
      apply propext
      by_cases hk : k = i
      · subst hk; simp [hil]
      · rw [getD_set_ne false (Ne.symm hk)]; simp [hk]
    refine ih (l.setIfInBounds i true) a' w' ρ' s' G' (by simpa using hs) ?_ ?_ (by rw [e]; exact I')
    · rw [e]
      intro j oj hj hoj ed he hb
      rcases hj with hj | rfl
      · exact .inl (hc j oj hj hoj ed he hb)
      · rw [h2] at hoj; cases hoj
        exact .inl (h3 ed he hb)
    · have hl : i < l.toList.length := by simpa using hil
      have el : l.toList[i] = false := by
        have := (Array.getElem?_eq_some_iff.1 hf).2
        simpa using this
      rw [Array.toList_setIfInBounds, List.count_set hl, el]
      simp
      simp at hn
      omega
theorem drawn_wp (hm : P.follows .mixedOrders = true) (hcall : CallOK P call) {id : Nat} {Q : Exit → Act → World → Prop} {t : T AV} {m : AMem} {w : World} {ρ : Ren} {a : Act} {x : X} {t' : T AV} {m' : AMem}
    (h : drawnA P call nt all t m = .mk x t' m') (V : View ρ m w) (hT : TR ρ nt t a.tmps) (hf : Fresh ρ m.next m'.next)
    (hQ : ∀ ρ' a' w', Step ρ m w ρ' m' w' → TR ρ' nt t' a'.tmps → a'.defers = a.defers → Q .normal a' w') : x = .norm ∧ m.next ≤ m'.next ∧ (Code.region id all true).wp P Q a w := by
  unfold drawnA at h
  cases hms : masks all with
  | none => rw [hms] at h; cases h
  | some ms =>
    rw [hms] at h
    obtain ⟨hx, R, e1, e2, e3, e4, e5, e6, e7⟩ := opsD_trace (show opsD P call nt all all.toList ms 0 t m ⟨0, 0, 0, m, [], []⟩ = .mk x t' m' from h)
    have hlen : all.toList.length = all.size := by simp
    rw [hlen] at e4 e5 e6
    have F : Facts P call nt all R _ := facts_of hms e6 (by rw [e3, e2]) fun i o ho => e7 i o (by simpa using ho)
    refine ⟨hx, ?_, ?_⟩
    · rw [← e2, ← e5]; exact F.mono (Nat.zero_le _) (Nat.le_refl _)
    · have hle : m.next ≤ m'.next := by rw [← e2, ← e5]; exact F.mono (Nat.zero_le _) (Nat.le_refl _)
      refine wp_region_any hm (any_wp (ρ0 := ρ) (g0 := m.t.get) (w0 := w) (dfs := a.defers) hcall F (fun ρ' s G a' w' I => ?_) all.size _ a _ ρ 0 m.t.get (by simp) ?_ (by simp) ?_)
      · -- all is done
        have hno : ∀ h, R.hv h = true → s ≤ h → all.size ≤ h := fun h hh hs => by
          have := F.size h hh
          have := (I.cutD h hh).1 this
          omega
        have hlt := F.between all.size I.sn (Nat.le_refl _) hno
        refine hQ ρ' a' w' ?_ ⟨I.size, fun u => ?_⟩ I.dfs
        · show GStep ρ m.t.get m.next w ρ' m'.t.get m'.next w'
          have := I.step
          rw [e2, e5] at this
          refine this.less (fun b y hb => ?_) (fun b y hb => ?_) rfl
          · rw [← e5] at hb
            rcases hlt b y hb with q | ⟨i, q1, q2, q3, rfl⟩
            · exact I.mem b y q
            · exact I.als i y q2 q1 q3
          · rw [← e5] at hb ⊢
            rcases hlt b y hb with q | ⟨i, q1, q2, q3, rfl⟩
            · have := I.wf b y q; have := F.mono I.sn (Nat.le_refl _); omega
            · have := F.anext q3; have := F.mono (show i + 1 ≤ all.size by omega) (Nat.le_refl _); omega
        · rw [← e4]
          by_cases hu : ∃ (i : Nat) (o : Oper), i < all.size ∧ all[i]? = some o ∧ o.dst = some u
          · obtain ⟨i, o, h1, h2, h3⟩ := hu
            rw [F.tt_set h2 h3 all.size h1 (Nat.le_refl _)]
            exact I.val u i o h1 h2 h3
          · have hno : ∀ (i : Nat) (o : Oper), i < all.size → all[i]? = some o → o.dst ≠ some u := fun i o h1 h2 h3 => hu ⟨i, o, h1, h2, h3⟩
            rw [F.tt_old all.size (Nat.le_refl _) hno]
            exact I.old u hno
      · intro j o hj
        exact absurd hj (rep_false _ _)
      · have S : GStep ρ m.t.get m.next w ρ m.t.get m.next { w with drawn := w.drawn + 1 } := GStep.drew V.sim V.wf _
        refine ⟨?_, .inl rfl, fun h hh => ?_, Nat.zero_le _, fun b y hb => ?_, fun b y hb => ?_, fun i y hi => ?_, fun i hi _ b h1 h2 => ?_, hT.size, fun u i o hi => ?_, fun u _ => ?_, rfl⟩
        · rw [e2, e5]
          exact ⟨fun b _ => rfl, hle, S.sim, fun b y hb => by have := V.wf b y hb; omega, S.img, S.imgR, S.keeps, S.size, S.os, S.tape, S.output⟩
        · constructor
          · intro q; exact absurd q (rep_false _ _)
          · intro q; omega
        · rw [e2] at hb ⊢; exact V.wf b y hb
        · rw [e2] at hb; exact hb
        · exact absurd hi (rep_false _ _)
        · refine hf b ?_ ?_
          · rw [← e2]; have := F.mono (Nat.zero_le i) (by omega); omega
          · rw [← e5]; have := F.mono (show i + 1 ≤ all.size by omega) (Nat.le_refl _); omega
        · exact absurd hi (rep_false _ _)
        · rw [e1]; exact hT.rel u
end
end Go.Ev
end
section
namespace Go.Ev
set_option linter.all false
section
variable {P : Program} {S : Sums}
theorem drawn_next {call : Call} {nt : Nat} {all : Array Oper} {t : T AV} {m : AMem} {x : X} {t' : T AV} {m' : AMem} (h : drawnA P call nt all t m = .mk x t' m') : m.next ≤ m'.next := by
  unfold drawnA at h
  cases hms : masks all with
  | none => rw [hms] at h; cases h
  | some ms =>
    rw [hms] at h
    obtain ⟨hx, R, e1, e2, e3, e4, e5, e6, e7⟩ := opsD_trace (show opsD P call nt all all.toList ms 0 t m ⟨0, 0, 0, m, [], []⟩ = .mk x t' m' from h)
    have hlen : all.toList.length = all.size := by simp
    rw [hlen] at e4 e5 e6
    have F : Facts P call nt all R _ := facts_of hms e6 (by rw [e3, e2]) fun i o ho => e7 i o (by simpa using ho)
    rw [← e2, ← e5]; exact F.mono (Nat.zero_le _) (Nat.le_refl _)
theorem thenK_inv {r : Res} {k : T AV → AMem → Res} {x : X} {t' : T AV} {m' : AMem} (h : C.thenK r k = .mk x t' m') :
    (∃ t1 m1, r = .mk .norm t1 m1 ∧ k t1 m1 = .mk x t' m') ∨ (r = .mk x t' m' ∧ x ≠ .norm) := by
  cases r with
  | fail c => cases h
  | mk y t1 m1 =>
    cases y with
    | norm => exact .inl ⟨t1, m1, rfl, h⟩
    | exit i => cases h; exact .inr ⟨rfl, fun e => by cases e⟩
    | ret => cases h; exact .inr ⟨rfl, fun e => by cases e⟩
theorem exec_succ (n nt : Nat) (c : Code) (t : T AV) (m : AMem) : exec P S (n + 1) nt c t m = codeTab c P S (exec P S n) nt t m := rfl
theorem exec_next : ∀ (n nt : Nat) (c : Code) {t : T AV} {m : AMem} {x : X} {t' : T AV} {m' : AMem}, exec P S n nt c t m = .mk x t' m' → m.next ≤ m'.next
  | 0, nt, c, t, m, x, t', m', h => by cases h
  | n + 1, nt, c, t, m, x, t', m', h => by
    rw [exec_succ] at h
    have two : ∀ {k : T AV → AMem → Res} {r : Res}, (∀ y t1 m1, r = .mk y t1 m1 → m.next ≤ m1.next) → (∀ t1 m1, k t1 m1 = .mk x t' m' → m1.next ≤ m'.next) → C.thenK r k = .mk x t' m' → m.next ≤ m'.next := fun {k r} h1 h2 h => by
      rcases thenK_inv h with ⟨t1, m1, e1, e2⟩ | ⟨e, _⟩
      · exact Nat.le_trans (h1 _ _ _ e1) (h2 _ _ e2)
      · exact h1 _ _ _ e
    cases c with
    | skip => cases h; exact Nat.le_refl _
    | region id ops drawn =>
      cases drawn with
      | true => exact drawn_next (show drawnA P (callF P S (exec P S n)) nt ops t m = .mk x t' m' from h)
      | false => exact opsA_next (show opsA P (callF P S (exec P S n)) nt ops ops.toList t m = .mk x t' m' from h)
    | seq a b => exact two (fun y t1 m1 e => exec_next n nt a e) (fun t1 m1 e => exec_next n nt b e) h
    | cond v a b =>
      have h : evK t v (fun v => v.onBool (fun v => bif2 v (exec P S n nt a t m) (exec P S n nt b t m)) (.fail 1010)) = .mk x t' m' := h
      rw [evK_eq] at h
      obtain ⟨q, _, h⟩ := onBool_inv _ h (fun e => by cases e)
      rw [bif2_eq] at h
      split at h
      · exact exec_next n nt a h
      · exact exec_next n nt b h
    | block id b =>
      have h : @Res.rec (fun _ => Res) Res.fail (fun x t m => @X.rec (fun _ => Res) (.mk .norm t m) (fun i => bif2 (Nat.beq i id) (.mk .norm t m) (.mk (.exit i) t m)) (.mk .ret t m) x) (exec P S n nt b t m) = .mk x t' m' := h
      cases hr : exec P S n nt b t m with
      | fail c => rw [hr] at h; cases h
      | mk y t1 m1 =>
        rw [hr] at h
        have := exec_next n nt b hr
        cases y with
        | norm => cases h; exact this
        | ret => cases h; exact this
        | exit i =>
          have h : bif2 (Nat.beq i id) (Res.mk .norm t1 m1) (.mk (.exit i) t1 m1) = .mk x t' m' := h
          rw [bif2_eq] at h
          split at h <;> (cases h; exact this)
    | loop b => exact two (fun y t1 m1 e => exec_next n nt b e) (fun t1 m1 e => exec_next n nt (.loop b) e) h
    | exit id => cases h; exact Nat.le_refl _
    | scope b => exact exec_next n nt b h
    | label l => cases h; exact Nat.le_refl _
    | ret => cases h; exact Nat.le_refl _
    | _ => cases h
/-! ### Calls -/
/-- One result. -/
noncomputable def resV (tmps : Array Value) : ResultVar → Sem Value
  | .tmp t => pure (tmps.getD t undef)
  | .cell a t => do loadVar t (← asAddr (tmps.getD a undef))
theorem resultsA_inv {t : T AV} {m : AMem} {ρ : Ren} {w : World} (V : View ρ m w) {nt : Nat} {tmps : Array Value} (hT : TR ρ nt t tmps) {v : AV} {m' : AMem} : ∀ {rs : List ResultVar} {k : List AV → OR}, resultsA P rs t m k = .mk v m' →
    ∃ l cs, k l = .mk v m' ∧ VRs ρ l cs ∧ (rs.mapM (resV tmps)).run P w = .ok cs w
  | [], k, h => ⟨[], [], h, .nil, by simp⟩
  | .tmp i :: l, k, h => by
    have h : evK t (.tmp i) (fun v => resultsA P l t m fun vs => k (v :: vs)) = .mk v m' := h
    rw [evK_eq] at h
    obtain ⟨l1, cs, h1, h2, h3⟩ := resultsA_inv V hT h
    refine ⟨_ :: l1, tmps.getD i undef :: cs, h1, .cons _ _ _ _ (hT.rel i) h2, ?_⟩
    rw [List.mapM_cons, Sem.run_bind, show (resV tmps (.tmp i)).run P w = .ok (tmps.getD i undef) w from rfl]
    simp only [Sem.run_bind, Result.andThen_ok]
    rw [h3]; simp
  | .cell a ty :: l, k, h => by
    have h : evK t (.tmp a) (fun a => match aLoad P ty a m with
      | .mk v _ => resultsA P l t m fun vs => k (v :: vs)
      | .fail c => .fail c) = .mk v m' := h
    rw [evK_eq] at h
    cases hl : aLoad P ty (evA t (.tmp a)) m with
    | fail c => rw [hl] at h; cases h
    | mk u m1 =>
      rw [hl] at h
      obtain ⟨l1, cs, h1, h2, h3⟩ := resultsA_inv V hT (show (resultsA P l t m fun vs => k (u :: vs)) = .mk v m' from h)
      have ha : VR ρ (evA t (.tmp a)) (tmps.getD a undef) := hT.rel a
      obtain ⟨e1, vc, e2, e3⟩ := aLoad_run (P := P) V ha hl
      obtain ⟨b, off, e4, _⟩ := onPtr_inv _ hl fail_ne
      rw [e4] at ha
      refine ⟨u :: l1, vc :: cs, h1, .cons _ _ _ _ e2 h2, ?_⟩
      have hr : (resV tmps (.cell a ty)).run P w = .ok vc w := by
        show (do loadVar ty (← asAddr (tmps.getD a undef)) : Sem Value).run P w = _
        generalize tmps.getD a undef = va at *
        cases ha with
        | ptr _ _ L hL => simpa [Instr.loadAt, Instr.sureAddr, asAddr] using e3
      rw [List.mapM_cons, Sem.run_bind, hr]
      simp only [Sem.run_bind, Result.andThen_ok]
      rw [h3]; simp
theorem results_run {fn : Func} {t : T AV} {m : AMem} {ρ : Ren} {w : World} (V : View ρ m w) {nt : Nat} {tmps : Array Value} (hT : TR ρ nt t tmps) {v : AV} {m' : AMem} (h : resultsA P fn.results.toList t m (fun l => one l m) = .mk v m') :
    m' = m ∧ ∃ vc, VR ρ v vc ∧ (results fn tmps).run P w = .ok vc w := by
  obtain ⟨l, cs, h1, h2, h3⟩ := resultsA_inv (P := P) V hT h
  have hr : (results fn tmps).run P w = .ok (if h : cs.toArray.size = 1 then cs.toArray[0] else .tuple cs.toArray) w := by
    show (do let vs ← fn.results.mapM (resV tmps); pure (if h : vs.size = 1 then vs[0] else .tuple vs) : Sem Value).run P w = _
    rw [Array.mapM_eq_mapM_toList, map_eq_pure_bind]
    simp only [Sem.run_bind]
    rw [h3]
    simp
  unfold one at h1
  split at h1
  · rename_i u
    cases h1
    obtain ⟨x, rfl, hx⟩ := VRs.one' h2
    exact ⟨rfl, x, hx, hr⟩
  · rename_i hl
    cases h1
    refine ⟨rfl, .tuple cs.toArray, .tup _ _ (by simpa using h2), ?_⟩
    rw [hr]
    have : cs.toArray.size ≠ 1 := by
      intro e
      have e : cs.length = 1 := by simpa using e
      rw [← h2.length] at e
      obtain ⟨u, rfl⟩ := List.length_eq_one_iff.1 e
      exact hl u rfl
    rw [dif_neg this]
/-- The summaries hold. -/
noncomputable def SumsOK (P : Program) (S : Sums) : Prop := ∀ f s, S f = some s → ∀ args m v m', s args m = .mk v m' → ∀ (ρ : Ren) (w : World) (cs : Array Value), View ρ m w → VRs ρ args cs.toList → Fresh ρ m.next m'.next →
  ((callFunc f cs).run P w = .ok (.enter f cs) w ∧ Calls P f cs w (Post ρ m w v m')) ∨ (∃ ρ' w' vc, (callFunc f cs).run P w = .ok (.value vc) w' ∧ Step ρ m w ρ' m' w' ∧ VR ρ' v vc)
noncomputable def xOf : X → Exit
  | .norm => .normal
  | .exit i => .exit i
  | .ret => .ret
/-- What a run of the evaluator says of code. -/
noncomputable def CodeOK (P : Program) (S : Sums) (n : Nat) : Prop := ∀ (nt : Nat) (c : Code) (t : T AV) (m : AMem) (x : X) (t' : T AV) (m' : AMem), exec P S n nt c t m = .mk x t' m' → ∀ (ρ : Ren) (a : Act) (w : World), View ρ m w → TR ρ nt t a.tmps → Fresh ρ m.next m'.next →
  ∀ Q : Exit → Act → World → Prop, (∀ ρ' a' w', Step ρ m w ρ' m' w' → TR ρ' nt t' a'.tmps → a'.defers = a.defers → Q (xOf x) a' w') → c.wp P Q a w
theorem codeOf_inv {f : FuncId} {fn : Func} {c : Code} (h : codeOf P f = some (fn, c)) : P.funcs[f]? = some fn ∧ fn.body = some c ∧ (fn.name == "runtime.NumGoroutine") = false := by
  unfold codeOf at h
  split at h
  · rename_i fn' hf
    split at h
    · rename_i c' hb
      rw [bif2_eq] at h
      split at h
      · cases h
      · rename_i hn
        cases h
        exact ⟨hf, hb, by simpa using hn⟩
    · cases h
  · cases h
theorem call_ok (hS : SumsOK P S) {n : Nat} (hC : CodeOK P S n) : CallOK P (callF P S (exec P S n)) := by
  intro f args m v m' h ρ w cs V hv hf
  unfold callF at h
  cases hs : S f with
  | some s => rw [hs] at h; exact hS f s hs args m v m' h ρ w cs V hv hf
  | none =>
    rw [hs] at h
    cases hc : codeOf P f with
    | none => simp only [hc] at h; cases h
    | some fc =>
      obtain ⟨fn, c⟩ := fc
      simp only [hc] at h
      obtain ⟨h1, h2, h3⟩ := codeOf_inv hc
      rcases putK_eq (OR.fail 1001) args 0 .leaf (fun t => leaveA P fn (exec P S n (nTmps fn args.length) c t m)) with e | ⟨t, ht, e⟩
      · rw [e] at h; cases h
      · rw [e] at h
        refine .inl ⟨by have := beq_eq_false_iff_ne.1 h3; simp [callFunc, h1, h2, this], calls_of_wp h1 h2 ?_⟩
        cases hx : exec P S n (nTmps fn args.length) c t m with
        | fail q => rw [hx] at h; cases h
        | mk x t' m1 =>
          rw [hx] at h
          have hl : args.length = cs.size := by simpa using hv.length
          have hT : TR ρ (nTmps fn args.length) t (cs ++ Array.replicate (fn.ntmps - cs.size) undef) := by
            refine ⟨?_, fun i => ?_⟩
            · unfold nTmps
              rw [bif2_eq]
              split
              · rename_i q; have q : args.length < fn.ntmps := by simpa [Nat.blt_eq] using q
                simp; omega
              · rename_i q; have q : ¬ args.length < fn.ntmps := by simpa [Nat.blt_eq] using q
                simp; omega
            · rw [ht]
              by_cases hi : i < args.length
              · rw [if_pos (by omega)]
                have : args[i - 0]? = some args[i] := by simp [hi]
                obtain ⟨y, hy, hr⟩ := hv.get (i - 0) this
                rw [this]
                have hic : i < cs.size := by omega
                have hy : cs[i]? = some y := by simpa using hy
                simp [Array.getElem?_append_left hic, hy]
                exact hr
              · rw [if_neg (by omega), T.get_leaf]
                have hic : cs.size ≤ i := by omega
                have : (cs ++ Array.replicate (fn.ntmps - cs.size) undef).getD i undef = undef := by
                  simp only [Array.getD_eq_getD_getElem?, Array.getElem?_append_right hic, Array.getElem?_replicate]
                  split <;> rfl
                rw [this]
                exact VR.undef _
          have leave : ∀ (y : X), (y = .norm ∨ y = .ret) → exec P S n (nTmps fn args.length) c t m = .mk y t' m1 → resultsA P fn.results.toList t' m1 (fun l => one l m1) = .mk v m' →
              c.wp P (bodyPost P fn (Post ρ m w v m')) { tmps := cs ++ Array.replicate (fn.ntmps - cs.size) undef, defers := [] } w := fun y hy hx h => by
            have hm : m' = m1 := by
              obtain ⟨l, _, h, _, _⟩ : ∃ l, (l : List AV) = l ∧ one l m1 = .mk v m' ∧ True ∧ True := by
                clear hx
                generalize fn.results.toList = rs at h
                have : ∀ (rs : List ResultVar) (k : List AV → OR), resultsA P rs t' m1 k = .mk v m' → ∃ l, k l = .mk v m' := by
                  intro rs
                  induction rs with
                  | nil => intro k h; exact ⟨[], h⟩
                  | cons r rs ih =>
                    intro k h
                    cases r with
                    | tmp i =>
                      have h : evK t' (.tmp i) (fun v => resultsA P rs t' m1 fun vs => k (v :: vs)) = .mk v m' := h
                      rw [evK_eq] at h
                      obtain ⟨l, hl⟩ := ih _ h
                      exact ⟨_, hl⟩
                    | cell a ty =>
                      have h : evK t' (.tmp a) (fun a => match aLoad P ty a m1 with
                        | .mk v _ => resultsA P rs t' m1 fun vs => k (v :: vs)
                        | .fail c => .fail c) = .mk v m' := h
                      rw [evK_eq] at h
                      split at h
                      · obtain ⟨l, hl⟩ := ih _ h
                        exact ⟨_, hl⟩
                      · cases h
                obtain ⟨l, hl⟩ := this rs _ h
                exact ⟨l, rfl, hl, trivial, trivial⟩
              unfold one at h
              split at h <;> (cases h; rfl)
            subst hm
            refine hC _ c t m y t' m' hx ρ _ w V hT hf _ fun ρ' a' w' st hT' hd => ?_
            obtain ⟨_, vc, e1, e2⟩ := results_run (P := P) st.view hT' h
            rcases hy with rfl | rfl
            · exact ⟨hd, vc, e2, vc, ρ', rfl, st, e1⟩
            · exact ⟨hd, vc, e2, vc, ρ', rfl, st, e1⟩
          cases x with
          | norm => exact leave .norm (.inl rfl) hx h
          | exit i => cases h
          | ret => exact leave .ret (.inr rfl) hx h
theorem code_ok (hm : P.follows .mixedOrders = true) (hS : SumsOK P S) : ∀ n, CodeOK P S n ∧
    ∀ (nt : Nat) (b : Code) (t : T AV) (m : AMem) (x : X) (t' : T AV) (m' : AMem), exec P S n nt (.loop b) t m = .mk x t' m' → ∀ (ρ : Ren) (a : Act) (w : World), View ρ m w → TR ρ nt t a.tmps → Fresh ρ m.next m'.next →
      ∀ Q : Exit → Act → World → Prop, (∀ ρ' a' w', Step ρ m w ρ' m' w' → TR ρ' nt t' a'.tmps → a'.defers = a.defers → Q (xOf x) a' w') → Code.rounds P b Q n a w := by
  intro n
  induction n with
  | zero => exact ⟨fun nt c t m x t' m' h => (by cases h), fun nt c t m x t' m' h => (by cases h)⟩
  | succ n ih =>
    obtain ⟨A, B⟩ := ih
    have hcall := call_ok hS A
    have L : ∀ (nt : Nat) (b : Code) (t : T AV) (m : AMem) (x : X) (t' : T AV) (m' : AMem), exec P S (n + 1) nt (.loop b) t m = .mk x t' m' → ∀ (ρ : Ren) (a : Act) (w : World), View ρ m w → TR ρ nt t a.tmps → Fresh ρ m.next m'.next →
        ∀ Q : Exit → Act → World → Prop, (∀ ρ' a' w', Step ρ m w ρ' m' w' → TR ρ' nt t' a'.tmps → a'.defers = a.defers → Q (xOf x) a' w') → Code.rounds P b Q (n + 1) a w := by
      intro nt b t m x t' m' h ρ a w V hT hf Q hQ
      rw [exec_succ] at h
      have h : C.thenK (exec P S n nt b t m) (fun t m => exec P S n nt (.loop b) t m) = .mk x t' m' := h
      rw [rounds_succ]
      rcases thenK_inv h with ⟨t1, m1, e1, e2⟩ | ⟨e, hx⟩
      · have hl := exec_next n nt (.loop b) e2
        refine A nt b t m .norm t1 m1 e1 ρ a w V hT (hf.le hl) _ fun ρ1 a1 w1 s1 hT1 hd1 => ?_
        exact B nt b t1 m1 x t' m' e2 ρ1 a1 w1 s1.view hT1 (s1.fresh hf) Q fun ρ' a' w' s hT' hd => hQ ρ' a' w' (s1.trans s) hT' (hd.trans hd1)
      · refine A nt b t m x t' m' e ρ a w V hT hf _ fun ρ1 a1 w1 s1 hT1 hd1 => ?_
        have := hQ ρ1 a1 w1 s1 hT1 hd1
        cases x with
        | norm => exact absurd rfl hx
        | exit i => exact this
        | ret => exact this
    refine ⟨?_, L⟩
    intro nt c t m x t' m' h ρ a w V hT hf Q hQ
    cases c with
    | skip => cases h; exact wp_skip (hQ ρ a w V.refl hT rfl)
    | region id ops drawn =>
      cases drawn with
      | true =>
        have h : drawnA P (callF P S (exec P S n)) nt ops t m = .mk x t' m' := h
        obtain ⟨rfl, _, hw⟩ := drawn_wp (id := id) (Q := Q) hm hcall h V hT hf fun ρ' a' w' s hT' hd => by
          have := hQ ρ' a' w' s hT' hd
          have hx := (drawn_norm h)
          subst hx; exact this
        exact hw
      | false =>
        have h : opsA P (callF P S (exec P S n)) nt ops ops.toList t m = .mk x t' m' := h
        have hx := opsA_wp.opsA_norm h
        subst hx
        obtain ⟨_, hw⟩ := opsA_wp (Q := Q) hcall ops.toList 0 (fun j => by simp) h V hT hf fun ρ' a' w' s hT' hd => hQ ρ' a' w' s hT' hd
        refine wp_region ?_
        rw [List.range_eq_range']
        simpa using hw
    | seq c1 c2 =>
      have h : C.thenK (exec P S n nt c1 t m) (fun t m => exec P S n nt c2 t m) = .mk x t' m' := h
      refine wp_seq ?_
      rcases thenK_inv h with ⟨t1, m1, e1, e2⟩ | ⟨e, hx⟩
      · have hl := exec_next n nt c2 e2
        refine A nt c1 t m .norm t1 m1 e1 ρ a w V hT (hf.le hl) _ fun ρ1 a1 w1 s1 hT1 hd1 => ?_
        exact A nt c2 t1 m1 x t' m' e2 ρ1 a1 w1 s1.view hT1 (s1.fresh hf) Q fun ρ' a' w' s hT' hd => hQ ρ' a' w' (s1.trans s) hT' (hd.trans hd1)
      · refine A nt c1 t m x t' m' e ρ a w V hT hf _ fun ρ1 a1 w1 s1 hT1 hd1 => ?_
        have := hQ ρ1 a1 w1 s1 hT1 hd1
        cases x with
        | norm => exact absurd rfl hx
        | exit i => exact this
        | ret => exact this
    | cond v c1 c2 =>
      have h : evK t v (fun v => v.onBool (fun v => bif2 v (exec P S n nt c1 t m) (exec P S n nt c2 t m)) (.fail 1010)) = .mk x t' m' := h
      rw [evK_eq] at h
      obtain ⟨q, hq, h⟩ := onBool_inv _ h (fun e => by cases e)
      have hv := hT.ev v
      rw [hq] at hv
      cases he : a.eval v with
      | bool q' =>
        rw [he] at hv
        cases hv
        refine wp_cond he ?_
        cases q with
        | true => exact A nt c1 t m x t' m' h ρ a w V hT hf Q hQ
        | false => exact A nt c2 t m x t' m' h ρ a w V hT hf Q hQ
      | _ => rw [he] at hv; cases hv
    | block id b =>
      have h : @Res.rec (fun _ => Res) Res.fail (fun x t m => @X.rec (fun _ => Res) (.mk .norm t m) (fun i => bif2 (Nat.beq i id) (.mk .norm t m) (.mk (.exit i) t m)) (.mk .ret t m) x) (exec P S n nt b t m) = .mk x t' m' := h
      refine wp_block ?_
      cases hr : exec P S n nt b t m with
      | fail c => rw [hr] at h; cases h
      | mk y t1 m1 =>
        rw [hr] at h
        cases y with
        | norm => cases h; exact A nt b t m .norm t' m' hr ρ a w V hT hf _ fun ρ' a' w' s hT' hd => hQ ρ' a' w' s hT' hd
        | ret => cases h; exact A nt b t m .ret t' m' hr ρ a w V hT hf _ fun ρ' a' w' s hT' hd => hQ ρ' a' w' s hT' hd
        | exit i =>
          have h : bif2 (Nat.beq i id) (Res.mk .norm t1 m1) (.mk (.exit i) t1 m1) = .mk x t' m' := h
          rw [bif2_eq] at h
          split at h
          · rename_i hi
            have hi : i = id := Nat.eq_of_beq_eq_true hi
            cases h
            refine A nt b t m (.exit i) t' m' hr ρ a w V hT hf _ fun ρ' a' w' s hT' hd => ?_
            show (if i = id then Q .normal a' w' else Q (.exit i) a' w')
            rw [if_pos hi]; exact hQ ρ' a' w' s hT' hd
          · rename_i hi
            have hi : ¬ i = id := fun e => hi (by rw [e]; exact Nat.beq_refl id)
            cases h
            refine A nt b t m (.exit i) t' m' hr ρ a w V hT hf _ fun ρ' a' w' s hT' hd => ?_
            show (if i = id then Q .normal a' w' else Q (.exit i) a' w')
            rw [if_neg hi]; exact hQ ρ' a' w' s hT' hd
    | loop b => exact wp_loop_rounds (n + 1) (L nt b t m x t' m' h ρ a w V hT hf Q hQ)
    | exit id => cases h; exact wp_exit (hQ ρ a w V.refl hT rfl)
    | scope b =>
      refine wp_scope_straight (A nt b t m x t' m' h ρ a w V hT hf _ fun ρ' a' w' s hT' hd => ?_)
      have := hQ ρ' a' w' s hT' hd
      cases x <;> exact this
    | label l => cases h; exact wp_label (hQ ρ a w V.refl hT rfl)
    | ret => cases h; exact wp_ret (hQ ρ a w V.refl hT rfl)
    | _ => cases h
where
  drawn_norm {call : Call} {nt : Nat} {all : Array Oper} {t : T AV} {m : AMem} {x : X} {t' : T AV} {m' : AMem} (h : drawnA P call nt all t m = .mk x t' m') : x = .norm := by
    unfold drawnA at h
    cases hms : masks all with
    | none => rw [hms] at h; cases h
    | some ms =>
      rw [hms] at h
      exact (opsD_trace (show opsD P call nt all all.toList ms 0 t m ⟨0, 0, 0, m, [], []⟩ = .mk x t' m' from h)).1
/-- What the evaluator answers of a call holds of the program. -/
theorem call_sound (hm : P.follows .mixedOrders = true) (hS : SumsOK P S) (n : Nat) : CallOK P (call P S n) := call_ok hS (code_ok hm hS n).1
end
end Go.Ev
end
section
namespace Go.Ev
set_option linter.all false
structure InsParts where
  r0 : Code
  r1 : Code
  r2 : Code
  x : Code
  r5 : Code
  y : Code
  z : Code
  rest : Code
/-- The parts of its code: those between which the capacity is asked for. -/
noncomputable def insParts (c : Code) : Option InsParts :=
  match c with
  | .seq r0 (.seq r1 (.seq r2 (.seq x (.seq r5 (.seq y (.seq (.seq _ z) (.seq _ rest))))))) => some ⟨r0, r1, r2, x, r5, y, z, rest⟩
  | _ => none
section
variable (P : Program) (S : Sums) (n : Nat)
noncomputable def normK (r : Res) (k : T AV → AMem → OR) : OR :=
  @Res.rec (fun _ => OR) OR.fail (fun x t m => @X.rec (fun _ => OR) (k t m) (fun _ => .fail 3101) (.fail 3102) x) r
noncomputable def retK (r : Res) (k : T AV → AMem → OR) : OR :=
  @Res.rec (fun _ => OR) OR.fail (fun x t m => @X.rec (fun _ => OR) (.fail 3103) (fun _ => .fail 3104) (k t m) x) r
noncomputable def setsK (v : AV) (l : List Nat) (t : T AV) (k : T AV → OR) : OR :=
  match l with
  | [] => k t
  | i :: l => T.setK (.fail 3105) (some v) t i fun t => setsK v l t k
/-- Do the slots hold what they should? -/
noncomputable def insChk (b off len : Nat) (t : T AV) (r : OR) : OR :=
  match t.get 0, t.get 7, t.get 8 with
  | some (.slice b0 o0 l0 none), some (.int .i64 (.ofNat a)), some (.int .i64 (.ofNat n0)) => bif2 (Nat.beq b0 b && Nat.beq o0 off && Nat.beq l0 len && Nat.beq a 1 && Nat.beq n0 len && Nat.ble len 1048576) r (.fail 3106)
  | _, _, _ => .fail 3107
/-- Is it a block of one's own, of such elements? -/
noncomputable def ownK (m : AMem) (b size : Nat) (r : OR) : OR :=
  match m.t.get b with
  | some (.cells false _ E _ _) => bif2 (Nat.beq E size) r (.fail 3108)
  | _ => .fail 3109
/-- There is room: what the cells are afterwards. -/
noncomputable def insShift (nt : Nat) (p : InsParts) (size b off len : Nat) (i v : AV) (m0 : AMem) (k : List AV → OR) : OR :=
  ownK m0 b size <| elemsK m0 size len (.slice b off len none) fun old =>
  putK (.fail 3110) (old ++ repA [.any] size) off .leaf fun c0 =>
  T.setK (.fail 3111) (some (.cells false true size (Nat.add off (Nat.mul (Nat.succ len) size)) c0)) m0.t b fun mt =>
  putK (.fail 3112) [.slice b off len none, i, v] 0 .leaf fun t =>
  normK (exec P S n nt p.r0 t ⟨m0.next, mt⟩) fun t m => normK (exec P S n nt p.r1 t m) fun t m => normK (exec P S n nt p.r2 t m) fun t m => normK (exec P S n nt p.x t m) fun t m =>
  normK (exec P S n nt p.r5 t m) fun t m => normK (exec P S n nt p.y t m) fun t m =>
  insChk b off len t <| setsK .any [26, 27, 28, 29, 30] t fun t => setsK (.bool false) [31] t fun t =>
  normK (exec P S n nt p.z t m) fun t m =>
  insChk b off len t <| setsK .any [56, 57, 58, 59, 60] t fun t => setsK (.slice b off (Nat.succ len) none) [0] t fun t =>
  retK (exec P S n nt p.rest t m) fun t m1 =>
    match t.get 6 with
    | some (.slice b' off' len' none) => bif2 (Nat.beq b b' && Nat.beq off off' && Nat.beq len' (Nat.succ len) && Nat.beq m1.next m0.next) (ownK m1 b size <| elemsK m1 size (Nat.succ len) (.slice b off (Nat.succ len) none) k) (.fail 3113)
    | _ => .fail 3114
/-- There is none. -/
noncomputable def insGrow (f : FuncId) (size b off len : Nat) (i v : AV) (m : AMem) (k : List AV → OR) : OR :=
  @OR.rec (fun _ => OR) OR.fail (fun r m1 =>
    match r with
    | .slice b' off' len' none => bif2 (Nat.beq b' m.next && Nat.beq off' 0 && Nat.beq len' (Nat.succ len) && Nat.beq m1.next (Nat.succ m.next)) (ownK m1 b' size <| elemsK m1 size (Nat.succ len) (.slice b' 0 (Nat.succ len) none) k) (.fail 3115)
    | _ => .fail 3116) (callF P S (exec P S n) f [.slice b off len (some len), i, v] m)
/-- The memory of these two alone. -/
noncomputable def twoK (m : AMem) (b vb : Nat) (k : AMem → OR) : OR :=
  match m.t.get b, m.t.get vb with
  | some x, some y => T.setK (.fail 3117) (some x) .leaf b fun t => T.setK (.fail 3118) (some y) t vb fun t => k ⟨m.next, t⟩
  | _, _ => .fail 3119
noncomputable def insMid (f : FuncId) (fc : Func × Code) (size b off len : Nat) (i : AV) (vb : Nat) (v : AV) (m : AMem) : OR :=
  match insParts fc.2 with
  | none => .fail 3120
  | some p => bif2 (Nat.beq b vb) (.fail 3121) (twoK m b vb fun m2 =>
    insGrow P S n f size b off len i v m2 fun l1 => insShift P S n (nTmps fc.1 3) p size b off len i v m2 fun l2 =>
      bif2 (eqV.eqVs 1000 l1 l2) (T.setK (.fail 3122) none m.t b fun t => T.setK (.fail 3123) none t vb fun t => growA size l1 (Nat.succ len) ⟨m.next, t⟩) (.fail 3124))
noncomputable def insertSum (f : FuncId) (size : Nat) (args : List AV) (m : AMem) : OR :=
  match args with
  | [.slice b off len none, .int k (.ofNat i), .slice vb voff vl vc] =>
    bif2 (Nat.blt i len) (match codeOf P f with
      | some fc => insMid P S n f fc size b off len (.int k (.ofNat i)) vb (.slice vb voff vl vc) m
      | none => .fail 3125) (callF P S (exec P S n) f args m)
  | _ => callF P S (exec P S n) f args m
end
end Go.Ev
end
section
namespace Go.Ev
set_option linter.all false
noncomputable def strsK (m : AMem) : List AV → Option (List (List Nat))
  | [] => some []
  | .str s :: l => match strsK m l with | some r => some (s :: r) | none => none
  | _ => none
noncomputable def joinL (sep : List Nat) : List (List Nat) → List Nat
  | [] => []
  | [a] => a
  | a :: l => a ++ sep ++ joinL sep l
noncomputable def joinSum (args : List AV) (m : AMem) : OR :=
  match args with
  | [.slice b off n cap, .str sep] => bif2 (Nat.ble n 1048576) (elemsK m 1 n (.slice b off n cap) fun l => match strsK m l with
      | some ss => fList (joinL sep ss) fun s => bif2 (Nat.ble s.length 1048576) (.mk (.str s) m) (.fail 3019)
      | none => .fail 3020) (.fail 3018)
  | [.nils, .str _] => .mk (.str []) m
  | [.emp, .str _] => .mk (.str []) m
  | _ => .fail 3022
noncomputable def idxGo (c : Nat) : List Nat → Nat → Int
  | [], _ => -1
  | a :: l, i => bif Nat.beq a c then .ofNat i else idxGo c l (Nat.succ i)
noncomputable def indexByteSum (args : List AV) (m : AMem) : OR :=
  match args with
  | [.str s, .int .u8 (.ofNat c)] => bif2 (Nat.blt c 256) (fInt (idxGo c s 0) fun n => .mk (.int .i64 n) m) (.fail 3031)
  | _ => .fail 3030
/-- A function without parameters that answers true and leaves memory alone. -/
noncomputable def begunSum (args : List AV) (m : AMem) : OR :=
  match args with
  | [] => .mk (.bool true) m
  | _ => .fail 3040
/-- slices.overlaps, of slices of unlike arrays. -/
noncomputable def overSum (args : List AV) (m : AMem) : OR :=
  match args with
  | [.slice b _ _ _, .slice c _ _ _] => match m.t.get b, m.t.get c with
    | some (.cells _ false _ (Nat.succ _) _), some (.cells false _ _ (Nat.succ _) _) => bif2 (Nat.beq b c) (.fail 3050) (.mk (.bool false) m)
    | _, _ => .fail 3051
  | _ => .fail 3052
noncomputable def sumsI (over : FuncId) : Sums := fun f => bif2 (Nat.beq f over) (some overSum) none
noncomputable def sums0 (P : Program) : Sums := fun f => match f with
  | 64 => some (insertSum P (sumsI 75) 60 64 2)
  | 80 => some (insertSum P (sumsI 88) 60 80 1)
  | 175 => some joinSum
  | 177 => some indexByteSum
  | _ => none
end Go.Ev
end
section
namespace Go.Ev
set_option linter.all false
section
variable {P : Program}
/-- A summary holds of a function. -/
noncomputable def SumOK (P : Program) (f : FuncId) (s : List AV → AMem → OR) : Prop := ∀ args m v m', s args m = .mk v m' → ∀ (ρ : Ren) (w : World) (cs : Array Value), View ρ m w → VRs ρ args cs.toList → Fresh ρ m.next m'.next →
  ((callFunc f cs).run P w = .ok (.enter f cs) w ∧ Calls P f cs w (Post ρ m w v m')) ∨ (∃ ρ' w' vc, (callFunc f cs).run P w = .ok (.value vc) w' ∧ Step ρ m w ρ' m' w' ∧ VR ρ' v vc)
theorem idxGo_eq (c : UInt8) : ∀ (l : List UInt8) (i : Nat), idxGo c.toNat (l.map UInt8.toNat) i = if Lib.indexByte l c = -1 then -1 else (i : Int) + Lib.indexByte l c
  | [], i => rfl
  | b :: l, i => by
    have hge := Lib.indexByte_ge l c
    have hcons : Lib.indexByte (b :: l) c = if b == c then 0 else if Lib.indexByte l c == -1 then -1 else Lib.indexByte l c + 1 := rfl
    have hbc : Nat.beq b.toNat c.toNat = (b == c) := by
      rw [Bool.eq_iff_iff]
      constructor
      · intro h; rw [UInt8.toNat_inj.1 (Nat.eq_of_beq_eq_true h)]; simp
      · intro h; rw [eq_of_beq h]; exact Nat.beq_refl _
    show (bif Nat.beq b.toNat c.toNat then Int.ofNat i else idxGo c.toNat (l.map UInt8.toNat) (i + 1)) = _
    rw [hbc, idxGo_eq c l (i + 1), hcons]
    cases hb : b == c with
    | true => simp
    | false =>
      simp only [cond_false, Bool.false_eq_true, if_false, beq_iff_eq]
      generalize Lib.indexByte l c = q at *
      by_cases h : q = -1
      · simp [h]
      · rw [if_neg h, if_neg h, if_neg (by omega)]
        omega
theorem indexByteSum_ok {f : FuncId} {fn : Func} (hf : P.funcs[f]? = some fn) (hname : (fn.name == "runtime.NumGoroutine") = false) (hb : fn.body.isNone = true) (hn : Extern.findNext fn = none)
    (he : Extern.find fn = some Extern.BytealgIndexByte.indexByte) : SumOK P f indexByteSum := by
  intro args m v m' h ρ w cs V hv hfr
  unfold indexByteSum at h
  split at h
  · rename_i s c
    rw [bif2_eq] at h
    split at h
    · rename_i hc
      have hc : c < 256 := by simpa [Nat.blt_eq] using hc
      rw [fInt_eq] at h
      cases h
      obtain ⟨x, y, hcs, hx, hy⟩ := VRs.two hv
      obtain ⟨z, rfl, hz⟩ := str_inv hx
      cases hy
      have e : cs = #[.string z, .int .u8 (Int.ofNat c)] := by apply Array.ext'; simpa using hcs
      subst e
      refine .inr ⟨ρ, w, .int .i64 (idxGo c s 0), ?_, V.refl, .int _ _⟩
      rw [run_callFunc_extern hf hname hb hn he, run_indexByte_string, Lib.firstIdx_eq]
      have e2 : (Int.ofNat c).toNat.toUInt8.toNat = c := by
        show (UInt8.ofNat c).toNat = c
        simp; omega
      have := idxGo_eq (Int.ofNat c).toNat.toUInt8 z.data.toList 0
      rw [e2, hz] at this
      rw [this]
      simp only [Result.andThen]
      have hge := Lib.indexByte_ge z.data.toList (Int.ofNat c).toNat.toUInt8
      split
      · rename_i q; rw [q]
      · simp
    · cases h
  · cases h
/-- A run that began without memory, beside a memory. -/
theorem GStep.frame {ρ ρ0 ρ1 : Ren} {m : AMem} {w w' : World} {lo hi : Nat} {g : Nat → Option Blk} (S : GStep ρ0 (T.leaf : T Blk).get lo w ρ1 g hi w') (V : View ρ m w) : Step ρ m w ρ m w' where
  ren _ _ := rfl
  le := Nat.le_refl _
  sim := ⟨fun b x hb => (V.sim.blk b x hb).mono (fun _ _ e => e) fun L e => S.keeps _ (by obtain ⟨L', e1, e2⟩ := (V.sim.blk b x hb).loc; rw [e] at e1; cases e1; exact e2) (fun b x L h => by cases h), V.sim.sep⟩
  wf := V.wf
  img b x L h1 h2 h3 := .inr ⟨b, x, L, h1, h2, h3, rfl⟩
  imgR b x L h1 h3 := .inr ⟨b, x, L, h1, h3, rfl⟩
  keeps k hk _ := S.keeps k hk (fun b x L h => by cases h)
  size := S.size
  os := S.os
  tape := S.tape
  output := S.output
theorem codeOf_enter {f : FuncId} (h : (codeOf P f).isSome = true) (cs : Array Value) (w : World) : (callFunc f cs).run P w = .ok (.enter f cs) w := by
  cases hc : codeOf P f with
  | none => rw [hc] at h; cases h
  | some fc =>
    obtain ⟨fn, c⟩ := fc
    obtain ⟨h1, h2, h3⟩ := codeOf_inv hc
    have := beq_eq_false_iff_ne.1 h3
    simp [callFunc, h1, h2, this]
/-- A run from nothing, said of any world. -/
theorem run_closed {S : Sums} (hm : P.follows .mixedOrders = true) (hS : SumsOK P S) {f : FuncId} (hs : S f = none) {n : Nat} {b : Bool} {m1 : AMem} (h : call P S n f [] ⟨0, .leaf⟩ = .mk (.bool b) m1) (w : World) :
    Calls P f #[] w fun e w' => e = .returned (.bool b) ∧ ∃ ρ, GStep (fun _ => none) (T.leaf : T Blk).get 0 w ρ m1.t.get m1.next w' := by
  rcases call_sound hm hS n f [] ⟨0, .leaf⟩ _ _ h (fun _ => none) w #[] (View.leaf _ _ _) .nil (fun _ _ _ => rfl) with ⟨_, hc⟩ | ⟨ρ', w', vc, hr, _, _⟩
  · refine hc.mono fun e w' ⟨vc, ρ', he, hs, hv⟩ => ?_
    cases hv
    exact ⟨he, ρ', hs⟩
  · -- it is code
    exfalso
    unfold call callF at h
    rw [hs] at h
    cases hc : codeOf P f with
    | none => simp only [hc] at h; cases h
    | some fc =>
      rw [codeOf_enter (by rw [hc]; rfl)] at hr
      cases hr
theorem begunSum_ok {S : Sums} (hm : P.follows .mixedOrders = true) (hS : SumsOK P S) {f : FuncId} (hs : S f = none) {n : Nat} {m1 : AMem} (h : call P S n f [] ⟨0, .leaf⟩ = .mk (.bool true) m1) : SumOK P f begunSum := by
  intro args m v m' h2 ρ w cs V hv hfr
  unfold begunSum at h2
  split at h2
  · cases h2
    have e : cs = #[] := by
      apply Array.ext'
      cases hcs : cs.toList with
      | nil => rfl
      | cons x l => rw [hcs] at hv; cases hv
    subst e
    refine .inl ⟨?_, (run_closed hm hS hs h w).mono fun e w' ⟨he, ρ', s⟩ => ⟨.bool true, ρ, he, s.frame V, .bool _⟩⟩
    refine codeOf_enter ?_ _ _
    unfold call callF at h
    rw [hs] at h
    cases hc : codeOf P f with
    | none => simp only [hc] at h; cases h
    | some fc => rfl
  · cases h2
end
end Go.Ev
end
