/- A region whose order is drawn: what a run of it in the order of the text finds. -/
import Derived.Test.YtkobbfimabpfeaaGreatDoorEvM
namespace Go.Ev

section
variable {P : Program} {call : Call} {nt : Nat} {all : Array Oper}

theorem dstK_get {dst : Option Tmp} {v : AV} {t : T AV} {k : T AV → Res} {x : X} {t' : T AV} {m' : AMem} (h : dstK nt dst v t k = .mk x t' m') :
    ∃ t1, k t1 = .mk x t' m' ∧ (∀ d, dst = some d → d < nt) ∧ ∀ u, t1.get u = if dst = some u then some v else t.get u := by
  cases dst with
  | none => exact ⟨t, h, fun d e => (by cases e), fun u => by simp⟩
  | some d =>
    have h : bif2 (Nat.blt d nt) (T.setK (.fail 121) (some v) t d k) (.fail 122) = .mk x t' m' := h
    rw [bif2_eq] at h
    split at h
    · rename_i hd
      have hd : d < nt := by simpa [Nat.blt_eq] using hd
      rcases T.setK_eq (Res.fail 121) (some v) t d k with e | ⟨t1, ht, e⟩
      · rw [e] at h; cases h
      · rw [e] at h
        refine ⟨t1, h, fun d' e => (by cases e; exact hd), fun u => ?_⟩
        rw [ht]
        by_cases hu : u = d
        · subst hu; simp
        · rw [if_neg hu, if_neg (fun e => hu (by cases e; rfl))]
    · cases h

/-- What one operation does. -/
inductive Did (P : Program) (call : Call) (o : Op) (a j : Nat) (t : T AV) (m : AMem) (d : DSt) (v : AV) : Bool → Bool → Option Blk → AMem → DSt → Prop
  | skip (hv : v = .undef) : Did P call o a j t m d v false false none m d
  | pure (h : opTab o P call t ⟨m.next, .leaf⟩ = .mk v ⟨m.next, .leaf⟩) : Did P call o a j t m d v true false none m d
  | alloc (y : Blk) (t2 : T Blk) (tr : T Blk) (h : opTab o P call t ⟨m.next, .leaf⟩ = .mk v ⟨m.next + 1, t2⟩) (hy : t2.get m.next = some y) (ht : ∀ i, tr.get i = if i = m.next then some y else m.t.get i) :
      Did P call o a j t m d v true false (some y) ⟨m.next + 1, tr⟩ ⟨d.als ||| (1 <<< j), d.alc ||| (1 <<< j), d.hv, d.base, d.st, d.pend⟩
  | read (hk : opKind o = 1) (h : opTab o P call t m = .mk v m) (hb : subA d.alc a = true ∨ readsA P call o t d.base v = true) (hc : atCuts P call o t v a d.st = true) :
      Did P call o a j t m d v true false none m ⟨d.als, d.alc, d.hv, d.base, d.st, ⟨j, o, t, v⟩ :: d.pend⟩
  | heavy (m1 : AMem) (pend : List Pend) (h1 : subA d.hv a = true) (h2 : subA d.als a = true) (h : opTab o P call t m = .mk v m1) (hn : m.next ≤ m1.next)
      (hp : ∀ p ∈ d.pend, bitA a p.j = true ∨ (readsA P call p.op p.t m1 p.v = true ∧ p ∈ pend)) :
      Did P call o a j t m d v true true none m1 ⟨d.als, 0, d.hv ||| (1 <<< j), m1, (j, d.base) :: d.st, pend⟩

theorem pendK_inv {a : Nat} {m : AMem} {x : X} {t' : T AV} {m' : AMem} : ∀ {l : List Pend} {k : List Pend → Res}, pendK P call a m l k = .mk x t' m' →
    ∃ l', k l' = .mk x t' m' ∧ ∀ p ∈ l, bitA a p.j = true ∨ (readsA P call p.op p.t m p.v = true ∧ p ∈ l')
  | [], k, h => ⟨[], h, fun p hp => by cases hp⟩
  | q :: l, k, h => by
    have h : bif2 (bitA a q.j) (pendK P call a m l k) (bif2 (readsA P call q.op q.t m q.v) (pendK P call a m l fun l => k (q :: l)) (.fail 131)) = .mk x t' m' := h
    rw [bif2_eq, bif2_eq] at h
    split at h
    · rename_i hb
      obtain ⟨l', h1, h2⟩ := pendK_inv h
      refine ⟨l', h1, fun p hp => ?_⟩
      rcases List.mem_cons.1 hp with rfl | hp
      · exact .inl hb
      · exact h2 p hp
    · split at h
      · rename_i hr
        obtain ⟨l', h1, h2⟩ := pendK_inv h
        refine ⟨q :: l', h1, fun p hp => ?_⟩
        rcases List.mem_cons.1 hp with rfl | hp
        · exact .inr ⟨hr, by simp⟩
        · exact (h2 p hp).imp id fun ⟨a, b⟩ => ⟨a, List.mem_cons_of_mem _ b⟩
      · cases h

theorem isLeaf_eq {t : T Blk} (h : isLeaf t = true) : t = .leaf := by cases t <;> first | rfl | cases h

theorem goD_inv {dst : Option Tmp} {op : Op} {a j : Nat} {t : T AV} {m : AMem} {d : DSt} {k : KD} {x : X} {t' : T AV} {m' : AMem} (h : goD P call nt dst op a j t m d k = .mk x t' m') :
    ∃ v hv y t1 m1 d1, Did P call op a j t m d v true hv y m1 d1 ∧ k t1 m1 d1 = .mk x t' m' ∧ (∀ d, dst = some d → d < nt) ∧ ∀ u, t1.get u = if dst = some u then some v else t.get u := by
  unfold goD at h
  rw [bif2_eq] at h
  split at h
  · -- one that turns memory
    unfold heavyD at h
    rw [bif2_eq, bif2_eq] at h
    split at h
    · rename_i h1
      split at h
      · rename_i h2
        cases ho : opTab op P call t m with
        | fail c => rw [ho] at h; cases h
        | mk v m1 =>
          rw [ho] at h
          have h : bif2 (Nat.ble m.next m1.next) (pendK P call a m1 d.pend fun pend => dstK nt dst v t fun t => fNat (Nat.lor d.hv (Nat.shiftLeft 1 j)) fun hv => k t m1 ⟨d.als, 0, hv, m1, (j, d.base) :: d.st, pend⟩) (.fail 132) = .mk x t' m' := h
          rw [bif2_eq] at h
          split at h
          · rename_i h3
            obtain ⟨pend, h, hp⟩ := pendK_inv h
            obtain ⟨t1, h, h4, h5⟩ := dstK_get h
            rw [fNat_eq] at h
            exact ⟨v, true, none, t1, m1, _, .heavy m1 pend h1 h2 ho (by simpa [Nat.ble_eq] using h3) hp, h, h4, h5⟩
          · cases h
      · cases h
    · cases h
  · cases ho : opTab op P call t ⟨m.next, .leaf⟩ with
    | fail c =>
      rw [ho] at h
      have h : readD P call nt dst op a j t m d k = .mk x t' m' := h
      unfold readD at h
      rw [bif2_eq] at h
      split at h
      · rename_i hk
        have hk : opKind op = 1 := Nat.eq_of_beq_eq_true hk
        cases ho2 : opTab op P call t m with
        | fail c => rw [ho2] at h; cases h
        | mk v m1 =>
          rw [ho2] at h
          have h : bif2 (Nat.beq m1.next m.next) (bif2 (bif2 (subA d.alc a) true (readsA P call op t d.base v)) (bif2 (atCuts P call op t v a d.st)
            (dstK nt dst v t fun t1 => k t1 m ⟨d.als, d.alc, d.hv, d.base, d.st, ⟨j, op, t, v⟩ :: d.pend⟩) (.fail 135)) (.fail 136)) (.fail 137) = .mk x t' m' := h
          rw [bif2_eq, bif2_eq, bif2_eq (atCuts P call op t v a d.st)] at h
          split at h
          · rename_i h1
            have e := reads_keeps hk t m v m1 ho2 (Nat.eq_of_beq_eq_true h1)
            subst e
            split at h
            · rename_i h2
              split at h
              · rename_i h3
                obtain ⟨t1, h, h4, h5⟩ := dstK_get h
                refine ⟨v, false, none, t1, _, _, .read hk ho2 ?_ h3, h, h4, h5⟩
                cases hs : subA d.alc a with
                | true => exact .inl rfl
                | false => rw [hs] at h2; exact .inr h2
              · cases h
            · cases h
          · cases h
      · cases h
    | mk v m1 =>
      rw [ho] at h
      replace h : bif2 (Nat.beq m1.next m.next) (bif2 (isLeaf m1.t) (dstK nt dst v t fun t => k t m d) (.fail 140))
        (bif2 (Nat.beq m1.next (Nat.succ m.next)) (@Option.rec Blk (fun _ => Res) (.fail 141) (newD nt dst v j t m d k) (m1.t.get m.next)) (.fail 142)) = .mk x t' m' := h
      obtain ⟨n1, tr1⟩ := m1
      rw [bif2_eq, bif2_eq, bif2_eq] at h
      split at h
      · rename_i h1
        have h1 : n1 = m.next := Nat.eq_of_beq_eq_true h1
        subst h1
        split at h
        · rename_i h2
          have h2 : tr1 = .leaf := isLeaf_eq h2
          subst h2
          obtain ⟨t1, h, h4, h5⟩ := dstK_get h
          exact ⟨v, false, none, t1, m, d, .pure ho, h, h4, h5⟩
        · cases h
      · split at h
        · rename_i h2
          have h2 : n1 = m.next + 1 := Nat.eq_of_beq_eq_true h2
          subst h2
          cases hg : tr1.get m.next with
          | none => simp only [hg] at h; cases h
          | some y =>
            simp only [hg] at h
            have h : newD nt dst v j t m d k y = .mk x t' m' := h
            unfold newD at h
            rcases T.setK_eq (Res.fail 139) (some y) m.t m.next (fun tr => fNat (Nat.succ m.next) fun nx => dstK nt dst v t fun t => fNat (Nat.lor d.als (Nat.shiftLeft 1 j)) fun als => fNat (Nat.lor d.alc (Nat.shiftLeft 1 j)) fun alc =>
              k t ⟨nx, tr⟩ ⟨als, alc, d.hv, d.base, d.st, d.pend⟩) with e | ⟨tr, htr, e⟩
            · rw [e] at h; cases h
            · rw [e, fNat_eq] at h
              obtain ⟨t1, h, h4, h5⟩ := dstK_get h
              rw [fNat_eq, fNat_eq] at h
              exact ⟨v, false, some y, t1, _, _, .alloc y tr1 tr ho hg htr, h, h4, h5⟩
        · cases h

theorem regD_inv {o : Oper} {a j : Nat} {t : T AV} {m : AMem} {d : DSt} {k : KD} {x : X} {t' : T AV} {m' : AMem} (h : regD P call nt all o a j t m d k = .mk x t' m') :
    ∃ b v hv y t1 m1 d1, (match o.guard with | none => some true | some g => wantedA all t g.1 g.2) = some b ∧ Did P call o.op a j t m d v b hv y m1 d1 ∧ k t1 m1 d1 = .mk x t' m' ∧ (∀ d, o.dst = some d → d < nt) ∧
      ∀ u, t1.get u = if o.dst = some u then some v else t.get u := by
  obtain ⟨dst, op, ty, pos, after, guard⟩ := o
  cases guard with
  | none =>
    obtain ⟨v, hv, y, t1, m1, d1, h1, h2, h3, h4⟩ := goD_inv (show goD P call nt dst op a j t m d k = .mk x t' m' from h)
    exact ⟨true, v, hv, y, t1, m1, d1, rfl, h1, h2, h3, h4⟩
  | some g =>
    have h : @Option.rec Bool (fun _ => Res) (.fail 143) (fun w => bif2 w (goD P call nt dst op a j t m d k) (dstK nt dst .undef t fun t => k t m d)) (wantedA all t g.1 g.2) = .mk x t' m' := h
    cases hw : wantedA all t g.1 g.2 with
    | none => rw [hw] at h; cases h
    | some b =>
      rw [hw] at h
      cases b with
      | true =>
        obtain ⟨v, hv, y, t1, m1, d1, h1, h2, h3, h4⟩ := goD_inv (show goD P call nt dst op a j t m d k = .mk x t' m' from h)
        exact ⟨true, v, hv, y, t1, m1, d1, hw, h1, h2, h3, h4⟩
      | false =>
        obtain ⟨t1, h1, h2, h3⟩ := dstK_get (show (dstK nt dst .undef t fun t => k t m d) = .mk x t' m' from h)
        exact ⟨false, .undef, false, none, t1, m, d, hw, .skip rfl, h1, h2, h3⟩

/-- A run of the region in the order of the text. -/
structure Trace where
  tt : Nat → T AV
  mm : Nat → AMem
  dd : Nat → DSt
  vv : Nat → AV
  bb : Nat → Bool
  hv : Nat → Bool
  al : Nat → Option Blk

noncomputable def Trace.push (R : Trace) (t : T AV) (m : AMem) (d : DSt) (v : AV) (b h : Bool) (y : Option Blk) : Trace where
  tt i := match i with | 0 => t | i + 1 => R.tt i
  mm i := match i with | 0 => m | i + 1 => R.mm i
  dd i := match i with | 0 => d | i + 1 => R.dd i
  vv i := match i with | 0 => v | i + 1 => R.vv i
  bb i := match i with | 0 => b | i + 1 => R.bb i
  hv i := match i with | 0 => h | i + 1 => R.hv i
  al i := match i with | 0 => y | i + 1 => R.al i

/-- What holds at each place of a run that begins at the place j. -/
noncomputable def Trace.At (P : Program) (call : Call) (nt : Nat) (all : Array Oper) (R : Trace) (j i : Nat) (o : Oper) (a : Nat) : Prop :=
  (match o.guard with | none => some true | some g => wantedA all (R.tt i) g.1 g.2) = some (R.bb i) ∧ Did P call o.op a (j + i) (R.tt i) (R.mm i) (R.dd i) (R.vv i) (R.bb i) (R.hv i) (R.al i) (R.mm (i + 1)) (R.dd (i + 1)) ∧
    (∀ d, o.dst = some d → d < nt) ∧ ∀ u, (R.tt (i + 1)).get u = if o.dst = some u then some (R.vv i) else (R.tt i).get u

theorem opsD_trace : ∀ {l : List Oper} {ms : List Nat} {j : Nat} {t : T AV} {m : AMem} {d : DSt} {x : X} {t' : T AV} {m' : AMem}, opsD P call nt all l ms j t m d = .mk x t' m' →
    x = .norm ∧ ∃ R : Trace, R.tt 0 = t ∧ R.mm 0 = m ∧ R.dd 0 = d ∧ R.tt l.length = t' ∧ R.mm l.length = m' ∧ (∀ i, l.length ≤ i → R.hv i = false ∧ R.al i = none) ∧ ∀ i o, l[i]? = some o → ∃ a, ms[i]? = some a ∧ R.At P call nt all j i o a
  | [], ms, j, t, m, d, x, t', m', h => by
    cases h
    exact ⟨rfl, ⟨fun _ => t, fun _ => m, fun _ => d, fun _ => .undef, fun _ => false, fun _ => false, fun _ => none⟩, rfl, rfl, rfl, rfl, rfl, fun i _ => ⟨rfl, rfl⟩, fun i o e => by cases e⟩
  | o :: l, [], j, t, m, d, x, t', m', h => by cases h
  | o :: l, a :: ms, j, t, m, d, x, t', m', h => by
    have h : regD P call nt all o a j t m d (fun t m d => fNat (Nat.succ j) fun j => opsD P call nt all l ms j t m d) = .mk x t' m' := h
    obtain ⟨b, v, hv, y, t1, m1, d1, h1, h2, h3, h4, h5⟩ := regD_inv h
    rw [fNat_eq] at h3
    obtain ⟨hx, R, e1, e2, e3, e4, e5, e7, e6⟩ := opsD_trace h3
    refine ⟨hx, R.push t m d v b hv y, rfl, rfl, rfl, e4, e5, fun i hi => ?_, fun i q e => ?_⟩
    · cases i with
      | zero => simp at hi
      | succ i => exact e7 i (by simpa using hi)
    cases i with
    | zero =>
      cases e
      refine ⟨a, rfl, h1, ?_, h4, fun u => ?_⟩
      · show Did P call o.op a (j + 0) t m d v b hv y (R.mm 0) (R.dd 0)
        rw [e2, e3]; exact h2
      · show (R.tt 0).get u = _
        rw [e1]; exact h5 u
    | succ i =>
      obtain ⟨a', ha, q1, q2, q3, q4⟩ := e6 i q (by simpa using e)
      refine ⟨a', by simpa using ha, q1, ?_, q3, q4⟩
      have e : j + (i + 1) = j + 1 + i := by omega
      show Did P call q.op a' (j + (i + 1)) (R.tt i) (R.mm i) (R.dd i) (R.vv i) (R.bb i) (R.hv i) (R.al i) (R.mm (i + 1)) (R.dd (i + 1))
      rw [e]; exact q2

end
end Go.Ev
