/- A region whose order is drawn: what its run in the order of the text says of all orders. -/
import Derived.Test.YtkobbfimabpfeaaGreatDoorEvR
namespace Go.Ev

section
variable {P : Program} {call : Call} {nt : Nat} {all : Array Oper}

/-- Where memory stands: ahead of all, or behind one that turns it. -/
noncomputable def Cut (hv : Nat → Bool) (s : Nat) : Prop := s = 0 ∨ ∃ h, hv h = true ∧ s = h + 1

/-- What one operation does, wherever it comes. -/
inductive Kind (P : Program) (call : Call) (R : Trace) (anc : Nat → Nat → Prop) (j : Nat) (o : Op) : Prop
  | skip (hb : R.bb j = false) (hv : R.vv j = .undef) (hm : R.mm (j + 1) = R.mm j) (hh : R.hv j = false) (ha : R.al j = none)
  | pure (hb : R.bb j = true) (hm : R.mm (j + 1) = R.mm j) (hh : R.hv j = false) (ha : R.al j = none) (h : opTab o P call (R.tt j) ⟨(R.mm j).next, .leaf⟩ = .mk (R.vv j) ⟨(R.mm j).next, .leaf⟩)
  | alloc (hb : R.bb j = true) (hh : R.hv j = false) (y : Blk) (t2 : T Blk) (ha : R.al j = some y) (h : opTab o P call (R.tt j) ⟨(R.mm j).next, .leaf⟩ = .mk (R.vv j) ⟨(R.mm j).next + 1, t2⟩) (hy : t2.get (R.mm j).next = some y)
      (hn : (R.mm (j + 1)).next = (R.mm j).next + 1) (ht : ∀ i, (R.mm (j + 1)).t.get i = if i = (R.mm j).next then some y else (R.mm j).t.get i)
  | read (hb : R.bb j = true) (hm : R.mm (j + 1) = R.mm j) (hh : R.hv j = false) (ha : R.al j = none)
      (h : ∀ s, Cut R.hv s → (∀ h, R.hv h = true → h < s → ¬ anc h j) → (∀ h, R.hv h = true → s ≤ h → ¬ anc j h) → ∃ μ, opTab o P call (R.tt j) μ = .mk (R.vv j) μ ∧
        (μ = R.mm s ∨ (s ≤ j ∧ μ = R.mm j ∧ (∀ h, R.hv h = true → s ≤ h → j ≤ h) ∧ ∀ i y, s ≤ i → i < j → R.al i = some y → anc j i)))
  | heavy (hb : R.bb j = true) (hh : R.hv j = true) (ha : R.al j = none) (h : opTab o P call (R.tt j) (R.mm j) = .mk (R.vv j) (R.mm (j + 1))) (hn : (R.mm j).next ≤ (R.mm (j + 1)).next)

structure Facts (P : Program) (call : Call) (nt : Nat) (all : Array Oper) (R : Trace) (anc : Nat → Nat → Prop) : Prop where
  masks : MasksOK all anc
  dlt : ∀ (j : Nat) (o : Oper) d, all[j]? = some o → o.dst = some d → d < nt
  tset : ∀ (j : Nat) (o : Oper) u, all[j]? = some o → (R.tt (j + 1)).get u = if o.dst = some u then some (R.vv j) else (R.tt j).get u
  want : ∀ (j : Nat) (o : Oper), all[j]? = some o → (match o.guard with | none => some true | some g => wantedA all (R.tt j) g.1 g.2) = some (R.bb j)
  kind : ∀ (j : Nat) (o : Oper), all[j]? = some o → Kind P call R anc j o.op
  size : ∀ h, R.hv h = true → h < all.size
  asize : ∀ i y, R.al i = some y → i < all.size
  heav : ∀ h h', R.hv h = true → R.hv h' = true → h < h' → anc h' h
  hal : ∀ h i y, R.hv h = true → i < h → R.al i = some y → anc h i

theorem readsA_eq {o : Op} (hk : opKind o = 1) {t : T AV} {m : AMem} {v : AV} (h : readsA P call o t m v = true) : opTab o P call t m = .mk v m := by
  unfold readsA at h
  cases ho : opTab o P call t m with
  | fail c => rw [ho] at h; cases h
  | mk u m1 =>
    rw [ho] at h
    have h : bif2 (Nat.beq m1.next m.next) (eqV 40 u v) false = true := h
    obtain ⟨h1, h2⟩ := bif2_and h
    rw [reads_keeps hk t m u m1 ho (Nat.eq_of_beq_eq_true h1), eqV_eq h2]

theorem atCuts_app {o : Op} {t : T AV} {v : AV} {a : Nat} {c : Nat × AMem} {l2 : List (Nat × AMem)} : ∀ {l1 : List (Nat × AMem)}, atCuts P call o t v a (l1 ++ c :: l2) = true →
    (∀ q ∈ l1, bitA a q.1 = false) → bitA a c.1 = false → readsA P call o t c.2 v = true
  | [], h, _, hc => by
    have h : bif2 (bitA a c.1) true (bif2 (readsA P call o t c.2 v) (atCuts P call o t v a l2) false) = true := h
    rw [hc] at h
    exact (bif2_and h).1
  | q :: l1, h, hl, hc => by
    have h : bif2 (bitA a q.1) true (bif2 (readsA P call o t q.2 v) (atCuts P call o t v a (l1 ++ c :: l2)) false) = true := h
    rw [hl q (by simp)] at h
    exact atCuts_app (bif2_and h).2 (fun q hq => hl q (by simp [hq])) hc

/-- What the run knows at each place of what was ahead of it. -/
structure Known (all : Array Oper) (R : Trace) (anc : Nat → Nat → Prop) (j : Nat) (d : DSt) : Prop where
  als : ∀ i y, i < j → R.al i = some y → d.als.testBit i = true
  alc : ∀ i y, i < j → R.al i = some y → (∀ h, R.hv h = true → i ≤ h → j ≤ h) → d.alc.testBit i = true
  hv : ∀ h, h < j → R.hv h = true → d.hv.testBit h = true
  base : ∀ s, Cut R.hv s → s ≤ j → (∀ h, R.hv h = true → s ≤ h → j ≤ h) → d.base = R.mm s
  st : ∀ s h, Cut R.hv s → R.hv h = true → s ≤ h → h < j → (∀ h', R.hv h' = true → s ≤ h' → h ≤ h') → ∃ l1 l2, d.st = l1 ++ (h, R.mm s) :: l2 ∧ ∀ c ∈ l1, R.hv c.1 = true ∧ h < c.1

variable {R : Trace} {ms : List Nat}

theorem facts_of (hms : masks all = some ms) (hout : ∀ i, all.size ≤ i → R.hv i = false ∧ R.al i = none)
    (h0 : R.dd 0 = ⟨0, 0, 0, R.mm 0, [], []⟩)
    (HT : ∀ (i : Nat) (o : Oper), all[i]? = some o → ∃ a, ms[i]? = some a ∧ R.At P call nt all 0 i o a) :
    Facts P call nt all R fun j i => ∃ a, ms[j]? = some a ∧ Nat.testBit a i = true := by
  obtain ⟨hlen, hM⟩ := masks_ok hms
  have hsz : ∀ h, R.hv h = true → h < all.size := fun h hh => by
    rcases Nat.lt_or_ge h all.size with q | q
    · exact q
    · rw [(hout h q).1] at hh; cases hh
  have hasz : ∀ i y, R.al i = some y → i < all.size := fun i y hh => by
    rcases Nat.lt_or_ge i all.size with q | q
    · exact q
    · rw [(hout i q).2] at hh; cases hh
  have sz : ∀ {i}, i < all.size → ∃ o, all[i]? = some o := fun {i} hi => ⟨all[i], by simp [hi]⟩
  have did : ∀ (i : Nat) (o : Oper), all[i]? = some o → ∃ a, ms[i]? = some a ∧ Did P call o.op a i (R.tt i) (R.mm i) (R.dd i) (R.vv i) (R.bb i) (R.hv i) (R.al i) (R.mm (i + 1)) (R.dd (i + 1)) := fun i o ho => by
    obtain ⟨a, h1, _, h2, _⟩ := HT i o ho
    rw [Nat.zero_add] at h2
    exact ⟨a, h1, h2⟩
  have known : ∀ j, j ≤ all.size → Known all R (fun j i => ∃ a, ms[j]? = some a ∧ Nat.testBit a i = true) j (R.dd j) := by
    intro j
    induction j with
    | zero =>
      intro _
      rw [h0]
      refine ⟨fun i y hi => by omega, fun i y hi => by omega, fun h hi => by omega, fun s hc hs _ => ?_, fun s h _ _ _ hh => by omega⟩
      have : s = 0 := by omega
      subst this; rfl
    | succ j ih =>
      intro hj
      obtain ⟨o, ho⟩ := sz (show j < all.size by omega)
      obtain ⟨a, ha, hd⟩ := did j o ho
      have K := ih (by omega)
      generalize hD : R.dd (j + 1) = D' at hd
      generalize hMm : R.mm (j + 1) = M' at hd
      generalize hH : R.hv j = H at hd
      generalize hY : R.al j = Y at hd
      generalize hB : R.bb j = B at hd
      -- where nothing is new
      have keep : H = false → D'.als = (R.dd j).als → D'.alc = (R.dd j).alc → Y = none → D'.hv = (R.dd j).hv → D'.base = (R.dd j).base → D'.st = (R.dd j).st → Known all R (fun j i => ∃ a, ms[j]? = some a ∧ Nat.testBit a i = true) (j + 1) D' := by
        intro q1 q2 q3 q4 q5 q6 q7
        subst q1 q4
        have ne : ∀ h, R.hv h = true → h ≠ j := fun h hh e => by rw [e, hH] at hh; cases hh
        have nea : ∀ i y, R.al i = some y → i ≠ j := fun i y hh e => by rw [e, hY] at hh; cases hh
        refine ⟨fun i y hi hy => ?_, fun i y hi hy hn => ?_, fun h hi hh => ?_, fun s hc hs hn => ?_, fun s h hc hh hs hi hl => ?_⟩
        · rw [q2]; exact K.als i y (by have := nea i y hy; omega) hy
        · rw [q3]; exact K.alc i y (by have := nea i y hy; omega) hy fun h hh hl => by have := hn h hh hl; omega
        · rw [q5]; exact K.hv h (by have := ne h hh; omega) hh
        · rw [q6]
          have : s ≠ j + 1 := by
            rintro rfl
            rcases hc with hc | ⟨h, hh, e⟩
            · omega
            · exact ne h hh (by omega)
          exact K.base s hc (by omega) fun h hh hl => by have := hn h hh hl; omega
        · rw [q7]; exact K.st s h hc hh hs (by have := ne h hh; omega) hl
      cases hd with
      | skip hv => exact keep rfl rfl rfl rfl rfl rfl rfl
      | pure h => exact keep rfl rfl rfl rfl rfl rfl rfl
      | read hk h hb hc => exact keep rfl rfl rfl rfl rfl rfl rfl
      | alloc y t2 tr h hy ht =>
        have ne : ∀ h, R.hv h = true → h ≠ j := fun h hh e => by rw [e, hH] at hh; cases hh
        refine ⟨fun i y hi hy => ?_, fun i y hi hy hn => ?_, fun h hi hh => K.hv h (by have := ne h hh; omega) hh, fun s hc hs hn => ?_, fun s h hc hh hs hi hl => K.st s h hc hh hs (by have := ne h hh; omega) hl⟩
        · simp only [Nat.testBit_or, Bool.or_eq_true, one_shl]
          by_cases e : i = j
          · exact .inr e
          · exact .inl (K.als i y (by omega) hy)
        · simp only [Nat.testBit_or, Bool.or_eq_true, one_shl]
          by_cases e : i = j
          · exact .inr e
          · exact .inl (K.alc i y (by omega) hy fun h hh hl => by have := hn h hh hl; omega)
        · have : s ≠ j + 1 := by
            rintro rfl
            rcases hc with hc | ⟨h, hh, e⟩
            · omega
            · exact ne h hh (by omega)
          exact K.base s hc (by omega) fun h hh hl => by have := hn h hh hl; omega
      | heavy m1 pend h1 h2 hop hn hp =>
        have nea : ∀ i y, R.al i = some y → i ≠ j := fun i y hh e => by rw [e, hY] at hh; cases hh
        refine ⟨fun i y hi hy => K.als i y (by have := nea i y hy; omega) hy, fun i y hi hy hn => ?_, fun h hi hh => ?_, fun s hc hs hn => ?_, fun s h hc hh hs hi hl => ?_⟩
        · have e1 := nea i y hy
          have := hn j hH (by omega)
          omega
        · simp only [Nat.testBit_or, Bool.or_eq_true, one_shl]
          by_cases e : h = j
          · exact .inr e
          · exact .inl (K.hv h (by omega) hh)
        · have : s = j + 1 := by
            rcases Nat.lt_or_ge j s with q | q
            · omega
            · have := hn j hH q; omega
          subst this
          exact hMm.symm
        · by_cases e : h = j
          · subst e
            refine ⟨[], (R.dd h).st, ?_, fun c hc => by cases hc⟩
            rw [K.base s hc hs hl]; rfl
          · obtain ⟨l1, l2, e1, e2⟩ := K.st s h hc hh hs (by omega) hl
            refine ⟨(j, (R.dd j).base) :: l1, l2, by simp only [e1]; rfl, fun c hc => ?_⟩
            rcases List.mem_cons.1 hc with rfl | hc
            · exact ⟨hH, by show h < j; omega⟩
            · exact e2 c hc
  have pends : ∀ i p, p ∈ (R.dd i).pend → ∀ k, i + k ≤ all.size → (∃ h, i ≤ h ∧ h < i + k ∧ R.hv h = true ∧ ∃ a, ms[h]? = some a ∧ Nat.testBit a p.j = true) ∨ p ∈ (R.dd (i + k)).pend := by
    intro i p hp k
    induction k with
    | zero => intro _; exact .inr hp
    | succ k ih =>
      intro hk
      rcases ih (by omega) with ⟨h, q1, q2, q3⟩ | hp'
      · exact .inl ⟨h, q1, by omega, q3⟩
      · obtain ⟨o, ho⟩ := sz (show i + k < all.size by omega)
        obtain ⟨a, ha, hd⟩ := did (i + k) o ho
        have e : i + (k + 1) = i + k + 1 := by omega
        rw [e]
        generalize hD : R.dd (i + k + 1) = D' at hd
        generalize hMm : R.mm (i + k + 1) = M' at hd
        generalize hH : R.hv (i + k) = H at hd
        generalize hY : R.al (i + k) = Y at hd
        generalize hB : R.bb (i + k) = B at hd
        cases hd with
        | skip hv => exact .inr hp'
        | pure h => exact .inr hp'
        | read hk h hb hc => exact .inr (List.mem_cons_of_mem _ hp')
        | alloc y t2 tr h hy ht => exact .inr hp'
        | heavy m1 pend h1 h2 h hn hp2 =>
          rcases hp2 p hp' with q | q
          · exact .inl ⟨i + k, by omega, by omega, hH, a, ha, by rw [← bitA_eq]; exact q⟩
          · exact .inr q.2
  have heav : ∀ h h', R.hv h = true → R.hv h' = true → h < h' → ∃ a, ms[h']? = some a ∧ Nat.testBit a h = true := fun h h' hh hh' hlt => by
    obtain ⟨o, ho⟩ := sz (hsz h' hh')
    obtain ⟨a, ha, hd⟩ := did h' o ho
    have K := known h' (Nat.le_of_lt (hsz h' hh'))
    generalize R.dd (h' + 1) = D' at hd
    generalize R.mm (h' + 1) = M' at hd
    rw [hh'] at hd
    generalize R.al h' = Y at hd
    generalize R.bb h' = B at hd
    cases hd with
    | heavy m1 pend h1 h2 h hn hp => exact ⟨a, ha, subA_spec h1 (K.hv _ hlt hh)⟩
  refine ⟨hM, fun j o d ho hd => ?_, fun j o u ho => ?_, fun j o ho => ?_, fun j o ho => ?_, hsz, hasz, heav, fun h i y hh hi hy => ?_⟩
  · obtain ⟨a, _, _, _, h3, _⟩ := HT j o ho; exact h3 d hd
  · obtain ⟨a, _, _, _, _, h4⟩ := HT j o ho; exact h4 u
  · obtain ⟨a, _, h1, _⟩ := HT j o ho; exact h1
  · have hj : j < all.size := (Array.getElem?_eq_some_iff.1 ho).1
    obtain ⟨a, ha, hd⟩ := did j o ho
    have K := known j (by omega)
    generalize hD : R.dd (j + 1) = D' at hd
    generalize hMm : R.mm (j + 1) = M' at hd
    generalize hH : R.hv j = H at hd
    generalize hY : R.al j = Y at hd
    generalize hB : R.bb j = B at hd
    cases hd with
    | skip hv => exact .skip hB hv hMm hH hY
    | pure h => exact .pure hB hMm hH hY h
    | alloc y t2 tr h hy ht => exact .alloc hB hH y t2 hY h hy (by rw [hMm]) (by rw [hMm]; exact ht)
    | heavy m1 pend h1 h2 h hn hp => exact .heavy hB hH hY (by rw [hMm]; exact h) (by rw [hMm]; exact hn)
    | read hk h hb hc =>
      refine .read hB hMm hH hY fun s hcut hbef hbeh => ?_
      have abit : ∀ i, (¬ ∃ a, ms[j]? = some a ∧ Nat.testBit a i = true) → bitA a i = false := fun i hi => by
        rw [bitA_eq]
        cases hb : Nat.testBit a i with
        | false => rfl
        | true => exact absurd ⟨a, ha, hb⟩ hi
      rcases Nat.lt_or_ge j s with hlt | hge
      · -- behind one that comes later
        rcases hcut with rfl | ⟨h1, hh1, rfl⟩
        · omega
        · have hne : h1 ≠ j := fun e => by rw [e, hH] at hh1; cases hh1
          have h1s := hsz h1 hh1
          have hp0 : (⟨j, o.op, R.tt j, R.vv j⟩ : Pend) ∈ (R.dd (j + 1)).pend := by rw [hD]; simp
          rcases pends (j + 1) _ hp0 (h1 - (j + 1)) (by omega) with ⟨h2, q1, q2, q3, q4⟩ | hp1
          · exact absurd q4 (hbef h2 q3 (by omega))
          · rw [show j + 1 + (h1 - (j + 1)) = h1 by omega] at hp1
            obtain ⟨o1, ho1⟩ := sz h1s
            obtain ⟨a1, ha1, hd1⟩ := did h1 o1 ho1
            have hna := hbef h1 hh1 (by omega)
            clear hD
            generalize R.dd (h1 + 1) = D2 at hd1
            generalize hM2 : R.mm (h1 + 1) = M2 at hd1
            rw [hh1] at hd1
            generalize R.al h1 = Y1 at hd1
            generalize R.bb h1 = B1 at hd1
            cases hd1 with
            | heavy m1 pend g1 g2 g3 gn gp =>
              rcases gp _ hp1 with q | q
              · exact absurd ⟨a1, ha1, by rw [← bitA_eq]; exact q⟩ hna
              · exact ⟨M2, readsA_eq hk q.1, .inl rfl⟩
      · by_cases hmid : ∃ h, R.hv h = true ∧ s ≤ h ∧ h < j
        · -- ahead of one that comes earlier
          obtain ⟨h2, q1, q2, q3, q4⟩ : ∃ h, R.hv h = true ∧ s ≤ h ∧ h < j ∧ ∀ h', R.hv h' = true → s ≤ h' → h ≤ h' := by
            obtain ⟨h, hh, hs, hlt⟩ := hmid
            induction h using Nat.strongRecOn with
            | _ h ih =>
              by_cases hm : ∃ h', R.hv h' = true ∧ s ≤ h' ∧ h' < h
              · obtain ⟨h', e1, e2, e3⟩ := hm
                exact ih h' e3 e1 e2 (by omega)
              · exact ⟨h, hh, hs, hlt, fun h' e1 e2 => by
                  rcases Nat.lt_or_ge h' h with q | q
                  · exact absurd ⟨h', e1, e2, q⟩ hm
                  · exact q⟩
          obtain ⟨l1, l2, e1, e2⟩ := K.st s h2 hcut q1 q2 q3 q4
          rw [e1] at hc
          exact ⟨R.mm s, readsA_eq hk (atCuts_app hc (fun q hq => abit _ (hbeh _ (e2 q hq).1 (by have := (e2 q hq).2; omega))) (abit _ (hbeh _ q1 q2))), .inl rfl⟩
        · have hno : ∀ h, R.hv h = true → s ≤ h → j ≤ h := fun h hh hs => by
            rcases Nat.lt_or_ge h j with q | q
            · exact absurd ⟨h, hh, hs, q⟩ hmid
            · exact q
          rcases hb with hb | hb
          · refine ⟨R.mm j, h, .inr ⟨hge, rfl, hno, fun i y hi1 hi2 hy => ⟨a, ha, subA_spec hb (K.alc i y hi2 hy fun h hh hl => hno h hh (by omega))⟩⟩⟩
          · rw [K.base s hcut hge hno] at hb
            exact ⟨R.mm s, readsA_eq hk hb, .inl rfl⟩
  · obtain ⟨o, ho⟩ := sz (hsz h hh)
    obtain ⟨a, ha, hd⟩ := did h o ho
    have K := known h (Nat.le_of_lt (hsz h hh))
    generalize R.dd (h + 1) = D' at hd
    generalize R.mm (h + 1) = M' at hd
    rw [hh] at hd
    generalize R.al h = Y at hd
    generalize R.bb h = B at hd
    cases hd with
    | heavy m1 pend h1 h2 h hn hp => exact ⟨a, ha, subA_spec h2 (K.als _ _ hi hy)⟩

end
end Go.Ev
