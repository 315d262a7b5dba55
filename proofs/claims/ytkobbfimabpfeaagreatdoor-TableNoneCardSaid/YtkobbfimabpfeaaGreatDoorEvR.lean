/- A region whose order is drawn: who is ahead of whom. -/
import Derived.Test.YtkobbfimabpfeaaGreatDoorEvQ
namespace Go.Ev

section
variable {all : Array Oper}

theorem bindsA_eq (e : Edge) : bindsA e = Region.binds .any e := by
  unfold bindsA Region.binds
  cases e.ground <;> rfl

theorem one_shl (n i : Nat) : (1 <<< n : Nat).testBit i = true ↔ i = n := by
  rw [Nat.one_shiftLeft, Nat.testBit_two_pow]
  simp [eq_comm]

theorem ancOf_bit (A : T Nat) (i : Nat) : ∀ l : List Edge, (ancOf A l).testBit i = true ↔ ∃ e, e ∈ l ∧ bindsA e = true ∧ (i = e.on ∨ (natAt A e.on).testBit i = true)
  | [] => by
    have : ancOf A [] = 0 := rfl
    simp [this]
  | e :: l => by
    have h : ancOf A (e :: l) = bif2 (bindsA e) (((1 <<< e.on) ||| natAt A e.on) ||| ancOf A l) (ancOf A l) := rfl
    rw [h, bif2_eq]
    have ih := ancOf_bit A i l
    split
    · rename_i hb
      rw [Nat.testBit_or, Nat.testBit_or, Bool.or_eq_true, Bool.or_eq_true, ih, one_shl]
      constructor
      · rintro (h | ⟨e', h1, h2⟩)
        · exact ⟨e, by simp, hb, h⟩
        · exact ⟨e', by simp [h1], h2⟩
      · rintro ⟨e', h1, h2, h3⟩
        rcases List.mem_cons.1 h1 with rfl | h1
        · exact .inl h3
        · exact .inr ⟨e', h1, h2, h3⟩
    · rename_i hb
      rw [ih]
      constructor
      · rintro ⟨e', h1, h2⟩
        exact ⟨e', by simp [h1], h2⟩
      · rintro ⟨e', h1, h2, h3⟩
        rcases List.mem_cons.1 h1 with rfl | h1
        · exact absurd h2 hb
        · exact ⟨e', h1, h2, h3⟩

theorem lowA_spec {j : Nat} : ∀ {l : List Edge}, lowA j l = true → ∀ e ∈ l, bindsA e = true → e.on < j
  | e :: l, h, e', he, hb => by
    have h : bif2 (bindsA e) (bif2 (Nat.blt e.on j) (lowA j l) false) (lowA j l) = true := h
    rcases List.mem_cons.1 he with rfl | he
    · rw [hb] at h
      have h := (bif2_and h).1
      simpa [Nat.blt_eq] using h
    · rw [bif2_eq] at h
      split at h
      · exact lowA_spec (bif2_and h).2 e' he hb
      · exact lowA_spec h e' he hb

theorem namesA_spec {a : Nat} {W : T Nat} : ∀ {l : List Tmp}, namesA a W l = true → ∀ u ∈ l, subA (natAt W u) a = true
  | u :: l, h, u', hu => by
    have h : bif2 (subA (natAt W u) a) (namesA a W l) false = true := h
    rcases List.mem_cons.1 hu with rfl | hu
    · exact (bif2_and h).1
    · exact namesA_spec (bif2_and h).2 u' hu

theorem natAt_set {t t' : T Nat} {i n : Nat} (h : ∀ j, t'.get j = if j = i then some n else t.get j) (j : Nat) : natAt t' j = if j = i then n else natAt t j := by
  unfold natAt
  rw [h]
  split <;> rfl

theorem addNames_inv {j : Nat} {r : List Nat} : ∀ {l : List Tmp} {N : T Nat} {k : T Nat → Option (List Nat)}, addNames j l N k = some r →
    ∃ N', k N' = some r ∧ ∀ u i, (natAt N' u).testBit i = true ↔ ((natAt N u).testBit i = true ∨ (u ∈ l ∧ i = j))
  | [], N, k, h => ⟨N, h, fun u i => by simp⟩
  | q :: l, N, k, h => by
    have h : fNat (Nat.lor (natAt N q) (Nat.shiftLeft 1 j)) (fun n => T.setK none (some n) N q fun N => addNames j l N k) = some r := h
    rw [fNat_eq] at h
    rcases T.setK_eq (none : Option (List Nat)) (some (Nat.lor (natAt N q) (Nat.shiftLeft 1 j))) N q (fun N => addNames j l N k) with e | ⟨N1, h1, e⟩
    · rw [e] at h; cases h
    · rw [e] at h
      obtain ⟨N', h2, h3⟩ := addNames_inv h
      refine ⟨N', h2, fun u i => ?_⟩
      rw [h3, natAt_set h1]
      by_cases hu : u = q
      · subst hu
        have : Nat.lor (natAt N u) (Nat.shiftLeft 1 j) = natAt N u ||| (1 <<< j) := rfl
        rw [if_pos rfl, this, Nat.testBit_or, Bool.or_eq_true, one_shl]
        constructor
        · rintro ((h | h) | h)
          · exact .inl h
          · exact .inr ⟨by simp, h⟩
          · exact .inr ⟨by simp, h.2⟩
        · rintro (h | h)
          · exact .inl (.inl h)
          · exact .inl (.inr h.2)
      · rw [if_neg hu]
        simp [hu]

/-- What is asked at one place. -/
structure MaskAt (all : Array Oper) (o : Oper) (j : Nat) (A W N : T Nat) (a : Nat) (A' W' N' : T Nat) : Prop where
  eq : a = ancOf A o.after.toList
  low : ∀ e ∈ o.after, bindsA e = true → e.on < j
  names : ∀ u ∈ o.looksAt all, ∀ i, (natAt W u).testBit i = true → a.testBit i = true
  hA : ∀ u, natAt A' u = if u = j then a else natAt A u
  hN : ∀ u i, (natAt N' u).testBit i = true ↔ ((natAt N u).testBit i = true ∨ (u ∈ o.looksAt all ∧ i = j))
  hW : ∀ u, natAt W' u = if o.dst = some u then 1 <<< j else natAt W u
  free : ∀ d, o.dst = some d → natAt W d = 0 ∧ ∀ i, (natAt N' d).testBit i = true → a.testBit i = true

theorem consO_inv {a : Nat} {x : Option (List Nat)} {r : List Nat} (h : consO a x = some r) : ∃ r', x = some r' ∧ r = a :: r' := by
  cases x with
  | none => cases h
  | some l => cases h; exact ⟨l, rfl, rfl⟩

theorem maskOne_inv {o : Oper} {j : Nat} {A W N : T Nat} {k : T Nat → T Nat → T Nat → Option (List Nat)} {r : List Nat} (h : maskOne all o j A W N k = some r) :
    ∃ a A' W' N' r', MaskAt all o j A W N a A' W' N' ∧ k A' W' N' = some r' ∧ r = a :: r' := by
  unfold maskOne at h
  rw [fNat_eq, bif2_eq, bif2_eq] at h
  split at h
  · rename_i h1
    split at h
    · rename_i h2
      obtain ⟨N', h, hN⟩ := addNames_inv h
      rcases T.setK_eq (none : Option (List Nat)) (some (ancOf A o.after.toList)) A j (fun A' => @Option.rec Nat (fun _ => Option (List Nat)) (consO (ancOf A o.after.toList) (k A' W N')) (fun d =>
        bif2 (Nat.beq (natAt W d) 0) (bif2 (subA (natAt N' d) (ancOf A o.after.toList)) (fNat (Nat.shiftLeft 1 j) fun n => T.setK none (some n) W d fun W => consO (ancOf A o.after.toList) (k A' W N')) none) none) o.dst) with e | ⟨A', hA, e⟩
      · rw [e] at h; cases h
      · rw [e] at h
        have hl : ∀ e ∈ o.after, bindsA e = true → e.on < j := fun e he hb => lowA_spec h1 e (by simpa using he) hb
        have hn : ∀ u ∈ o.looksAt all, ∀ i, (natAt W u).testBit i = true → (ancOf A o.after.toList).testBit i = true := fun u hu i hi => subA_spec (namesA_spec h2 u hu) hi
        cases hd : o.dst with
        | none =>
          rw [hd] at h
          obtain ⟨r', h3, h4⟩ := consO_inv h
          exact ⟨_, A', W, N', r', ⟨rfl, hl, hn, natAt_set hA, hN, fun u => by rw [hd]; simp, fun d e => by rw [hd] at e; cases e⟩, h3, h4⟩
        | some d =>
          rw [hd] at h
          have h : bif2 (Nat.beq (natAt W d) 0) (bif2 (subA (natAt N' d) (ancOf A o.after.toList)) (fNat (Nat.shiftLeft 1 j) fun n => T.setK none (some n) W d fun W => consO (ancOf A o.after.toList) (k A' W N')) none) none = some r := h
          rw [bif2_eq, bif2_eq, fNat_eq] at h
          split at h
          · rename_i h5
            split at h
            · rename_i h6
              rcases T.setK_eq (none : Option (List Nat)) (some (Nat.shiftLeft 1 j)) W d (fun W => consO (ancOf A o.after.toList) (k A' W N')) with e | ⟨W', hW, e⟩
              · rw [e] at h; cases h
              · rw [e] at h
                obtain ⟨r', h3, h4⟩ := consO_inv h
                refine ⟨_, A', W', N', r', ⟨rfl, hl, hn, natAt_set hA, hN, fun u => ?_, fun d' e => ?_⟩, h3, h4⟩
                · rw [natAt_set hW, hd]
                  by_cases hu : u = d
                  · subst hu; simp
                  · rw [if_neg hu, if_neg fun e => hu (by cases e; rfl)]
                · rw [hd] at e; cases e
                  exact ⟨Nat.eq_of_beq_eq_true h5, fun i hi => subA_spec h6 hi⟩
            · cases h
          · cases h
    · cases h
  · cases h

theorem masksFrom_inv : ∀ {l : List Oper} {j : Nat} {A W N : T Nat} {r : List Nat}, masksFrom all l j A W N = some r →
    ∃ (AA WW NN : Nat → T Nat), AA 0 = A ∧ WW 0 = W ∧ NN 0 = N ∧ r.length = l.length ∧ ∀ i o, l[i]? = some o → ∃ a, r[i]? = some a ∧ MaskAt all o (j + i) (AA i) (WW i) (NN i) a (AA (i + 1)) (WW (i + 1)) (NN (i + 1))
  | [], j, A, W, N, r, h => by
    cases h
    exact ⟨fun _ => A, fun _ => W, fun _ => N, rfl, rfl, rfl, rfl, fun i o e => by cases e⟩
  | o :: l, j, A, W, N, r, h => by
    have h : maskOne all o j A W N (fun A W N => fNat (Nat.succ j) fun j => masksFrom all l j A W N) = some r := h
    obtain ⟨a, A', W', N', r', h1, h2, rfl⟩ := maskOne_inv h
    rw [fNat_eq] at h2
    obtain ⟨AA, WW, NN, e1, e2, e3, e4, e5⟩ := masksFrom_inv h2
    refine ⟨fun i => match i with | 0 => A | i + 1 => AA i, fun i => match i with | 0 => W | i + 1 => WW i, fun i => match i with | 0 => N | i + 1 => NN i, rfl, rfl, rfl, by simp [e4], fun i q e => ?_⟩
    cases i with
    | zero =>
      cases e
      exact ⟨a, rfl, by simpa [e1, e2, e3] using h1⟩
    | succ i =>
      obtain ⟨a', ha, hm⟩ := e5 i q (by simpa using e)
      refine ⟨a', by simpa using ha, ?_⟩
      have e : j + (i + 1) = j.succ + i := by omega
      simpa [e] using hm

/-- What the masks say. -/
structure MasksOK (all : Array Oper) (anc : Nat → Nat → Prop) : Prop where
  low : ∀ j i, anc j i → i < j
  edge : ∀ (j : Nat) (o : Oper) (e : Edge), all[j]? = some o → e ∈ o.after → Region.binds .any e = true → anc j e.on
  clo : ∀ (j i : Nat) (o : Oper), all[j]? = some o → anc j i → ∃ e, e ∈ o.after ∧ Region.binds .any e = true ∧ (i = e.on ∨ anc e.on i)
  dst : ∀ (i j : Nat) (oi oj : Oper) d, all[i]? = some oi → all[j]? = some oj → oi.dst = some d → oj.dst = some d → i = j
  race : ∀ (i j : Nat) (oi oj : Oper) u, all[i]? = some oi → all[j]? = some oj → u ∈ oj.looksAt all → oi.dst = some u → anc j i ∨ anc i j

theorem masks_ok {ms : List Nat} (h : masks all = some ms) : ms.length = all.size ∧ MasksOK all fun j i => ∃ a, ms[j]? = some a ∧ Nat.testBit a i = true := by
  obtain ⟨AA, WW, NN, e1, e2, e3, e4, e5⟩ := masksFrom_inv (show masksFrom all all.toList 0 .leaf .leaf .leaf = some ms from h)
  have step : ∀ (i : Nat) (o : Oper), all[i]? = some o → ∃ a, ms[i]? = some a ∧ MaskAt all o i (AA i) (WW i) (NN i) a (AA (i + 1)) (WW (i + 1)) (NN (i + 1)) := fun i o ho => by
    obtain ⟨a, h1, h2⟩ := e5 i o (by simpa using ho)
    rw [Nat.zero_add] at h2
    exact ⟨a, h1, h2⟩
  have sz : ∀ {i}, i < all.size → ∃ o, all[i]? = some o := fun {i} hi => ⟨all[i], by simp [hi]⟩
  have hA : ∀ j, j ≤ all.size → ∀ i a, i < j → ms[i]? = some a → natAt (AA j) i = a := by
    intro j
    induction j with
    | zero => intro _ i a hi; omega
    | succ j ih =>
      intro hj i a hi ha
      obtain ⟨o, ho⟩ := sz (show j < all.size by omega)
      obtain ⟨a', h1, h2⟩ := step j o ho
      rw [h2.hA]
      by_cases e : i = j
      · subst e; rw [ha] at h1; cases h1; simp
      · rw [if_neg e]; exact ih (by omega) i a (by omega) ha
  have hW : ∀ j, j ≤ all.size → ∀ u i, (natAt (WW j) u).testBit i = true ↔ i < j ∧ ∃ o, all[i]? = some o ∧ o.dst = some u := by
    intro j
    induction j with
    | zero =>
      intro _ u i
      have : natAt (T.leaf : T Nat) u = 0 := rfl
      rw [e2, this]; simp
    | succ j ih =>
      intro hj u i
      obtain ⟨o, ho⟩ := sz (show j < all.size by omega)
      obtain ⟨a', h1, h2⟩ := step j o ho
      rw [h2.hW]
      by_cases hd : o.dst = some u
      · rw [if_pos hd, one_shl]
        have h0 := (h2.free u hd).1
        constructor
        · rintro rfl; exact ⟨by omega, o, ho, hd⟩
        · rintro ⟨hi, o', ho', hd'⟩
          by_cases e : i = j
          · exact e
          · have := (ih (by omega) u i).2 ⟨by omega, o', ho', hd'⟩
            rw [h0] at this; simp at this
      · rw [if_neg hd, ih (by omega)]
        constructor
        · rintro ⟨a, b⟩; exact ⟨by omega, b⟩
        · rintro ⟨a, o', ho', hd'⟩
          refine ⟨?_, o', ho', hd'⟩
          by_cases e : i = j
          · subst e; rw [ho] at ho'; cases ho'; exact absurd hd' hd
          · omega
  have hN : ∀ j, j ≤ all.size → ∀ u i, (natAt (NN j) u).testBit i = true ↔ i < j ∧ ∃ o, all[i]? = some o ∧ u ∈ o.looksAt all := by
    intro j
    induction j with
    | zero =>
      intro _ u i
      have : natAt (T.leaf : T Nat) u = 0 := rfl
      rw [e3, this]; simp
    | succ j ih =>
      intro hj u i
      obtain ⟨o, ho⟩ := sz (show j < all.size by omega)
      obtain ⟨a', h1, h2⟩ := step j o ho
      rw [h2.hN, ih (by omega)]
      constructor
      · rintro (⟨a, b⟩ | ⟨a, rfl⟩)
        · exact ⟨by omega, b⟩
        · exact ⟨by omega, o, ho, a⟩
      · rintro ⟨a, o', ho', hd'⟩
        by_cases e : i = j
        · subst e; rw [ho] at ho'; cases ho'; exact .inr ⟨hd', rfl⟩
        · exact .inl ⟨by omega, o', ho', hd'⟩
  have bit : ∀ (j : Nat) (o : Oper) (i : Nat), all[j]? = some o → ((∃ a, ms[j]? = some a ∧ Nat.testBit a i = true) ↔ ∃ e, e ∈ o.after ∧ Region.binds .any e = true ∧ (i = e.on ∨ ∃ a, ms[e.on]? = some a ∧ Nat.testBit a i = true)) := by
    intro j o i ho
    have hj : j < all.size := (Array.getElem?_eq_some_iff.1 ho).1
    obtain ⟨a, h1, h2⟩ := step j o ho
    have nat : ∀ e ∈ o.after, bindsA e = true → ∃ a', ms[e.on]? = some a' ∧ natAt (AA j) e.on = a' := fun e he hb => by
      have hlt := h2.low e he hb
      obtain ⟨o', ho'⟩ := sz (show e.on < all.size by omega)
      obtain ⟨a', h1', _⟩ := step e.on o' ho'
      exact ⟨a', h1', hA j (by omega) _ _ hlt h1'⟩
    constructor
    · rintro ⟨a', ha', hb⟩
      rw [h1] at ha'; cases ha'
      rw [h2.eq, ancOf_bit] at hb
      obtain ⟨e, q1, q2, q3⟩ := hb
      have q1 : e ∈ o.after := by simpa using q1
      obtain ⟨a', w1, w2⟩ := nat e q1 q2
      exact ⟨e, q1, by rw [← bindsA_eq]; exact q2, q3.imp id fun q => ⟨a', w1, by rw [← w2]; exact q⟩⟩
    · rintro ⟨e, q1, q2, q3⟩
      rw [← bindsA_eq] at q2
      refine ⟨a, h1, ?_⟩
      rw [h2.eq, ancOf_bit]
      obtain ⟨a', w1, w2⟩ := nat e q1 q2
      refine ⟨e, by simpa using q1, q2, q3.imp id ?_⟩
      rintro ⟨a2, w3, w4⟩
      rw [w1] at w3; cases w3
      rw [w2]; exact w4
  have low : ∀ (j i : Nat), (∃ a, ms[j]? = some a ∧ Nat.testBit a i = true) → i < j := by
    intro j
    induction j using Nat.strongRecOn with
    | _ j ih =>
      intro i hh
      have hj : j < all.size := by
        obtain ⟨a, ha, _⟩ := hh
        have := (List.getElem?_eq_some_iff.1 ha).1
        simpa [e4] using this
      obtain ⟨o, ho⟩ := sz hj
      obtain ⟨a, h1, h2⟩ := step j o ho
      obtain ⟨e, q1, q2, q3⟩ := (bit j o i ho).1 hh
      have hlt := h2.low e q1 (by rw [bindsA_eq]; exact q2)
      rcases q3 with rfl | q3
      · exact hlt
      · have := ih e.on hlt i q3; omega
  refine ⟨by simpa using e4, low, fun j o e ho he hb => (bit j o _ ho).2 ⟨e, he, hb, .inl rfl⟩, fun j i o ho hh => (bit j o i ho).1 hh, ?_, ?_⟩
  · have main : ∀ (i j : Nat) (oi oj : Oper) d, i < j → all[i]? = some oi → all[j]? = some oj → oi.dst = some d → oj.dst = some d → False := fun i j oi oj d hij hi hj h1 h2 => by
      have hjs : j < all.size := (Array.getElem?_eq_some_iff.1 hj).1
      obtain ⟨a, _, hm⟩ := step j oj hj
      have h0 := (hm.free d h2).1
      have := (hW j (by omega) d i).2 ⟨hij, oi, hi, h1⟩
      rw [h0] at this; simp at this
    intro i j oi oj d hi hj h1 h2
    rcases Nat.lt_trichotomy i j with h | h | h
    · exact (main i j oi oj d h hi hj h1 h2).elim
    · exact h
    · exact (main j i oj oi d h hj hi h2 h1).elim
  · intro i j oi oj u hi hj hu hd
    have his : i < all.size := (Array.getElem?_eq_some_iff.1 hi).1
    have hjs : j < all.size := (Array.getElem?_eq_some_iff.1 hj).1
    rcases Nat.lt_or_ge i j with h | h
    · obtain ⟨a, h1, hm⟩ := step j oj hj
      exact .inl ⟨a, h1, hm.names u hu i ((hW j (by omega) u i).2 ⟨h, oi, hi, hd⟩)⟩
    · obtain ⟨a, h1, hm⟩ := step i oi hi
      exact .inr ⟨a, h1, (hm.free u hd).2 j ((hN (i + 1) (by omega) u j).2 ⟨by omega, oj, hj, hu⟩)⟩

end
end Go.Ev
