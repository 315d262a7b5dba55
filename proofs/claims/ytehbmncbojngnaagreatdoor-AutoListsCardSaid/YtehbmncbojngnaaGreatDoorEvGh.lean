/- Plain law: items in order, closures, what stands behind a symbol. No program in sight. Plain law: how the program reckons a closure (a list that grows, a set in order beside it), and how the document does (rounds over a list in order). A set's Add, both ways; a set of some. What stands in memory while the program reckons a closure. The program's closure: what it comes to. Rows of rows that grow. The program's state of a kernel: what it comes to. What stands in memory while the states are made. -/
import Derived.Test.YtehbmncbojngnaaGreatDoorEvGg
section
namespace Go.Lr
abbrev It := Int × Int
/-- By rule, then dot. -/
noncomputable def lt (a b : It) : Prop := a.1 < b.1 ∨ a.1 = b.1 ∧ a.2 < b.2
instance (a b : It) : Decidable (lt a b) := by unfold lt; infer_instance
theorem lt_irrefl (a : It) : ¬ lt a a := by unfold lt; omega
theorem lt_trans {a b c : It} (h : lt a b) (h' : lt b c) : lt a c := by unfold lt at *; omega
theorem lt_tri (a b : It) : lt a b ∨ a = b ∨ lt b a := by
  unfold lt
  rcases Int.lt_trichotomy a.1 b.1 with h | h | h
  · exact .inl (.inl h)
  · rcases Int.lt_trichotomy a.2 b.2 with g | g | g
    · exact .inl (.inr ⟨h, g⟩)
    · exact .inr (.inl (Prod.ext h g))
    · exact .inr (.inr (.inr ⟨h.symm, g⟩))
  · exact .inr (.inr (.inl h))
abbrev Srt (l : List It) : Prop := l.Pairwise lt
/-- Two lists in order that have the same members are the same. -/
theorem srt_ext : ∀ {a b : List It}, Srt a → Srt b → (∀ x, x ∈ a ↔ x ∈ b) → a = b
  | [], [], _, _, _ => rfl
  | [], y :: b, _, _, h => by have := (h y).2 (by simp); simp at this
  | x :: a, [], _, _, h => by have := (h x).1 (by simp); simp at this
  | x :: a, y :: b, ha, hb, h => by
    have ha' := List.pairwise_cons.1 ha
    have hb' := List.pairwise_cons.1 hb
    have hxy : x = y := by
      have h1 : x ∈ y :: b := (h x).1 (by simp)
      have h2 : y ∈ x :: a := (h y).2 (by simp)
      rcases List.mem_cons.1 h1 with e | e
      · exact e
      · rcases List.mem_cons.1 h2 with e' | e'
        · exact e'.symm
        · exact absurd (lt_trans (ha'.1 y e') (hb'.1 x e)) (lt_irrefl _)
    subst hxy
    rw [srt_ext ha'.2 hb'.2 fun z => ?_]
    have hz := h z
    simp only [List.mem_cons] at hz
    constructor
    · intro m
      rcases hz.1 (.inr m) with e | e
      · subst e; exact absurd (ha'.1 _ m) (lt_irrefl _)
      · exact e
    · intro m
      rcases hz.2 (.inr m) with e | e
      · subst e; exact absurd (hb'.1 _ m) (lt_irrefl _)
      · exact e
/-- Into a list in order, once. -/
noncomputable def put : List It → It → List It
  | [], x => [x]
  | y :: l, x => if lt y x then y :: put l x else if y = x then y :: l else x :: y :: l
theorem put_mem (x z : It) : ∀ l, z ∈ put l x ↔ z = x ∨ z ∈ l
  | [] => by simp [put]
  | y :: l => by
    unfold put
    by_cases h : lt y x
    · rw [if_pos h, List.mem_cons, put_mem x z l, List.mem_cons]
      constructor
      · rintro (h | h | h) <;> simp [h]
      · rintro (h | h | h) <;> simp [h]
    · rw [if_neg h]
      by_cases e : y = x
      · rw [if_pos e, List.mem_cons, e]
        constructor
        · rintro (h | h) <;> simp [h]
        · rintro (h | h | h) <;> simp [h]
      · rw [if_neg e]; simp [List.mem_cons]
theorem put_srt (x : It) : ∀ {l}, Srt l → Srt (put l x)
  | [], _ => by simp [put, Srt]
  | y :: l, h => by
    have h' := List.pairwise_cons.1 h
    unfold put
    by_cases hy : lt y x
    · rw [if_pos hy]
      refine List.pairwise_cons.2 ⟨fun z hz => ?_, put_srt x h'.2⟩
      rcases (put_mem x z l).1 hz with rfl | hz
      · exact hy
      · exact h'.1 z hz
    · rw [if_neg hy]
      by_cases e : y = x
      · rw [if_pos e]; exact h
      · rw [if_neg e]
        have hxy : lt x y := by
          rcases lt_tri y x with h | h | h
          · exact absurd h hy
          · exact absurd h e
          · exact h
        refine List.pairwise_cons.2 ⟨fun z hz => ?_, h⟩
        rcases List.mem_cons.1 hz with rfl | hz
        · exact hxy
        · exact lt_trans hxy (h'.1 z hz)
/-! ### Grammars -/
/-- A rule: its left side, its right side. -/
abbrev Rl := Int × List Int
structure Gr where
  tokens : Int
  nts : Int
  rules : List Rl
noncomputable def rd {α : Type} [Inhabited α] (l : List α) (i : Int) : α := l.getD i.toNat default
/-- The symbol behind the dot. -/
noncomputable def Gr.sym (g : Gr) (x : It) : Option Int := (rd g.rules x.1).2[x.2.toNat]?
/-- What stands in the closure for an item's sake. -/
noncomputable def Gr.kid (g : Gr) (x y : It) : Prop := ∃ s, g.sym x = some s ∧ y.2 = 0 ∧ 0 ≤ y.1 ∧ ∃ r, g.rules[y.1.toNat]? = some r ∧ r.1 = s ∧ g.tokens < s
inductive Gr.Reach (g : Gr) (k : List It) : It → Prop where
  | base {x} : x ∈ k → g.Reach k x
  | step {x y} : g.Reach k x → g.kid x y → g.Reach k y
/-- Just the closure, in order. -/
structure Gr.IsClos (g : Gr) (k c : List It) : Prop where
  srt : Srt c
  base : ∀ x ∈ k, x ∈ c
  closed : ∀ x ∈ c, ∀ y, g.kid x y → y ∈ c
  sound : ∀ x ∈ c, g.Reach k x
theorem Gr.IsClos.mem {g : Gr} {k c : List It} (h : g.IsClos k c) (x : It) : x ∈ c ↔ g.Reach k x := by
  refine ⟨h.sound x, fun r => ?_⟩
  induction r with
  | base m => exact h.base _ m
  | step _ hk ih => exact h.closed _ ih _ hk
theorem Gr.IsClos.one {g : Gr} {k c c' : List It} (h : g.IsClos k c) (h' : g.IsClos k c') : c = c' :=
  srt_ext h.srt h'.srt fun x => (h.mem x).trans (h'.mem x).symm
/-- What stands behind a symbol. -/
noncomputable def Gr.beh (g : Gr) (c : List It) (s : Int) : List It := c.filterMap fun x => if g.sym x = some s then some (x.1, x.2 + 1) else none
theorem Gr.beh_srt (g : Gr) (s : Int) : ∀ {c : List It}, Srt c → Srt (g.beh c s)
  | [], _ => by simp [Gr.beh, Srt]
  | x :: c, h => by
    have h' := List.pairwise_cons.1 h
    have ih := g.beh_srt s h'.2
    unfold Gr.beh at ih ⊢
    rw [List.filterMap_cons]
    by_cases e : g.sym x = some s
    · rw [if_pos e]
      refine List.pairwise_cons.2 ⟨fun z hz => ?_, ih⟩
      obtain ⟨y, hy, e'⟩ := List.mem_filterMap.1 hz
      by_cases ey : g.sym y = some s
      · rw [if_pos ey] at e'
        obtain rfl := Option.some.inj e'
        have := h'.1 y hy
        unfold lt at this ⊢
        simp only
        omega
      · rw [if_neg ey] at e'; cases e'
    · rw [if_neg e]; exact ih
/-- The state of a kernel, a new one if there is none; -1 of an empty one. -/
noncomputable def state (L : List (List It)) (k : List It) : Int × List (List It) :=
  if k = [] then (-1, L) else match L.idxOf? k with
    | some i => ((i : Int), L)
    | none => ((L.length : Int), L ++ [k])
/-- A row: where the symbols lead, one behind the other; none: too many states. -/
noncomputable def Gr.row (g : Gr) (c : List It) : List Int → List (List It) → Option (List Int × List (List It))
  | [], L => some ([], L)
  | s :: l, L => let (i, L') := state L (g.beh c s)
    if i ≥ 120 then none else (g.row c l L').map fun (r, L'') => (i :: r, L'')
/-- States, one behind the other: i of them are done. -/
inductive Gr.Steps (g : Gr) (syms : List Int) : Nat → List (List It) → List (List It) → List (List Int) → Prop where
  | zero : g.Steps syms 0 [[(0, 0)]] [] []
  | succ {i L I R c r L' k} : g.Steps syms i L I R → L[i]? = some k → g.IsClos k c → g.row c syms L = some (r, L') → g.Steps syms (i + 1) L' (I ++ [c]) (R ++ [r])
theorem Gr.Steps.one {g : Gr} {syms : List Int} : ∀ {i : Nat} {L I R L' I' R'}, g.Steps syms i L I R → g.Steps syms i L' I' R' → L = L' ∧ I = I' ∧ R = R' := by
  intro i L I R L' I' R' h
  induction h generalizing L' I' R' with
  | zero => intro h'; cases h'; exact ⟨rfl, rfl, rfl⟩
  | succ _ hk hc hr ih =>
    intro h'
    cases h' with
    | succ h1 hk1 hc1 hr1 =>
      obtain ⟨rfl, rfl, rfl⟩ := ih h1
      rw [hk] at hk1
      obtain rfl := Option.some.inj hk1
      obtain rfl := hc.one hc1
      rw [hr] at hr1
      injection hr1 with e
      injection e with e1 e2
      subst e1; subst e2
      exact ⟨rfl, rfl, rfl⟩
theorem Gr.Steps.lens {g : Gr} {syms : List Int} {i : Nat} {L I R} (h : g.Steps syms i L I R) : I.length = i ∧ R.length = i := by
  induction h with
  | zero => exact ⟨rfl, rfl⟩
  | succ _ _ _ _ ih => simp [ih.1, ih.2]
/-- One step less. -/
theorem Gr.Steps.back {g : Gr} {syms : List Int} {i : Nat} {L I R} (h : g.Steps syms i L I R) : ∀ j, j < i → ∃ L' I' R' k, g.Steps syms j L' I' R' ∧ L'[j]? = some k := by
  induction h with
  | zero => intro j hj; cases hj
  | succ hs hk _ _ ih =>
    intro j hj
    rcases Nat.lt_succ_iff_lt_or_eq.1 hj with hj | rfl
    · exact ih j hj
    · exact ⟨_, _, _, _, hs, hk⟩
/-- All states. -/
structure Gr.IsAuto (g : Gr) (syms : List Int) (L I : List (List It)) (R : List (List Int)) : Prop where
  steps : g.Steps syms L.length L I R
/-- Too many of them. -/
noncomputable def Gr.Many (g : Gr) (syms : List Int) : Prop := ∃ i L I R k c, g.Steps syms i L I R ∧ L[i]? = some k ∧ g.IsClos k c ∧ g.row c syms L = none
theorem Gr.IsAuto.one {g : Gr} {syms : List Int} {L I R L' I' R'} (h : g.IsAuto syms L I R) (h' : g.IsAuto syms L' I' R') : L = L' ∧ I = I' ∧ R = R' := by
  have key : ∀ {L I R L' I' R'}, g.IsAuto syms L I R → g.IsAuto syms L' I' R' → ¬ L.length < L'.length := by
    intro L I R L' I' R' h h' hlt
    obtain ⟨L1, I1, R1, k, h1, hk⟩ := h'.steps.back _ hlt
    obtain ⟨rfl, _, _⟩ := h.steps.one h1
    rw [List.getElem?_eq_none (Nat.le_refl _)] at hk
    cases hk
  have e : L.length = L'.length := by have := key h h'; have := key h' h; omega
  have h2 := h'.steps
  rw [← e] at h2
  exact h.steps.one h2
theorem Gr.IsAuto.few {g : Gr} {syms : List Int} {L I R} (h : g.IsAuto syms L I R) : ¬ g.Many syms := by
  rintro ⟨i, L1, I1, R1, k, c, h1, hk, hc, hr⟩
  by_cases hlt : i < L.length
  · have key : ∀ {n L I R}, g.Steps syms n L I R → i < n → False := by
      intro n L I R hs
      induction hs with
      | zero => intro hj; cases hj
      | succ hs hk' hc' hr' ih =>
        intro hj
        rcases Nat.lt_succ_iff_lt_or_eq.1 hj with hj | rfl
        · exact ih hj
        · obtain ⟨rfl, _, _⟩ := hs.one h1
          rw [hk'] at hk
          obtain rfl := Option.some.inj hk
          obtain rfl := hc'.one hc
          rw [hr'] at hr
          cases hr
    exact key h.steps hlt
  · by_cases he : i = L.length
    · subst he
      obtain ⟨rfl, _, _⟩ := h.steps.one h1
      rw [List.getElem?_eq_none (Nat.le_refl _)] at hk
      cases hk
    · obtain ⟨L2, I2, R2, k2, h2, hk2⟩ := h1.back L.length (by omega)
      obtain ⟨rfl, _, _⟩ := h.steps.one h2
      rw [List.getElem?_eq_none (Nat.le_refl _)] at hk2
      cases hk2
/-! ### What is told of all states -/
theorem idx_lt {L : List (List It)} {k : List It} {i : Nat} (h : L.idxOf? k = some i) : i < L.length ∧ L[i]? = some k := by
  unfold List.idxOf? at h
  rw [List.findIdx?_eq_some_iff_getElem] at h
  obtain ⟨hi, he, _⟩ := h
  exact ⟨hi, by rw [List.getElem?_eq_getElem hi]; exact congrArg some (eq_of_beq he)⟩
theorem idx_none {L : List (List It)} {k : List It} (h : L.idxOf? k = none) : k ∉ L := by
  unfold List.idxOf? at h
  rw [List.findIdx?_eq_none_iff] at h
  intro m
  have := h k m
  simp at this
/-- Three ways. -/
theorem state_ways (L : List (List It)) (k : List It) :
    (k = [] ∧ state L k = (-1, L)) ∨ (k ≠ [] ∧ ∃ i : Nat, i < L.length ∧ L[i]? = some k ∧ state L k = ((i : Int), L)) ∨ (k ≠ [] ∧ k ∉ L ∧ state L k = ((L.length : Int), L ++ [k])) := by
  unfold state
  by_cases h : k = []
  · exact .inl ⟨h, by rw [if_pos h]⟩
  · right
    rw [if_neg h]
    cases e : L.idxOf? k with
    | some i => exact .inl ⟨h, i, (idx_lt e).1, (idx_lt e).2, rfl⟩
    | none => exact .inr ⟨h, idx_none e, rfl⟩
/-- States by number, as they are found. -/
noncomputable def scan : List Int → Int → Option Int
  | [], n => some n
  | t :: l, n => if t > n then none else if t = n then scan l (n + 1) else scan l n
theorem row_cons {g : Gr} {c : List It} {s : Int} {l : List Int} {L : List (List It)} {r : List Int} {L' : List (List It)} (h : g.row c (s :: l) L = some (r, L')) :
    ∃ i L1 r1, state L (g.beh c s) = (i, L1) ∧ i < 120 ∧ g.row c l L1 = some (r1, L') ∧ r = i :: r1 := by
  unfold Gr.row at h
  cases e : state L (g.beh c s) with
  | mk i L1 =>
    rw [e] at h
    simp only at h
    by_cases hi : i ≥ 120
    · rw [if_pos hi] at h; cases h
    · rw [if_neg hi] at h
      cases e2 : g.row c l L1 with
      | none => rw [e2] at h; cases h
      | some x =>
        obtain ⟨r1, L2⟩ := x
        rw [e2] at h
        simp only [Option.map_some, Option.some.injEq, Prod.mk.injEq] at h
        obtain ⟨rfl, rfl⟩ := h
        exact ⟨i, L1, r1, rfl, by omega, e2, rfl⟩
theorem row_scan {g : Gr} {c : List It} : ∀ {l : List Int} {L : List (List It)} {r : List Int} {L' : List (List It)}, g.row c l L = some (r, L') →
    scan r (L.length : Int) = some (L'.length : Int) ∧ (L.Nodup → L'.Nodup) ∧ L <+: L' := by
  intro l
  induction l with
  | nil =>
    intro L r L' h
    simp only [Gr.row, Option.some.injEq, Prod.mk.injEq] at h
    obtain ⟨rfl, rfl⟩ := h
    exact ⟨rfl, id, List.prefix_refl _⟩
  | cons s l ih =>
    intro L r L' h
    obtain ⟨i, L1, r1, e, hi, h1, rfl⟩ := row_cons h
    obtain ⟨a, b, d⟩ := ih h1
    rcases state_ways L (g.beh c s) with ⟨_, e'⟩ | ⟨_, j, hj, _, e'⟩ | ⟨_, hn, e'⟩
    · rw [e'] at e; injection e with e1 e2; subst e1; subst e2
      refine ⟨?_, b, d⟩
      simp only [scan]
      rw [if_neg (by omega), if_neg (by omega)]; exact a
    · rw [e'] at e; injection e with e1 e2; subst e1; subst e2
      refine ⟨?_, b, d⟩
      simp only [scan]
      rw [if_neg (by omega), if_neg (by omega)]; exact a
    · rw [e'] at e; injection e with e1 e2; subst e1; subst e2
      refine ⟨?_, fun hL => b ?_, ?_⟩
      · simp only [scan]
        rw [if_neg (by omega)]
        simp only [if_true]
        rw [List.length_append] at a
        simpa using a
      · rw [List.nodup_append]
        exact ⟨hL, by simp, fun x hx y hy => by simp only [List.mem_singleton] at hy; subst hy; rintro rfl; exact hn hx⟩
      · exact (List.prefix_append L _).trans d
/-- Where a symbol leads to. -/
theorem row_to {g : Gr} {c : List It} : ∀ {l : List Int} {L : List (List It)} {r : List Int} {L' : List (List It)}, g.row c l L = some (r, L') →
    r.length = l.length ∧ ∀ (j : Nat) (s : Int), l[j]? = some s → ∃ t, r[j]? = some t ∧ ((t = -1 ∧ g.beh c s = []) ∨ (0 ≤ t ∧ g.beh c s ≠ [] ∧ L'[t.toNat]? = some (g.beh c s))) := by
  intro l
  induction l with
  | nil =>
    intro L r L' h
    simp only [Gr.row, Option.some.injEq, Prod.mk.injEq] at h
    obtain ⟨rfl, rfl⟩ := h
    exact ⟨rfl, fun j s hj => by simp at hj⟩
  | cons s l ih =>
    intro L r L' h
    obtain ⟨i, L1, r1, e, hi, h1, rfl⟩ := row_cons h
    obtain ⟨a, b⟩ := ih h1
    have pre := (row_scan h1).2.2
    refine ⟨by simp [a], fun j s' hj => ?_⟩
    cases j with
    | succ j => exact b j s' (by simpa using hj)
    | zero =>
      obtain rfl : s = s' := by simpa using hj
      refine ⟨i, rfl, ?_⟩
      rcases state_ways L (g.beh c s) with ⟨hk, e'⟩ | ⟨hk, j, hj, hs, e'⟩ | ⟨hk, hn, e'⟩
      · rw [e'] at e; injection e with e1 e2
        exact .inl ⟨e1.symm, hk⟩
      · rw [e'] at e; injection e with e1 e2; subst e1; subst e2
        refine .inr ⟨by omega, hk, ?_⟩
        obtain ⟨t, rfl⟩ := pre
        rw [List.getElem?_append_left (by simpa using hj)]
        simpa using hs
      · rw [e'] at e; injection e with e1 e2; subst e1; subst e2
        refine .inr ⟨by omega, hk, ?_⟩
        obtain ⟨t, rfl⟩ := pre
        rw [List.getElem?_append_left (by simp)]
        simp
theorem beh_mem {g : Gr} {c : List It} {s : Int} {y : It} (h : y ∈ g.beh c s) : ∃ x ∈ c, g.sym x = some s ∧ y = (x.1, x.2 + 1) := by
  unfold Gr.beh at h
  obtain ⟨x, hx, e⟩ := List.mem_filterMap.1 h
  by_cases es : g.sym x = some s
  · rw [if_pos es] at e
    exact ⟨x, hx, es, (Option.some.inj e).symm⟩
  · rw [if_neg es] at e; cases e
end Go.Lr
end
section
namespace Go.Lr
/-- The program's: 'set' has what 'l' has; what stands ahead of i is done. -/
structure CInv (g : Gr) (k set l : List It) (i : Nat) : Prop where
  srt : Srt set
  same : ∀ x, x ∈ set ↔ x ∈ l
  base : ∀ x ∈ k, x ∈ set
  sound : ∀ x ∈ set, g.Reach k x
  done : ∀ j x, j < i → l[j]? = some x → ∀ y, g.kid x y → y ∈ set
theorem CInv.end_ {g : Gr} {k set l : List It} (h : CInv g k set l l.length) : g.IsClos k set :=
  ⟨h.srt, h.base, fun x hx y hk => by
    obtain ⟨j, hj, e⟩ := List.getElem_of_mem ((h.same x).1 hx)
    exact h.done j x hj (by rw [List.getElem?_eq_getElem hj, e]) y hk, h.sound⟩
theorem CInv.skip {g : Gr} {k set l : List It} {i : Nat} {x : It} (h : CInv g k set l i) (hx : l[i]? = some x) (hs : ∀ s, g.sym x = some s → s ≤ g.tokens) : CInv g k set l (i + 1) :=
  ⟨h.srt, h.same, h.base, h.sound, fun j y hj hy z hz => by
    rcases Nat.lt_succ_iff_lt_or_eq.1 hj with hj | rfl
    · exact h.done j y hj hy z hz
    · rw [hx] at hy
      obtain rfl := Option.some.inj hy
      obtain ⟨s, e, _, _, r, _, _, hlt⟩ := hz
      have := hs s e
      omega⟩
/-- In the midst of the rules: those ahead of q are done. -/
structure CIn (g : Gr) (k set l : List It) (i : Nat) (x : It) (q : Nat) : Prop extends CInv g k set l i where
  at_ : l[i]? = some x
  part : ∀ y, g.kid x y → y.1 < q → y ∈ set
theorem CInv.enter {g : Gr} {k set l : List It} {i : Nat} {x : It} (h : CInv g k set l i) (hx : l[i]? = some x) : CIn g k set l i x 0 :=
  ⟨h, hx, fun y hy hq => by obtain ⟨_, _, _, h0, _⟩ := hy; omega⟩
theorem CIn.leave {g : Gr} {k set l : List It} {i : Nat} {x : It} (h : CIn g k set l i x g.rules.length) : CInv g k set l (i + 1) :=
  ⟨h.srt, h.same, h.base, h.sound, fun j y hj hy z hz => by
    rcases Nat.lt_succ_iff_lt_or_eq.1 hj with hj | rfl
    · exact h.done j y hj hy z hz
    · rw [h.at_] at hy
      obtain rfl := Option.some.inj hy
      refine h.part z hz ?_
      obtain ⟨_, _, _, h0, r, hr, _⟩ := hz
      obtain ⟨hlt, _⟩ := List.getElem?_eq_some_iff.1 hr
      omega⟩
theorem CIn.pass {g : Gr} {k set l : List It} {i : Nat} {x : It} {q : Nat} {r : Rl} (h : CIn g k set l i x q) (hr : g.rules[q]? = some r) (hs : ∀ s, g.sym x = some s → r.1 ≠ s) : CIn g k set l i x (q + 1) :=
  ⟨h.toCInv, h.at_, fun y hy hq => by
    by_cases e : y.1 < q
    · exact h.part y hy e
    · obtain ⟨s, e1, _, h0, r', hr', e2, _⟩ := hy
      have : y.1.toNat = q := by omega
      rw [this, hr] at hr'
      obtain rfl := Option.some.inj hr'
      exact absurd e2 (hs s e1)⟩
theorem CIn.take {g : Gr} {k set l : List It} {i : Nat} {x : It} {q : Nat} {r : Rl} {s : Int} (h : CIn g k set l i x q) (hr : g.rules[q]? = some r) (hs : g.sym x = some s) (e : r.1 = s) (hT : g.tokens < s) :
    CIn g k (put set ((q : Int), 0)) (if ((q : Int), (0 : Int)) ∈ set then l else l ++ [((q : Int), 0)]) i x (q + 1) := by
  have hx : x ∈ set := (h.same x).2 (List.mem_of_getElem? h.at_)
  have hk : g.kid x ((q : Int), 0) := ⟨s, hs, rfl, by simp, r, by simpa using hr, e, hT⟩
  have hi : i < l.length := (List.getElem?_eq_some_iff.1 h.at_).1
  have mem : ∀ z, z ∈ (if ((q : Int), (0 : Int)) ∈ set then l else l ++ [((q : Int), 0)]) ↔ z = ((q : Int), 0) ∨ z ∈ l := by
    intro z
    by_cases m : ((q : Int), (0 : Int)) ∈ set
    · rw [if_pos m]
      constructor
      · exact .inr
      · rintro (rfl | h')
        · exact (h.same _).1 m
        · exact h'
    · rw [if_neg m]; simp [or_comm]
  have get : ∀ j y, j ≤ i → (if ((q : Int), (0 : Int)) ∈ set then l else l ++ [((q : Int), 0)])[j]? = some y → l[j]? = some y := by
    intro j y hj hy
    by_cases m : ((q : Int), (0 : Int)) ∈ set
    · rwa [if_pos m] at hy
    · rw [if_neg m, List.getElem?_append_left (by omega)] at hy; exact hy
  refine ⟨⟨put_srt _ h.srt, fun z => ?_, fun z hz => (put_mem _ _ _).2 (.inr (h.base z hz)), fun z hz => ?_, fun j y hj hy z hz => ?_⟩, ?_, fun y hy hq => ?_⟩
  · rw [put_mem, mem, h.same]
  · rcases (put_mem _ _ _).1 hz with rfl | hz
    · exact .step (h.sound x hx) hk
    · exact h.sound z hz
  · exact (put_mem _ _ _).2 (.inr (h.done j y hj (get j y (Nat.le_of_lt hj) hy) z hz))
  · by_cases m : ((q : Int), (0 : Int)) ∈ set
    · rw [if_pos m]; exact h.at_
    · rw [if_neg m, List.getElem?_append_left hi]; exact h.at_
  · refine (put_mem _ _ _).2 ?_
    by_cases e' : y.1 < q
    · exact .inr (h.part y hy e')
    · obtain ⟨_, _, y0, h0, _⟩ := hy
      exact .inl (Prod.ext (by omega) y0)
theorem put_in {x : It} : ∀ {l : List It}, Srt l → x ∈ l → put l x = l
  | [], _, h => by cases h
  | y :: l, hs, h => by
    have h' := List.pairwise_cons.1 hs
    unfold put
    rcases List.mem_cons.1 h with rfl | m
    · rw [if_neg (lt_irrefl _), if_pos rfl]
    · rw [if_pos (h'.1 x m), put_in h'.2 m]
theorem put_out {x : It} : ∀ {l : List It}, x ∉ l → (put l x).length = l.length + 1
  | [], _ => rfl
  | y :: l, h => by
    rw [List.mem_cons, not_or] at h
    unfold put
    by_cases a : lt y x
    · rw [if_pos a, List.length_cons, put_out h.2, List.length_cons]
    · rw [if_neg a, if_neg (fun e => h.1 e.symm)]; rfl
theorem put_up (l : List It) (hs : Srt l) (x : It) : l.length ≤ (put l x).length ∧ ((put l x).length = l.length → x ∈ l ∧ put l x = l) := by
  by_cases h : x ∈ l
  · rw [put_in hs h]; exact ⟨Nat.le_refl _, fun _ => ⟨h, rfl⟩⟩
  · rw [put_out h]; exact ⟨by omega, fun e => by omega⟩
/-- The document's, within a round that began with n members: either it has grown, or what stands ahead of i is done. -/
structure DInv (g : Gr) (k out : List It) (n i : Nat) : Prop where
  srt : Srt out
  base : ∀ x ∈ k, x ∈ out
  sound : ∀ x ∈ out, g.Reach k x
  len : n ≤ out.length
  done : out.length = n → ∀ j x, j < i → out[j]? = some x → ∀ y, g.kid x y → y ∈ out
theorem DInv.end_ {g : Gr} {k out : List It} {n : Nat} (h : DInv g k out n n) (e : out.length = n) : g.IsClos k out :=
  ⟨h.srt, h.base, fun x hx y hk => by
    obtain ⟨j, hj, e'⟩ := List.getElem_of_mem hx
    exact h.done e j x (by omega) (by rw [List.getElem?_eq_getElem hj, e']) y hk, h.sound⟩
theorem DInv.skip {g : Gr} {k out : List It} {n i : Nat} {x : It} (h : DInv g k out n i) (hx : out[i]? = some x) (hs : ∀ s, g.sym x = some s → s ≤ g.tokens) : DInv g k out n (i + 1) :=
  ⟨h.srt, h.base, h.sound, h.len, fun e j y hj hy z hz => by
    rcases Nat.lt_succ_iff_lt_or_eq.1 hj with hj | rfl
    · exact h.done e j y hj hy z hz
    · rw [hx] at hy
      obtain rfl := Option.some.inj hy
      obtain ⟨s, e, _, _, r, _, _, hlt⟩ := hz
      have := hs s e
      omega⟩
/-- In the midst of the rules. x: the item that was taken from the place i. -/
structure DIn (g : Gr) (k out : List It) (n i : Nat) (x : It) (q : Nat) : Prop extends DInv g k out n i where
  mem : x ∈ out
  at_ : out.length = n → out[i]? = some x
  part : out.length = n → ∀ y, g.kid x y → y.1 < q → y ∈ out
theorem DInv.enter {g : Gr} {k out : List It} {n i : Nat} {x : It} (h : DInv g k out n i) (hx : out[i]? = some x) : DIn g k out n i x 0 :=
  ⟨h, List.mem_of_getElem? hx, fun _ => hx, fun _ y hy hq => by obtain ⟨_, _, _, h0, _⟩ := hy; omega⟩
theorem DIn.leave {g : Gr} {k out : List It} {n i : Nat} {x : It} (h : DIn g k out n i x g.rules.length) : DInv g k out n (i + 1) :=
  ⟨h.srt, h.base, h.sound, h.len, fun e j y hj hy z hz => by
    rcases Nat.lt_succ_iff_lt_or_eq.1 hj with hj | rfl
    · exact h.done e j y hj hy z hz
    · rw [h.at_ e] at hy
      obtain rfl := Option.some.inj hy
      refine h.part e z hz ?_
      obtain ⟨_, _, _, h0, r, hr, _⟩ := hz
      obtain ⟨hlt, _⟩ := List.getElem?_eq_some_iff.1 hr
      omega⟩
theorem DIn.pass {g : Gr} {k out : List It} {n i : Nat} {x : It} {q : Nat} {r : Rl} (h : DIn g k out n i x q) (hr : g.rules[q]? = some r) (hs : ∀ s, g.sym x = some s → g.tokens < s → r.1 ≠ s) : DIn g k out n i x (q + 1) :=
  ⟨h.toDInv, h.mem, h.at_, fun e0 y hy hq => by
    by_cases e : y.1 < q
    · exact h.part e0 y hy e
    · obtain ⟨s, e1, _, h0, r', hr', e2, e3⟩ := hy
      have : y.1.toNat = q := by omega
      rw [this, hr] at hr'
      obtain rfl := Option.some.inj hr'
      exact absurd e2 (hs s e1 e3)⟩
theorem DIn.take {g : Gr} {k out : List It} {n i : Nat} {x : It} {q : Nat} {r : Rl} {s : Int} (h : DIn g k out n i x q) (hr : g.rules[q]? = some r) (hs : g.sym x = some s) (e : r.1 = s) (hT : g.tokens < s) :
    DIn g k (put out ((q : Int), 0)) n i x (q + 1) := by
  have hk : g.kid x ((q : Int), 0) := ⟨s, hs, rfl, by simp, r, by simpa using hr, e, hT⟩
  have up := put_up out h.srt ((q : Int), 0)
  have hl := h.len
  have keep : (put out ((q : Int), 0)).length = n → out.length = n ∧ put out ((q : Int), 0) = out ∧ ((q : Int), (0 : Int)) ∈ out := by
    intro e0
    have e1 : (put out ((q : Int), 0)).length = out.length := by omega
    exact ⟨by omega, (up.2 e1).2, (up.2 e1).1⟩
  refine ⟨⟨put_srt _ h.srt, fun z hz => (put_mem _ _ _).2 (.inr (h.base z hz)), fun z hz => ?_, by omega, fun e0 j y hj hy z hz => ?_⟩, (put_mem _ _ _).2 (.inr h.mem), fun e0 => ?_, fun e0 y hy hq => ?_⟩
  · rcases (put_mem _ _ _).1 hz with rfl | hz
    · exact .step (h.sound x h.mem) hk
    · exact h.sound z hz
  · obtain ⟨a, b, _⟩ := keep e0
    rw [b] at hy ⊢
    exact h.done a j y hj hy z hz
  · obtain ⟨a, b, _⟩ := keep e0
    rw [b]; exact h.at_ a
  · obtain ⟨a, b, d⟩ := keep e0
    rw [b]
    by_cases e' : y.1 < q
    · exact h.part a y hy e'
    · obtain ⟨_, _, y0, h0, _⟩ := hy
      have : y = ((q : Int), 0) := Prod.ext (by omega) y0
      rw [this]; exact d
end Go.Lr
end
section
namespace Go.Ev
set_option linter.all false
open Go.Proofs
set_option maxRecDepth 10000
theorem cmpIt_lt {a b : Int × Int} : cmpIt a b < 0 ↔ Lr.lt a b := cmpIt_neg
theorem srt_of {xs : List (Int × Int)} (h : Sorted xs) : Lr.Srt xs := List.pairwise_iff_getElem.2 fun i j hi hj hij => cmpIt_lt.1 (h i j _ _ hij (List.getElem?_eq_getElem hi) (List.getElem?_eq_getElem hj))
/-- Add: whether it was not there; then it is. -/
theorem call44 {S : Sums} (hS : Plain S [43, 44, 60, 61, 62, 63, 73, 74]) (h64 : S 64 = some insW) {m : AMem} {g : Nat} {v : AV} {xs : List (Int × Int)} (h : SetIs m g v xs) (hx : xs.length < 490) (x : Int × Int) :
    ∃ m' v', CallTo Tryz.prog S 44 [.ptr g 0, itV x] m (.bool (decide (x ∉ xs))) m' ∧ Kp (fun a => a = g ∨ ∃ o n c, v = .slice a o n c) m m' ∧ SetIs m' g v' (Lr.put xs x) ∧ (∀ b o n c, v' = .slice b o n c → m.next ≤ b ∨ v' = v) := by
  by_cases hm : x ∈ xs
  · obtain ⟨m', hc, K⟩ := add_found hS h hx x hm
    rw [decide_eq_false (fun k => k hm), Lr.put_in (srt_of h.srt) hm]
    exact ⟨m', v, hc, K.any, h.up K, fun _ _ _ _ _ => .inr rfl⟩
  · obtain ⟨m', i, hc, C, K, v', h', hf⟩ := add_new hS h64 h hx x hm
    rw [decide_eq_true hm]
    have e : xs.take i ++ x :: xs.drop i = Lr.put xs x := Lr.srt_ext (srt_of h'.srt) (Lr.put_srt x (srt_of h.srt)) fun y => by rw [mem_ins, Lr.put_mem]
    rw [e] at h'
    exact ⟨m', v', hc, K, h', fun b o n c e => .inl (hf b o n c e)⟩
/-- All of a row, put in order. -/
noncomputable def putAll (s : List (Int × Int)) (l : List (Int × Int)) : List (Int × Int) := l.foldl Lr.put s
theorem putAll_mem (x : Int × Int) : ∀ (l s : List (Int × Int)), x ∈ putAll s l ↔ x ∈ l ∨ x ∈ s
  | [], s => by simp [putAll]
  | y :: l, s => by
    show x ∈ putAll (Lr.put s y) l ↔ _
    rw [putAll_mem x l, Lr.put_mem, List.mem_cons]
    constructor
    · rintro (h | h | h) <;> simp [h]
    · rintro ((h | h) | h) <;> simp [h]
theorem putAll_length : ∀ (l s : List (Int × Int)), (putAll s l).length ≤ s.length + l.length
  | [], s => Nat.le_refl _
  | y :: l, s => by
    have h := putAll_length l (Lr.put s y)
    have h2 : (Lr.put s y).length ≤ s.length + 1 := by
      clear h
      induction s with
      | nil => simp [Lr.put]
      | cons a s ih =>
        unfold Lr.put
        split
        · simp only [List.length_cons]; omega
        · split <;> simp
    show (putAll (Lr.put s y) l).length ≤ _
    rw [List.length_cons]
    omega
theorem putAll_srt : ∀ {l s : List (Int × Int)}, Lr.Srt s → Lr.Srt (putAll s l)
  | [], s, h => h
  | y :: l, s, h => putAll_srt (l := l) (Lr.put_srt y h)
theorem putAll_take {s xs : List (Int × Int)} {i : Nat} {x : Int × Int} (h : xs[i]? = some x) : putAll s (xs.take (i + 1)) = Lr.put (putAll s (xs.take i)) x := by
  obtain ⟨hi, he⟩ := List.getElem?_eq_some_iff.1 h
  rw [List.take_succ_eq_append_getElem hi, he]
  simp [putAll]
theorem call42 {S : Sums} (hS : Plain S [42, 43, 44, 59, 60, 61, 62, 63, 73, 74]) (h64 : S 64 = some insW) {m : AMem} {v : AV} {xs : List (Int × Int)} (hv : RowIs itC 2 m v xs) (hx : xs.length < 490) :
    ∃ r m', CallTo Tryz.prog S 42 [.fn 43 [], v] m r m' ∧ ∃ g u, r = .ptr g 0 ∧ Kp Nothing m m' ∧ m.next ≤ g ∧ SetIs m' g u (putAll [] xs) ∧ (∀ b o n c, u = .slice b o n c → m.next ≤ b) := by
  have hS' : Plain S [43, 44, 60, 61, 62, 63, 73, 74] := fun f hf => hS f (by simp at hf ⊢; omega)
  refine XP.call (hS 42 (by decide)) cd42 nt42 ?_
  show XP _ _ _ _ (toT .leaf [(1, v), (0, .fn 43 [])]) m _
  unfold Tryz.f42
  dsimp only [Option.getD_some]
  refine XP.seq ?_; refine XP.regionS ?_; refine RP.o1 (.assign rfl) rfl rfl ?_; refine RP.nil ?_
  obtain ⟨m1, hc, K, hs, hn⟩ := call59 (hS 59 (by decide)) (m := m)
  refine XP.seq ?_; refine XP.regionS ?_; refine RP.o1 (.move rfl) rfl rfl ?_; refine RP.op (.callS rfl rfl hc) rfl rfl K.le ?_; refine RP.o1 (.assign rfl) rfl rfl ?_; refine RP.nil ?_; refine XP.seq ?_; refine XP.seq ?_; refine XP.regionS ?_; refine RP.o1 (.move rfl) rfl rfl ?_; refine RP.o1 (.len rfl (rowLen hv)) rfl rfl ?_; refine RP.o1 (.move rfl) rfl rfl ?_; refine RP.nil ?_
  refine XP.block ?_  -- block 0
  refine XP.while (fun d t m2 => ∃ i t0 u, t = toT t0 [(12, .int .i64 (.ofNat i)), (11, .int .i64 (.ofNat xs.length)), (10, v), (5, .ptr m.next 0)] ∧ d = xs.length - i ∧ i ≤ xs.length ∧ Kp Nothing m m2 ∧ SetIs m2 m.next u (putAll [] (xs.take i)) ∧ (∀ b o n c, u = .slice b o n c → m.next ≤ b)) ?_ xs.length _ _ ?_
  rotate_left
  · exact ⟨0, _, _, toT_less (.cons rfl (.cons rfl (.cons rfl (.cons rfl (.nil))))), rfl, Nat.zero_le _, K, hs, fun _ _ _ _ e => by cases e⟩
  clear hs K
  rintro d t M1 ⟨i1, t0, u, rfl, rfl, hin1, K, hs, hu⟩
  refine XP.seq ?_; refine XP.regionS ?_; refine RP.o1 (.bin rfl rfl (by first | exact lss_nat | exact lss_is)) rfl rfl ?_; refine RP.nil ?_; refine XP.seq ?_
  refine XP.condD rfl (fun hc13 => ?_) (fun hc13 => ?_)  -- if t13
  · refine XP.skip ?_
    obtain ⟨x, hx1⟩ : ∃ x, xs[i1]? = some x := ⟨xs[i1]'hc13, List.getElem?_eq_getElem _⟩
    obtain ⟨b, off, cap, rfl, _, E1⟩ := hv.elem encIt K hx1
    refine XP.seq ?_
    refine XP.block ?_  -- block 1
    refine XP.seq ?_; refine XP.regionS ?_; refine RP.o1 (.indexAddr rfl rfl ix46 (by assumption)) rfl rfl ?_; refine RP.o1 (.loadE rfl E1 lay54 rfl) rfl rfl ?_; refine RP.alloc z54 rfl rfl fun M2 K2 B7 N2 => ?_
    have hl := hs.lt
    have hs0 := hs
    have hs := hs.up K2
    have hK := K.le
    have K := K.trans K2
    refine RP.store rfl rfl lay54 rfl B7 rfl rfl rfl rfl fun M3 K3 B7 N3 => ?_
    have B7 : BoxIs M3 M1.next (itC x) := B7
    have hw : ∀ a, (a = m.next ∨ ∃ o n c, u = .slice a o n c) → m.next ≤ a := fun a ha => by
      rcases ha with rfl | ⟨o, n, c, e⟩
      · exact Nat.le_refl _
      · exact hu _ _ _ _ e
    have hlt := hs.lt
    have ne1 : m.next ≠ M1.next := Nat.ne_of_lt hl
    have ne2 : ∀ o n c, u ≠ .slice M1.next o n c := fun o n c e => by
      rcases hs0.row with ⟨e', _⟩ | ⟨b', e', R, _⟩
      · rw [e] at e'; cases e'
      · rw [e] at e'; injection e' with e'; subst e'
        exact Nat.lt_irrefl _ R.lt
    have hs := hs.keep K3 ne1 (fun b o n c e k => by subst k; exact ne2 _ _ _ e)
    have K := K.young K3 (by rintro _ rfl; omega)
    refine RP.nil ?_
    obtain ⟨M4, u', hc, K4, hs4, hf⟩ := call44 hS' h64 hs (by have := putAll_length (xs.take i1) []; simp only [List.length_take, List.length_nil] at this; omega) x
    rw [← putAll_take hx1] at hs4
    refine XP.regionS ?_; refine RP.o1 (.move rfl) rfl rfl ?_; refine RP.o1 (.loadE rfl B7.el lay54 rfl) rfl rfl ?_; refine RP.op (.callS rfl rfl hc) rfl rfl K4.le ?_; refine RP.nil ?_; refine XP.regionS ?_
    refine RP.o1 (.bin rfl rfl (by first | exact inc_is (by omega) | exact add_is (by omega) (by omega))) rfl rfl ?_
    refine RP.o1 (.move rfl) rfl rfl ?_; refine RP.nil ?_
    refine ⟨xs.length - (i1 + 1), by omega, i1 + 1, _, u', toT_less (.cons rfl (.cons rfl (.cons rfl (.cons rfl (.nil))))), rfl, by omega, K.young K4 hw, hs4, fun b o n c e => ?_⟩
    rcases hf b o n c e with h | rfl
    · have := K.le; omega
    · exact hu _ _ _ _ e
  · refine XP.exit ?_  -- 0
    obtain rfl : i1 = xs.length := by omega
    rw [List.take_length] at hs
    refine XP.seq ?_; refine XP.regionS ?_; refine RP.o1 (.move rfl) rfl rfl ?_; refine RP.o1 (.assign rfl) rfl rfl ?_; refine RP.nil ?_
    exact XP.ret ⟨.inr rfl, _, _, oneRes rfl, _, u, rfl, K, Nat.le_refl _, hs, hu⟩
end Go.Ev
end
section
namespace Go.Ev
set_option linter.all false
open Go.Proofs
noncomputable def grOf (toks nts : Int) (rs : List Rl) : Lr.Gr := ⟨toks, nts, rs.map fun r => (r.left, r.right)⟩
theorem grOf_rule {toks nts : Int} {rs : List Rl} {i : Nat} {r : Rl} (h : rs[i]? = some r) : (grOf toks nts rs).rules[i]? = some (r.left, r.right) := by
  show (rs.map fun r => (r.left, r.right))[i]? = _
  rw [List.getElem?_map, h]; rfl
theorem grOf_sym {toks nts : Int} {rs : List Rl} {r d : Nat} {q : Rl} (h : rs[r]? = some q) : (grOf toks nts rs).sym (Int.ofNat r, Int.ofNat d) = q.right[d]? := by
  show (Lr.rd (grOf toks nts rs).rules (Int.ofNat r)).2[(Int.ofNat d).toNat]? = _
  have : Lr.rd (grOf toks nts rs).rules (Int.ofNat r) = (q.left, q.right) := by
    show (grOf toks nts rs).rules.getD (Int.ofNat r).toNat default = _
    rw [List.getD_eq_getElem?_getD, show (Int.ofNat r).toNat = r from rfl, grOf_rule h]; rfl
  rw [this]; rfl
theorem grOf_length {toks nts : Int} {rs : List Rl} : (grOf toks nts rs).rules.length = rs.length := List.length_map _
/-! ### How many items there are -/
theorem nodup_sub {α : Type} [DecidableEq α] : ∀ {l L : List α}, l.Nodup → (∀ x ∈ l, x ∈ L) → l.length ≤ L.length
  | [], _, _, _ => Nat.zero_le _
  | x :: l, L, hn, hs => by
    have hn' := List.nodup_cons.1 hn
    have hx := hs x (by simp)
    have h := nodup_sub (l := l) (L := L.erase x) hn'.2 fun y hy => by
      have hne : y ≠ x := fun e => hn'.1 (e ▸ hy)
      exact (List.mem_erase_of_ne hne).2 (hs y (List.mem_cons_of_mem _ hy))
    rw [List.length_erase_of_mem hx] at h
    have : 0 < L.length := List.length_pos_of_mem hx
    rw [List.length_cons]; omega
/-- Few rules, none of them long. -/
structure Small (rs : List Rl) : Prop where
  few : rs.length ≤ 31
  short : ∀ r ∈ rs, r.right.length ≤ 6
noncomputable def allItems : List (Int × Int) := (List.range 31).flatMap fun r => (List.range 7).map fun d => (Int.ofNat r, Int.ofNat d)
theorem allItems_length : allItems.length = 217 := by kernel_rfl
theorem items_in {rs : List Rl} (hS : Small rs) {xs : List (Int × Int)} (h : ItemsOf rs xs) : ∀ x ∈ xs, x ∈ allItems := fun x hx => by
  obtain ⟨r, d, q, rfl, hq, hd⟩ := h x hx
  obtain ⟨hr, _⟩ := List.getElem?_eq_some_iff.1 hq
  have h1 := hS.few
  have h2 := hS.short q (List.mem_of_getElem? hq)
  exact List.mem_flatMap.2 ⟨r, List.mem_range.2 (by omega), List.mem_map.2 ⟨d, List.mem_range.2 (by omega), rfl⟩⟩
theorem items_few {rs : List Rl} (hS : Small rs) {xs : List (Int × Int)} (h : ItemsOf rs xs) (hn : xs.Nodup) : xs.length ≤ 217 := by
  rw [← allItems_length]; exact nodup_sub hn (items_in hS h)
theorem srt_nodup {xs : List (Int × Int)} (h : Lr.Srt xs) : xs.Nodup := List.Pairwise.imp (fun {a b} (hab : Lr.lt a b) (e : a = b) => Lr.lt_irrefl b (by rw [e] at hab; exact hab)) h
/-! ### The list, the set -/
structure ClSt (rs : List Rl) (lo : Nat) (M : AMem) (g : Nat) (lv u : AV) (l set : List (Int × Int)) : Prop where
  row : GrowIs itC 2 lo M lv l
  st : SetIs M g u set
  glo : lo ≤ g
  ulo : ∀ b o n c, u = .slice b o n c → lo ≤ b
  dis : ∀ b o n c, lv = .slice b o n c → b ≠ g ∧ ∀ o n c, u ≠ .slice b o n c
  items : ItemsOf rs l
  nodup : l.Nodup
  same : ∀ x, x ∈ set ↔ x ∈ l
theorem GrowIs.below {α : Type} {enc : α → List AV} {sz lo : Nat} {m : AMem} {v : AV} {xs : List α} (h : GrowIs enc sz lo m v xs) {b o n c} (e : v = .slice b o n c) : b < m.next := by
  rcases h with ⟨e', _⟩ | ⟨b', _, e', _, R, _⟩
  · rw [e'] at e; cases e
  · rw [e'] at e; injection e with e; subst e; exact R.lt
theorem SetIs.below {m : AMem} {g : Nat} {v : AV} {xs : List (Int × Int)} (h : SetIs m g v xs) {b o n c} (e : v = .slice b o n c) : b < m.next := by
  rcases h.row with ⟨e', _⟩ | ⟨b', e', R, _⟩
  · rw [e'] at e; cases e
  · rw [e'] at e; injection e with e; subst e; exact R.lt
variable {rs : List Rl} {lo : Nat} {M M' : AMem} {g : Nat} {lv u : AV} {l set : List (Int × Int)}
theorem ClSt.up (h : ClSt rs lo M g lv u l set) (k : Kp Nothing M M') : ClSt rs lo M' g lv u l set := ⟨h.row.up k, h.st.up k, h.glo, h.ulo, h.dis, h.items, h.nodup, h.same⟩
theorem ClSt.few (hS : Small rs) (h : ClSt rs lo M g lv u l set) : l.length ≤ 217 ∧ set.length ≤ 217 :=
  ⟨items_few hS h.items h.nodup, items_few hS (fun x hx => h.items x ((h.same x).1 hx)) (srt_nodup (srt_of h.st.srt))⟩
theorem ClSt.rowAdd (h : ClSt rs lo M g lv u l set) (k : Kp (fun a => a = g ∨ ∃ o n c, u = .slice a o n c) M M') : GrowIs itC 2 lo M' lv l := h.row.keep k fun b o n c e d => by
  rcases d with rfl | ⟨o', n', c', e'⟩
  · exact (h.dis _ _ _ _ e).1 rfl
  · exact (h.dis _ _ _ _ e).2 _ _ _ e'
/-- Behind Add of what is not there, and append. -/
theorem ClSt.app {x : Int × Int} {u' lv' : AV} {M2 : AMem} (h : ClSt rs lo M g lv u l set) (hx : x ∉ set) (k : Kp (fun a => a = g ∨ ∃ o n c, u = .slice a o n c) M M') (hs : SetIs M' g u' (Lr.put set x)) (hu : ∀ b o n c, u' = .slice b o n c → M.next ≤ b ∨ u' = u) (hl : lo ≤ M.next)
    (hm : M'.next ≤ M2.next) (G : GrowIs itC 2 lo M2 lv' (l ++ [x])) (old : ∀ b, b < M'.next → (∀ off n c, lv ≠ .slice b off n c) → M2.t.get b = M'.t.get b) (new : ∀ b off n c, lv' = .slice b off n c → M'.next ≤ b) (hi : ItemsOf rs [x]) :
    ClSt rs lo M2 g lv' u' (l ++ [x]) (Lr.put set x) ∧ Kp (fun b => lo ≤ b) M M2 := by
  have ulo' : ∀ b o n c, u' = .slice b o n c → lo ≤ b := fun b o n c e => by
    rcases hu b o n c e with q | rfl
    · omega
    · exact h.ulo _ _ _ _ e
  have K2 : Kp (fun b => ∃ o n c, lv = .slice b o n c) M' M2 := ⟨hm, fun b hb hd => old b hb fun o n c e => hd ⟨o, n, c, e⟩⟩
  refine ⟨⟨G, hs.keep K2 ?_ ?_, h.glo, ulo', fun b o n c e => ?_, fun y hy => ?_, ?_, fun y => ?_⟩, ?_⟩
  · rintro ⟨o, n, c, e⟩; exact (h.dis _ _ _ _ e).1 rfl
  · rintro b o n c e ⟨o', n', c', e'⟩
    rcases hu b o n c e with q | rfl
    · have := h.row.below e'; omega
    · exact (h.dis _ _ _ _ e').2 _ _ _ e
  · have hb := new b o n c e
    have := hs.lt
    refine ⟨by omega, fun o n c e' => ?_⟩
    have := hs.below e'
    omega
  · rcases List.mem_append.1 hy with hy | hy
    · exact h.items y hy
    · exact hi y hy
  · rw [List.nodup_append]
    refine ⟨h.nodup, by simp, fun a ha b hb => ?_⟩
    simp only [List.mem_singleton] at hb
    subst hb
    rintro rfl
    exact hx ((h.same _).2 ha)
  · rw [Lr.put_mem, List.mem_append, List.mem_singleton, h.same, or_comm]
  · have a : Kp (fun b => lo ≤ b) M M' := k.mono fun b _ d => by
      rcases d with rfl | ⟨o, n, c, e⟩
      · exact h.glo
      · exact h.ulo _ _ _ _ e
    have b : Kp (fun b => lo ≤ b) M' M2 := K2.mono fun b _ d => by
      obtain ⟨o, n, c, e⟩ := d
      rcases h.row with ⟨e', _⟩ | ⟨b', _, e', hlo, _⟩
      · rw [e'] at e; cases e
      · rw [e'] at e; injection e with e; subst e; exact hlo
    exact a.trans b
/-- Behind Add of what is there. -/
theorem ClSt.stay {x : Int × Int} {u' : AV} (h : ClSt rs lo M g lv u l set) (hx : x ∈ set) (k : Kp (fun a => a = g ∨ ∃ o n c, u = .slice a o n c) M M') (hs : SetIs M' g u' (Lr.put set x)) (hu : ∀ b o n c, u' = .slice b o n c → M.next ≤ b ∨ u' = u) (hl : lo ≤ M.next) :
    ClSt rs lo M' g lv u' l (Lr.put set x) ∧ Kp (fun b => lo ≤ b) M M' := by
  have ulo' : ∀ b o n c, u' = .slice b o n c → lo ≤ b := fun b o n c e => by
    rcases hu b o n c e with q | rfl
    · omega
    · exact h.ulo _ _ _ _ e
  refine ⟨⟨h.row.keep k ?_, hs, h.glo, ulo', fun b o n c e => ⟨(h.dis b o n c e).1, fun o' n' c' e' => ?_⟩, h.items, h.nodup, fun y => ?_⟩, k.mono fun b _ d => ?_⟩
  · rintro b o n c e (rfl | ⟨o', n', c', e'⟩)
    · exact (h.dis _ _ _ _ e).1 rfl
    · exact (h.dis _ _ _ _ e).2 _ _ _ e'
  · rcases hu _ _ _ _ e' with q | rfl
    · have := h.row.below e; omega
    · exact (h.dis _ _ _ _ e).2 _ _ _ e'
  · rw [Lr.put_mem, h.same]
    constructor
    · rintro (rfl | h')
      · exact (h.same _).1 hx
      · exact h'
    · exact .inr
  · rcases d with rfl | ⟨o, n, c, e⟩
    · exact h.glo
    · exact h.ulo _ _ _ _ e
end Go.Ev
end
section
namespace Go.Ev
set_option linter.all false
open Go.Proofs
set_option maxRecDepth 10000
set_option maxHeartbeats 2000000
theorem build54k {k : Nat} {m : AMem} : aBuild Tryz.prog 54 [(0, .int .i64 (.ofNat k))] m = .mk (.agg [.int .i64 (.ofNat k), .int .i64 (.ofNat 0)]) m := by kernel_rfl
theorem rowLen29 {m : AMem} {v : AV} {rs : List Rl} (h : RulesIs m v rs) {M : AMem} : aLen Tryz.prog 29 v M = .mk (.int .i64 (.ofNat rs.length)) M := by
  obtain ⟨raw, h1, h2, _⟩ := h
  rcases h1 with ⟨rfl, rfl⟩ | ⟨rfl, rfl⟩ | ⟨b, off, cap, rfl, _⟩
  · rw [← h2]; exact len29n
  · rw [← h2]; exact len29e
  · rw [← h2]; exact len29
abbrev clF : List Nat := [32, 33, 42, 43, 44, 45, 59, 60, 61, 62, 63, 73, 74]
theorem call33 {S : Sums} (hS : Plain S clF) (h64 : S 64 = some insW) {m : AMem} {toks nts start expect : Int} {vn vl va vr v : AV} {rs : List Rl} {xs : List (Int × Int)} (hr : RulesIs m vr rs) (hv : RowIs itC 2 m v xs) (hi : ItemsOf rs xs) (hnd : xs.Nodup) (hne : xs ≠ []) (hB : Small rs) :
    ∃ r m', CallTo Tryz.prog S 33 [specV toks nts start expect vn vl va vr, v] m r m' ∧ ∃ c, Kp Nothing m m' ∧ RowIs itC 2 m' r c ∧ (grOf toks nts rs).IsClos xs c ∧ ItemsOf rs c ∧ (∀ b o n k, r = .slice b o n k → m.next ≤ b) := by
  have hS32 := hS 32 (by decide)
  have hS42 : Plain S [42, 43, 44, 59, 60, 61, 62, 63, 73, 74] := fun f hf => hS f (by simp at hf ⊢; omega)
  have hS44 : Plain S [43, 44, 60, 61, 62, 63, 73, 74] := fun f hf => hS f (by simp at hf ⊢; omega)
  have hS45 : Plain S [32, 45] := fun f hf => hS f (by simp at hf ⊢; omega)
  have hx0 := items_few hB hi hnd
  have hfr := hB.few
  refine XP.call (hS 33 (by decide)) cd33 nt33 ?_
  show XP _ _ _ _ (toT .leaf [(1, v), (0, specV toks nts start expect vn vl va vr)]) m _
  unfold Tryz.f33
  dsimp only [Option.getD_some]
  have K : Kp Nothing m m := .refl m
  refine XP.seq ?_; refine XP.regionS ?_
  have hk1 := K.le
  refine RP.box rfl rfl rfl rfl fun M1 K1 B2 N1 => ?_
  have K := K.trans K1
  have hr0 := hr.up K1
  have hv0 := hv.up K1
  have B2o := B2
  refine RP.o1 (.assign rfl) rfl rfl ?_; refine RP.nil ?_; refine XP.seq ?_
  obtain ⟨lv0, M2, hc32, K2, _, hf32, hg32⟩ := call32 hS32 hv0 (by omega)
  have hg32 := hg32 hne
  refine XP.regionS ?_; refine RP.o1 (.move rfl) rfl rfl ?_; refine RP.op (.callS rfl rfl hc32) rfl rfl K2.le ?_; refine RP.o1 (.assign rfl) rfl rfl ?_; refine RP.nil ?_; refine XP.seq ?_
  have hv2 := hv0.up K2
  obtain ⟨r0, M3, hc42, g, u0, rfl, K3, hg, hs42, hf42⟩ := call42 hS42 h64 hv2 (by omega)
  have st0 : ClSt rs M1.next M3 g lv0 u0 xs (putAll [] xs) := ⟨hg32.up K3, hs42, by have := K2.le; omega, fun b o n c e => by have := hf42 _ _ _ _ e; have := K2.le; omega, fun b o n c e => ⟨by have := hg32.below e; omega, fun o' n' c' e' => by have := hg32.below e; have := hf42 _ _ _ _ e'; omega⟩, hi, hnd, fun x => by simp [putAll_mem]⟩
  have ci0 : Lr.CInv (grOf toks nts rs) xs (putAll [] xs) xs 0 := ⟨putAll_srt List.Pairwise.nil, fun x => by simp [putAll_mem], fun x hx => (putAll_mem x _ _).2 (.inl hx), fun x hx => .base (by simpa [putAll_mem] using hx), fun j x hj => by omega⟩
  refine XP.regionS ?_; refine RP.o1 (.move rfl) rfl rfl ?_; refine RP.op (.callS rfl rfl hc42) rfl rfl K3.le ?_; refine RP.o1 (.assign rfl) rfl rfl ?_; refine RP.nil ?_; refine XP.seq ?_; refine XP.seq ?_; refine XP.regionS ?_; refine RP.o1 (.assign rfl) rfl rfl ?_; refine RP.nil ?_
  refine XP.block ?_  -- block 0
  refine XP.while (fun d t m1 => ∃ i t0 lv u l set, t = toT t0 [(7, .int .i64 (.ofNat i)), (6, .ptr g 0), (5, lv), (2, .ptr m.next 0)] ∧ d = 218 - i ∧ Kp Nothing M1 m1 ∧ ClSt rs M1.next m1 g lv u l set ∧ Lr.CInv (grOf toks nts rs) xs set l i) ?_ 218 _ _ ?_
  rotate_left
  · exact ⟨0, _, lv0, u0, xs, _, toT_less (.cons rfl (.cons rfl (.cons rfl (.cons rfl (.nil))))), rfl, K2.trans K3, st0, ci0⟩
  rintro d t M2 ⟨i, t0, lv, u, l, set, rfl, rfl, KA, st, ci⟩
  clear st0 ci0 hg32
  have K := K1.trans KA
  have B2 := B2o.up KA
  have hrM := hr0.up KA
  refine XP.seq ?_; refine XP.seq ?_; refine XP.regionS ?_; refine RP.o1 (.move rfl) rfl rfl ?_; refine RP.o1 (.move rfl) rfl rfl ?_; refine RP.o1 (.len rfl (rowLen st.row.row)) rfl rfl ?_; refine RP.o1 (.bin rfl rfl (by first | exact lss_nat | exact lss_is)) rfl rfl ?_; refine RP.nil ?_
  refine XP.condD rfl (fun hc19 => ?_) (fun hc19 => ?_)  -- if t19
  · refine XP.skip ?_; refine XP.seq ?_
    refine XP.block ?_  -- block 1
    refine XP.seq ?_
    obtain ⟨x, hx1⟩ : ∃ x, l[i]? = some x := ⟨l[i]'hc19, List.getElem?_eq_getElem _⟩
    obtain ⟨r, dd, q, rfl, hq, hdd⟩ := st.items x (List.mem_of_getElem? hx1)
    obtain ⟨bl, ol, cl, rfl, hli, E1⟩ := st.row.row.elem encIt (.refl _) hx1
    obtain ⟨br, or_, cr, vq, rfl, hri, E2o, RQo, _⟩ := hr0.elem (.refl _) hq
    have E2 := E2o.up KA
    have RQ := RQo.up KA
    have hfew := st.few hB
    have hsym : (grOf toks nts rs).sym (Int.ofNat r, Int.ofNat dd) = q.right[dd]? := grOf_sym hq
    have hKA := KA.le
    refine XP.drawnS (ms := [0, 1, 0, 0, 12, 28, 60, 127, 255, 511, 1023]) (by kernel_rfl) ?_; refine DP.pure (.fieldAddr rfl fa31_7) rfl rfl rfl ?_
    refine DP.read (fun _ => op_load1 (ev_is rfl) lay29 (by first | (apply BoxIs.get; assumption; rfl) | (apply ElAt.get; assumption; rfl) | (apply ElAt.get0; assumption; rfl) | assumption)) rfl rfl rfl (fun _ => op_load_leaf) (.inl (by kernel_rfl)) (fun _ => cuts_nil) ?_
    refine DP.pure (.move rfl) rfl rfl rfl ?_; refine DP.pure (.move rfl) rfl rfl rfl ?_; refine DP.pure (.indexAddr rfl rfl ix46 (by assumption)) rfl rfl rfl ?_; refine DP.pure (.fieldAddr rfl fa54_0) rfl rfl rfl ?_
    refine DP.read (fun _ => op_load1 (ev_is rfl) lay3 (by first | (apply BoxIs.get; assumption; rfl) | (apply ElAt.get; assumption; rfl) | (apply ElAt.get0; assumption; rfl) | assumption)) rfl rfl rfl (fun _ => op_load_leaf) (.inl (by kernel_rfl)) (fun _ => cuts_nil) ?_
    refine DP.pure (.indexAddr rfl rfl ix29 (by assumption)) rfl rfl rfl ?_; refine DP.pure (.fieldAddr rfl fa56_1) rfl rfl rfl ?_
    refine DP.read (fun _ => op_load1 (ev_is rfl) lay28 (by first | (apply BoxIs.get; assumption; rfl) | (apply ElAt.get; assumption; rfl) | (apply ElAt.get0; assumption; rfl) | assumption)) rfl rfl rfl (fun _ => op_load_leaf) (.inl (by kernel_rfl)) (fun _ => cuts_nil) ?_
    refine DP.pure (.assign rfl) rfl rfl rfl ?_; refine DP.nil ?_; refine XP.seq ?_; refine XP.seq ?_; refine XP.drawnS (ms := [0, 0, 3, 7, 15, 0, 32, 127, 255, 511, 511, 511, 3583, 7679, 15871, 32767, 65535, 511, 131583, 524287, 1048575]) (by kernel_rfl) ?_; refine DP.pure (.move rfl) rfl rfl rfl ?_; refine DP.pure (.move rfl) rfl rfl rfl ?_; refine DP.pure (.indexAddr rfl rfl ix46 (by assumption)) rfl rfl rfl ?_; refine DP.pure (.fieldAddr rfl fa54_1) rfl rfl rfl ?_
    refine DP.read (fun _ => op_load1 (ev_is rfl) lay3 (by first | (apply BoxIs.get; assumption; rfl) | (apply ElAt.get; assumption; rfl) | (apply ElAt.get0; assumption; rfl) | assumption)) rfl rfl rfl (fun _ => op_load_leaf) (.inl (by kernel_rfl)) (fun _ => cuts_nil) ?_
    refine DP.pure (.move rfl) rfl rfl rfl ?_; refine DP.pure (.len rfl (rowLen28 RQ)) rfl rfl rfl ?_; refine DP.pure (.bin rfl rfl eql_is) rfl rfl rfl ?_; refine DP.pure (.move rfl) rfl rfl rfl ?_
    rcases Decidable.em (Int.ofNat dd = Int.ofNat q.right.length) with hp40 | hp40
    · simp only [decide_eq_true hp40]
      refine DP.skip ⟨_,_,_,rfl,rfl,rfl,rfl⟩ rfl ?_; refine DP.skip ⟨_,_,_,rfl,rfl,rfl,rfl⟩ rfl ?_; refine DP.skip ⟨_,_,_,rfl,rfl,rfl,rfl⟩ rfl ?_; refine DP.skip ⟨_,_,_,rfl,rfl,rfl,rfl⟩ rfl ?_; refine DP.skip ⟨_,_,_,rfl,rfl,rfl,rfl⟩ rfl ?_; refine DP.skip ⟨_,_,_,rfl,rfl,rfl,rfl⟩ rfl ?_; refine DP.skip ⟨_,_,_,rfl,rfl,rfl,rfl⟩ rfl ?_; refine DP.skip ⟨_,_,_,rfl,rfl,rfl,rfl⟩ rfl ?_; refine DP.skip ⟨_,_,_,rfl,rfl,rfl,rfl⟩ rfl ?_; refine DP.skip ⟨_,_,_,rfl,rfl,rfl,rfl⟩ rfl ?_; refine DP.skip ⟨_,_,_,rfl,rfl,rfl,rfl⟩ rfl ?_; refine DP.pure (.pick (b := true) rfl rfl) rfl rfl rfl ?_; refine DP.nil ?_
      refine XP.condS true rfl ?_  -- if t52
      refine XP.exit ?_  -- 1
      refine XP.regionS ?_; refine RP.o1 (.move rfl) rfl rfl ?_
      refine RP.o1 (.bin rfl rfl (by first | exact inc_is (by omega) | exact add_is (by omega) (by omega))) rfl rfl ?_
      refine RP.o1 (.assign rfl) rfl rfl ?_; refine RP.nil ?_
      have hn0 : q.right[dd]? = none := List.getElem?_eq_none (by have := Int.ofNat.inj hp40; omega)
      refine ⟨218 - (i + 1), by omega, i + 1, _, _, u, l, set, toT_less (.cons rfl (.cons rfl (.cons rfl (.cons rfl (.nil))))), rfl, KA, st, ci.skip hx1 fun s e => ?_⟩
      rw [hsym, hn0] at e; cases e
    · simp only [decide_eq_false hp40]
      refine DP.pure (.move rfl) rfl rfl ⟨_,_,_,rfl,rfl,rfl,rfl⟩ ?_
      have hdl : dd < q.right.length := by have : dd ≠ q.right.length := fun e => hp40 (by rw [e]); omega
      obtain ⟨y, hy⟩ : ∃ y, q.right[dd]? = some y := ⟨q.right[dd]'hdl, List.getElem?_eq_getElem _⟩
      obtain ⟨bq, oq, cq, rfl, _, EQo⟩ := RQo.elem encI (.refl _) hy
      have EQ := EQo.up KA
      refine DP.pure (.move rfl) rfl rfl ⟨_,_,_,rfl,rfl,rfl,rfl⟩ ?_; refine DP.pure (.move rfl) rfl rfl ⟨_,_,_,rfl,rfl,rfl,rfl⟩ ?_; refine DP.pure (.indexAddr rfl rfl ix46 (by assumption)) rfl rfl ⟨_,_,_,rfl,rfl,rfl,rfl⟩ ?_; refine DP.pure (.fieldAddr rfl fa54_1) rfl rfl ⟨_,_,_,rfl,rfl,rfl,rfl⟩ ?_
      refine DP.read (fun _ => op_load1 (ev_is rfl) lay3 (by first | (apply BoxIs.get; assumption; rfl) | (apply ElAt.get; assumption; rfl) | (apply ElAt.get0; assumption; rfl) | assumption)) rfl rfl ⟨_,_,_,rfl,rfl,rfl,rfl⟩ (fun _ => op_load_leaf) (.inl (by kernel_rfl)) (fun _ => cuts_nil) ?_
      refine DP.pure (.indexAddr rfl rfl ix28 (by assumption)) rfl rfl ⟨_,_,_,rfl,rfl,rfl,rfl⟩ ?_
      refine DP.read (fun _ => op_load1 (ev_is rfl) lay3 (by first | (apply BoxIs.get; assumption; rfl) | (apply ElAt.get; assumption; rfl) | (apply ElAt.get0; assumption; rfl) | assumption)) rfl rfl ⟨_,_,_,rfl,rfl,rfl,rfl⟩ (fun _ => op_load_leaf) (.inl (by kernel_rfl)) (fun _ => cuts_nil) ?_
      refine DP.pure (.fieldAddr rfl fa31_0) rfl rfl ⟨_,_,_,rfl,rfl,rfl,rfl⟩ ?_
      refine DP.read (fun _ => op_load1 (ev_is rfl) lay3 (by first | (apply BoxIs.get; assumption; rfl) | (apply ElAt.get; assumption; rfl) | (apply ElAt.get0; assumption; rfl) | assumption)) rfl rfl ⟨_,_,_,rfl,rfl,rfl,rfl⟩ (fun _ => op_load_leaf) (.inl (by kernel_rfl)) (fun _ => cuts_nil) ?_
      refine DP.pure (.bin rfl rfl leq_is) rfl rfl ⟨_,_,_,rfl,rfl,rfl,rfl⟩ ?_; refine DP.pure (.pick (b := false) rfl rfl) rfl rfl rfl ?_; refine DP.nil ?_
      refine XP.condN rfl (fun hc52 => ?_) (fun hc52 => ?_)  -- if t52
      · refine XP.skip ?_; refine XP.seq ?_; refine XP.regionS ?_; refine RP.o1 (.fieldAddr rfl fa31_7) rfl rfl ?_
        refine RP.o1 (.load1 rfl lay29 (by first | (apply BoxIs.get; assumption; rfl) | (apply ElAt.get; assumption; rfl) | (apply ElAt.get0; assumption; rfl) | assumption)) rfl rfl ?_
        refine RP.o1 (.len rfl (rowLen29 hrM)) rfl rfl ?_; refine RP.o1 (.move rfl) rfl rfl ?_; refine RP.nil ?_
        refine XP.block ?_  -- block 2
        refine XP.while (fun d t m1 => ∃ kx t0 lv2 u2 l2 set2, t = toT t0 [(56, .int .i64 (.ofNat kx)), (55, .int .i64 (.ofNat rs.length)), (54, .slice br or_ rs.length cr), (8, .slice bq oq q.right.length cq), (7, .int .i64 (.ofNat i)), (6, .ptr g 0), (5, lv2), (2, .ptr m.next 0)] ∧ d = rs.length - kx ∧ kx ≤ rs.length ∧ Kp Nothing M1 m1 ∧ ClSt rs M1.next m1 g lv2 u2 l2 set2 ∧ Lr.CIn (grOf toks nts rs) xs set2 l2 i (Int.ofNat r, Int.ofNat dd) kx) ?_ rs.length _ _ ?_
        rotate_left
        · exact ⟨0, _, _, u, l, set, toT_less (.cons rfl (.cons rfl (.cons rfl (.cons rfl (.cons rfl (.cons rfl (.cons rfl (.cons rfl (.nil))))))))), rfl, Nat.zero_le _, KA, st, ci.enter hx1⟩
        rintro d t M3 ⟨kx, t0, lv2, u2, l2, set2, rfl, rfl, hkx, KC, st2, cin⟩
        have hfew2 := st2.few hB
        have K := K1.trans KC
        have B2 := B2o.up KC
        have hrN := hr0.up KC
        have hKC := KC.le
        refine XP.seq ?_; refine XP.regionS ?_; refine RP.o1 (.bin rfl rfl (by first | exact lss_nat | exact lss_is)) rfl rfl ?_; refine RP.nil ?_; refine XP.seq ?_
        refine XP.condD rfl (fun hc57 => ?_) (fun hc57 => ?_)  -- if t57
        · refine XP.skip ?_; refine XP.seq ?_
          refine XP.block ?_  -- block 3
          refine XP.seq ?_
          obtain ⟨rl, hrl⟩ : ∃ rl, rs[kx]? = some rl := ⟨rs[kx]'hc57, List.getElem?_eq_getElem _⟩
          obtain ⟨_, _, _, vrl, eS, _, E3, _, hpl⟩ := hrN.elem (.refl _) hrl
          injection eS with e1 e2 e3 e4
          subst e1; subst e2; subst e4
          have hglt := st2.st.lt
          have hub : ∀ b o n c, u2 = .slice b o n c → b < M3.next := fun b o n c e => st2.st.below e
          refine XP.regionS ?_; refine RP.o1 (.move rfl) rfl rfl ?_; refine RP.o1 (.indexAddr rfl rfl ix29 (by assumption)) rfl rfl ?_; refine RP.o1 (.loadE rfl (by first | assumption | (apply BoxIs.el; assumption)) lay56 (by rfl)) rfl rfl ?_
          have hk4 := K.le
          have lt2 := B2.lt
          refine RP.alloc z56 rfl rfl fun M4 K4 B10 N4 => ?_
          have K := K.trans K4
          have B2 := B2.up K4
          refine RP.o1 (.assign rfl) rfl rfl ?_; refine RP.store rfl rfl lay56 rfl B10 rfl hpl rfl rfl fun M5 K5 B10 N5 => ?_
          have K := K.young K5 (by rintro _ rfl; omega)
          have B2 := B2.keep K5 (by first | exact Nat.ne_of_lt (by assumption) | exact Nat.ne_of_gt (by assumption) | (intro e; omega))
          refine RP.nil ?_; refine XP.seq ?_; refine XP.regionS ?_; refine RP.o1 (.move rfl) rfl rfl ?_; refine RP.o1 (.build rfl build54k) rfl rfl ?_
          have hk6 := K.le
          have lt2 := B2.lt
          have lt10 := B10.lt
          refine RP.alloc z54 rfl rfl fun M6 K6 B11 N6 => ?_
          have K := K.trans K6
          have B2 := B2.up K6
          have B10 := B10.up K6
          refine RP.store rfl rfl lay54 rfl B11 rfl rfl rfl rfl fun M7 K7 B11 N7 => ?_
          have K := K.young K7 (by rintro _ rfl; omega)
          have B2 := B2.keep K7 (by first | exact Nat.ne_of_lt (by assumption) | exact Nat.ne_of_gt (by assumption) | (intro e; omega))
          have B10 := B10.keep K7 (by first | exact Nat.ne_of_lt (by assumption) | exact Nat.ne_of_gt (by assumption) | (intro e; omega))
          refine RP.nil ?_; refine XP.seq ?_
          have kkX : Kp Nothing M3 M5 := Kp.young (.refl _) (K4.any.trans K5) (by rintro _ rfl; exact Nat.le_refl _)
          have kkY : Kp Nothing M5 M7 := Kp.young (.refl _) (K6.any.trans K7) (by rintro _ rfl; exact Nat.le_refl _)
          have kkZ : Kp Nothing M3 M7 := kkX.trans kkY
          have KZ := KC.trans kkZ
          have hKZ := KZ.le
          have st2 := st2.up kkZ
          obtain ⟨bl, ol, cl, rfl, hli2, E1⟩ := st2.row.row.elem encIt (.refl _) cin.at_
          have EQ := EQo.up KZ
          have B11 : BoxIs M7 M5.next (itC (Int.ofNat kx, 0)) := B11
          obtain ⟨M8, u3, hc44, K8, hs8, hu8⟩ := call44 hS44 h64 st2.st (by omega) (Int.ofNat kx, 0)
          refine XP.drawnS (ms := [0, 1, 0, 0, 0, 24, 56, 120, 252, 508, 1023, 2047, 4095, 4095, 16383, 32767]) (by kernel_rfl) ?_; refine DP.pure (.fieldAddr rfl fa56_0) rfl rfl rfl ?_
          refine DP.read (fun _ => op_load1 (ev_is rfl) lay3 (by first | (apply BoxIs.get; assumption; rfl) | (apply ElAt.get; assumption; rfl) | (apply ElAt.get0; assumption; rfl) | assumption)) rfl rfl rfl (fun _ => op_load_leaf) (.inl (by kernel_rfl)) (fun _ => cuts_nil) ?_
          refine DP.pure (.move rfl) rfl rfl rfl ?_; refine DP.pure (.move rfl) rfl rfl rfl ?_; refine DP.pure (.move rfl) rfl rfl rfl ?_; refine DP.pure (.indexAddr rfl rfl ix46 (by assumption)) rfl rfl rfl ?_; refine DP.pure (.fieldAddr rfl fa54_1) rfl rfl rfl ?_
          refine DP.read (fun _ => op_load1 (ev_is rfl) lay3 (by first | (apply BoxIs.get; assumption; rfl) | (apply ElAt.get; assumption; rfl) | (apply ElAt.get0; assumption; rfl) | assumption)) rfl rfl rfl (fun _ => op_load_leaf) (.inl (by kernel_rfl)) (fun _ => cuts_nil) ?_
          refine DP.pure (.indexAddr rfl rfl ix28 (by assumption)) rfl rfl rfl ?_
          refine DP.read (fun _ => op_load1 (ev_is rfl) lay3 (by first | (apply BoxIs.get; assumption; rfl) | (apply ElAt.get; assumption; rfl) | (apply ElAt.get0; assumption; rfl) | assumption)) rfl rfl rfl (fun _ => op_load_leaf) (.inl (by kernel_rfl)) (fun _ => cuts_nil) ?_
          refine DP.pure (.bin rfl rfl eql_is) rfl rfl rfl ?_; refine DP.pure (.move rfl) rfl rfl rfl ?_
          rcases Decidable.em (rl.left = y) with hp74 | hp74
          · simp only [decide_eq_true hp74]
            refine DP.pure (.move rfl) rfl rfl ⟨_,_,_,rfl,rfl,rfl,rfl⟩ ?_; refine DP.read (fun _ => op_loadE rfl (by first | assumption | (apply BoxIs.el; assumption)) lay54 (by rfl)) rfl rfl ⟨_,_,_,rfl,rfl,rfl,rfl⟩ (fun _ => op_load_leaf) (.inl (by kernel_rfl)) (fun _ => cuts_nil) ?_
            refine DP.heavy (.callS rfl rfl hc44) rfl rfl ⟨_,_,_,rfl,rfl,rfl,rfl⟩ (by kernel_rfl) (by kernel_rfl) K8.le (pk_drop (by kernel_rfl) (pk_drop (by kernel_rfl) (pk_drop (by kernel_rfl) (pk_drop (by kernel_rfl) pk_nil)))) ?_; refine DP.pure (.pick (b := true) rfl rfl) rfl rfl rfl ?_; refine DP.nil ?_
            refine XP.condB rfl (fun hc78 => ?_) (fun hc78 => ?_)  -- if t78
            · have hnot : ((Int.ofNat kx : Int), (0 : Int)) ∉ set2 := of_decide_eq_true hc78
              obtain ⟨i46, e46, s46⟩ := ei46
              have hK8 := K8.le
              have B11 := B11.keep K8 (by
                rintro (e | ⟨o, n, c, e⟩)
                · omega
                · have := hub _ _ _ _ e; omega)
              obtain ⟨lv3, M9, ha, hm9, G9, K9, old9, new9⟩ := append_one (lo := M1.next) (x := (Int.ofNat kx, (0 : Int))) encIt (by decide) e46 s46 ap46 (st2.rowAdd K8) (by omega) (by omega)
              obtain ⟨st3, KD⟩ := st2.app hnot K8 hs8 hu8 (by omega) K9.le G9 old9 new9 (fun z hz => by simp only [List.mem_singleton] at hz; subst hz; exact ⟨kx, 0, rl, rfl, hrl, Nat.zero_le _⟩)
              refine XP.regionS ?_; refine RP.o1 (.move rfl) rfl rfl ?_; refine RP.o1 (.loadE rfl (by first | assumption | (apply BoxIs.el; assumption)) lay54 (by rfl)) rfl rfl ?_
              refine RP.op (.buildSlice rfl e46 (by rw [s46]; rfl) (by rw [s46]; exact fill46 (x := (Int.ofNat kx, (0 : Int))))) rfl rfl (Nat.le_succ _) ?_
              rw [s46]
              refine RP.op (OpTo.of fun _ => op_append rfl rfl ha) rfl rfl hm9 ?_; refine RP.o1 (.assign rfl) rfl rfl ?_; refine RP.nil ?_; refine XP.regionS ?_
              refine RP.o1 (.bin rfl rfl (by first | exact inc_is (by omega) | exact add_is (by omega) (by omega))) rfl rfl ?_
              refine RP.o1 (.move rfl) rfl rfl ?_; refine RP.nil ?_
              have hT := cin.take (grOf_rule hrl) (hsym.trans hy) hp74 hc52
              rw [if_neg (show ¬ (((kx : Int), (0 : Int)) ∈ set2) from hnot)] at hT
              exact ⟨rs.length - (kx + 1), by omega, kx + 1, _, lv3, u3, _, _, toT_less (.cons rfl (.cons rfl (.cons rfl (.cons rfl (.cons rfl (.cons rfl (.cons rfl (.cons rfl (.nil))))))))), rfl, by omega, KZ.young KD (fun _ h => h), st3, hT⟩
            · refine XP.skip ?_; refine XP.regionS ?_
              refine RP.o1 (.bin rfl rfl (by first | exact inc_is (by omega) | exact add_is (by omega) (by omega))) rfl rfl ?_
              refine RP.o1 (.move rfl) rfl rfl ?_; refine RP.nil ?_
              have hin : ((Int.ofNat kx : Int), (0 : Int)) ∈ set2 := Decidable.not_not.1 (of_decide_eq_false hc78)
              obtain ⟨st3, KD⟩ := st2.stay hin K8 hs8 hu8 (by omega)
              have hT := cin.take (grOf_rule hrl) (hsym.trans hy) hp74 hc52
              rw [if_pos (show ((kx : Int), (0 : Int)) ∈ set2 from hin)] at hT
              exact ⟨rs.length - (kx + 1), by omega, kx + 1, _, _, u3, _, _, toT_less (.cons rfl (.cons rfl (.cons rfl (.cons rfl (.cons rfl (.cons rfl (.cons rfl (.cons rfl (.nil))))))))), rfl, by omega, KZ.young KD (fun _ h => h), st3, hT⟩
          · simp only [decide_eq_false hp74]
            refine DP.skip ⟨_,_,_,rfl,rfl,rfl,rfl⟩ rfl ?_; refine DP.skip ⟨_,_,_,rfl,rfl,rfl,rfl⟩ rfl ?_; refine DP.skip ⟨_,_,_,rfl,rfl,rfl,rfl⟩ rfl ?_; refine DP.pure (.pick (b := false) rfl rfl) rfl rfl rfl ?_; refine DP.nil ?_
            refine XP.condS false rfl ?_  -- if t78
            refine XP.skip ?_; refine XP.regionS ?_
            refine RP.o1 (.bin rfl rfl (by first | exact inc_is (by omega) | exact add_is (by omega) (by omega))) rfl rfl ?_
            refine RP.o1 (.move rfl) rfl rfl ?_; refine RP.nil ?_
            exact ⟨rs.length - (kx + 1), by omega, kx + 1, _, _, u2, _, _, toT_less (.cons rfl (.cons rfl (.cons rfl (.cons rfl (.cons rfl (.cons rfl (.cons rfl (.cons rfl (.nil))))))))), rfl, by omega, KZ, st2, cin.pass (grOf_rule hrl) (fun s e => by rw [hsym, hy] at e; cases e; exact hp74)⟩
        · refine XP.exit ?_  -- 2
          refine XP.regionS ?_; refine RP.o1 (.move rfl) rfl rfl ?_
          refine RP.o1 (.bin rfl rfl (by first | exact inc_is (by omega) | exact add_is (by omega) (by omega))) rfl rfl ?_
          refine RP.o1 (.assign rfl) rfl rfl ?_; refine RP.nil ?_
          refine ⟨218 - (i + 1), by omega, i + 1, _, _, u2, l2, set2, toT_less (.cons rfl (.cons rfl (.cons rfl (.cons rfl (.nil))))), rfl, KC, st2, ?_⟩
          obtain rfl : kx = rs.length := by omega
          exact Lr.CIn.leave (by rw [grOf_length]; exact cin)
      · refine XP.exit ?_  -- 1
        refine XP.regionS ?_; refine RP.o1 (.move rfl) rfl rfl ?_
        refine RP.o1 (.bin rfl rfl (by first | exact inc_is (by omega) | exact add_is (by omega) (by omega))) rfl rfl ?_
        refine RP.o1 (.assign rfl) rfl rfl ?_; refine RP.nil ?_
        refine ⟨218 - (i + 1), by omega, i + 1, _, _, u, l, set, toT_less (.cons rfl (.cons rfl (.cons rfl (.cons rfl (.nil))))), rfl, KA, st, ci.skip hx1 fun s e => ?_⟩
        rw [hsym, hy] at e
        cases e
        exact Int.not_lt.1 hc52
  · refine XP.exit ?_  -- 0
    refine XP.seq ?_
    have hfew := st.few hB
    obtain ⟨w45, M10, hc45, K45, R45, hf45⟩ := call45 hS45 st.st (by omega)
    have icl := Lr.CInv.end_ (g := grOf toks nts rs) (k := xs) (set := set) (l := l) ⟨ci.srt, ci.same, ci.base, ci.sound, fun j x hj => ci.done j x (by omega)⟩
    refine XP.regionS ?_; refine RP.o1 (.move rfl) rfl rfl ?_; refine RP.op (.callS rfl rfl hc45) rfl rfl K45.le ?_; refine RP.o1 (.assign rfl) rfl rfl ?_; refine RP.nil ?_
    exact XP.ret ⟨.inr rfl, _, _, oneRes rfl, set, K.trans K45, R45, icl, fun x hx => st.items x ((st.same x).1 hx), fun b o n k e => by have := hf45 _ _ _ _ e; have := K.le; omega⟩
end Go.Ev
end
section
namespace Go.Ev
set_option linter.all false
open Go.Proofs
/-- A slice at a block. -/
noncomputable def Blk1 (v : AV) (b : Nat) : Prop := ∃ o n c, v = .slice b o n c
/-- A value that may stand in a cell. -/
abbrev PV := {v : AV // v.plain = true}
abbrev pvC (a : PV) : List AV := [a.1]
theorem encPV : Enc pvC 1 := ⟨fun _ => rfl, fun a => by show (a.1.plain && true) = true; rw [a.2]; rfl⟩
section
variable {α : Type} {enc : α → List AV} {sz : Nat}
theorem RowIs.under {m : AMem} {v : AV} {xs : List α} (h : RowIs enc sz m v xs) {b : Nat} (e : Blk1 v b) : b < m.next := by
  obtain ⟨o, n, c, e⟩ := e
  rcases h with ⟨rfl, _⟩ | ⟨rfl, _⟩ | ⟨b', o', c', rfl, R⟩
  · cases e
  · cases e
  · injection e with e; subst e; exact R.lt
theorem RowIs.stays {m m' : AMem} {v : AV} {xs : List α} {D : Nat → Prop} (h : RowIs enc sz m v xs) (k : Kp D m m') (hd : ∀ b, Blk1 v b → ¬ D b) : RowIs enc sz m' v xs := h.keep k fun b o n c e => hd b ⟨o, n, c, e⟩
theorem GrowIs.stays {lo : Nat} {m m' : AMem} {v : AV} {xs : List α} {D : Nat → Prop} (h : GrowIs enc sz lo m v xs) (k : Kp D m m') (hd : ∀ b, Blk1 v b → ¬ D b) : GrowIs enc sz lo m' v xs := h.keep k fun b o n c e => hd b ⟨o, n, c, e⟩
theorem GrowIs.low {lo : Nat} {m : AMem} {v : AV} {xs : List α} (h : GrowIs enc sz lo m v xs) {b : Nat} (e : Blk1 v b) : lo ≤ b := by
  obtain ⟨o, n, c, e⟩ := e
  rcases h with ⟨rfl, _⟩ | ⟨b', _, rfl, hl, _⟩
  · cases e
  · injection e with e; subst e; exact hl
/-- A row of rows: that of the slices grows, those that it has are not among the blocks of D. -/
noncomputable def Rows (enc : α → List AV) (sz : Nat) (D : Nat → Prop) (lo : Nat) (m : AMem) (v : AV) (xss : List (List α)) : Prop :=
  ∃ raw : List PV, GrowIs pvC 1 lo m v raw ∧ raw.length = xss.length ∧ ∀ (i : Nat) a x, raw[i]? = some a → xss[i]? = some x → RowIs enc sz m a.1 x ∧ ∀ b, Blk1 a.1 b → ¬ D b
variable {D D' E : Nat → Prop} {lo : Nat} {m m' : AMem} {v v' : AV} {xss : List (List α)}
theorem Rows.up (h : Rows enc sz D lo m v xss) (k : Kp Nothing m m') : Rows enc sz D lo m' v xss := by
  obtain ⟨raw, h1, h2, h3⟩ := h
  exact ⟨raw, h1.up k, h2, fun i a x ha hx => ⟨(h3 i a x ha hx).1.up k, (h3 i a x ha hx).2⟩⟩
theorem Rows.keep (h : Rows enc sz D lo m v xss) (k : Kp E m m') (hv : ∀ b, Blk1 v b → ¬ E b) (hE : ∀ b, b < m.next → E b → D b) : Rows enc sz D lo m' v xss := by
  obtain ⟨raw, h1, h2, h3⟩ := h
  exact ⟨raw, h1.stays k hv, h2, fun i a x ha hx => by
    obtain ⟨r, d⟩ := h3 i a x ha hx
    exact ⟨r.stays k fun b hb e => d b hb (hE b (r.under hb) e), d⟩⟩
theorem Rows.mono (h : Rows enc sz D lo m v xss) (hD : ∀ b, b < m.next → D' b → D b) : Rows enc sz D' lo m v xss := by
  obtain ⟨raw, h1, h2, h3⟩ := h
  exact ⟨raw, h1, h2, fun i a x ha hx => by
    obtain ⟨r, d⟩ := h3 i a x ha hx
    exact ⟨r, fun b hb e => d b hb (hD b (r.under hb) e)⟩⟩
theorem Rows.low (h : Rows enc sz D lo m v xss) {b : Nat} (e : Blk1 v b) : lo ≤ b := let ⟨_, h1, _⟩ := h; h1.low e
theorem Rows.below (h : Rows enc sz D lo m v xss) {b : Nat} (e : Blk1 v b) : b < m.next := let ⟨_, h1, _⟩ := h; h1.row.under e
theorem Rows.nil : Rows enc sz D lo m .nils ([] : List (List α)) := ⟨[], .inl ⟨rfl, rfl⟩, rfl, fun i a x ha _ => by simp at ha⟩
theorem Rows.len (h : Rows enc sz D lo m v xss) : ∃ raw : List PV, RowIs pvC 1 m v raw ∧ raw.length = xss.length := let ⟨raw, h1, h2, _⟩ := h; ⟨raw, h1.row, h2⟩
/-- One of them. -/
theorem Rows.elem (h : Rows enc sz D lo m v xss) {i : Nat} {x : List α} (hx : xss[i]? = some x) : ∃ b off cap a, v = .slice b off xss.length cap ∧ i < xss.length ∧ ElAt m b (off + i * 1) [a] ∧ RowIs enc sz m a x ∧ (∀ b, Blk1 a b → ¬ D b) := by
  obtain ⟨raw, h1, h2, h3⟩ := h
  obtain ⟨hi, _⟩ := List.getElem?_eq_some_iff.1 hx
  obtain ⟨a, ha⟩ : ∃ a, raw[i]? = some a := ⟨raw[i]'(by omega), List.getElem?_eq_getElem _⟩
  obtain ⟨b, off, cap, e, _, E⟩ := h1.row.elem encPV (.refl _) ha
  obtain ⟨r, d⟩ := h3 i a x ha hx
  exact ⟨b, off, cap, a.1, by rw [e, h2], hi, E, r, d⟩
/-- One more. -/
theorem Rows.app {P : Program} {st : TypeId} {xt : Option TypeId} {i : TypeInfo} {z : List AV} (hi : elemInfo P st = some (i, z)) (hs : i.size = 1) (hap : appendable P xt = true) (h : Rows enc sz D lo m v xss) {a : AV} {x : List α} (ha : RowIs enc sz m a x) (hD : ∀ b, Blk1 a b → ¬ D b) (hv : ∀ b, Blk1 v b → D b)
    (hlo : lo ≤ m.next) (hl : xss.length < 1048576) : ∃ u m', aAppend P st xt v (.slice m.next 0 1 (some 1)) (m.new false 1 [a]) = .mk u m' ∧ (m.new false 1 [a]).next ≤ m'.next ∧ Kp (Blk1 v) m m' ∧ (∀ b, Blk1 u b → m.next ≤ b) ∧
      u.plain = true ∧ ∀ D' : Nat → Prop, (∀ b, b < m.next → D' b → D b) → Rows enc sz D' lo m' u (xss ++ [x]) := by
  obtain ⟨raw, h1, h2, h3⟩ := h
  obtain ⟨u, m', e, hn, G, _, old, new⟩ := append_one (x := (⟨a, ha.plain⟩ : PV)) encPV (by decide) hi hs hap h1 hlo (by omega)
  have hle : m.next ≤ m'.next := Nat.le_trans (Nat.le_succ _) hn
  have K : Kp (Blk1 v) m m' := ⟨hle, fun b hb hd => old b hb fun o n c q => hd ⟨o, n, c, q⟩⟩
  refine ⟨u, m', e, hn, K, fun b hb => by obtain ⟨o, n, c, q⟩ := hb; exact new b o n c q, G.row.plain, fun D' hD' => ⟨raw ++ [⟨a, ha.plain⟩], G, by simp [h2], fun i c y hc hy => ?_⟩⟩
  by_cases hi : i < raw.length
  · rw [List.getElem?_append_left hi] at hc
    rw [List.getElem?_append_left (by omega)] at hy
    obtain ⟨r, d⟩ := h3 i c y hc hy
    exact ⟨r.stays K fun b hb q => d b hb (hv b q), fun b hb q => d b hb (hD' b (r.under hb) q)⟩
  · have hi2 : i = raw.length := by
      have := (List.getElem?_eq_some_iff.1 hc).1
      simp at this; omega
    subst hi2
    rw [List.getElem?_append_right (Nat.le_refl _), Nat.sub_self] at hc
    rw [h2, List.getElem?_append_right (Nat.le_refl _), Nat.sub_self] at hy
    injection hc with hc; injection hy with hy
    subst hc; subst hy
    exact ⟨ha.stays K fun b hb q => hD b hb (hv b q), fun b hb q => hD b hb (hD' b (ha.under hb) q)⟩
end
theorem pv_row {m : AMem} {v : AV} {raw : List PV} (h : RowIs pvC 1 m v raw) : RowIs (fun a : AV => [a]) 1 m v (raw.map (·.1)) := by
  rcases h with ⟨rfl, rfl⟩ | ⟨rfl, rfl⟩ | ⟨b, off, cap, rfl, R⟩
  · exact .inl ⟨rfl, rfl⟩
  · exact .inr (.inl ⟨rfl, rfl⟩)
  · refine .inr (.inr ⟨b, off, cap, by rw [List.length_map], R.lt, ?_, fun i x hx j hj => ?_⟩)
    · rw [List.length_map]; exact R.blk
    · rw [List.getElem?_map] at hx
      cases e : raw[i]? with
      | none => rw [e] at hx; cases hx
      | some a => rw [e] at hx; cases hx; exact R.at_ i a e j hj
theorem Rows.kerns {D : Nat → Prop} {lo : Nat} {m : AMem} {v : AV} {xss : List (List (Int × Int))} (h : Rows itC 2 D lo m v xss) : KernsIs m v xss := by
  obtain ⟨raw, h1, h2, h3⟩ := h
  refine ⟨raw.map (·.1), pv_row h1.row, by rw [List.length_map, h2], fun i a k ha hk => ?_⟩
  rw [List.getElem?_map] at ha
  cases e : raw[i]? with
  | none => rw [e] at ha; cases ha
  | some c => rw [e] at ha; cases ha; exact (h3 i c k e hk).1
end Go.Ev
end
section
namespace Go.Ev
set_option linter.all false
open Go.Proofs
set_option maxRecDepth 10000
theorem idx_first (L : List (List (Int × Int))) (k : List (Int × Int)) : L.idxOf? k = L.findIdx? (fun x => decide (x = k)) := by
  unfold List.idxOf?
  congr 1
  funext x
  by_cases h : x = k
  · rw [decide_eq_true h, h]; exact beq_self_eq_true k
  · rw [decide_eq_false h]; exact beq_false_of_ne h
theorem state_found {L : List (List (Int × Int))} {k : List (Int × Int)} (hk : k ≠ []) (h : ¬ firstAt L k < 0) : Lr.state L k = (firstAt L k, L) := by
  unfold Lr.state firstAt at *
  rw [if_neg hk, idx_first]
  cases e : L.findIdx? (fun x => decide (x = k)) with
  | none => rw [e] at h; exact absurd (by decide) h
  | some i => rfl
theorem state_more {L : List (List (Int × Int))} {k : List (Int × Int)} (hk : k ≠ []) (h : firstAt L k < 0) : Lr.state L k = (Int.ofNat L.length, L ++ [k]) := by
  unfold Lr.state firstAt at *
  rw [if_neg hk, idx_first]
  cases e : L.findIdx? (fun x => decide (x = k)) with
  | none => rfl
  | some i => rw [e] at h; exact absurd h (by have : (0 : Int) ≤ Int.ofNat i := Int.natCast_nonneg _; exact Int.not_lt.2 this)
abbrev autoC (toks nts start expect : Int) (vn vl va vr lv gv iv : AV) : List AV := [.int .i64 toks, .int .i64 nts, .int .i64 start, .int .i64 expect, vn, vl, va, vr, lv, gv, iv]
theorem ap68 : appendable Tryz.prog (some 68) = true := by kernel_rfl
theorem fill68 {a : AV} (h : a.plain = true) : fillA (fun j => some (Nat.mul j 1, 1)) (repA [.nils] 1) [(0, a)] = some [a] := by cases a <;> first | rfl | (cases h)
theorem box_plain {a : AV} (h : a.plain = true) : a.onAgg (fun _ => true) a.plain = true := by cases a <;> first | rfl | (cases h)
theorem cells_of_plain {a : AV} (h : a.plain = true) : a.cells = [a] := by cases a <;> first | rfl | (cases h)
theorem rowLenK {α : Type} {enc : α → List AV} {sz : Nat} {m : AMem} {v : AV} {raw : List α} (h : RowIs enc sz m v raw) {M : AMem} : aLen Tryz.prog 68 v M = .mk (.int .i64 (.ofNat raw.length)) M := by
  rcases h with ⟨rfl, rfl⟩ | ⟨rfl, rfl⟩ | ⟨b, off, cap, rfl, _⟩
  · exact len68n
  · exact len68e
  · exact len68
theorem call34 {S : Sums} (hS : Plain S [34, 46, 47, 48]) {m : AMem} {ba lo : Nat} {toks nts start expect : Int} {vn vl va vr lv gv iv kv : AV} {L : List (List (Int × Int))} {k : List (Int × Int)} {D : Nat → Prop}
    (B : BoxIs m ba (autoC toks nts start expect vn vl va vr lv gv iv)) (hl : Rows itC 2 D lo m lv L) (hD : ∀ b, Blk1 lv b → D b) (hDa : D ba) (hba : ¬ Blk1 lv ba) (hk : RowIs itC 2 m kv k) (hkD : ∀ b, Blk1 kv b → ¬ D b) (hlo : lo ≤ m.next) (hL : L.length < 1048576) (hLl : ∀ x ∈ L, x.length < 1048576) :
    ∃ r m', CallTo Tryz.prog S 34 [.ptr ba 0, kv] m r m' ∧ ∃ lv', r = .int .i64 (Lr.state L k).1 ∧ Kp (fun b => b = ba ∨ Blk1 lv b) m m' ∧ BoxIs m' ba (autoC toks nts start expect vn vl va vr lv' gv iv) ∧ (∀ b, Blk1 lv' b → m.next ≤ b ∨ lv' = lv) ∧
      ∀ D' : Nat → Prop, (∀ b, b < m.next → D' b → D b) → Rows itC 2 D' lo m' lv' (Lr.state L k).2 := by
  have hS' : Plain S [46, 47, 48] := fun f hf => hS f (by simp at hf ⊢; omega)
  have hDm : ∀ D' : Nat → Prop, (∀ b, b < m.next → D' b → D b) → ∀ b, D' b → D b ∨ m.next ≤ b := fun D' h b d => by
    by_cases hb : b < m.next
    · exact .inl (h b hb d)
    · exact .inr (by omega)
  have hl : Rows itC 2 (fun b => D b ∨ m.next ≤ b) lo m lv L := hl.mono fun b hb d => by rcases d with d | d; exact d; omega
  have hkD : ∀ b, Blk1 kv b → ¬ (D b ∨ m.next ≤ b) := fun b h d => by
    rcases d with d | d
    · exact hkD b h d
    · have := hk.under h; omega
  have hD : ∀ b, Blk1 lv b → D b ∨ m.next ≤ b := fun b h => .inl (hD b h)
  have hplv : lv.plain = true := let ⟨_, h, _⟩ := hl.len; h.plain
  have hpkv := hk.plain
  have hm0 : ∀ D' : Nat → Prop, (∀ b, b < m.next → D' b → D b) → Rows itC 2 D' lo m lv L := fun D' h => hl.mono fun b _ d => hDm D' h b d
  refine XP.call (hS 34 (by decide)) cd34 nt34 ?_
  show XP _ _ _ _ (toT .leaf [(1, kv), (0, .ptr ba 0)]) m _
  unfold Tryz.f34
  dsimp only [Option.getD_some]
  have K : Kp Nothing m m := .refl m
  refine XP.seq ?_; refine XP.regionS ?_
  have hk1 := K.le
  refine RP.box rfl (box_plain hpkv) rfl rfl fun M1 K1 B3 N1 => ?_
  have K := K.trans K1
  have B := B.up K1
  have hl := hl.up K1
  have hk := hk.up K1
  have B3 : BoxIs M1 m.next [kv] := by rw [← cells_of_plain hpkv]; exact B3
  have ltB : ba ≠ m.next := by have := B.lt; intro e; have := (show BoxIs m ba _ by assumption).lt; omega
  refine RP.o1 (.assign rfl) rfl rfl ?_; refine RP.nil ?_; refine XP.seq ?_; refine XP.seq ?_; refine XP.regionS ?_
  refine RP.o1 (.load1 rfl lay46 (by first | (apply BoxIs.get; assumption; rfl) | (apply ElAt.get; assumption; rfl) | (apply ElAt.get0; assumption; rfl) | assumption)) rfl rfl ?_
  refine RP.o1 (.len rfl (rowLen hk)) rfl rfl ?_; refine RP.o1 (.bin rfl rfl eql_is) rfl rfl ?_; refine RP.nil ?_
  refine XP.condD rfl (fun hc8 => ?_) (fun hc8 => ?_)  -- if t8
  · refine XP.seq ?_; refine XP.regionS ?_; refine RP.o1 (.assign rfl) rfl rfl ?_; refine RP.nil ?_
    have e : k = [] := List.eq_nil_of_length_eq_zero (Int.ofNat.inj hc8)
    exact XP.ret ⟨.inr rfl, _, _, oneRes rfl, lv, by rw [Lr.state, if_pos e]; rfl, K.any, B, fun _ _ => .inr rfl, fun D' h => by rw [Lr.state, if_pos e]; exact (hm0 D' h).up K⟩
  · refine XP.skip ?_; refine XP.seq ?_; refine XP.regionS ?_; refine RP.o1 (.move rfl) rfl rfl ?_; refine RP.o1 (.nilCheck rfl) rfl rfl ?_; refine RP.o1 (.fieldAddr rfl fa71_1) rfl rfl ?_
    refine RP.o1 (.load1 rfl lay68 (by first | (apply BoxIs.get; assumption; rfl) | (apply ElAt.get; assumption; rfl) | (apply ElAt.get0; assumption; rfl) | assumption)) rfl rfl ?_
    refine RP.o1 (.func rfl) rfl rfl ?_; refine RP.o1 (.callS rfl rfl (call46 hS' (B3.get rfl) hl.kerns hk hL hLl)) rfl rfl ?_; refine RP.o1 (.assign rfl) rfl rfl ?_; refine RP.nil ?_; refine XP.seq ?_; refine XP.seq ?_; refine XP.regionS ?_; refine RP.o1 (.move rfl) rfl rfl ?_; refine RP.o1 (.bin rfl rfl (by first | exact lss_nat | exact lss_is)) rfl rfl ?_; refine RP.nil ?_
    refine XP.condD rfl (fun hc16 => ?_) (fun hc16 => ?_)  -- if t16
    · refine XP.seq ?_
      obtain ⟨raw, hraw, hrawl⟩ := hl.len
      refine XP.regionS ?_; refine RP.o1 (.move rfl) rfl rfl ?_; refine RP.o1 (.nilCheck rfl) rfl rfl ?_; refine RP.o1 (.fieldAddr rfl fa71_1) rfl rfl ?_
      refine RP.o1 (.load1 rfl lay68 (by first | (apply BoxIs.get; assumption; rfl) | (apply ElAt.get; assumption; rfl) | (apply ElAt.get0; assumption; rfl) | assumption)) rfl rfl ?_
      refine RP.o1 (.len rfl (rowLenK hraw)) rfl rfl ?_; refine RP.o1 (.assign rfl) rfl rfl ?_; refine RP.nil ?_
      have hk0 : k ≠ [] := fun e => hc8 (by rw [e]; rfl)
      obtain ⟨i68, e68, s68⟩ := ei68
      obtain ⟨u, M4, ha, hm4, K4, new4, pu, R4⟩ := hl.app e68 s68 ap68 hk hkD hD (Nat.le_trans hlo K1.le) hL
      have B4 := B.keep K4 hba
      refine XP.drawnS (ms := [0, 0, 2, 6, 14, 0, 32, 126, 255, 511, 1023]) (by kernel_rfl) ?_; refine DP.pure (.move rfl) rfl rfl rfl ?_; refine DP.pure (.move rfl) rfl rfl rfl ?_; refine DP.pure (.nilCheck rfl) rfl rfl rfl ?_; refine DP.pure (.fieldAddr rfl fa71_1) rfl rfl rfl ?_
      refine DP.read (fun _ => op_load1 (ev_is rfl) lay68 (by first | (apply BoxIs.get; assumption; rfl) | (apply ElAt.get; assumption; rfl) | (apply ElAt.get0; assumption; rfl) | assumption)) rfl rfl rfl (fun _ => op_load_leaf) (.inl (by kernel_rfl)) (fun _ => cuts_nil) ?_
      refine DP.read (fun _ => op_load1 (ev_is rfl) lay46 (by first | (apply BoxIs.get; assumption; rfl) | (apply ElAt.get; assumption; rfl) | (apply ElAt.get0; assumption; rfl) | assumption)) rfl rfl rfl (fun _ => op_load_leaf) (.inl (by kernel_rfl)) (fun _ => cuts_nil) ?_
      refine DP.make (.buildSlice rfl e68 (by rw [s68]; rfl) (by rw [s68]; exact fill68 hpkv)) rfl rfl rfl ?_
      rw [s68]
      refine DP.heavy (OpTo.of fun _ => op_append rfl rfl ha) rfl rfl rfl (by kernel_rfl) (by kernel_rfl) hm4 (pk_drop (by kernel_rfl) (pk_drop (by kernel_rfl) pk_nil)) ?_; refine DP.pure (.nilCheck rfl) rfl rfl rfl ?_; refine DP.pure (.fieldAddr rfl fa71_1) rfl rfl rfl ?_; refine DP.storeP rfl rfl lay68 pu B4 rfl rfl rfl (by kernel_rfl) (by kernel_rfl) (fun _ => pk_nil) fun M2 K2 B4 N2 => ?_
      have B4 : BoxIs M2 ba (autoC toks nts start expect vn vl va vr u gv iv) := B4
      have KE : Kp (fun b => b = ba ∨ Blk1 lv b) m M2 := (K.any.trans (K4.mono fun b _ h => .inr h)).trans (K2.mono fun b _ h => .inl h)
      have nx : ∀ b, Blk1 u b → ba ≠ b := fun b h e => by have := new4 b h; have := B.lt; omega
      have RE := (R4 _ fun b _ h => h).keep K2 (fun b hb e => nx b hb e.symm) (fun b _ e => by subst e; exact .inl hDa)
      refine DP.nil ?_; refine XP.seq ?_; refine XP.regionS ?_; refine RP.o1 (.move rfl) rfl rfl ?_; refine RP.o1 (.assign rfl) rfl rfl ?_; refine RP.nil ?_
      refine XP.ret ⟨.inr rfl, _, _, oneRes rfl, u, ?_, KE, B4, fun b h => .inl (Nat.le_trans K.le (new4 b h)), fun D' h => ?_⟩
      · rw [state_more hk0 hc16, ← hrawl]
      · rw [state_more hk0 hc16]
        exact RE.mono fun b _ d => by
          by_cases hb : b < m.next
          · exact .inl (h b hb d)
          · exact .inr (by omega)
    · refine XP.skip ?_; refine XP.seq ?_; refine XP.regionS ?_; refine RP.o1 (.move rfl) rfl rfl ?_; refine RP.o1 (.assign rfl) rfl rfl ?_; refine RP.nil ?_
      have hk0 : k ≠ [] := fun e => hc8 (by rw [e]; rfl)
      have es := state_found hk0 hc16
      refine XP.ret ⟨.inr rfl, _, _, oneRes rfl, lv, by rw [es], K.any, B, fun _ _ => .inr rfl, fun D' h => by rw [es]; exact (hm0 D' h).up K⟩
end Go.Ev
end
section
namespace Go.Ev
set_option linter.all false
open Go.Proofs
section
variable {P : Program} {S : Sums} {nt : Nat}
variable {all : Array Oper} {dst : Option Tmp} {ty : TypeId} {pos : String} {af : Array Edge} {g : Option (Nat × Bool)} {l : List Oper} {t0 : T AV} {σ : List (Nat × AV)} {m : AMem} {Q : T AV → AMem → Prop}
/-- A slice of one element. -/
theorem RP.slice1 {α : Type} {enc : α → List AV} {sz : Nat} {st : TypeId} {i : TypeInfo} {z : List AV} {ps : Array (Nat × Operand)} {lp : List (Nat × AV)} {x : α} (he : Enc enc sz) (hi : elemInfo P st = some (i, z)) (hs : i.size = sz) (hb : Nat.ble sz 65536 = true) (h : evp σ ps.toList = some lp)
    (hf : fillA (fun j => some (Nat.mul j sz, sz)) (repA z 1) lp = some (enc x)) (hd : dstOk nt dst = true) (hg : WP all σ g true)
    (k : ∀ m', Kp Nothing m m' → RowAt enc sz m' m.next 0 [x] → m'.own m.next sz (1 * sz) → m'.next = m.next + 1 → RP P S nt all l t0 (putS dst (.slice m.next 0 1 (some 1)) σ) m' Q) :
    RP P S nt all (⟨dst, .buildSlice st 1 ps, ty, pos, af, g⟩ :: l) t0 σ m Q := by
  subst hs
  have e : flat enc [x] = enc x := by simp [flat]
  exact RP.op (.buildSlice h hi (by rw [show Nat.mul 1 i.size = i.size from Nat.one_mul _]; exact hb) hf) hd hg (Nat.le_succ _) (k _ ((Kp.refl m).new _ _ _) (by rw [← e]; exact RowAt.new he) (by have := AMem.new_own m false i.size (enc x); rw [he.len] at this; rw [Nat.one_mul]; exact this) rfl)
/-- make of numbers. -/
theorem RP.makeInts {st : TypeId} {i : TypeInfo} {x y : Operand} {n : Nat} {kk kk2 : IntKind} (hi : elemInfo P st = some (i, [.int .i64 (.ofNat 0)])) (hs : i.size = 1) (hx : ev σ x = some (.int kk (.ofNat n))) (hy : ev σ y = some (.int kk2 (.ofNat n))) (hn : n ≤ 65536) (hd : dstOk nt dst = true) (hg : WP all σ g true)
    (k : ∀ m', Kp Nothing m m' → BoxIs m' m.next ((List.replicate n (0 : Int)).map fun x => .int .i64 x) → m'.next = m.next + 1 → RP P S nt all l t0 (putS dst (.slice m.next 0 n (some n)) σ) m' Q) :
    RP P S nt all (⟨dst, .makeSlice st x y, ty, pos, af, g⟩ :: l) t0 σ m Q := by
  have e : ∀ n, repA [.int .i64 (.ofNat 0)] n = (List.replicate n (0 : Int)).map fun x => .int .i64 x := by
    intro n
    induction n with
    | zero => rfl
    | succ n ih => show [.int .i64 (.ofNat 0)] ++ repA _ n = _; rw [ih, List.replicate_succ]; rfl
  refine RP.op (v := .slice m.next 0 n (some n)) (m1 := m.new false 1 (repA [.int .i64 (.ofNat 0)] n)) (OpTo.of fun call => ?_) hd hg (Nat.le_succ _) (k _ ((Kp.refl m).new _ _ _) (by rw [← e]; exact BoxIs.new) rfl)
  show evK (toT t0 σ) x (fun l => evK (toT t0 σ) y fun c => aMakeSlice P st l c m) = _
  rw [evK_eq, evK_eq, ev_is hx, ev_is hy]
  unfold aMakeSlice
  rw [hi]
  simp only
  rw [bif2_eq, if_pos (by rw [Nat.ble_eq_true_of_le (Nat.le_refl n), Nat.ble_eq_true_of_le hn]; rfl), hs]
  exact newBlk_is _ _ _ _ _
end
theorem BoxIs.row {m : AMem} {b : Nat} {r : List Int} {c : Option Nat} (h : BoxIs m b (r.map fun x => .int .i64 x)) : RowIs intC 1 m (.slice b 0 r.length c) r := by
  refine .inr (.inr ⟨b, 0, c, rfl, h.lt, ⟨_, _, h.own.blk, by simp⟩, fun i x hx j hj => ?_⟩)
  obtain rfl : j = 0 := by omega
  rw [h.at_, show 0 + i * 1 + 0 = i by omega, List.getElem?_map, hx]; rfl
theorem eqV_row {α : Type} {enc : α → List AV} {sz n : Nat} {m : AMem} {v : AV} {xs : List α} (h : RowIs enc sz m v xs) : eqV (n + 1) v v = true := by
  rcases h with ⟨rfl, _⟩ | ⟨rfl, _⟩ | ⟨b, o, c, rfl, _⟩
  · rfl
  · rfl
  · cases c with
    | none =>
      show bif2 (Nat.beq b b) (bif2 (Nat.beq o o) (Nat.beq xs.length xs.length) false) false = true
      simp [bif2_eq]
    | some c =>
      show bif2 (Nat.beq b b) (bif2 (Nat.beq o o) (bif2 (Nat.beq xs.length xs.length) (Nat.beq c c) false) false) false = true
      simp [bif2_eq]
/-! ### Plain: rows of states one symbol at a time -/
theorem sym_same {toks nts : Int} {rs : List Rl} (x : Int × Int) : symAt rs x = (grOf toks nts rs).sym x := by
  show (rs[x.1.toNat]?).bind (fun r => r.right[x.2.toNat]?) = ((grOf toks nts rs).rules.getD x.1.toNat default).2[x.2.toNat]?
  rw [List.getD_eq_getElem?_getD]
  cases e : rs[x.1.toNat]? with
  | none =>
    have : (grOf toks nts rs).rules[x.1.toNat]? = none := by show (rs.map _)[_]? = none; rw [List.getElem?_map, e]; rfl
    rw [this]; rfl
  | some r => rw [grOf_rule e]; rfl
theorem beh_same {toks nts : Int} {rs : List Rl} (s : Int) : ∀ c, behindF rs s c = (grOf toks nts rs).beh c s
  | [] => rfl
  | x :: c => by
    have ih := beh_same (toks := toks) (nts := nts) (rs := rs) s c
    simp only [behindF, Lr.Gr.beh, List.filterMap_cons] at ih ⊢
    rw [sym_same (toks := toks) (nts := nts)]
    by_cases h : (grOf toks nts rs).sym x = some s
    · rw [if_pos h, if_pos h, ih]
    · rw [if_neg h, if_neg h, ih]
theorem row_snoc {g : Lr.Gr} {c : List (Int × Int)} {s i : Int} : ∀ {a : List Int} {L L1 L2 : List (List (Int × Int))} {r : List Int}, g.row c a L = some (r, L1) → Lr.state L1 (g.beh c s) = (i, L2) → i < 120 → g.row c (a ++ [s]) L = some (r ++ [i], L2)
  | [], L, L1, L2, r, h, hs, hi => by
    simp only [Lr.Gr.row, Option.some.injEq, Prod.mk.injEq] at h
    obtain ⟨rfl, rfl⟩ := h
    simp only [List.nil_append, Lr.Gr.row, hs]
    rw [if_neg (by omega)]; rfl
  | b :: a, L, L1, L2, r, h, hs, hi => by
    obtain ⟨j, L3, r1, e, hj, h1, rfl⟩ := Lr.row_cons h
    have ih := row_snoc (a := a) h1 hs hi
    simp only [List.cons_append, Lr.Gr.row, e]
    rw [if_neg (by omega), ih]; rfl
theorem row_stop {g : Lr.Gr} {c : List (Int × Int)} {s i : Int} {rest : List Int} : ∀ {a : List Int} {L L1 L2 : List (List (Int × Int))} {r : List Int}, g.row c a L = some (r, L1) → Lr.state L1 (g.beh c s) = (i, L2) → ¬ i < 120 → g.row c (a ++ s :: rest) L = none
  | [], L, L1, L2, r, h, hs, hi => by
    simp only [Lr.Gr.row, Option.some.injEq, Prod.mk.injEq] at h
    obtain ⟨rfl, rfl⟩ := h
    simp only [List.nil_append, Lr.Gr.row, hs]
    rw [if_pos (by omega)]
  | b :: a, L, L1, L2, r, h, hs, hi => by
    obtain ⟨j, L3, r1, e, hj, h1, rfl⟩ := Lr.row_cons h
    have ih := row_stop (a := a) (rest := rest) h1 hs hi
    simp only [List.cons_append, Lr.Gr.row, e]
    rw [if_neg (by omega), ih]; rfl
/-- Kernels as they are met. -/
structure Kern (rs : List Rl) (k : List (Int × Int)) : Prop where
  items : ItemsOf rs k
  nodup : k.Nodup
  ne : k ≠ []
theorem beh_items {rs : List Rl} {s : Int} {c : List (Int × Int)} (h : ItemsOf rs c) : ItemsOf rs (behindF rs s c) := fun y hy => by
  rw [beh_same (toks := 0) (nts := 0)] at hy
  obtain ⟨x, hx, hs, rfl⟩ := Lr.beh_mem hy
  obtain ⟨r, d, q, rfl, hq, hd⟩ := h x hx
  rw [grOf_sym hq] at hs
  obtain ⟨hlt, _⟩ := List.getElem?_eq_some_iff.1 hs
  exact ⟨r, d + 1, q, rfl, hq, hlt⟩
theorem state_kern {rs : List Rl} {L : List (List (Int × Int))} {k : List (Int × Int)} (hL : ∀ x ∈ L, Kern rs x) (hk : k ≠ [] → Kern rs k) : ∀ x ∈ (Lr.state L k).2, Kern rs x := fun x hx => by
  rcases Lr.state_ways L k with ⟨_, e⟩ | ⟨_, i, _, _, e⟩ | ⟨h, _, e⟩
  · rw [e] at hx; exact hL x hx
  · rw [e] at hx; exact hL x hx
  · rw [e] at hx
    rcases List.mem_append.1 hx with hx | hx
    · exact hL x hx
    · rw [List.mem_singleton] at hx; subst hx; exact hk h
theorem state_len {L : List (List (Int × Int))} {k : List (Int × Int)} (hL : L.length ≤ 120) (h : (Lr.state L k).1 < 120) : (Lr.state L k).2.length ≤ 120 := by
  rcases Lr.state_ways L k with ⟨_, e⟩ | ⟨_, i, _, _, e⟩ | ⟨_, _, e⟩
  · rw [e]; exact hL
  · rw [e]; exact hL
  · rw [e] at h ⊢
    simp only [List.length_append, List.length_singleton] at h ⊢
    omega
/-! ### The automaton's parts in memory -/
structure SpV where
  toks : Nat
  nts : Nat
  start : Int
  expect : Int
  vn : AV
  vl : AV
  va : AV
  vr : AV
noncomputable abbrev SpV.v (s : SpV) : AV := specV (.ofNat s.toks) (.ofNat s.nts) s.start s.expect s.vn s.vl s.va s.vr
noncomputable abbrev SpV.auto (s : SpV) (lv gv iv : AV) : List AV := autoC (.ofNat s.toks) (.ofNat s.nts) s.start s.expect s.vn s.vl s.va s.vr lv gv iv
noncomputable abbrev SpV.g (s : SpV) (rs : List Rl) : Lr.Gr := grOf (.ofNat s.toks) (.ofNat s.nts) rs
abbrev SpV.n (s : SpV) : Nat := s.toks + 1 + s.nts
noncomputable def symsN (n : Nat) : List Int := (List.range n).map Int.ofNat
/-- What is turned while states are made. -/
noncomputable def DD (X : Nat → Prop) (ba : Nat) (lv gv iv : AV) (b : Nat) : Prop := b = ba ∨ Blk1 lv b ∨ Blk1 gv b ∨ Blk1 iv b ∨ X b
structure AuSt (s : SpV) (X : Nat → Prop) (lo ba : Nat) (m : AMem) (lv gv iv : AV) (L : List (List (Int × Int))) (G : List (List Int)) (I : List (List (Int × Int))) : Prop where
  B : BoxIs m ba (s.auto lv gv iv)
  hl : Rows itC 2 (DD X ba lv gv iv) lo m lv L
  hg : Rows intC 1 (DD X ba lv gv iv) lo m gv G
  hi : Rows itC 2 (DD X ba lv gv iv) lo m iv I
  nl : ¬ Blk1 lv ba
  ng : ¬ Blk1 gv ba
  ni : ¬ Blk1 iv ba
  lg : ∀ b, Blk1 lv b → ¬ Blk1 gv b
  li : ∀ b, Blk1 lv b → ¬ Blk1 iv b
  gi : ∀ b, Blk1 gv b → ¬ Blk1 iv b
  glo : lo ≤ ba
  xb : ¬ X ba
  xl : ∀ b, Blk1 lv b → ¬ X b
  xg : ∀ b, Blk1 gv b → ¬ X b
  xi : ∀ b, Blk1 iv b → ¬ X b
  xu : ∀ b, X b → lo ≤ b ∧ b < m.next
variable {s : SpV} {X : Nat → Prop} {lo ba : Nat} {m m' : AMem} {lv gv iv : AV} {L : List (List (Int × Int))} {G : List (List Int)} {I : List (List (Int × Int))}
theorem AuSt.up (h : AuSt s X lo ba m lv gv iv L G I) (k : Kp Nothing m m') : AuSt s X lo ba m' lv gv iv L G I := ⟨h.B.up k, h.hl.up k, h.hg.up k, h.hi.up k, h.nl, h.ng, h.ni, h.lg, h.li, h.gi, h.glo, h.xb, h.xl, h.xg, h.xi, fun b x => ⟨(h.xu b x).1, Nat.lt_of_lt_of_le (h.xu b x).2 k.le⟩⟩
theorem AuSt.under (h : AuSt s X lo ba m lv gv iv L G I) {b : Nat} (d : DD X ba lv gv iv b) : b < m.next := by
  rcases d with rfl | d | d | d | d
  · exact h.B.lt
  · exact h.hl.below d
  · exact h.hg.below d
  · exact h.hi.below d
  · exact (h.xu b d).2
theorem AuSt.low (h : AuSt s X lo ba m lv gv iv L G I) {b : Nat} (d : DD X ba lv gv iv b) : lo ≤ b := by
  rcases d with rfl | d | d | d | d
  · exact h.glo
  · exact h.hl.low d
  · exact h.hg.low d
  · exact h.hi.low d
  · exact (h.xu b d).1
/-- Behind a's state. -/
theorem AuSt.state {lv' : AV} {L' : List (List (Int × Int))} (h : AuSt s X lo ba m lv gv iv L G I) (k : Kp (fun b => b = ba ∨ Blk1 lv b) m m') (B : BoxIs m' ba (s.auto lv' gv iv)) (hf : ∀ b, Blk1 lv' b → m.next ≤ b ∨ lv' = lv)
    (hR : ∀ D' : Nat → Prop, (∀ b, b < m.next → D' b → DD X ba lv gv iv b) → Rows itC 2 D' lo m' lv' L') : AuSt s X lo ba m' lv' gv iv L' G I := by
  have hD : ∀ b, b < m.next → DD X ba lv' gv iv b → DD X ba lv gv iv b := fun b hb d => by
    rcases d with d | d | d
    · exact .inl d
    · rcases hf b d with q | rfl
      · omega
      · exact .inr (.inl d)
    · exact .inr (.inr d)
  have hE : ∀ b, b < m.next → (b = ba ∨ Blk1 lv b) → DD X ba lv gv iv b := fun b _ e => by
    rcases e with e | e
    · exact .inl e
    · exact .inr (.inl e)
  have hM : ∀ b, b < m'.next → DD X ba lv' gv iv b → DD X ba lv gv iv b ∨ m.next ≤ b := fun b _ d => by
    by_cases hb : b < m.next
    · exact .inl (hD b hb d)
    · exact .inr (by omega)
  have up : ∀ {α : Type} {enc : α → List AV} {sz : Nat} {v : AV} {xs : List (List α)}, Rows enc sz (DD X ba lv gv iv) lo m v xs → (∀ b, Blk1 v b → ¬ (b = ba ∨ Blk1 lv b)) → Rows enc sz (DD X ba lv' gv iv) lo m' v xs := fun {α enc sz v xs} r q => by
    have r2 : Rows enc sz (fun b => DD X ba lv gv iv b ∨ m.next ≤ b) lo m v xs := r.mono fun b hb d => by rcases d with d | d; exact d; omega
    exact (r2.keep k q fun b hb e => .inl (hE b hb e)).mono hM
  refine ⟨B, hR _ hD, up h.hg fun b e q => ?_, up h.hi fun b e q => ?_, fun e => ?_, h.ng, h.ni, fun b e => ?_, fun b e => ?_, h.gi, h.glo, h.xb, fun b e x => ?_, h.xg, h.xi, fun b x => ⟨(h.xu b x).1, Nat.lt_of_lt_of_le (h.xu b x).2 k.le⟩⟩
  · rcases q with rfl | q
    · exact h.ng e
    · exact h.lg _ q e
  · rcases q with rfl | q
    · exact h.ni e
    · exact h.li _ q e
  · rcases hf _ e with q | rfl
    · have := h.B.lt; omega
    · exact h.nl e
  · rcases hf _ e with q | rfl
    · intro e2; have := h.hg.below e2; omega
    · exact h.lg _ e
  · rcases hf _ e with q | rfl
    · intro e2; have := h.hi.below e2; omega
    · exact h.li _ e
  · rcases hf _ e with q | rfl
    · have := (h.xu _ x).2; omega
    · exact h.xl _ e x
/-- Behind an append to its items. -/
theorem AuSt.items {u : AV} {M2 : AMem} {I' : List (List (Int × Int))} (h : AuSt s X lo ba m lv gv iv L G I) (k : Kp (Blk1 iv) m m') (k2 : Kp (fun b => b = ba) m' M2) (B : BoxIs M2 ba (s.auto lv gv u)) (hf : ∀ b, Blk1 u b → m.next ≤ b)
    (hR : ∀ D' : Nat → Prop, (∀ b, b < m.next → D' b → DD X ba lv gv iv b) → Rows itC 2 D' lo m' u I') : AuSt s X lo ba M2 lv gv u L G I' := by
  have hD : ∀ b, b < m.next → DD X ba lv gv u b → DD X ba lv gv iv b := fun b hb d => by
    rcases d with d | d | d | d | d
    · exact .inl d
    · exact .inr (.inl d)
    · exact .inr (.inr (.inl d))
    · have := hf b d; omega
    · exact .inr (.inr (.inr (.inr d)))
  have K : Kp (fun b => b = ba ∨ Blk1 iv b) m M2 := (k.mono fun b _ e => .inr e).trans (k2.mono fun b _ e => .inl e)
  have hE : ∀ b, b < m.next → (b = ba ∨ Blk1 iv b) → DD X ba lv gv iv b := fun b _ e => by
    rcases e with e | e
    · exact .inl e
    · exact .inr (.inr (.inr (.inl e)))
  have hM : ∀ N b, b < N → DD X ba lv gv u b → DD X ba lv gv iv b ∨ m.next ≤ b := fun _ b _ d => by
    by_cases hb : b < m.next
    · exact .inl (hD b hb d)
    · exact .inr (by omega)
  have up : ∀ {α : Type} {enc : α → List AV} {sz : Nat} {v : AV} {xs : List (List α)}, Rows enc sz (DD X ba lv gv iv) lo m v xs → (∀ b, Blk1 v b → ¬ (b = ba ∨ Blk1 iv b)) → Rows enc sz (DD X ba lv gv u) lo M2 v xs := fun {α enc sz v xs} r q => by
    have r2 : Rows enc sz (fun b => DD X ba lv gv iv b ∨ m.next ≤ b) lo m v xs := r.mono fun b hb d => by rcases d with d | d; exact d; omega
    exact (r2.keep K q fun b hb e => .inl (hE b hb e)).mono (hM _)
  have hba := h.B.lt
  refine ⟨B, up h.hl fun b e q => ?_, up h.hg fun b e q => ?_, ?_, h.nl, h.ng, fun e => ?_, h.lg, fun b e e2 => ?_, fun b e e2 => ?_, h.glo, h.xb, h.xl, h.xg, fun b e x => ?_, fun b x => ⟨(h.xu b x).1, Nat.lt_of_lt_of_le (h.xu b x).2 K.le⟩⟩
  · rcases q with rfl | q
    · exact h.nl e
    · exact h.li _ e q
  · rcases q with rfl | q
    · exact h.ng e
    · exact h.gi _ e q
  · exact ((hR (fun b => DD X ba lv gv iv b ∨ m.next ≤ b) fun b hb d => by rcases d with d | d; exact d; omega).keep k2 (fun b e q => by have := hf b e; omega) fun b _ e => .inl (.inl e)).mono (hM _)
  · have := hf _ e; omega
  · have := hf _ e2; have := h.hl.below e; omega
  · have := hf _ e2; have := h.hg.below e; omega
  · have := hf _ e; have := (h.xu _ x).2; omega
/-- Behind an append to where its symbols lead. -/
theorem AuSt.goes {u : AV} {M2 : AMem} {G' : List (List Int)} (h : AuSt s X lo ba m lv gv iv L G I) (k : Kp (Blk1 gv) m m') (k2 : Kp (fun b => b = ba) m' M2) (B : BoxIs M2 ba (s.auto lv u iv)) (hf : ∀ b, Blk1 u b → m.next ≤ b)
    (hR : ∀ D' : Nat → Prop, (∀ b, b < m.next → D' b → DD X ba lv gv iv b) → Rows intC 1 D' lo m' u G') : AuSt s X lo ba M2 lv u iv L G' I := by
  have hD : ∀ b, b < m.next → DD X ba lv u iv b → DD X ba lv gv iv b := fun b hb d => by
    rcases d with d | d | d | d
    · exact .inl d
    · exact .inr (.inl d)
    · have := hf b d; omega
    · exact .inr (.inr (.inr d))
  have K : Kp (fun b => b = ba ∨ Blk1 gv b) m M2 := (k.mono fun b _ e => .inr e).trans (k2.mono fun b _ e => .inl e)
  have hE : ∀ b, b < m.next → (b = ba ∨ Blk1 gv b) → DD X ba lv gv iv b := fun b _ e => by
    rcases e with e | e
    · exact .inl e
    · exact .inr (.inr (.inl e))
  have hM : ∀ N b, b < N → DD X ba lv u iv b → DD X ba lv gv iv b ∨ m.next ≤ b := fun _ b _ d => by
    by_cases hb : b < m.next
    · exact .inl (hD b hb d)
    · exact .inr (by omega)
  have up : ∀ {α : Type} {enc : α → List AV} {sz : Nat} {v : AV} {xs : List (List α)}, Rows enc sz (DD X ba lv gv iv) lo m v xs → (∀ b, Blk1 v b → ¬ (b = ba ∨ Blk1 gv b)) → Rows enc sz (DD X ba lv u iv) lo M2 v xs := fun {α enc sz v xs} r q => by
    have r2 : Rows enc sz (fun b => DD X ba lv gv iv b ∨ m.next ≤ b) lo m v xs := r.mono fun b hb d => by rcases d with d | d; exact d; omega
    exact (r2.keep K q fun b hb e => .inl (hE b hb e)).mono (hM _)
  have hba := h.B.lt
  refine ⟨B, up h.hl fun b e q => ?_, ?_, up h.hi fun b e q => ?_, h.nl, fun e => ?_, h.ni, fun b e e2 => ?_, h.li, fun b e e2 => ?_, h.glo, h.xb, h.xl, fun b e x => ?_, h.xi, fun b x => ⟨(h.xu b x).1, Nat.lt_of_lt_of_le (h.xu b x).2 K.le⟩⟩
  · rcases q with rfl | q
    · exact h.nl e
    · exact h.lg _ e q
  · exact ((hR (fun b => DD X ba lv gv iv b ∨ m.next ≤ b) fun b hb d => by rcases d with d | d; exact d; omega).keep k2 (fun b e q => by have := hf b e; omega) fun b _ e => .inl (.inl e)).mono (hM _)
  · rcases q with rfl | q
    · exact h.ni e
    · exact h.gi _ q e
  · have := hf _ e; omega
  · have := hf _ e2; have := h.hl.below e; omega
  · have := hf _ e; have := h.hi.below e2; omega
  · have := hf _ e; have := (h.xu _ x).2; omega
/-- What else is its own was turned. -/
theorem AuSt.keepX (h : AuSt s X lo ba m lv gv iv L G I) (k : Kp X m m') : AuSt s X lo ba m' lv gv iv L G I :=
  ⟨h.B.keep k h.xb, h.hl.keep k h.xl fun b _ x => .inr (.inr (.inr (.inr x))), h.hg.keep k h.xg fun b _ x => .inr (.inr (.inr (.inr x))), h.hi.keep k h.xi fun b _ x => .inr (.inr (.inr (.inr x))), h.nl, h.ng, h.ni, h.lg, h.li, h.gi, h.glo, h.xb, h.xl, h.xg, h.xi,
    fun b x => ⟨(h.xu b x).1, Nat.lt_of_lt_of_le (h.xu b x).2 k.le⟩⟩
/-- A block more of one's own. -/
theorem AuSt.own (h : AuSt s Nothing lo ba m lv gv iv L G I) (k : Kp Nothing m m') (hn : m'.next = m.next + 1) : AuSt s (fun b => b = m.next) lo ba m' lv gv iv L G I := by
  have hD : ∀ b, b < m.next → DD (fun b => b = m.next) ba lv gv iv b → DD Nothing ba lv gv iv b := fun b hb d => by
    rcases d with d | d | d | d | d
    · exact .inl d
    · exact .inr (.inl d)
    · exact .inr (.inr (.inl d))
    · exact .inr (.inr (.inr (.inl d)))
    · omega
  exact ⟨h.B.up k, (h.hl.mono hD).up k, (h.hg.mono hD).up k, (h.hi.mono hD).up k, h.nl, h.ng, h.ni, h.lg, h.li, h.gi, h.glo, Nat.ne_of_lt h.B.lt, fun b e => Nat.ne_of_lt (h.hl.below e), fun b e => Nat.ne_of_lt (h.hg.below e), fun b e => Nat.ne_of_lt (h.hi.below e),
    fun b x => by subst x; exact ⟨Nat.le_of_lt (Nat.lt_of_le_of_lt h.glo h.B.lt), by omega⟩⟩
theorem AuSt.free (h : AuSt s X lo ba m lv gv iv L G I) : AuSt s Nothing lo ba m lv gv iv L G I := by
  have hD : ∀ b, b < m.next → DD Nothing ba lv gv iv b → DD X ba lv gv iv b := fun b hb d => by
    rcases d with d | d | d | d | d
    · exact .inl d
    · exact .inr (.inl d)
    · exact .inr (.inr (.inl d))
    · exact .inr (.inr (.inr (.inl d)))
    · exact d.elim
  exact ⟨h.B, h.hl.mono hD, h.hg.mono hD, h.hi.mono hD, h.nl, h.ng, h.ni, h.lg, h.li, h.gi, h.glo, id, fun _ _ => id, fun _ _ => id, fun _ _ => id, fun _ x => x.elim⟩
theorem addN_is {P : Program} {ty' : TypeId} {lit : Bool} {i n : Nat} {m : AMem} (h : i + n < 4611686018427387904) : aBin2 P .add ty' lit (.int .i64 (.ofNat i)) (.int .i64 (.ofNat n)) m = .mk (.int .i64 (.ofNat (i + n))) m :=
  add_is (a := Int.ofNat i) (b := Int.ofNat n) (by show _ ≤ (i : Int) + n; omega) (by show (i : Int) + n < _; omega)
theorem setL_row {r : List Int} {n j : Nat} {x : Int} (hr : r.length = j) (hj : j < n) : setL ((r ++ List.replicate (n - j) 0).map fun x => AV.int .i64 x) (0 + j * 1) [.int .i64 x] = ((r ++ [x]) ++ List.replicate (n - (j + 1)) 0).map fun x => AV.int .i64 x := by
  apply List.ext_getElem?
  intro i
  rw [setL_get (by simp; omega)]
  simp only [List.length_singleton, List.getElem?_map]
  by_cases h1 : i = j
  · subst h1
    rw [if_pos (by omega), show i - (0 + i * 1) = 0 by omega]
    have : ((r ++ [x]) ++ List.replicate (n - (i + 1)) 0)[i]? = some x := by
      rw [List.getElem?_append_left (by simp; omega), List.getElem?_append_right (by omega), hr, Nat.sub_self]; rfl
    rw [this]; rfl
  · rw [if_neg (by omega)]
    congr 1
    by_cases h2 : i < j
    · rw [List.getElem?_append_left (by omega), List.getElem?_append_left (by simp; omega), List.getElem?_append_left (by omega)]
    · rw [List.getElem?_append_right (by omega), List.getElem?_append_right (by simp; omega), List.getElem?_replicate, List.getElem?_replicate]
      simp only [List.length_append, List.length_singleton, hr]
      by_cases h3 : i - j < n - j
      · rw [if_pos h3, if_pos (by omega)]
      · rw [if_neg h3, if_neg (by omega)]
theorem row_at {r : List Int} {n j : Nat} {x : Int} (hr : r.length = j) : (((r ++ [x]) ++ List.replicate (n - (j + 1)) 0).map fun x => AV.int .i64 x)[0 + j * 1]? = some (.int .i64 x) := by
  rw [List.getElem?_map, show 0 + j * 1 = j by omega, List.getElem?_append_left (by simp; omega), List.getElem?_append_right (by omega), hr, Nat.sub_self]; rfl
theorem rowLenR {α : Type} {enc : α → List AV} {sz lo : Nat} {D : Nat → Prop} {m : AMem} {v : AV} {xss : List (List α)} (h : Rows enc sz D lo m v xss) {M : AMem} : aLen Tryz.prog 68 v M = .mk (.int .i64 (.ofNat xss.length)) M := by
  obtain ⟨raw, h1, h2⟩ := h.len
  rw [← h2]; exact rowLenK h1
theorem symsN_take {n j : Nat} (h : j < n) : (symsN n).take (j + 1) = (symsN n).take j ++ [Int.ofNat j] := by
  have hl : j < (symsN n).length := by simpa [symsN] using h
  rw [List.take_succ_eq_append_getElem hl]
  simp [symsN]
theorem symsN_cut {n j : Nat} (h : j < n) : symsN n = (symsN n).take j ++ Int.ofNat j :: (symsN n).drop (j + 1) := by
  have hl : j < (symsN n).length := by simpa [symsN] using h
  have e := List.take_append_drop j (symsN n)
  rw [List.drop_eq_getElem_cons hl] at e
  have e2 : (symsN n)[j] = Int.ofNat j := by simp [symsN]
  rw [e2] at e
  exact e.symm
end Go.Ev
end
