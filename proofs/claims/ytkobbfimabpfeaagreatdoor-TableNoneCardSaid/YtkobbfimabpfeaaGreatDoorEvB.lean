/- What the evaluator's values and memories stand for in a world; how such a view goes on; the small laws of the evaluator's own words. -/
import Derived.Test.YtkobbfimabpfeaaGreatDoorEvA
import Derived.Orders
import Derived.LoopN
import Derived.Below
namespace Go.Ev

/-! ### Small words -/

@[simp] theorem bif2_true {γ : Type} (x y : γ) : bif2 true x y = x := rfl
@[simp] theorem bif2_false {γ : Type} (x y : γ) : bif2 false x y = y := rfl
theorem bif2_eq {γ : Type} (b : Bool) (x y : γ) : bif2 b x y = if b = true then x else y := by cases b <;> rfl
@[simp] theorem fNat_eq {β : Type} (n : Nat) (k : Nat → β) : fNat n k = k n := by cases n <;> rfl
@[simp] theorem fInt_eq {β : Type} (n : Int) (k : Int → β) : fInt n k = k n := by cases n <;> simp [fInt]
@[simp] theorem fBool_eq {β : Type} (n : Bool) (k : Bool → β) : fBool n k = k n := by cases n <;> rfl
@[simp] theorem fList_eq {β : Type} (l : List Nat) : ∀ (k : List Nat → β), fList l k = k l := by
  induction l with
  | nil => intro k; rfl
  | cons a l ih => intro k; show fNat a (fun a => fList l fun l => k (a :: l)) = _; rw [fNat_eq, ih]

theorem iLt_eq (a b : Int) : iLt a b = decide (a < b) := by
  rw [Bool.eq_iff_iff, decide_eq_true_iff]
  cases a <;> cases b <;> simp [iLt, Nat.blt_eq] <;> omega
theorem iEq_eq (a b : Int) : iEq a b = (a == b) := by
  rw [Bool.eq_iff_iff, beq_iff_eq]
  cases a <;> cases b <;> simp [iEq] <;> omega
theorem kEq_eq {j k : IntKind} (h : kEq j k = true) : j = k := by
  cases j <;> cases k <;> first | rfl | (simp [kEq, kNum] at h)
theorem lEq_eq : ∀ (a b : List Nat), lEq a b = (a == b)
  | [], [] => rfl
  | [], _ :: _ => rfl
  | _ :: _, [] => rfl
  | a :: x, b :: y => by
    rw [lEq, bif2_eq, lEq_eq x y]
    by_cases h : a = b
    · subst h; simp
    · have : Nat.beq a b = false := by rw [Bool.eq_false_iff]; intro e; exact h (Nat.eq_of_beq_eq_true e)
      simp [this, h]

theorem wrap_small (k : IntKind) (a : Nat) (h : a < topOf k) : k.wrap (Int.ofNat a) = Int.ofNat a := by
  cases k <;> simp only [topOf] at h <;> simp only [IntKind.wrap, IntKind.bits, IntKind.signed] <;> simp <;> omega
@[simp] theorem wrapK_eq {β : Type} (k : IntKind) (n : Int) (c : Int → β) : wrapK k n c = c (k.wrap n) := by
  cases n with
  | ofNat a =>
    simp only [wrapK, fNat_eq, bif2_eq, fInt_eq]
    split
    · rename_i h; rw [wrap_small k a (by simpa [Nat.blt_eq] using h)]
    · rfl
  | negSucc a => simp [wrapK]

/-! ### Tries -/

section
variable {α β : Type}
theorem T.get_leaf (i : Nat) : (T.leaf : T α).get i = none := rfl
theorem T.get_zero (v : Option α) (l r : T α) : (T.node v l r).get 0 = v := rfl
theorem T.get_succ (v : Option α) (l r : T α) (i : Nat) (h : i ≠ 0) : (T.node v l r).get i = if i % 2 = 0 then r.get (i / 2) else l.get (i / 2) := by
  obtain ⟨j, rfl⟩ : ∃ j, i = j + 1 := ⟨i - 1, by omega⟩
  show (@Nat.rec (fun _ => Option α) (T.get r (Nat.div (j+1) 2)) (fun _ _ => T.get l (Nat.div (j+1) 2)) (Nat.mod (j+1) 2)) = _
  have e : Nat.mod (j+1) 2 = (j+1) % 2 := rfl
  rw [e]
  rcases Nat.mod_two_eq_zero_or_one (j+1) with h | h <;> rw [h]
  · rw [if_pos rfl]; rfl
  · rw [if_neg (by decide)]; rfl

theorem T.oneK_eq (z : β) (v : Option α) : ∀ (n i : Nat) (k : T α → β), T.oneK z v n i k = z ∨ ∃ t : T α, (∀ j, t.get j = if j = i then v else none) ∧ T.oneK z v n i k = k t := by
  intro n
  induction n with
  | zero => intro i k; exact .inl rfl
  | succ n ih =>
    intro i k
    cases i with
    | zero =>
      refine .inr ⟨.node v .leaf .leaf, fun j => ?_, rfl⟩
      cases j with
      | zero => rfl
      | succ j => rw [T.get_succ _ _ _ _ (by omega)]; simp [T.get_leaf]
    | succ i =>
      have e : T.oneK z v (n + 1) (i + 1) k = @Nat.rec (fun _ => β) (T.oneK z v n ((i + 1) / 2) fun r => k (.node none .leaf r)) (fun _ _ => T.oneK z v n ((i + 1) / 2) fun l => k (.node none l .leaf)) ((i + 1) % 2) := rfl
      rw [e]
      rcases Nat.mod_two_eq_zero_or_one (i + 1) with h | h <;> rw [h]
      · rcases ih ((i + 1) / 2) fun r => k (.node none .leaf r) with h1 | ⟨t, ht, h1⟩
        · exact .inl h1
        · refine .inr ⟨_, fun j => ?_, h1⟩
          by_cases hj : j = 0
          · subst hj; rw [T.get_zero, if_neg (by omega)]
          · rw [T.get_succ _ _ _ _ hj, T.get_leaf, ht]
            by_cases h2 : j % 2 = 0
            · rw [if_pos h2]; by_cases h3 : j / 2 = (i + 1) / 2
              · rw [if_pos h3, if_pos (by omega)]
              · rw [if_neg h3, if_neg (by omega)]
            · rw [if_neg h2, if_neg (by omega)]
      · rcases ih ((i + 1) / 2) fun l => k (.node none l .leaf) with h1 | ⟨t, ht, h1⟩
        · exact .inl h1
        · refine .inr ⟨_, fun j => ?_, h1⟩
          by_cases hj : j = 0
          · subst hj; rw [T.get_zero, if_neg (by omega)]
          · rw [T.get_succ _ _ _ _ hj, T.get_leaf, ht]
            by_cases h2 : j % 2 = 0
            · rw [if_pos h2, if_neg (by omega)]
            · rw [if_neg h2]; by_cases h3 : j / 2 = (i + 1) / 2
              · rw [if_pos h3, if_pos (by omega)]
              · rw [if_neg h3, if_neg (by omega)]

theorem T.setK_eq (z : β) (v : Option α) : ∀ (t : T α) (i : Nat) (k : T α → β), T.setK z v t i k = z ∨ ∃ t' : T α, (∀ j, t'.get j = if j = i then v else t.get j) ∧ T.setK z v t i k = k t' := by
  intro t
  induction t with
  | leaf =>
    intro i k
    rcases T.oneK_eq z v 64 i k with h | ⟨t, ht, h⟩
    · exact .inl h
    · exact .inr ⟨t, fun j => by rw [ht, T.get_leaf], h⟩
  | node w l r ihl ihr =>
    intro i k
    cases i with
    | zero =>
      refine .inr ⟨.node v l r, fun j => ?_, rfl⟩
      by_cases hj : j = 0
      · subst hj; rfl
      · rw [T.get_succ _ _ _ _ hj, T.get_succ _ _ _ _ hj, if_neg hj]
    | succ i =>
      have e : T.setK z v (.node w l r) (i + 1) k = @Nat.rec (fun _ => β) (T.setK z v r ((i + 1) / 2) fun r => k (.node w l r)) (fun _ _ => T.setK z v l ((i + 1) / 2) fun l => k (.node w l r)) ((i + 1) % 2) := rfl
      rw [e]
      rcases Nat.mod_two_eq_zero_or_one (i + 1) with h | h <;> rw [h]
      · rcases ihr ((i + 1) / 2) fun r => k (.node w l r) with h1 | ⟨t, ht, h1⟩
        · exact .inl h1
        · refine .inr ⟨_, fun j => ?_, h1⟩
          by_cases hj : j = 0
          · subst hj; rw [T.get_zero, T.get_zero, if_neg (by omega)]
          · rw [T.get_succ _ _ _ _ hj, T.get_succ _ _ _ _ hj, ht]
            by_cases h2 : j % 2 = 0
            · rw [if_pos h2, if_pos h2]; by_cases h3 : j / 2 = (i + 1) / 2
              · rw [if_pos h3, if_pos (by omega)]
              · rw [if_neg h3, if_neg (by omega)]
            · rw [if_neg h2, if_neg h2, if_neg (by omega)]
      · rcases ihl ((i + 1) / 2) fun l => k (.node w l r) with h1 | ⟨t, ht, h1⟩
        · exact .inl h1
        · refine .inr ⟨_, fun j => ?_, h1⟩
          by_cases hj : j = 0
          · subst hj; rw [T.get_zero, T.get_zero, if_neg (by omega)]
          · rw [T.get_succ _ _ _ _ hj, T.get_succ _ _ _ _ hj, ht]
            by_cases h2 : j % 2 = 0
            · rw [if_pos h2, if_pos h2, if_neg (by omega)]
            · rw [if_neg h2, if_neg h2]; by_cases h3 : j / 2 = (i + 1) / 2
              · rw [if_pos h3, if_pos (by omega)]
              · rw [if_neg h3, if_neg (by omega)]
end

theorem putK_eq {β : Type} (z : β) : ∀ (l : List AV) (i : Nat) (c : T AV) (k : T AV → β), putK z l i c k = z ∨
    ∃ c' : T AV, (∀ j, c'.get j = if i ≤ j ∧ j < i + l.length then l[j - i]? else c.get j) ∧ putK z l i c k = k c' := by
  intro l
  induction l with
  | nil => intro i c k; exact .inr ⟨c, fun j => by rw [if_neg (by simp only [List.length_nil]; omega)], rfl⟩
  | cons v l ih =>
    intro i c k
    have e : putK z (v :: l) i c k = T.setK z (some v) c i fun c => fNat (Nat.succ i) fun i => putK z l i c k := rfl
    rw [e]
    rcases T.setK_eq z (some v) c i fun c => fNat (Nat.succ i) fun i => putK z l i c k with h | ⟨c1, h1, h⟩
    · exact .inl h
    · rw [h, fNat_eq]
      rcases ih (Nat.succ i) c1 k with h2 | ⟨c2, h2, h3⟩
      · exact .inl h2
      · refine .inr ⟨c2, fun j => ?_, h3⟩
        rw [h2, h1]
        by_cases a : j = i
        · subst a; rw [if_neg (by omega), if_pos rfl, if_pos (by simp)]; simp
        · by_cases b : i + 1 ≤ j ∧ j < i + 1 + l.length
          · rw [if_pos (by simpa [Nat.succ_eq_add_one] using b), if_pos (by simp; omega)]
            obtain ⟨q, rfl⟩ : ∃ q, j = i + 1 + q := ⟨j - (i + 1), by omega⟩
            rw [show i + 1 + q - i = q + 1 from by omega, show i + 1 + q - Nat.succ i = q from by omega]; simp
          · rw [if_neg (by simpa [Nat.succ_eq_add_one] using b), if_neg a, if_neg (by simp; omega)]

/-- The cells that a trie holds from a place on. -/
noncomputable def cellsFrom (c : T AV) (i n : Nat) : List AV := (List.range' i n).map fun j => (c.get j).getD .any
theorem takeK_eq {β : Type} (c : T AV) : ∀ (n i : Nat) (k : List AV → β), takeK c n i k = k (cellsFrom c i n) := by
  intro n
  induction n with
  | zero => intro i k; rfl
  | succ n ih =>
    intro i k
    have e : takeK c (n + 1) i k = @Option.rec AV (fun _ => β) (takeK c n (Nat.succ i) fun l => k (.any :: l)) (fun v => takeK c n (Nat.succ i) fun l => k (v :: l)) (c.get i) := rfl
    rw [e]
    have h0 : cellsFrom c i (n + 1) = (c.get i).getD .any :: cellsFrom c (i + 1) n := by simp [cellsFrom, List.range'_succ]
    rw [h0]
    cases h : c.get i with
    | none => simp only [ih]; rfl
    | some v => simp only [ih]; rfl
theorem cellsFrom_length (c : T AV) (i n : Nat) : (cellsFrom c i n).length = n := by simp [cellsFrom]
theorem cellsFrom_get (c : T AV) (i n j : Nat) (h : j < n) : (cellsFrom c i n)[j]? = some ((c.get (i + j)).getD .any) := by
  simp [cellsFrom, h]

end Go.Ev
