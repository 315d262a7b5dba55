/- Reads leave memory as it is; the small laws of masks; what is the same. -/
import Derived.Test.YtkobbfimabpfeaaGreatDoorEvL
namespace Go.Ev

/-- What comes of it leaves memory as it is, where no name is new. -/
noncomputable def Keeps (r : OR) (m : AMem) : Prop := ∀ v m', r = .mk v m' → m'.next = m.next → m' = m

theorem Keeps.mk (v : AV) (m : AMem) : Keeps (.mk v m) m := fun _ _ h _ => by cases h; rfl
theorem Keeps.fail (c : Nat) (m : AMem) : Keeps (.fail c) m := fun _ _ h _ => by cases h
theorem Keeps.bif {b : Bool} {x y : OR} {m : AMem} (h : Keeps x m) (h' : Keeps y m) : Keeps (bif2 b x y) m := by cases b; exact h'; exact h
theorem Keeps.bnd {x : Option AV} {d : Nat} {k : Nat → OR} {m : AMem} (h : ∀ n, Keeps (k n) m) : Keeps (bnd x d k) m := by
  unfold Ev.bnd; split
  · exact h _
  · exact h _
  · exact .fail _ _
theorem Keeps.blk {m0 : AMem} {b : Nat} {k : Bool → Nat → Nat → T AV → OR} {m : AMem} (h : ∀ a b c d, Keeps (k a b c d) m) : Keeps (blkK m0 b k) m := fun v m' e hn => by
  obtain ⟨ro, sg, E, N, c, h1, h2⟩ := blkK_inv e
  exact h _ _ _ _ _ _ h2 hn
theorem Keeps.load {m0 : AMem} {b off n : Nat} {k : List AV → OR} {m : AMem} (h : ∀ l, Keeps (k l) m) : Keeps (loadK m0 b off n k) m := fun v m' e hn => by
  obtain ⟨ro, sg, E, N, c, h1, h2, h3⟩ := loadK_inv e
  exact h _ _ _ h3 hn
theorem Keeps.nat {n : Nat} {k : Nat → OR} {m : AMem} (h : Keeps (k n) m) : Keeps (fNat n k) m := by rw [fNat_eq]; exact h
theorem Keeps.bytes {m : AMem} : ∀ {l : List AV} {k : List Nat → OR}, (∀ l, Keeps (k l) m) → Keeps (bytesK l k) m := fun {l} => by
  induction l with
  | nil => intro k h; exact h []
  | cons x l ih =>
    intro k h
    unfold bytesK
    split
    · rename_i e; exact h []
    · rename_i n l' k' e
      cases e
      exact .bif (ih fun l => h _) (.fail _ _)
    · exact .fail _ _
theorem Keeps.cut {b off size l h M : Nat} {m : AMem} : Keeps (cutAt b off size l h M m) m := by
  unfold cutAt; exact .nat (.nat (.nat (.mk _ _)))
theorem Keeps.new {sg : Bool} {E : Nat} {l : List AV} {m : AMem} {k : Nat → AMem → OR} (h : ∀ b m1, Keeps (k b m1) m1) (hk : ∀ b m1 v m', k b m1 = .mk v m' → m'.next = m1.next) : Keeps (newBlk sg E l m k) m := fun v m' e hn => by
  obtain ⟨m1, c, h1, h2, h3, h4⟩ := newBlk_inv e
  have := hk _ _ _ _ h4
  omega

section
variable {P : Program} {call : Call}

theorem aLoad_keeps (t : TypeId) (a : AV) (m : AMem) : Keeps (aLoad P t a m) m := fun v m' h hn => by
  obtain ⟨b, o, rfl, h⟩ := onPtr_inv _ h fail_ne
  have h : @Option.rec (Bool × Nat) (fun _ => OR) (.fail 37) (loadL m b o) (layout P t) = .mk v m' := h
  cases hl : layout P t with
  | none => rw [hl] at h; cases h
  | some lay =>
    rw [hl] at h
    have h : loadL m b o lay = .mk v m' := h
    unfold loadL at h
    exact Keeps.bif (m := m) (.load fun l => .mk _ _) (by
      unfold load1
      refine .blk fun a b N c => .bif ?_ (.fail _ _)
      cases c.get o <;> exact .mk _ _) v m' h hn

theorem aSlice_keeps (t : TypeId) (x : AV) (lo hi mx : Option AV) (m : AMem) : Keeps (aSlice P t x lo hi mx m) m := by
  unfold aSlice
  split
  · split
    · exact .fail _ _
    · exact .nat (.bnd fun _ => .bnd fun _ => .bif (.mk _ _) (.fail _ _))
  · split
    · split
      · exact .bnd fun _ => .bnd fun _ => .bnd fun _ => .bif .cut (.fail _ _)
      · exact .bnd fun _ => .bnd fun _ => .bif (.bif (.mk _ _) (.bif (.blk fun _ _ _ _ => .bif (.nat (.nat (.mk _ _))) (.fail _ _)) (.mk _ _))) (.fail _ _)
      · exact .bnd fun _ => .bnd fun _ => .bnd fun _ => .bif .cut (.fail _ _)
    · exact .fail _ _
  · split
    · exact .bnd fun _ => .bnd fun _ => .bnd fun _ => .bif (.mk _ _) (.fail _ _)
    · exact .fail _ _
  · split
    · exact .bnd fun _ => .bnd fun _ => .bnd fun _ => .bif .cut (.fail _ _)
    · exact .fail _ _
  · exact .fail _ _

theorem aConvert_keeps (s d : TypeId) (x : AV) (m : AMem) : Keeps (aConvert P s d x m) m := by
  unfold aConvert
  split
  · rw [wrapK_eq]; exact .mk _ _
  · exact .mk _ _
  · split
    · split
      · exact .load fun l => .bytes fun l => .mk _ _
      · exact .mk _ _
      · exact .mk _ _
      · exact .fail _ _
    · exact .fail _ _
  · split
    · refine .bif (.new (fun b m1 => .nat (.mk _ _)) fun b m1 v m' h => ?_) (.fail _ _)
      rw [fNat_eq] at h; cases h; rfl
    · exact .fail _ _
  · exact .fail _ _

theorem found_keeps {ok : Bool} {a : AV} {b : Bool} {m : AMem} : Keeps (found ok a b m) m := .bif (.mk _ _) (.mk _ _)

theorem aLookup_keeps (t : TypeId) (x k : AV) (ok : Bool) (m : AMem) : Keeps (aLookup P t x k ok m) m := by
  unfold aLookup
  split
  · refine .bif ?_ (.fail _ _)
    split
    · exact .fail _ _
    · split
      · exact found_keeps
      · intro v m' h hn
        obtain ⟨ro, ck, es, _, h⟩ := mapK_inv h
        split at h
        · exact found_keeps v m' h hn
        · exact found_keeps v m' h hn
        · cases h
      · exact .fail _ _
  · exact .fail _ _

theorem evO_keeps {t : T AV} {x : Option Operand} {k : Option AV → OR} {m : AMem} (h : ∀ v, Keeps (k v) m) : Keeps (evO t x k) m := by rw [evO_eq]; exact h _
theorem evK_keeps {t : T AV} {x : Operand} {k : AV → OR} {m : AMem} (h : ∀ v, Keeps (k v) m) : Keeps (evK t x k) m := by rw [evK_eq]; exact h _

theorem reads_keeps {o : Op} (hk : opKind o = 1) (t : T AV) (m : AMem) : Keeps (opTab o P call t m) m := by
  cases o <;> first | (cases hk; done) | skip
  · exact evK_keeps fun a => aLoad_keeps _ _ _
  · exact evK_keeps fun a => aConvert_keeps _ _ _ _
  · exact evK_keeps fun a => evO_keeps fun _ => evO_keeps fun _ => evO_keeps fun _ => aSlice_keeps _ _ _ _ _ _
  · exact evK_keeps fun a => evK_keeps fun _ => aLookup_keeps _ _ _ _ _
  · rename_i c
    obtain ⟨callee, args, ats⟩ := c
    cases callee <;> first | (cases hk; done) | skip
    rename_i b
    cases b <;> cases hk
end

/-! ### What is the same -/

theorem bif2_and {a b : Bool} (h : bif2 a b false = true) : a = true ∧ b = true := by cases a; cases h; exact ⟨rfl, h⟩

theorem eqV_both : ∀ n : Nat, (∀ a b : AV, eqV n a b = true → a = b) ∧ (∀ l m : List AV, eqV.eqVs n l m = true → l = m)
  | 0 => ⟨fun a b h => (by unfold eqV at h; cases h), fun l m h => (by unfold eqV.eqVs at h; cases h)⟩
  | n + 1 => by
    obtain ⟨ih, ihs⟩ := eqV_both n
    refine ⟨fun a b h => ?_, fun l m h => ?_⟩
    · unfold eqV at h
      split at h
      · rw [eq_of_beq h]
      · obtain ⟨h1, h2⟩ := bif2_and h
        rw [iEq_eq] at h2
        rw [kEq_eq h1, eq_of_beq h2]
      · rw [lEq_eq] at h; rw [eq_of_beq h]
      · obtain ⟨h1, h2⟩ := bif2_and h
        rw [Nat.eq_of_beq_eq_true h1, Nat.eq_of_beq_eq_true h2]
      · rfl
      · obtain ⟨h1, h2⟩ := bif2_and h
        obtain ⟨h2, h3⟩ := bif2_and h2
        rw [Nat.eq_of_beq_eq_true h1, Nat.eq_of_beq_eq_true h2, Nat.eq_of_beq_eq_true h3]
      · obtain ⟨h1, h2⟩ := bif2_and h
        obtain ⟨h2, h3⟩ := bif2_and h2
        obtain ⟨h3, h4⟩ := bif2_and h3
        rw [Nat.eq_of_beq_eq_true h1, Nat.eq_of_beq_eq_true h2, Nat.eq_of_beq_eq_true h3, Nat.eq_of_beq_eq_true h4]
      · rfl
      · rfl
      · rw [Nat.eq_of_beq_eq_true h]
      · rfl
      · rfl
      · obtain ⟨h1, h2⟩ := bif2_and h
        rw [Nat.eq_of_beq_eq_true h1, ihs _ _ h2]
      · obtain ⟨h1, h2⟩ := bif2_and h
        rw [Nat.eq_of_beq_eq_true h1, ih _ _ h2]
      · rfl
      · rw [ihs _ _ h]
      · rw [ihs _ _ h]
      · cases h
    · unfold eqV.eqVs at h
      split at h
      · cases h
      · rfl
      · rename_i e
        cases e
        obtain ⟨h1, h2⟩ := bif2_and h
        rw [ih _ _ h1, ihs _ _ h2]
      · cases h

theorem eqV_eq {n : Nat} {a b : AV} (h : eqV n a b = true) : a = b := (eqV_both n).1 a b h

/-! ### Masks -/

theorem bitA_eq (a i : Nat) : bitA a i = a.testBit i := by
  have e : bitA a i = Nat.beq ((a >>> i) &&& 1) 1 := rfl
  rw [e, Nat.testBit, Nat.and_comm 1]
  rcases Nat.mod_two_eq_zero_or_one (a >>> i) with h | h <;> rw [Nat.and_one_is_mod, h] <;> rfl

theorem subA_spec {a b : Nat} (h : subA a b = true) {i : Nat} (hi : a.testBit i = true) : b.testBit i = true := by
  have e : a &&& b = a := Nat.eq_of_beq_eq_true h
  have := congrArg (fun n => n.testBit i) e
  simp only [Nat.testBit_and, hi, Bool.true_and] at this
  exact this

end Go.Ev
