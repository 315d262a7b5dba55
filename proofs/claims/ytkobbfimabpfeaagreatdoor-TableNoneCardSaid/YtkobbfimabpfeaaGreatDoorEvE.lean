/- Operations: each that the evaluator carries out is carried out alike by the model. -/
import Derived.Test.YtkobbfimabpfeaaGreatDoorEvD
namespace Go.Ev

section
variable {P : Program} {ρ : Ren} {m : AMem} {w : World}

/-! ### New blocks -/

theorem newBlk_inv {sg : Bool} {E : Nat} {l : List AV} {m m' : AMem} {k : Nat → AMem → OR} {v : AV} (h : newBlk sg E l m k = .mk v m') :
    ∃ m1 c, m1.next = m.next + 1 ∧ (∀ j, m1.t.get j = if j = m.next then some (.cells false sg E l.length c) else m.t.get j) ∧ (∀ i, i < l.length → c.get i = l[i]?) ∧ k m.next m1 = .mk v m' := by
  unfold newBlk at h
  rcases putK_eq (OR.fail 30) l 0 .leaf (fun c => fNat l.length fun n => T.setK (.fail 31) (some (.cells false sg E n c)) m.t m.next fun t => fNat (Nat.succ m.next) fun nx => k m.next ⟨nx, t⟩) with e | ⟨c, hc, e⟩
  · rw [e] at h; cases h
  · rw [e, fNat_eq] at h
    rcases T.setK_eq (OR.fail 31) (some (.cells false sg E l.length c)) m.t m.next (fun t => fNat (Nat.succ m.next) fun nx => k m.next ⟨nx, t⟩) with e2 | ⟨t, ht, e2⟩
    · rw [e2] at h; cases h
    · rw [e2, fNat_eq] at h
      exact ⟨⟨m.next + 1, t⟩, c, rfl, ht, fun i hi => by rw [hc, if_pos (by omega)]; simp, h⟩

/-- A new block under a new name; behind what is known it may hold more. -/
theorem View.new (V : View ρ m w) {sg : Bool} {E : Nat} {l : List AV} {cs rest : List Value} (hl : VRs ρ l cs) {m1 : AMem} {c : T AV} (hn : m1.next = m.next + 1)
    (hg : ∀ j, m1.t.get j = if j = m.next then some (.cells false sg E l.length c) else m.t.get j) (hc : ∀ i, i < l.length → c.get i = l[i]?) (hfr : ρ m.next = none)
    {A : Array Value} (hA : A = (cs ++ rest).toArray) {elem : TypeId} {fz : Nat × Nat} (hfz : ∀ i, i < A.size → ¬ (fz.1 ≤ i ∧ i < fz.2)) (hsg : sg = false → ∀ i, ¬ (fz.1 ≤ i ∧ i < fz.2)) :
    Step ρ m w (ρ.set m.next ⟨w.heap.size, 0, A.size, E⟩) m1 (w.alloc (.cells A elem fz)) := by
  subst hA
  show GStep ρ m.t.get m.next w _ m1.t.get m1.next _
  rw [hn]
  refine GStep.alloc V.sim V.wf hfr (by simp [hl.length]) (fun i hi => ?_) hfz hsg hg
  have : l[i]? = some l[i] := List.getElem?_eq_getElem hi
  obtain ⟨x, hx, hr⟩ := hl.get i this
  have hi' : i < cs.length := hl.length ▸ hi
  exact ⟨x, by simp [List.getElem?_append_left hi', hx], by rw [hc i hi, this]; exact hr⟩

/-! ### Operands -/

noncomputable def cstA (v : Value) : AV :=
  match v with
  | .bool b => .bool b
  | .int i n => .int i n
  | .string s => .str (s.data.toList.map UInt8.toNat)
  | .agg cs => .agg (scals cs.toList)
  | .tuple cs => match cs.toList with
    | [] => .undef
    | _ => .any
  | v => scal v

theorem cst_eq {β : Type} (v : Value) (k : AV → β) : cst v k = k (cstA v) := by
  unfold cst cstA
  cases v <;> try rfl
  · simp
  · rename_i cs; simp only []; cases cs.toList <;> rfl

theorem scal_rel (ρ : Ren) (v : Value) : VR ρ (scal v) v := by
  unfold scal
  split <;> first | exact .any _ | constructor
  all_goals rfl

theorem scals_rel (ρ : Ren) : ∀ l : List Value, VRs ρ (scals l) l
  | [] => .nil
  | v :: l => .cons _ _ _ _ (scal_rel ρ v) (scals_rel ρ l)

theorem cstA_rel (ρ : Ren) (v : Value) : VR ρ (cstA v) v := by
  unfold cstA
  split
  · constructor
  · constructor
  · exact .str _ _ rfl
  · exact .agg _ _ (scals_rel ρ _)
  · rename_i cs
    split
    · rename_i h; exact .tup _ _ (by rw [h]; exact .nil)
    · exact .any _
  · exact scal_rel ρ _

/-- What an operand is. -/
noncomputable def evA (t : T AV) (x : Operand) : AV :=
  match x with
  | .tmp i => (t.get i).getD .undef
  | .const v => cstA v
  | .global _ => .any
  | .func f => .fn f []

theorem evK_eq {β : Type} (t : T AV) (x : Operand) (k : AV → β) : evK t x k = k (evA t x) := by
  cases x with
  | tmp i =>
    show @Option.rec AV (fun _ => β) (k .undef) k (t.get i) = _
    simp only [evA]
    cases t.get i <;> rfl
  | const v => exact cst_eq v k
  | global g => rfl
  | func f => rfl

theorem evsK_eq {β : Type} (t : T AV) : ∀ (l : List Operand) (k : List AV → β), evsK t l k = k (l.map (evA t))
  | [], _ => rfl
  | x :: l, k => by
    show evK t x (fun v => evsK t l fun vs => k (v :: vs)) = _
    rw [evK_eq, evsK_eq t l]; rfl

theorem evPs_eq {β : Type} (t : T AV) : ∀ (l : List (Nat × Operand)) (k : List (Nat × AV) → β), evPs t l k = k (l.map fun p => (p.1, evA t p.2))
  | [], _ => rfl
  | x :: l, k => by
    show evK t x.2 (fun v => evPs t l fun vs => k ((x.1, v) :: vs)) = _
    rw [evK_eq, evPs_eq t l]; rfl

theorem evO_eq {β : Type} (t : T AV) (x : Option Operand) (k : Option AV → β) : evO t x k = k (x.map (evA t)) := by
  cases x with
  | none => rfl
  | some x => exact evK_eq t x _

/-- The temporaries. -/
structure TR (ρ : Ren) (nt : Nat) (t : T AV) (tmps : Array Value) : Prop where
  size : tmps.size = nt
  rel : ∀ i, VR ρ ((t.get i).getD .undef) (tmps.getD i undef)

theorem TR.mono {ρ ρ' : Ren} {nt : Nat} {t : T AV} {tmps : Array Value} (h : TR ρ nt t tmps) (hs : Sub ρ ρ') : TR ρ' nt t tmps := ⟨h.size, fun i => (h.rel i).mono hs⟩

theorem TR.ev {nt : Nat} {t : T AV} {a : Act} (h : TR ρ nt t a.tmps) (x : Operand) : VR ρ (evA t x) (a.eval x) := by
  cases x with
  | tmp i => exact h.rel i
  | const v => exact cstA_rel ρ v
  | global g => exact .any _
  | func f => exact .fn f [] #[] .nil

theorem TR.evs {nt : Nat} {t : T AV} {a : Act} (h : TR ρ nt t a.tmps) : ∀ l : List Operand, VRs ρ (l.map (evA t)) (l.map a.eval)
  | [] => .nil
  | x :: l => .cons _ _ _ _ (h.ev x) (h.evs l)

/-- A result goes into its temporary. -/
theorem dstK_inv {nt : Nat} {dst : Option Tmp} {v : AV} {t : T AV} {k : T AV → Res} {x : X} {t' : T AV} {m' : AMem} (h : dstK nt dst v t k = .mk x t' m') :
    ∃ t1, k t1 = .mk x t' m' ∧ ∀ {ρ : Ren} {a : Act} {vc : Value}, TR ρ nt t a.tmps → VR ρ v vc → TR ρ nt t1 (a.put dst vc).tmps := by
  cases dst with
  | none => exact ⟨t, h, fun h _ => h⟩
  | some d =>
    have h : bif2 (Nat.blt d nt) (T.setK (.fail 121) (some v) t d k) (.fail 122) = .mk x t' m' := h
    rw [bif2_eq] at h
    split at h
    · rename_i hd
      have hd : d < nt := by simpa [Nat.blt_eq] using hd
      rcases T.setK_eq (Res.fail 121) (some v) t d k with e | ⟨t1, ht, e⟩
      · rw [e] at h; cases h
      · rw [e] at h
        refine ⟨t1, h, fun {ρ a vc} hT hv => ⟨by simp [Act.put, hT.size], fun i => ?_⟩⟩
        rw [ht]
        by_cases hi : i = d
        · subst hi
          have hi' : i < a.tmps.size := by rw [hT.size]; exact hd
          simp [Act.put, Array.getElem?_setIfInBounds_self_of_lt hi']; exact hv
        · have := hT.rel i
          simp only [Act.put, if_neg hi]
          simpa [Array.getElem?_setIfInBounds_ne (Ne.symm hi)] using this
    · cases h

/-! ### What is shown of an operation -/

/-- The operation is carried out, with that value. -/
noncomputable def Runs (P : Program) (ρ : Ren) (m : AMem) (w : World) (v : AV) (m' : AMem) (s : Sem Next) : Prop :=
  ∃ ρ' w' vc, Step ρ m w ρ' m' w' ∧ VR ρ' v vc ∧ (s.run P w = .ok (.value vc) w' ∨ (s.run P w = .ok .skip w' ∧ vc = undef))

/-- One that leaves memory alone. -/
noncomputable def Val (P : Program) (ρ : Ren) (m : AMem) (w : World) (v : AV) (m' : AMem) (s : Sem Value) : Prop := m' = m ∧ ∃ vc, VR ρ v vc ∧ s.run P w = .ok vc w

theorem Val.runs (V : View ρ m w) {v : AV} {m' : AMem} {s : Sem Value} (h : Val P ρ m w v m' s) : Runs P ρ m w v m' (do pure (.value (← s))) := by
  obtain ⟨rfl, vc, hv, hr⟩ := h
  exact ⟨ρ, w, vc, V.refl, hv, .inl (by simp [hr])⟩

theorem Val.mk {v : AV} {m' : AMem} {s : Sem Value} {u : AV} {uc : Value} (h : OR.mk u m = .mk v m') (hr : s.run P w = .ok uc w) (hv : VR ρ u uc) : Val P ρ m w v m' s := by
  cases h; exact ⟨rfl, uc, hv, hr⟩

theorem iBool_val {b : Bool} {v : AV} {m' : AMem} {s : Sem Value} (h : iBool b m = .mk v m') (hr : s.run P w = .ok (.bool b) w) : Val P ρ m w v m' s := by
  cases b
  · exact Val.mk (u := .bool false) h hr (.bool _)
  · exact Val.mk (u := .bool true) h hr (.bool _)

/-! ### Numbers -/

theorem bits_land (k : IntKind) (x y : Nat) (hx : x < 2 ^ k.bits) (hy : y < 2 ^ k.bits) : (BitVec.ofInt k.bits (Int.ofNat x) &&& BitVec.ofInt k.bits (Int.ofNat y)).toNat = Nat.land x y := by
  rw [BitVec.toNat_and]
  simp [Nat.mod_eq_of_lt hx, Nat.mod_eq_of_lt hy]
theorem bits_lor (k : IntKind) (x y : Nat) (hx : x < 2 ^ k.bits) (hy : y < 2 ^ k.bits) : (BitVec.ofInt k.bits (Int.ofNat x) ||| BitVec.ofInt k.bits (Int.ofNat y)).toNat = Nat.lor x y := by
  rw [BitVec.toNat_or]
  simp [Nat.mod_eq_of_lt hx, Nat.mod_eq_of_lt hy]
theorem bits_xor (k : IntKind) (x y : Nat) (hx : x < 2 ^ k.bits) (hy : y < 2 ^ k.bits) : (BitVec.ofInt k.bits (Int.ofNat x) ^^^ BitVec.ofInt k.bits (Int.ofNat y)).toNat = Nat.xor x y := by
  rw [BitVec.toNat_xor]
  simp [Nat.mod_eq_of_lt hx, Nat.mod_eq_of_lt hy]

theorem iBits_val {f : Nat → Nat → Nat} {k : IntKind} {a b : Int} {v : AV} {m' : AMem} {s : Sem Value} (h : iBits f k a b m = .mk v m')
    (hr : ∀ x y, x < 2 ^ k.bits → y < 2 ^ k.bits → a = Int.ofNat x → b = Int.ofNat y → s.run P w = .ok (.int k (k.wrap (Int.ofNat (f x y)))) w) : Val P ρ m w v m' s := by
  cases a with
  | negSucc x => cases h
  | ofNat x =>
    cases b with
    | negSucc y => cases h
    | ofNat y =>
      have h : bif2 (Nat.blt x (2 ^ k.bits) && Nat.blt y (2 ^ k.bits)) (wrapK k (.ofNat (f x y)) fun n => OR.mk (.int k n) m) (OR.fail 13) = OR.mk v m' := h
      rw [bif2_eq] at h
      split at h
      · rename_i hc
        simp only [Bool.and_eq_true, Nat.blt_eq] at hc
        rw [wrapK_eq] at h
        exact Val.mk h (hr x y hc.1 hc.2 rfl rfl) (.int _ _)
      · cases h

theorem pow_cast (n : Nat) : (Int.ofNat (2 ^ n)) = (2 : Int) ^ n := by simp

theorem shift_amount (y b : Nat) : (bif2 (Nat.ble y b) y b) = min y b := by
  rw [bif2_eq]; split
  · rename_i h; rw [Nat.min_eq_left (by simpa [Nat.ble_eq] using h)]
  · rename_i h; rw [Nat.min_eq_right (by simp [Nat.ble_eq] at h; omega)]

theorem iBin_val {op : BinOp} {t : TypeId} {k k' : IntKind} {a b : Int} {v : AV} {m' : AMem} (h0 : iBin op k a k' b m = .mk v m') : Val P ρ m w v m' (binOp op t (.int k a) (.int k' b)) := by
  have kk : isShift op = false → k = k' ∧ intTab op k a b m = .mk v m' := by
    intro hs
    have h := h0
    unfold iBin at h
    rw [hs] at h
    have h : bif2 (kEq k k') (intTab op k a b m) (.fail 19) = .mk v m' := h
    rw [bif2_eq] at h
    split at h
    · rename_i e; exact ⟨kEq_eq e, h⟩
    · cases h
  cases op with
  | shl =>
    cases b with
    | negSucc y => cases h0
    | ofNat y =>
      have h : (wrapK k (Int.mul a (.ofNat (2 ^ (bif2 (Nat.ble y k.bits) y k.bits)))) fun n => OR.mk (.int k n) m) = .mk v m' := h0
      rw [wrapK_eq, shift_amount, pow_cast] at h
      refine Val.mk h ?_ (.int _ _)
      simp only [binOp, Op.shift]
      rw [if_neg (by simp)]
      rfl
  | shr =>
    cases b with
    | negSucc y => cases h0
    | ofNat y =>
      have h : (fInt (Int.fdiv a (.ofNat (2 ^ (bif2 (Nat.ble y k.bits) y k.bits)))) fun n => OR.mk (.int k n) m) = .mk v m' := h0
      rw [fInt_eq, shift_amount, pow_cast] at h
      refine Val.mk h ?_ (.int _ _)
      simp only [binOp, Op.shift]
      rw [if_neg (by simp)]
      rfl
  | add =>
    obtain ⟨rfl, h⟩ := kk rfl
    have h : (wrapK k (Int.add a b) fun n => OR.mk (.int k n) m) = .mk v m' := h
    rw [wrapK_eq] at h
    exact Val.mk h (by simp [binOp, Op.intArith]) (.int _ _)
  | sub =>
    obtain ⟨rfl, h⟩ := kk rfl
    have h : (wrapK k (Int.sub a b) fun n => OR.mk (.int k n) m) = .mk v m' := h
    rw [wrapK_eq] at h
    exact Val.mk h (by simp [binOp, Op.intArith]; rfl) (.int _ _)
  | mul =>
    obtain ⟨rfl, h⟩ := kk rfl
    have h : (wrapK k (Int.mul a b) fun n => OR.mk (.int k n) m) = .mk v m' := h
    rw [wrapK_eq] at h
    exact Val.mk h (by simp [binOp, Op.intArith]) (.int _ _)
  | quo =>
    obtain ⟨rfl, h⟩ := kk rfl
    have h : bif2 (iEq b 0) (.fail 11) (wrapK k (Int.tdiv a b) fun n => OR.mk (.int k n) m) = .mk v m' := h
    rw [bif2_eq, iEq_eq] at h
    split at h
    · cases h
    · rename_i hb
      rw [wrapK_eq] at h
      exact Val.mk h (by simp [binOp, Op.intDiv, show b ≠ 0 from by simpa using hb]) (.int _ _)
  | rem =>
    obtain ⟨rfl, h⟩ := kk rfl
    have h : bif2 (iEq b 0) (.fail 11) (fInt (Int.tmod a b) fun n => OR.mk (.int k n) m) = .mk v m' := h
    rw [bif2_eq, iEq_eq] at h
    split at h
    · cases h
    · rename_i hb
      rw [fInt_eq] at h
      exact Val.mk h (by simp [binOp, Op.intDiv, show b ≠ 0 from by simpa using hb]) (.int _ _)
  | eql =>
    obtain ⟨rfl, h⟩ := kk rfl
    exact iBool_val (b := iEq a b) h (by simp [binOp, Op.intCmp, iEq_eq])
  | neq =>
    obtain ⟨rfl, h⟩ := kk rfl
    exact iBool_val (b := !iEq a b) h (by simp [binOp, Op.intCmp, iEq_eq, bne])
  | lss =>
    obtain ⟨rfl, h⟩ := kk rfl
    exact iBool_val (b := iLt a b) h (by simp [binOp, Op.intCmp, iLt_eq])
  | leq =>
    obtain ⟨rfl, h⟩ := kk rfl
    exact iBool_val (b := !iLt b a) h (by
      have e : decide (a ≤ b) = !decide (b < a) := by rw [Bool.eq_iff_iff]; simp
      simp [binOp, Op.intCmp, iLt_eq, e])
  | gtr =>
    obtain ⟨rfl, h⟩ := kk rfl
    exact iBool_val (b := iLt b a) h (by simp [binOp, Op.intCmp, iLt_eq])
  | geq =>
    obtain ⟨rfl, h⟩ := kk rfl
    exact iBool_val (b := !iLt a b) h (by
      have e : decide (b ≤ a) = !decide (a < b) := by rw [Bool.eq_iff_iff]; simp
      simp [binOp, Op.intCmp, iLt_eq, e])
  | and =>
    obtain ⟨rfl, h⟩ := kk rfl
    exact iBits_val (f := Nat.land) h fun x y hx hy ea eb => by
      subst ea eb; simp only [binOp, Op.intBits, ne_eq, not_true_eq_false, if_false, bits_land k x y hx hy]; rfl
  | or =>
    obtain ⟨rfl, h⟩ := kk rfl
    exact iBits_val (f := Nat.lor) h fun x y hx hy ea eb => by
      subst ea eb; simp only [binOp, Op.intBits, ne_eq, not_true_eq_false, if_false, bits_lor k x y hx hy]; rfl
  | xor =>
    obtain ⟨rfl, h⟩ := kk rfl
    exact iBits_val (f := Nat.xor) h fun x y hx hy ea eb => by
      subst ea eb; simp only [binOp, Op.intBits, ne_eq, not_true_eq_false, if_false, bits_xor k x y hx hy]; rfl
  | andNot =>
    obtain ⟨rfl, h⟩ := kk rfl
    cases h

end
end Go.Ev
