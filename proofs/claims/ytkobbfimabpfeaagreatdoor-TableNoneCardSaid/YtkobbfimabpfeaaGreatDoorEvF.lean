/- Operations, on: strings, structs, nils; unary ones; parts, bounds. -/
import Derived.Test.YtkobbfimabpfeaaGreatDoorEvE
namespace Go.Ev

section
variable {P : Program} {ρ : Ren} {m : AMem} {w : World}

/-! ### Strings -/

theorem toNat_inj : ∀ (x y : List UInt8), (x.map UInt8.toNat == y.map UInt8.toNat) = (x == y)
  | [], [] => rfl
  | [], _ :: _ => rfl
  | _ :: _, [] => rfl
  | a :: x, b :: y => by
    simp only [List.map_cons, List.cons_beq_cons, toNat_inj x y]
    have : (a.toNat == b.toNat) = (a == b) := by rw [Bool.eq_iff_iff, beq_iff_eq, beq_iff_eq, UInt8.toNat_inj]
    rw [this]

theorem lLt_eq : ∀ (x y : List UInt8), lLt (x.map UInt8.toNat) (y.map UInt8.toNat) = Op.bytesLess x y
  | [], [] => rfl
  | _ :: _, [] => rfl
  | [], _ :: _ => rfl
  | a :: x, b :: y => by
    show bif2 (Nat.blt a.toNat b.toNat) true (bif2 (Nat.beq a.toNat b.toNat) (lLt (x.map UInt8.toNat) (y.map UInt8.toNat)) false) = (a < b || (a == b && Op.bytesLess x y))
    rw [lLt_eq x y]
    by_cases h : a < b
    · have : Nat.blt a.toNat b.toNat = true := by rw [Nat.blt_eq]; exact UInt8.lt_iff_toNat_lt.1 h
      simp [this, h]
    · have : Nat.blt a.toNat b.toNat = false := by rw [Bool.eq_false_iff]; intro e; exact h (UInt8.lt_iff_toNat_lt.2 (by simpa [Nat.blt_eq] using e))
      simp only [this, bif2_false, h, decide_false, Bool.false_or]
      by_cases e : a = b
      · subst e; simp
      · have : Nat.beq a.toNat b.toNat = false := by rw [Bool.eq_false_iff]; intro q; exact e (UInt8.toNat_inj.1 (Nat.eq_of_beq_eq_true q))
        simp [this, e]

theorem str_inv {l : List Nat} {v : Value} (h : VR ρ (.str l) v) : ∃ s : ByteArray, v = .string s ∧ s.data.toList.map UInt8.toNat = l := by
  cases h with | str l s h => exact ⟨s, rfl, h⟩

theorem str_len {l : List Nat} {s : ByteArray} (h : s.data.toList.map UInt8.toNat = l) : l.length = s.size := by rw [← h]; simp

theorem aStr_val {op : BinOp} {t : TypeId} {a b : List Nat} {x y : ByteArray} (hx : x.data.toList.map UInt8.toNat = a) (hy : y.data.toList.map UInt8.toNat = b) {v : AV} {m' : AMem} (h : aStr op a b m = .mk v m') :
    Val P ρ m w v m' (binOp op t (.string x) (.string y)) := by
  have heq : lEq a b = (x.toList == y.toList) := by rw [lEq_eq, ← hx, ← hy, toNat_inj, ByteArray.toList_eq, ByteArray.toList_eq]
  have hlt : lLt a b = Op.bytesLess x.toList y.toList := by rw [← hx, ← hy, lLt_eq, ByteArray.toList_eq, ByteArray.toList_eq]
  cases op with
  | add =>
    simp only [aStr, bif2_eq] at h
    split at h
    · rename_i hc
      refine Val.mk h (uc := .string (x ++ y)) ?_ (.str _ _ ?_)
      · have : ¬ (((x.size + y.size : Nat) : Int) > IntKind.i64.max) := by
          have h1 := str_len hx; have h2 := str_len hy
          have h3 : a.length + b.length < 9223372036854775807 := by simpa [Nat.blt_eq] using hc
          have h4 : IntKind.i64.max = 9223372036854775807 := by decide
          rw [h4]; omega
        simp only [binOp, Op.stringOp]
        rw [if_neg this]; rfl
      · rw [← hx, ← hy]; simp
    · cases h
  | eql => exact iBool_val (b := lEq a b) h (by simp [binOp, Op.stringOp, heq])
  | neq => exact iBool_val (b := !lEq a b) h (by simp [binOp, Op.stringOp, heq])
  | lss => exact iBool_val (b := lLt a b) h (by simp [binOp, Op.stringOp, hlt])
  | leq => exact iBool_val (b := lLt a b || lEq a b) h (by simp [binOp, Op.stringOp, hlt, heq])
  | gtr => exact iBool_val (b := !(lLt a b || lEq a b)) h (by simp [binOp, Op.stringOp, hlt, heq])
  | geq => exact iBool_val (b := !lLt a b) h (by simp [binOp, Op.stringOp, hlt])
  | _ => cases h

/-! ### Held against one another -/

theorem flip_val {op : BinOp} {t : TypeId} {r : Bool} {x y : Value} {v : AV} {m' : AMem} (h : flip op r m = .mk v m') (h1 : (binOp .eql t x y).run P w = .ok (.bool r) w)
    (h2 : (binOp .neq t x y).run P w = .ok (.bool (!r)) w) : Val P ρ m w v m' (binOp op t x y) := by
  cases op with
  | eql => exact iBool_val (b := r) h h1
  | neq => exact iBool_val (b := !r) h h2
  | _ => cases h

theorem nil_equal (d : Nat) {t : TypeId} {x y : AV} {vx vy : Value} (hx : VR ρ x vx) (hy : VR ρ y vy) {i : Nat} {a b : Bool} (hnx : nilOf x = some (i, a)) (hny : nilOf y = some (i, b)) (hk : nilKind P t = some i)
    (hab : (a || b) = true) : (Op.equalIn (d + 1) t vx vy).run P w = .ok (a && b) w ∧ binOp .eql t vx vy = (do pure (.bool (← Op.equal t vx vy))) ∧ binOp .neq t vx vy = (do pure (.bool (!(← Op.equal t vx vy)))) := by
  unfold nilKind at hk
  split at hk <;> cases hk <;> rename_i q hu <;> cases x <;> simp [nilOf] at hnx <;> cases y <;> simp [nilOf] at hny <;>
    (subst hnx; subst hny; cases hx <;> cases hy <;> first
      | (simp at hab; done)
      | exact ⟨by simp only [Op.equalIn, Sem.run_bind, run_underlying hu, Result.andThen_ok]; rfl, rfl, rfl⟩)

theorem aNil_val {op : BinOp} {t : TypeId} {x y : AV} {vx vy : Value} (hx : VR ρ x vx) (hy : VR ρ y vy) {v : AV} {m' : AMem} (h : aNil P op t x y m = .mk v m') :
    Val P ρ m w v m' (binOp op t vx vy) := by
  unfold aNil at h
  split at h
  · rename_i i a j b k hnx hny hk
    rw [bif2_eq] at h
    split at h
    · rename_i hc
      simp only [Bool.and_eq_true] at hc
      obtain ⟨⟨h1, h2⟩, hab⟩ := hc
      obtain rfl := Nat.eq_of_beq_eq_true h1
      obtain rfl := Nat.eq_of_beq_eq_true h2
      obtain ⟨e1, e2, e3⟩ := nil_equal (w := w) 9999 hx hy hnx hny hk hab
      have e1 : (Op.equal t vx vy).run P w = .ok (a && b) w := e1
      exact flip_val h (t := t) (by rw [e2]; simp [e1]) (by rw [e3]; simp [e1])
    · cases h
  · cases h

theorem sEq_run {d : Nat} {t : TypeId} {x y : AV} {vx vy : Value} (hx : VR ρ x vx) (hy : VR ρ y vy) {r : Bool} (h : sEq (P.underlying t) x y = some r) :
    (isAgg t).run P w = .ok false w ∧ (Op.equalIn (d + 1) t vx vy).run P w = .ok r w := by
  unfold sEq at h
  split at h
  · rename_i a b hu
    cases h; cases hx; cases hy
    exact ⟨by simp [isAgg, run_underlying hu], by simp [Op.equalIn, run_underlying hu]⟩
  · rename_i k0 j a k b hu
    rw [bif2_eq] at h
    split at h
    · rename_i hk
      cases h; cases hx; cases hy
      obtain rfl := kEq_eq hk
      exact ⟨by simp [isAgg, run_underlying hu], by simp [Op.equalIn, run_underlying hu, iEq_eq]⟩
    · cases h
  · rename_i a b hu
    cases h
    obtain ⟨s, rfl, hs⟩ := str_inv hx
    obtain ⟨s', rfl, hs'⟩ := str_inv hy
    refine ⟨by simp [isAgg, run_underlying hu], ?_⟩
    rw [lEq_eq, ← hs, ← hs', toNat_inj]
    simp [Op.equalIn, run_underlying hu, beq_toListBytes, ByteArray.toList_eq]
  · cases h

theorem aggEq_run {d : Nat} : ∀ (fs : List Field) {xs ys : List AV} {cx cy : Array Value} (_ : VRs ρ xs cx.toList) (_ : VRs ρ ys cy.toList) {r : Bool} (_ : aggEq P fs xs ys = some r),
    (Op.eqFields (d + 1) cx cy fs).run P w = .ok r w
  | [], _, _, _, _, _, _, r, h => by simp [aggEq] at h; subst h; rfl
  | f :: fs, xs, ys, cx, cy, hx, hy, r, h => by
    simp only [aggEq, bif2_eq] at h
    split at h
    · cases h
    · rename_i hn
      split at h
      · rename_i x y ex ey
        obtain ⟨vx, e1, r1⟩ := hx.get _ ex
        obtain ⟨vy, e2, r2⟩ := hy.get _ ey
        have hpx : ∀ z, sEq (P.underlying f.type) x y = some z → (part f.type cx f.offset).run P w = .ok vx w := fun z hz => by
          have e1' : cx[f.offset]? = some vx := by rw [← e1]; simp
          simp [part, (sEq_run (d := d) (w := w) r1 r2 hz).1, e1']
        have hpy : ∀ z, sEq (P.underlying f.type) x y = some z → (part f.type cy f.offset).run P w = .ok vy w := fun z hz => by
          have e2' : cy[f.offset]? = some vy := by rw [← e2]; simp
          simp [part, (sEq_run (d := d) (w := w) r1 r2 hz).1, e2']
        have hne : f.name ≠ "_" := by simpa using hn
        split at h
        · rename_i hs
          simp only [Op.eqFields, Sem.run_bind, Sem.run_ite, if_pos hne, hpx _ hs, hpy _ hs, Result.andThen_ok, (sEq_run (d := d) (w := w) r1 r2 hs).2]
          simpa using aggEq_run (d := d) fs hx hy h
        · rename_i hs
          cases h
          simp only [Op.eqFields, Sem.run_bind, Sem.run_ite, if_pos hne, hpx _ hs, hpy _ hs, Result.andThen_ok, (sEq_run (d := d) (w := w) r1 r2 hs).2]
          simp
        · cases h
      · cases h

theorem aAggEq_val {op : BinOp} {t : TypeId} {xs ys : List AV} {cx cy : Array Value} (hx : VRs ρ xs cx.toList) (hy : VRs ρ ys cy.toList) {v : AV} {m' : AMem} (h : aAggEq P op t xs ys m = .mk v m') :
    Val P ρ m w v m' (binOp op t (.agg cx) (.agg cy)) ∧ ∀ (o : BinOp) (x y : Operand), (eqGuard o t x y (.agg cx) (.agg cy)).run P w = .ok () w := by
  unfold aAggEq at h
  split at h
  · rename_i fs hu
    rw [bif2_eq] at h
    split at h
    · rename_i hc
      simp only [Bool.and_eq_true, Bool.not_eq_true'] at hc
      split at h
      · rename_i r hr
        have hf : P.fieldsOf t = fs := by simp [Program.fieldsOf, hu]
        have hrun : (Op.equalIn (9999 + 1) t (.agg cx) (.agg cy)).run P w = .ok r w := by
          rw [run_equalIn_struct w 9999 t cx cy (by rw [hf]; exact hu) hc.2, hf]
          exact aggEq_run (d := 9998) fs.toList hx hy hr
        exact ⟨flip_val h (t := t) (by rw [run_eql_struct, hrun]; rfl) (by rw [run_neq_struct, hrun]; rfl), fun o x y => run_eqGuard_agg w o t x y cx cy hc.1⟩
      · cases h
    · cases h
  · cases h

/-- '==' where one look at the type and the two values tells. -/
noncomputable def oneLook (d : TypeDesc) (x y : Value) : Option Bool :=
  match d, x, y with
  | .bool, .bool a, .bool b => some (a == b)
  | .interface _, .nilIface, .nilIface => some true
  | .interface _, .nilIface, .iface _ _ => some false
  | .interface _, .iface _ _, .nilIface => some false
  | _, _, _ => none

theorem one_look (n : Nat) {t : TypeId} {d : TypeDesc} {x y : Value} {r : Bool} (hu : P.underlying t = some d) (h : oneLook d x y = some r) : (Op.equalIn (n + 1) t x y).run P w = .ok r w := by
  unfold oneLook at h
  split at h <;> cases h <;> (simp only [Op.equalIn, Sem.run_bind, run_underlying hu, Result.andThen_ok]; rfl)
theorem one_equal {t : TypeId} {d : TypeDesc} {x y : Value} {r : Bool} (hu : P.underlying t = some d) (h : oneLook d x y = some r) : (Op.equal t x y).run P w = .ok r w := one_look 9999 hu h

theorem flip_one {op : BinOp} {t : TypeId} {d : TypeDesc} {r : Bool} {x y : Value} {v : AV} {m' : AMem} (h : flip op r m = .mk v m') (hu : P.underlying t = some d) (hl : oneLook d x y = some r)
    (e1 : binOp .eql t x y = (do pure (.bool (← Op.equal t x y)))) (e2 : binOp .neq t x y = (do pure (.bool (!(← Op.equal t x y))))) : Val P ρ m w v m' (binOp op t x y) :=
  flip_val h (t := t) (by rw [e1]; simp [one_equal (w := w) hu hl]) (by rw [e2]; simp [one_equal (w := w) hu hl])

theorem isConst_eq (x : Operand) : isConst x = (x matches .const _) := by cases x <;> rfl

theorem eqGuard_plain {op : BinOp} {t : TypeId} {x y : Operand} {a b : Value} (h1 : a ≠ .nilIface ∨ b ≠ .nilIface) (h2 : (∀ c, a ≠ .agg c) ∨ (∀ c, b ≠ .agg c)) : (eqGuard op t x y a b).run P w = .ok () w := by
  cases op <;> first | rfl | (cases a <;> first | rfl | (cases b <;> first | rfl | (simp at h1; done) | (simp at h2; done)))

theorem aIface_val {op : BinOp} {t : TypeId} {x y : AV} {ox oy : Operand} {vx vy : Value} (hx : VR ρ x vx) (hy : VR ρ y vy) {v : AV} {m' : AMem} (h : aIface P op t (isConst ox || isConst oy) x y m = .mk v m') :
    Val P ρ m w v m' (do eqGuard op t ox oy vx vy; binOp op t vx vy) := by
  have join : ∀ {s : Sem Value} {u : Sem Unit}, u.run P w = .ok () w → Val P ρ m w v m' s → Val P ρ m w v m' (do u; s) := by
    intro s u hu ⟨e, vc, hv, hr⟩
    exact ⟨e, vc, hv, by simp [hu, hr]⟩
  unfold aIface at h
  split at h
  · rename_i ms hu
    rw [bif2_eq] at h
    split at h
    · rename_i hl
      cases hx; cases hy
      refine join ?_ (flip_one h hu rfl rfl rfl)
      cases op <;> first | rfl | (cases ox <;> cases oy <;> first | rfl | (cases hl; done))
    · cases h
  · rename_i ms _ _ hu
    cases hx; cases hy
    exact join (eqGuard_plain (.inr (by simp)) (.inl (by simp))) (flip_one h hu rfl rfl rfl)
  · rename_i ms _ _ hu
    cases hx; cases hy
    exact join (eqGuard_plain (.inl (by simp)) (.inl (by simp))) (flip_one h hu rfl rfl rfl)
  · cases h

theorem aBin_val {op : BinOp} {t : TypeId} {x y : AV} {ox oy : Operand} {vx vy : Value} (hx : VR ρ x vx) (hy : VR ρ y vy) {v : AV} {m' : AMem} (h : aBin P op t (isConst ox || isConst oy) x y m = .mk v m') :
    Val P ρ m w v m' (do eqGuard op t ox oy vx vy; binOp op t vx vy) := by
  have join : ∀ {s : Sem Value} {u : Sem Unit}, u.run P w = .ok () w → Val P ρ m w v m' s → Val P ρ m w v m' (do u; s) := by
    intro s u hu ⟨e, vc, hv, hr⟩
    exact ⟨e, vc, hv, by simp [hu, hr]⟩
  have rest : ∀ h : aBinRest P op t (isConst ox || isConst oy) x y m = .mk v m', Val P ρ m w v m' (do eqGuard op t ox oy vx vy; binOp op t vx vy) := by
    intro h
    have nil : ∀ h : aNil P op t x y m = .mk v m', (∀ c, x ≠ .agg c) → x ≠ .nili → Val P ρ m w v m' (do eqGuard op t ox oy vx vy; binOp op t vx vy) := by
      intro h h1 h2
      refine join (eqGuard_plain (.inl ?_) (.inl ?_)) (aNil_val hx hy h)
      · intro e; subst e; cases hx with
        | nili => exact h2 rfl
        | any => unfold aNil at h; simp [nilOf] at h
      · intro c e; subst e; cases hx with
        | agg l _ _ => exact h1 l rfl
        | any => unfold aNil at h; simp [nilOf] at h
    cases x with
    | bool a =>
      obtain ⟨b, rfl, h1⟩ := onBool_inv _ h fail_ne
      clear h; have h := h1
      split at h
      · rename_i hu
        cases hx; cases hy
        exact join (eqGuard_plain (.inl (by simp)) (.inl (by simp))) (flip_one h hu rfl rfl rfl)
      · cases h
    | agg xs =>
      obtain ⟨ys, rfl, h1⟩ := onAgg_inv _ h fail_ne
      clear h; have h := h1
      cases hx with | agg _ cx hcx => cases hy with | agg _ cy hcy =>
      obtain ⟨h1, h2⟩ := aAggEq_val (w := w) hcx hcy h
      exact join (h2 _ _ _) h1
    | nili => exact aIface_val hx hy h
    | iface i u => exact aIface_val hx hy h
    | _ => exact nil h (by simp) (by simp)
  cases x with
  | int k a =>
    have h1 : y.onInt (fun k' b => iBin op k a k' b m) (.fail 23) = .mk v m' := h
    obtain ⟨k', b, rfl, h2⟩ := onInt_inv _ h1 fail_ne
    cases hx; cases hy
    exact join (eqGuard_plain (.inl (by simp)) (.inl (by simp))) (iBin_val h2)
  | str a =>
    have h1 : y.onStr (fun b => aStr op a b m) (.fail 23) = .mk v m' := h
    obtain ⟨b, rfl, h2⟩ := onStr_inv _ h1 fail_ne
    obtain ⟨s, rfl, hs⟩ := str_inv hx
    obtain ⟨s', rfl, hs'⟩ := str_inv hy
    exact join (eqGuard_plain (.inl (by simp)) (.inl (by simp))) (aStr_val hs hs' h2)
  | _ => exact rest h

end
end Go.Ev
