/- slices.Insert: the two places where its capacity is asked for, for any capacity that has room. -/
import Derived.Test.YtkobbfimabpfeaaGreatDoorEvInsP
namespace Go.Ev

section
variable {P : Program} {call : Call}

theorem opTab_move (x : Operand) (t : T AV) (m : AMem) : opTab (.move x) P call t m = .mk (evA t x) m := by
  show evK t x (fun v => OR.mk v m) = _
  rw [evK_eq]
theorem opTab_assign (x : Operand) (t : T AV) (m : AMem) : opTab (.assign x) P call t m = .mk (evA t x) m := by
  show evK t x (fun v => OR.mk v m) = _
  rw [evK_eq]
theorem opTab_bin (op : BinOp) (ty ty' : TypeId) (x y : Operand) (t : T AV) (m : AMem) : opTab (.binOp op ty x y ty') P call t m = aBin P op ty (isConst x || isConst y) (evA t x) (evA t y) m := by
  show evK t x (fun a => evK t y fun b => aBin P op ty (isConst x || isConst y) a b m) = _
  rw [evK_eq, evK_eq]
theorem opTab_cap (x : Operand) (st : TypeId) (t : T AV) (m : AMem) : opTab (.call ⟨.builtin .cap, #[x], #[st]⟩) P call t m = aCap P st (evA t x) m := by
  show evsK t [x] (fun vs => builtinA P .cap #[st] vs m) = _
  rw [evsK_eq]; rfl
theorem opTab_slice (ty : TypeId) (x hi : Operand) (t : T AV) (m : AMem) : opTab (.slice ty x none (some hi) none) P call t m = aSlice P ty (evA t x) none (some (evA t hi)) none m := by
  show evK t x (fun x => evO t none fun lo => evO t (some hi) fun hi => evO t none fun mx => aSlice P ty x lo hi mx m) = _
  rw [evK_eq, evO_eq, evO_eq, evO_eq]; rfl

theorem add_int (ty : TypeId) (lit : Bool) (a b : Nat) (m : AMem) (h : a + b < 9223372036854775808) : aBin P .add ty lit (.int .i64 (Int.ofNat a)) (.int .i64 (Int.ofNat b)) m = .mk (.int .i64 (Int.ofNat (a + b))) m := by
  show wrapK .i64 (Int.add (Int.ofNat a) (Int.ofNat b)) (fun n => OR.mk (.int .i64 n) m) = _
  rw [wrapK_eq]
  have : Int.add (Int.ofNat a) (Int.ofNat b) = Int.ofNat (a + b) := rfl
  rw [this, wrap_small .i64 (a + b) h]
theorem gtr_int (ty : TypeId) (lit : Bool) (a b : Nat) (m : AMem) (h : a ≤ b) : aBin P .gtr ty lit (.int .i64 (Int.ofNat a)) (.int .i64 (Int.ofNat b)) m = .mk (.bool false) m := by
  show iBool (iLt (Int.ofNat b) (Int.ofNat a)) m = _
  rw [iLt_eq, show decide (Int.ofNat b < Int.ofNat a) = false from by simp; omega]
  rfl

theorem evA_tmp {t : T AV} {i : Nat} {v : AV} (h : t.get i = some v) : evA t (.tmp i) = v := by
  show (t.get i).getD .undef = v
  rw [h]; rfl

/-- One operation of the code. -/
noncomputable def Is (o : Oper) (d : Nat) (op : Op) : Prop := o.dst = some d ∧ o.op = op ∧ o.guard = none

/-- Is there room? -/
theorem region8 (hcall : CallOK P call) {ops : Array Oper} {Q : Exit → Act → World → Prop} {st it bt rt : TypeId} {e : TypeId} (hst : P.underlying st = some (.slice e)) {o1 o2 o3 o4 o5 o6 : Oper} (h1 : Is o1 26 (.move (.tmp 8))) (h2 : Is o2 27 (.move (.tmp 7)))
    (h3 : Is o3 28 (.binOp .add it (.tmp 26) (.tmp 27) rt)) (h4 : Is o4 29 (.move (.tmp 0))) (h5 : Is o5 30 (.call ⟨.builtin .cap, #[.tmp 29], #[st]⟩)) (h6 : Is o6 31 (.binOp .gtr bt (.tmp 28) (.tmp 30) it))
    {nt : Nat} (hnt : 95 ≤ nt) {t : T AV} {m : AMem} {ρ : Ren} {a : Act} {w : World} (V : View ρ m w) (hT : TR ρ nt t a.tmps) {b off n c : Nat} (g0 : t.get 0 = some (.slice b off n (some c))) (g7 : t.get 7 = some (.int .i64 (Int.ofNat 1))) (g8 : t.get 8 = some (.int .i64 (Int.ofNat n)))
    (hc : n + 1 ≤ c) (hn : n ≤ 1048576)
    (hQ : ∀ ρ' a' w' t', Step ρ m w ρ' m w' → TR ρ' nt t' a'.tmps → a'.defers = a.defers → t'.get 31 = some (.bool false) → (∀ u, ¬ (26 ≤ u ∧ u ≤ 31) → t'.get u = t.get u) → Q .normal a' w') : wpList P ops Q [o1, o2, o3, o4, o5, o6] a w := by
  obtain ⟨d1, e1, q1⟩ := h1
  obtain ⟨d2, e2, q2⟩ := h2
  obtain ⟨d3, e3, q3⟩ := h3
  obtain ⟨d4, e4, q4⟩ := h4
  obtain ⟨d5, e5, q5⟩ := h5
  obtain ⟨d6, e6, q6⟩ := h6
  refine list_step hcall V hT q1 d1 (by omega) (v := .int .i64 (Int.ofNat n)) (by rw [e1, opTab_move, evA_tmp g8]) fun ρ1 a1 w1 t1 S1 T1 D1 G1 => ?_
  refine list_step hcall S1.view T1 q2 d2 (by omega) (v := .int .i64 (Int.ofNat 1)) (by rw [e2, opTab_move, evA_tmp (by rw [G1]; exact g7)]) fun ρ2 a2 w2 t2 S2 T2 D2 G2 => ?_
  refine list_step hcall S2.view T2 q3 d3 (by omega) (v := .int .i64 (Int.ofNat (n + 1))) (by
    rw [e3, opTab_bin, evA_tmp (show t2.get 26 = some (.int .i64 (Int.ofNat n)) by rw [G2, G1]; rfl), evA_tmp (show t2.get 27 = some (.int .i64 (Int.ofNat 1)) by rw [G2]; rfl), add_int _ _ _ _ _ (by omega)]) fun ρ3 a3 w3 t3 S3 T3 D3 G3 => ?_
  refine list_step hcall S3.view T3 q4 d4 (by omega) (v := .slice b off n (some c)) (by rw [e4, opTab_move, evA_tmp (show t3.get 0 = some (.slice b off n (some c)) by rw [G3, G2, G1]; exact g0)]) fun ρ4 a4 w4 t4 S4 T4 D4 G4 => ?_
  refine list_step hcall S4.view T4 q5 d5 (by omega) (v := .int .i64 (Int.ofNat c)) (by
    rw [e5, opTab_cap, evA_tmp (show t4.get 29 = some (.slice b off n (some c)) by rw [G4]; rfl)]; unfold aCap; rw [hst]) fun ρ5 a5 w5 t5 S5 T5 D5 G5 => ?_
  refine list_step hcall S5.view T5 q6 d6 (by omega) (v := .bool false) (by
    rw [e6, opTab_bin, evA_tmp (show t5.get 28 = some (.int .i64 (Int.ofNat (n + 1))) by rw [G5, G4, G3]; rfl), evA_tmp (show t5.get 30 = some (.int .i64 (Int.ofNat c)) by rw [G5]; rfl), gtr_int _ _ _ _ _ hc]) fun ρ6 a6 w6 t6 S6 T6 D6 G6 => ?_
  refine wpList_nil (hQ ρ6 a6 w6 t6 (((((S1.trans S2).trans S3).trans S4).trans S5).trans S6) T6 (by rw [D6, D5, D4, D3, D2, D1]) (by rw [G6]; rfl) fun u hu => ?_)
  rw [G6, G5, G4, G3, G2, G1, if_neg (by omega), if_neg (by omega), if_neg (by omega), if_neg (by omega), if_neg (by omega), if_neg (by omega)]

/-- The slice is made longer. -/
theorem region13 (hcall : CallOK P call) {ops : Array Oper} {Q : Exit → Act → World → Prop} {st it rt : TypeId} {e : TypeId} {ei : TypeInfo} (hst : P.underlying st = some (.slice e)) (hei : P.info? e = some ei) {o1 o2 o3 o4 o5 o6 : Oper} (h1 : Is o1 56 (.move (.tmp 0))) (h2 : Is o2 57 (.move (.tmp 8))) (h3 : Is o3 58 (.move (.tmp 7)))
    (h4 : Is o4 59 (.binOp .add it (.tmp 57) (.tmp 58) rt)) (h5 : Is o5 60 (.slice st (.tmp 56) none (some (.tmp 59)) none)) (h6 : Is o6 0 (.assign (.tmp 60)))
    {nt : Nat} (hnt : 95 ≤ nt) {t : T AV} {m : AMem} {ρ : Ren} {a : Act} {w : World} (V : View ρ m w) (hT : TR ρ nt t a.tmps) {b off n c : Nat} (g0 : t.get 0 = some (.slice b off n (some c))) (g7 : t.get 7 = some (.int .i64 (Int.ofNat 1))) (g8 : t.get 8 = some (.int .i64 (Int.ofNat n)))
    (hc : n + 1 ≤ c) (hn : n ≤ 1048576)
    (hQ : ∀ ρ' a' w' t', Step ρ m w ρ' m w' → TR ρ' nt t' a'.tmps → a'.defers = a.defers → t'.get 0 = some (.slice b off (n + 1) (some c)) → (∀ u, ¬ (56 ≤ u ∧ u ≤ 60) → u ≠ 0 → t'.get u = t.get u) → Q .normal a' w') : wpList P ops Q [o1, o2, o3, o4, o5, o6] a w := by
  obtain ⟨d1, e1, q1⟩ := h1
  obtain ⟨d2, e2, q2⟩ := h2
  obtain ⟨d3, e3, q3⟩ := h3
  obtain ⟨d4, e4, q4⟩ := h4
  obtain ⟨d5, e5, q5⟩ := h5
  obtain ⟨d6, e6, q6⟩ := h6
  refine list_step hcall V hT q1 d1 (by omega) (v := .slice b off n (some c)) (by rw [e1, opTab_move, evA_tmp g0]) fun ρ1 a1 w1 t1 S1 T1 D1 G1 => ?_
  refine list_step hcall S1.view T1 q2 d2 (by omega) (v := .int .i64 (Int.ofNat n)) (by rw [e2, opTab_move, evA_tmp (by rw [G1]; exact g8)]) fun ρ2 a2 w2 t2 S2 T2 D2 G2 => ?_
  refine list_step hcall S2.view T2 q3 d3 (by omega) (v := .int .i64 (Int.ofNat 1)) (by rw [e3, opTab_move, evA_tmp (by rw [G2, G1]; exact g7)]) fun ρ3 a3 w3 t3 S3 T3 D3 G3 => ?_
  refine list_step hcall S3.view T3 q4 d4 (by omega) (v := .int .i64 (Int.ofNat (n + 1))) (by
    rw [e4, opTab_bin, evA_tmp (show t3.get 57 = some (.int .i64 (Int.ofNat n)) by rw [G3, G2]; rfl), evA_tmp (show t3.get 58 = some (.int .i64 (Int.ofNat 1)) by rw [G3]; rfl), add_int _ _ _ _ _ (by omega)]) fun ρ4 a4 w4 t4 S4 T4 D4 G4 => ?_
  refine list_step hcall S4.view T4 q5 d5 (by omega) (v := .slice b off (n + 1) (some c)) (by
    rw [e5, opTab_slice, evA_tmp (show t4.get 56 = some (.slice b off n (some c)) by rw [G4, G3, G2, G1]; rfl), evA_tmp (show t4.get 59 = some (.int .i64 (Int.ofNat (n + 1))) by rw [G4]; rfl)]
    unfold aSlice
    rw [hst]
    dsimp only
    rw [hei]
    show bif2 (Nat.ble 0 (n + 1) && Nat.ble (n + 1) c && Nat.ble c c) (cutAt b off ei.size 0 (n + 1) c m) (.fail 68) = _
    rw [bif2_eq, if_pos (by simp; omega)]
    unfold cutAt
    rw [fNat_eq, fNat_eq, fNat_eq, bif2_eq]
    have hb : ¬ (Nat.beq c 0 = true) := fun q => by have := Nat.eq_of_beq_eq_true q; omega
    rw [if_neg hb]
    show OR.mk (.slice b (off + 0 * ei.size) (n + 1 - 0) (some (c - 0))) m = _
    simp) fun ρ5 a5 w5 t5 S5 T5 D5 G5 => ?_
  refine list_step hcall S5.view T5 q6 d6 (by omega) (v := .slice b off (n + 1) (some c)) (by rw [e6, opTab_assign, evA_tmp (show t5.get 60 = some (.slice b off (n + 1) (some c)) by rw [G5]; rfl)]) fun ρ6 a6 w6 t6 S6 T6 D6 G6 => ?_
  refine wpList_nil (hQ ρ6 a6 w6 t6 (((((S1.trans S2).trans S3).trans S4).trans S5).trans S6) T6 (by rw [D6, D5, D4, D3, D2, D1]) (by rw [G6]; rfl) fun u hu hu0 => ?_)
  rw [G6, G5, G4, G3, G2, G1, if_neg (by omega), if_neg (by omega), if_neg (by omega), if_neg (by omega), if_neg (by omega), if_neg (by omega)]

end
end Go.Ev
