/- Calls, regions in their order, code: whatever the evaluator answers the model comes to. -/
import Derived.Test.YtkobbfimabpfeaaGreatDoorEvK
import Derived.Scope
namespace Go.Ev

section
variable {P : Program}

/-- What a call comes to. -/
noncomputable def Post (ρ : Ren) (m : AMem) (w : World) (v : AV) (m' : AMem) : Ending → World → Prop := fun e w' => ∃ vc ρ', e = .returned vc ∧ Step ρ m w ρ' m' w' ∧ VR ρ' v vc

/-- What the evaluator answers of calls holds. -/
noncomputable def CallOK (P : Program) (call : Call) : Prop :=
  ∀ f args m v m', call f args m = .mk v m' → ∀ (ρ : Ren) (w : World) (cs : Array Value), View ρ m w → VRs ρ args cs.toList → Fresh ρ m.next m'.next →
    ((callFunc f cs).run P w = .ok (.enter f cs) w ∧ Calls P f cs w (Post ρ m w v m')) ∨ (∃ ρ' w' vc, (callFunc f cs).run P w = .ok (.value vc) w' ∧ Step ρ m w ρ' m' w' ∧ VR ρ' v vc)

variable {ρ : Ren} {m : AMem} {w : World}

theorem op_wp {call : Call} (hcall : CallOK P call) (V : View ρ m w) {o : Oper} {t : T AV} {a : Act} (hO : OpRel ρ t a.eval o.op.operands.toList) {v : AV} {m' : AMem} (h : opTab o.op P call t m = .mk v m') (hf : Fresh ρ m.next m'.next)
    {K : Act → World → Prop} {Q : Exit → Act → World → Prop} (hK : ∀ ρ' w' vc, Step ρ m w ρ' m' w' → VR ρ' v vc → K (a.put o.dst vc) w') : o.wp P a w K Q := by
  by_cases hc : ∃ f args ats, o.op = .call ⟨.value f, args, ats⟩
  · obtain ⟨f, args, ats, ho⟩ := hc
    obtain ⟨dst, op, type, pos, after, guard⟩ := o
    simp only at ho
    subst ho
    have h : evK t f (fun f => f.onFn (fun g caps => evsK t args.toList fun vs => call g (vs ++ caps) m) (OR.fail 120)) = .mk v m' := h
    rw [evK_eq] at h
    obtain ⟨g, caps, hg, h1⟩ := onFn_inv _ h fail_ne
    rw [evsK_eq] at h1
    have hfr := hO f (by show f ∈ ((#[f] : Array Operand) ++ args).toList; simp)
    rw [hg] at hfr
    cases hfe : a.eval f with
    | func fn first cap =>
      rw [hfe] at hfr
      cases hfr with | fn _ _ _ hcaps =>
      have hp : OpRel ρ t a.eval args.toList := fun x hx => hO x (by show x ∈ ((#[f] : Array Operand) ++ args).toList; simp; exact .inr (by simpa using hx))
      have hargs : VRs ρ (args.toList.map (evA t) ++ caps) ((args.map a.eval ++ cap).toList) := by
        have := hp.list.append hcaps
        simpa using this
      have hrun : (execOp a.eval ⟨dst, .call ⟨.value f, args, ats⟩, type, pos, after, guard⟩).run P w = (callFunc g (args.map a.eval ++ cap)).run P w := by
        simp only [execOp, resolve, hfe, Deferred.ofValue, Sem.run_bind, Sem.run_pure, Result.andThen_ok, invoke]
        simp
      unfold Oper.wp
      rw [hrun]
      rcases hcall g _ _ _ _ h1 ρ w _ V hargs hf with ⟨e1, e2⟩ | ⟨ρ', w', vc, e1, e2, e3⟩
      · rw [e1]
        exact e2.mono fun e w' ⟨vc, ρ', he, hs, hv⟩ => by subst he; exact hK ρ' w' vc hs hv
      · rw [e1]
        exact hK ρ' w' vc e2 e3
    | _ => rw [hfe] at hfr; cases hfr
  · obtain ⟨ρ', w', vc, hs, hv, hr⟩ := op_runs V hO (fun f args ats e => hc ⟨f, args, ats, e⟩) h hf
    unfold Oper.wp
    rcases hr with hr | ⟨hr, hvc⟩
    · rw [hr]; exact hK ρ' w' vc hs hv
    · rw [hr]; subst hvc; exact hK ρ' w' _ hs hv

/-! ### Guards -/

theorem wantedA_inv {ops : Array Oper} {t : T AV} {tmps : Array Value} {j : Nat} {want b : Bool} (h : wantedA ops t j want = some b)
    (hr : ∀ g d, ops[j]? = some g → g.dst = some d → VR ρ ((t.get d).getD .undef) (tmps.getD d undef)) : (yielded ops tmps j == some want) = b := by
  unfold wantedA at h
  unfold yielded
  split at h
  · rename_i hj; cases h; simp [hj]
  · rename_i g hj
    split at h
    · rename_i hd; cases h; simp [hj, hd]
    · rename_i d hd
      have hrel := hr g d hj hd
      simp only [hj, Option.bind_some, hd]
      split at h
      · rename_i v hv
        rw [hv] at hrel
        simp only [Option.getD_some] at hrel
        cases v <;> first
          | (cases h; done)
          | (cases h
             cases htm : tmps[d]? with
             | none => simp
             | some c =>
               have e : tmps.getD d undef = c := by simp [htm]
               rw [e] at hrel
               cases hrel <;> simp)
          | skip
        rename_i q
        have h : some (q == want) = some b := h
        cases h
        cases htm : tmps[d]? with
        | none =>
          have e : tmps.getD d undef = undef := by simp [htm]
          rw [e] at hrel; cases hrel
        | some c =>
          have e : tmps.getD d undef = c := by simp [htm]
          rw [e] at hrel
          cases hrel
          simp
      · rename_i hv
        rw [hv] at hrel
        cases h
        cases htm : tmps[d]? with
        | none => simp
        | some c =>
          have e : tmps.getD d undef = c := by simp [htm]
          rw [e] at hrel
          cases hrel
          simp

/-! ### Regions in their order -/

theorem goOp_inv {call : Call} {nt : Nat} {dst : Option Tmp} {op : Op} {t : T AV} {k : T AV → AMem → Res} {x : X} {t' : T AV} {m' : AMem} (h : goOp P call nt dst op t m k = .mk x t' m') :
    ∃ v m1 t1, opTab op P call t m = .mk v m1 ∧ m.next ≤ m1.next ∧ k t1 m1 = .mk x t' m' ∧ ∀ {ρ : Ren} {a : Act} {vc : Value}, TR ρ nt t a.tmps → VR ρ v vc → TR ρ nt t1 (a.put dst vc).tmps := by
  unfold goOp at h
  cases ho : opTab op P call t m with
  | fail c => rw [ho] at h; cases h
  | mk v m1 =>
    rw [ho] at h
    have h : bif2 (Nat.ble m.next m1.next) (dstK nt dst v t fun t => k t m1) (.fail 124) = .mk x t' m' := h
    rw [bif2_eq] at h
    split at h
    · rename_i hle
      obtain ⟨t1, h1, h2⟩ := dstK_inv h
      exact ⟨v, m1, t1, rfl, by simpa [Nat.ble_eq] using hle, h1, h2⟩
    · cases h

/-- One operation of a region: it is carried out, or it is not wanted. -/
theorem regOp_inv {call : Call} {nt : Nat} {all : Array Oper} {o : Oper} {t : T AV} {k : T AV → AMem → Res} {x : X} {t' : T AV} {m' : AMem} (h : regOp P call nt all o t m k = .mk x t' m') :
    ∃ b v m1 t1, (match o.guard with | none => some true | some g => wantedA all t g.1 g.2) = some b ∧ (b = true → opTab o.op P call t m = .mk v m1) ∧ (b = false → v = .undef ∧ m1 = m) ∧ m.next ≤ m1.next ∧ k t1 m1 = .mk x t' m' ∧
      ∀ {ρ : Ren} {a : Act} {vc : Value}, TR ρ nt t a.tmps → VR ρ v vc → TR ρ nt t1 (a.put o.dst vc).tmps := by
  obtain ⟨dst, op, ty, pos, after, guard⟩ := o
  cases guard with
  | none =>
    obtain ⟨v, m1, t1, h1, h2, h3, h4⟩ := goOp_inv h
    exact ⟨true, v, m1, t1, rfl, fun _ => h1, fun e => (by cases e), h2, h3, h4⟩
  | some g =>
    have h : @Option.rec Bool (fun _ => Res) (.fail 123) (fun w => bif2 w (goOp P call nt dst op t m k) (dstK nt dst .undef t fun t => k t m)) (wantedA all t g.1 g.2) = .mk x t' m' := h
    cases hw : wantedA all t g.1 g.2 with
    | none => rw [hw] at h; cases h
    | some b =>
      rw [hw] at h
      cases b with
      | true =>
        obtain ⟨v, m1, t1, h1, h2, h3, h4⟩ := goOp_inv (show goOp P call nt dst op t m k = .mk x t' m' from h)
        exact ⟨true, v, m1, t1, hw, fun _ => h1, fun e => (by cases e), h2, h3, h4⟩
      | false =>
        obtain ⟨t1, h1, h2⟩ := dstK_inv (show (dstK nt dst .undef t fun t => k t m) = .mk x t' m' from h)
        exact ⟨false, .undef, m, t1, hw, fun e => (by cases e), fun _ => ⟨rfl, rfl⟩, Nat.le_refl _, h1, h2⟩

theorem opsA_next {call : Call} {nt : Nat} {all : Array Oper} : ∀ {l : List Oper} {t : T AV} {m : AMem} {x : X} {t' : T AV} {m' : AMem}, opsA P call nt all l t m = .mk x t' m' → m.next ≤ m'.next
  | [], t, m, x, t', m', h => by cases h; exact Nat.le_refl _
  | o :: l, t, m, x, t', m', h => by
    obtain ⟨b, v, m1, t1, _, _, _, h1, h2, _⟩ := regOp_inv (show regOp P call nt all o t m (opsA P call nt all l) = .mk x t' m' from h)
    exact Nat.le_trans h1 (opsA_next h2)

theorem wanted_eq {all : Array Oper} {t : T AV} {tmps : Array Value} {o : Oper} {b : Bool} (h : (match o.guard with | none => some true | some g => wantedA all t g.1 g.2) = some b)
    (hr : ∀ j want g d, o.guard = some (j, want) → all[j]? = some g → g.dst = some d → VR ρ ((t.get d).getD .undef) (tmps.getD d undef)) : Region.wanted o (yielded all tmps) = b := by
  unfold Region.wanted
  cases hg : o.guard with
  | none => rw [hg] at h; cases h; rfl
  | some g =>
    obtain ⟨j, want⟩ := g
    rw [hg] at h
    exact wantedA_inv h fun g d h1 h2 => hr j want g d hg h1 h2

theorem opsA_wp {call : Call} (hcall : CallOK P call) {nt : Nat} {all : Array Oper} {Q : Exit → Act → World → Prop} : ∀ (l : List Oper) (i : Nat) (_ : ∀ j, l[j]? = all[i + j]?) {t : T AV} {m : AMem} {w : World} {ρ : Ren} {a : Act} {x : X} {t' : T AV} {m' : AMem}
    (_ : opsA P call nt all l t m = .mk x t' m') (_ : View ρ m w) (_ : TR ρ nt t a.tmps) (_ : Fresh ρ m.next m'.next)
    (_ : ∀ ρ' a' w', Step ρ m w ρ' m' w' → TR ρ' nt t' a'.tmps → a'.defers = a.defers → Q .normal a' w'), x = .norm ∧ wpOps P all Q (List.range' i l.length) a w
  | [], i, hl, t, m, w, ρ, a, x, t', m', h, V, hT, hf, hQ => by
    cases h
    exact ⟨rfl, hQ ρ a w V.refl hT rfl⟩
  | o :: l, i, hl, t, m, w, ρ, a, x, t', m', h, V, hT, hf, hQ => by
    obtain ⟨b, v, m1, t1, hw, hyes, hno, hle, hk, hput⟩ := regOp_inv (show regOp P call nt all o t m (opsA P call nt all l) = .mk x t' m' from h)
    have hle2 := opsA_next hk
    have ho : all[i]? = some o := by simpa using (hl 0).symm
    have hl' : ∀ j, l[j]? = all[i + 1 + j]? := fun j => by have := hl (j + 1); simpa [Nat.add_assoc, Nat.add_comm 1 j] using this
    have hwant := wanted_eq (tmps := a.tmps) hw fun _ _ _ d _ _ _ => hT.rel d
    have rest : ∀ ρ1 w1 vc, Step ρ m w ρ1 m1 w1 → VR ρ1 v vc → x = .norm ∧ wpOps P all Q (List.range' (i + 1) l.length) (a.put o.dst vc) w1 := fun ρ1 w1 vc hs hv => by
      have hsub := hs.sub (hf.le hle2)
      exact opsA_wp hcall l (i + 1) hl' hk hs.view (hput (hT.mono hsub) hv) (hs.fresh hf) fun ρ' a' w' hs' hT' hd => hQ ρ' a' w' (hs.trans hs') hT' (hd.trans (by cases o.dst <;> rfl))
    have hx : x = .norm := by
      clear hQ rest hput
      exact opsA_norm h
    refine ⟨hx, ?_⟩
    rw [List.length_cons, List.range'_succ]
    simp only [wpOps, ho]
    rw [hwant]
    cases b with
    | true =>
      rw [if_pos rfl]
      exact .inl (op_wp hcall V (fun y _ => hT.ev y) (hyes rfl) (hf.le hle2) fun ρ1 w1 vc hs hv => (rest ρ1 w1 vc hs hv).2)
    | false =>
      rw [if_neg (by decide)]
      obtain ⟨rfl, rfl⟩ := hno rfl
      exact (rest ρ w undef V.refl (VR.undef _)).2
where
  opsA_norm {call : Call} {nt : Nat} {all : Array Oper} : ∀ {l : List Oper} {t : T AV} {m : AMem} {x : X} {t' : T AV} {m' : AMem}, opsA P call nt all l t m = .mk x t' m' → x = .norm
  | [], t, m, x, t', m', h => by cases h; rfl
  | o :: l, t, m, x, t', m', h => by
    obtain ⟨b, v, m1, t1, _, _, _, h1, h2, _⟩ := regOp_inv (show regOp P call nt all o t m (opsA P call nt all l) = .mk x t' m' from h)
    exact opsA_norm h2

end
end Go.Ev
