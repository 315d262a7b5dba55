/- One operation, whatever it is, a call too. -/
import Derived.Test.YtkobbfimabpfeaaGreatDoorEvMp
namespace Go.Ev

section
variable {P : Program} {ρ : Ren} {m : AMem} {w : World}

/-- Is an operand a constant? (as the model asks it of a builtin's) -/
noncomputable def cOf : Operand → Bool := fun | .const _ => true | _ => false

/-- The operands of an operation are as the evaluator has them. -/
noncomputable def OpRel (ρ : Ren) (t : T AV) (ev : Operand → Value) (l : List Operand) : Prop := ∀ x, x ∈ l → VR ρ (evA t x) (ev x)

theorem OpRel.mono {ρ ρ' : Ren} {t : T AV} {ev : Operand → Value} {l : List Operand} (h : OpRel ρ t ev l) (hs : Sub ρ ρ') : OpRel ρ' t ev l := fun x hx => (h x hx).mono hs

theorem OpRel.list {t : T AV} {ev : Operand → Value} : ∀ {l : List Operand}, OpRel ρ t ev l → VRs ρ (l.map (evA t)) (l.map ev)
  | [], _ => .nil
  | x :: l, h => .cons _ _ _ _ (h x (by simp)) (OpRel.list fun y hy => h y (List.mem_cons_of_mem _ hy))

theorem OpRel.parts {t : T AV} {ev : Operand → Value} : ∀ {l : List (Nat × Operand)}, OpRel ρ t ev (l.map (·.2)) → VPs ρ (l.map fun p => (p.1, evA t p.2)) (l.map fun p => (p.1, ev p.2))
  | [], _ => .nil
  | p :: l, h => .cons _ _ _ _ _ (h _ (by simp)) (OpRel.parts fun y hy => h y (by simp at hy ⊢; exact .inr hy))

theorem parts_array (ev : Operand → Value) (ps : Array (Nat × Operand)) : (ps.toList.map fun p => (p.1, ev p.2)).toArray = ps.map fun (i, x) => (i, ev x) := by
  apply Array.ext'; simp

theorem OpRel.opt {t : T AV} {ev : Operand → Value} {x : Option Operand} (h : OpRel ρ t ev x.toList) : VO ρ (x.map (evA t)) (x.map ev) := by
  cases x with
  | none => trivial
  | some x => exact h x (by simp)

theorem val_runs (V : View ρ m w) {v u : AV} {m' : AMem} {uc : Value} {s : Sem Next} (h : OR.mk u m = .mk v m') (hu : VR ρ u uc) (hs : s.run P w = .ok (.value uc) w) : Runs P ρ m w v m' s := by
  cases h; exact ⟨ρ, w, uc, V.refl, hu, .inl hs⟩

/-- An operation that is no call of a Go function. -/
theorem op_runs (V : View ρ m w) {call : Call} {o : Oper} {t : T AV} {ev : Operand → Value} (hO : OpRel ρ t ev o.op.operands.toList) (hc : ∀ f args ats, o.op ≠ .call ⟨.value f, args, ats⟩) {v : AV} {m' : AMem}
    (h : opTab o.op P call t m = .mk v m') (hf : Fresh ρ m.next m'.next) : Runs P ρ m w v m' (execOp ev o) := by
  obtain ⟨dst, op, type, pos, after, guard⟩ := o
  simp only at hO hc h
  cases op with
  | move x =>
    have h : evK t x (fun v => OR.mk v m) = .mk v m' := h
    rw [evK_eq] at h
    exact val_runs V h (hO x (by simp [Op.operands])) rfl
  | assign x =>
    have h : evK t x (fun v => OR.mk v m) = .mk v m' := h
    rw [evK_eq] at h
    exact val_runs V h (hO x (by simp [Op.operands])) rfl
  | pick c a b =>
    have h : evK t c (fun v => v.onBool (fun v => bif2 v (evK t a fun v => OR.mk v m) (evK t b fun v => OR.mk v m)) (OR.fail 111)) = .mk v m' := h
    rw [evK_eq] at h
    obtain ⟨q, hq, h1⟩ := onBool_inv _ h fail_ne
    have hcr := hO c (by simp [Op.operands])
    rw [hq] at hcr
    cases hce : ev c with
    | bool q' =>
      rw [hce] at hcr
      cases hcr
      cases q
      · have h1 : evK t b (fun v => OR.mk v m) = .mk v m' := h1
        rw [evK_eq] at h1
        exact val_runs V h1 (hO b (by simp [Op.operands])) (by simp [execOp, hce, asBool])
      · have h1 : evK t a (fun v => OR.mk v m) = .mk v m' := h1
        rw [evK_eq] at h1
        exact val_runs V h1 (hO a (by simp [Op.operands])) (by simp [execOp, hce, asBool])
    | _ => rw [hce] at hcr; cases hcr
  | alloc e => exact aAlloc_run V h hf
  | box e x =>
    have h : evK t x (fun v => bif2 (v.onAgg (fun _ => true) v.plain) (newBlk false 1 v.cells m fun b m => OR.mk (.ptr b 0) m) (OR.fail 112)) = .mk v m' := h
    rw [evK_eq] at h
    exact box_run V (hO x (by simp [Op.operands])) h hf
  | build ty ps =>
    have h : evPs t ps.toList (fun l => aBuild P ty l m) = .mk v m' := h
    rw [evPs_eq] at h
    have hp : OpRel ρ t ev (ps.toList.map (·.2)) := fun x hx => hO x (by simpa [Op.operands] using hx)
    have := (aBuild_run (P := P) V hp.parts h).runs V
    rw [parts_array] at this
    exact this
  | buildSlice ty n ps =>
    have h : evPs t ps.toList (fun l => aBuildSlice P ty n l m) = .mk v m' := h
    rw [evPs_eq] at h
    have hp : OpRel ρ t ev (ps.toList.map (·.2)) := fun x hx => hO x (by simpa [Op.operands] using hx)
    have := aBuildSlice_run (P := P) V hp.parts h hf
    rw [parts_array] at this
    exact this
  | load ty a =>
    have h : evK t a (fun a => aLoad P ty a m) = .mk v m' := h
    rw [evK_eq] at h
    exact Val.runs V (aLoad_run V (hO a (by simp [Op.operands])) h)
  | store ty a x =>
    have h : evK t a (fun a => evK t x fun v => aStore P ty a v m) = .mk v m' := h
    rw [evK_eq, evK_eq] at h
    exact aStore_run V (hO a (by simp [Op.operands])) (hO x (by simp [Op.operands])) h
  | nilCheck x =>
    have h : evK t x (fun v => v.onPtr (fun b o => OR.mk (.ptr b o) m) (v.onFn (fun f c => OR.mk (.fn f c) m) (OR.fail 113))) = .mk v m' := h
    rw [evK_eq] at h
    have hx := hO x (by simp [Op.operands])
    generalize evA t x = a at *
    cases a with
    | ptr b off =>
      cases hxe : ev x <;> rw [hxe] at hx <;> cases hx
      exact val_runs V h (.ptr b off _ ‹_›) (by simp [execOp, hxe])
    | fn f caps =>
      cases hxe : ev x <;> rw [hxe] at hx <;> cases hx
      exact val_runs V h (.fn f caps _ ‹_›) (by simp [execOp, hxe])
    | _ => cases h
  | binOp op ty x y yt =>
    have h : evK t x (fun a => evK t y fun b => aBin P op ty (isConst x || isConst y) a b m) = .mk v m' := h
    rw [evK_eq, evK_eq] at h
    exact Val.runs V (aBin_val (hO x (by simp [Op.operands])) (hO y (by simp [Op.operands])) h)
  | unOp op ty x =>
    have h : evK t x (fun v => aUn op v m) = .mk v m' := h
    rw [evK_eq] at h
    exact Val.runs V (aUn_val (hO x (by simp [Op.operands])) h)
  | convert s d x =>
    have h : evK t x (fun v => aConvert P s d v m) = .mk v m' := h
    rw [evK_eq] at h
    exact (aConvert_run V (hO x (by simp [Op.operands])) h hf).runs
  | makeInterface ty x =>
    have h : evK t x (fun v => bif2 (O.ifaceOk P ty) (OR.mk (.iface ty v) m) (OR.fail 114)) = .mk v m' := h
    rw [evK_eq, bif2_eq] at h
    split at h
    · rename_i hok
      refine val_runs V h (.iface ty _ _ (hO x (by simp [Op.operands]))) ?_
      unfold O.ifaceOk at hok
      split at hok
      · cases hok
      · rename_i d hne hu
        have : (Instr.makeInterface ty (ev x)).run P w = .ok (.iface ty (ev x)) w := by
          simp only [Instr.makeInterface, Sem.run_bind, run_underlying hu, Result.andThen_ok]
          cases d <;> first | rfl | (exfalso; exact hne _ hu)
        simp [execOp, this]
      · cases hok
    · cases h
  | makeFunc fn first caps =>
    have h1 : (match fn, first.toList with
      | .func f, [] => evsK t caps.toList fun l => OR.mk (.fn f l) m
      | _, _ => OR.fail 115) = .mk v m' := h
    clear h
    split at h1
    · rename_i f hfirst
      have h := h1
      rw [evsK_eq] at h
      have hfirst : first = #[] := by simpa using hfirst
      subst hfirst
      have hp : OpRel ρ t ev caps.toList := fun x hx => hO x (by simpa [Op.operands] using hx)
      exact val_runs V h (.fn f _ (caps.map ev) (by simpa using hp.list)) (by simp [execOp, Instr.makeFunc])
    · cases h1
  | makeSlice ty l c =>
    have h : evK t l (fun l => evK t c fun c => aMakeSlice P ty l c m) = .mk v m' := h
    rw [evK_eq, evK_eq] at h
    exact aMakeSlice_run V (hO l (by simp [Op.operands])) (hO c (by simp [Op.operands])) h hf
  | slice ty x lo hi mx =>
    have h : evK t x (fun x => evO t lo fun lo => evO t hi fun hi => evO t mx fun mx => aSlice P ty x lo hi mx m) = .mk v m' := h
    rw [evK_eq, evO_eq, evO_eq, evO_eq] at h
    exact Val.runs V (aSlice_val V (hO x (by simp [Op.operands])) (OpRel.opt fun y hy => hO y (by simp [Op.operands] at hy ⊢; exact .inr (.inl hy))) (OpRel.opt fun y hy => hO y (by simp [Op.operands] at hy ⊢; exact .inr (.inr (.inl hy))))
      (OpRel.opt fun y hy => hO y (by simp [Op.operands] at hy ⊢; exact .inr (.inr (.inr hy)))) h)
  | fieldAddr s x f =>
    have h : evK t x (fun x => aFieldAddr P s x f m) = .mk v m' := h
    rw [evK_eq] at h
    exact Val.runs V (aFieldAddr_val (hO x (by simp [Op.operands])) h)
  | field s x f =>
    have h : evK t x (fun x => aField P s x f m) = .mk v m' := h
    rw [evK_eq] at h
    exact Val.runs V (aField_val (hO x (by simp [Op.operands])) h)
  | indexAddr ty x i =>
    have h : evK t x (fun x => evK t i fun i => aIndexAddr P ty x i m) = .mk v m' := h
    rw [evK_eq, evK_eq] at h
    exact Val.runs V (aIndexAddr_val (hO x (by simp [Op.operands])) (hO i (by simp [Op.operands])) h)
  | index ty x i =>
    have h : evK t x (fun x => evK t i fun i => aIndex P ty x i m) = .mk v m' := h
    rw [evK_eq, evK_eq] at h
    exact Val.runs V (aIndex_val (hO x (by simp [Op.operands])) (hO i (by simp [Op.operands])) h)
  | extract x i =>
    have h : evK t x (fun x => x.onTup (fun l => @Option.rec AV (fun _ => OR) (OR.fail 116) (fun v => OR.mk v m) l[i]?) (OR.fail 117)) = .mk v m' := h
    rw [evK_eq] at h
    obtain ⟨l, hl, h1⟩ := onTup_inv _ h fail_ne
    have hx := hO x (by simp [Op.operands])
    rw [hl] at hx
    cases hxe : ev x with
    | tuple cs =>
      rw [hxe] at hx
      cases hx with | tup _ _ hcs =>
      cases hli : l[i]? with
      | none => rw [hli] at h1; cases h1
      | some u =>
        rw [hli] at h1
        obtain ⟨c, hc, hr⟩ := hcs.get _ hli
        have hc : cs[i]? = some c := by rw [← hc]; simp
        exact val_runs V h1 hr (by simp [execOp, hxe, Instr.extract, hc])
    | _ => rw [hxe] at hx; cases hx
  | call c =>
    obtain ⟨callee, args, ats⟩ := c
    cases callee with
    | value f => exact absurd rfl (hc f args ats)
    | invoke r n => cases h
    | builtin b =>
      have h : evsK t args.toList (fun vs => builtinA P b ats vs m) = .mk v m' := h
      rw [evsK_eq] at h
      have hp : OpRel ρ t ev args.toList := fun x hx => hO x (by show x ∈ ((#[] : Array Operand) ++ args).toList; simpa using hx)
      have := builtinA_run V hp.list type (args.map cOf) h hf
      have e : (args.toList.map ev).toArray = args.map ev := by apply Array.ext'; simp
      rw [e] at this
      obtain ⟨ρ', w', vc, h1, h2, h3⟩ := this
      refine ⟨ρ', w', vc, h1, h2, ?_⟩
      have hr : (execOp ev ⟨dst, .call ⟨.builtin b, args, ats⟩, type, pos, after, guard⟩).run P w = (builtin b ats type (args.map cOf) (args.map ev)).run P w := by
        simp only [execOp, resolve, Sem.run_bind, Sem.run_pure, Result.andThen_ok, invoke]
        rfl
      rw [hr]; exact h3
  | insert ty x k u =>
    have h : evK t x (fun x => evK t k fun k => evK t u fun u => aMapUpdate P ty x k u m) = .mk v m' := h
    rw [evK_eq, evK_eq, evK_eq] at h
    exact aMapUpdate_run V (hO x (by simp [Op.operands])) (hO k (by simp [Op.operands])) (hO u (by simp [Op.operands])) h
  | mapUpdate ty x k u =>
    have h : evK t x (fun x => evK t k fun k => evK t u fun u => aMapUpdate P ty x k u m) = .mk v m' := h
    rw [evK_eq, evK_eq, evK_eq] at h
    exact aMapUpdate_run V (hO x (by simp [Op.operands])) (hO k (by simp [Op.operands])) (hO u (by simp [Op.operands])) h
  | lookup ty x k ok =>
    have h : evK t x (fun x => evK t k fun k => aLookup P ty x k ok m) = .mk v m' := h
    rw [evK_eq, evK_eq] at h
    exact Val.runs V (aLookup_val V (hO x (by simp [Op.operands])) (hO k (by simp [Op.operands])) h)
  | mapEntry ty x k =>
    have h : evK t x (fun x => evK t k fun k => aMapEntry P ty x k m) = .mk v m' := h
    rw [evK_eq, evK_eq] at h
    exact aMapEntry_run V (hO x (by simp [Op.operands])) (hO k (by simp [Op.operands])) h
  | entryStore ty x k u =>
    have h : evK t x (fun x => evK t k fun k => evK t u fun u => aEntryStore x k u m) = .mk v m' := h
    rw [evK_eq, evK_eq, evK_eq] at h
    exact aEntryStore_run V (hO x (by simp [Op.operands])) (hO k (by simp [Op.operands])) (hO u (by simp [Op.operands])) h
  | makeMap ty r =>
    have h : evO t r (fun r => aMakeMap r m) = .mk v m' := h
    rw [evO_eq] at h
    exact aMakeMap_run V (OpRel.opt fun y hy => hO y (by simpa [Op.operands] using hy)) h hf
  | _ => cases h

end
end Go.Ev
