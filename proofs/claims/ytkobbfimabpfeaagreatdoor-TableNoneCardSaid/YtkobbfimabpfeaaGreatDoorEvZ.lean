/- Code and calls: whatever the evaluator answers the model comes to. -/
import Derived.Test.YtkobbfimabpfeaaGreatDoorEvY
import Derived.LoopN
import Derived.Scope
namespace Go.Ev

section
variable {P : Program} {S : Sums}

theorem drawn_next {call : Call} {nt : Nat} {all : Array Oper} {t : T AV} {m : AMem} {x : X} {t' : T AV} {m' : AMem} (h : drawnA P call nt all t m = .mk x t' m') : m.next ≤ m'.next := by
  unfold drawnA at h
  cases hms : masks all with
  | none => rw [hms] at h; cases h
  | some ms =>
    rw [hms] at h
    obtain ⟨hx, R, e1, e2, e3, e4, e5, e6, e7⟩ := opsD_trace (show opsD P call nt all all.toList ms 0 t m ⟨0, 0, 0, m, [], []⟩ = .mk x t' m' from h)
    have hlen : all.toList.length = all.size := by simp
    rw [hlen] at e4 e5 e6
    have F : Facts P call nt all R _ := facts_of hms e6 (by rw [e3, e2]) fun i o ho => e7 i o (by simpa using ho)
    rw [← e2, ← e5]; exact F.mono (Nat.zero_le _) (Nat.le_refl _)

theorem thenK_inv {r : Res} {k : T AV → AMem → Res} {x : X} {t' : T AV} {m' : AMem} (h : C.thenK r k = .mk x t' m') :
    (∃ t1 m1, r = .mk .norm t1 m1 ∧ k t1 m1 = .mk x t' m') ∨ (r = .mk x t' m' ∧ x ≠ .norm) := by
  cases r with
  | fail c => cases h
  | mk y t1 m1 =>
    cases y with
    | norm => exact .inl ⟨t1, m1, rfl, h⟩
    | exit i => cases h; exact .inr ⟨rfl, fun e => by cases e⟩
    | ret => cases h; exact .inr ⟨rfl, fun e => by cases e⟩

theorem exec_succ (n nt : Nat) (c : Code) (t : T AV) (m : AMem) : exec P S (n + 1) nt c t m = codeTab c P S (exec P S n) nt t m := rfl

theorem exec_next : ∀ (n nt : Nat) (c : Code) {t : T AV} {m : AMem} {x : X} {t' : T AV} {m' : AMem}, exec P S n nt c t m = .mk x t' m' → m.next ≤ m'.next
  | 0, nt, c, t, m, x, t', m', h => by cases h
  | n + 1, nt, c, t, m, x, t', m', h => by
    rw [exec_succ] at h
    have two : ∀ {k : T AV → AMem → Res} {r : Res}, (∀ y t1 m1, r = .mk y t1 m1 → m.next ≤ m1.next) → (∀ t1 m1, k t1 m1 = .mk x t' m' → m1.next ≤ m'.next) → C.thenK r k = .mk x t' m' → m.next ≤ m'.next := fun {k r} h1 h2 h => by
      rcases thenK_inv h with ⟨t1, m1, e1, e2⟩ | ⟨e, _⟩
      · exact Nat.le_trans (h1 _ _ _ e1) (h2 _ _ e2)
      · exact h1 _ _ _ e
    cases c with
    | skip => cases h; exact Nat.le_refl _
    | region id ops drawn =>
      cases drawn with
      | true => exact drawn_next (show drawnA P (callF P S (exec P S n)) nt ops t m = .mk x t' m' from h)
      | false => exact opsA_next (show opsA P (callF P S (exec P S n)) nt ops ops.toList t m = .mk x t' m' from h)
    | seq a b => exact two (fun y t1 m1 e => exec_next n nt a e) (fun t1 m1 e => exec_next n nt b e) h
    | cond v a b =>
      have h : evK t v (fun v => v.onBool (fun v => bif2 v (exec P S n nt a t m) (exec P S n nt b t m)) (.fail 1010)) = .mk x t' m' := h
      rw [evK_eq] at h
      obtain ⟨q, _, h⟩ := onBool_inv _ h (fun e => by cases e)
      rw [bif2_eq] at h
      split at h
      · exact exec_next n nt a h
      · exact exec_next n nt b h
    | block id b =>
      have h : @Res.rec (fun _ => Res) Res.fail (fun x t m => @X.rec (fun _ => Res) (.mk .norm t m) (fun i => bif2 (Nat.beq i id) (.mk .norm t m) (.mk (.exit i) t m)) (.mk .ret t m) x) (exec P S n nt b t m) = .mk x t' m' := h
      cases hr : exec P S n nt b t m with
      | fail c => rw [hr] at h; cases h
      | mk y t1 m1 =>
        rw [hr] at h
        have := exec_next n nt b hr
        cases y with
        | norm => cases h; exact this
        | ret => cases h; exact this
        | exit i =>
          have h : bif2 (Nat.beq i id) (Res.mk .norm t1 m1) (.mk (.exit i) t1 m1) = .mk x t' m' := h
          rw [bif2_eq] at h
          split at h <;> (cases h; exact this)
    | loop b => exact two (fun y t1 m1 e => exec_next n nt b e) (fun t1 m1 e => exec_next n nt (.loop b) e) h
    | exit id => cases h; exact Nat.le_refl _
    | scope b => exact exec_next n nt b h
    | label l => cases h; exact Nat.le_refl _
    | ret => cases h; exact Nat.le_refl _
    | _ => cases h

/-! ### Calls -/

/-- One result. -/
noncomputable def resV (tmps : Array Value) : ResultVar → Sem Value
  | .tmp t => pure (tmps.getD t undef)
  | .cell a t => do loadVar t (← asAddr (tmps.getD a undef))

theorem resultsA_inv {t : T AV} {m : AMem} {ρ : Ren} {w : World} (V : View ρ m w) {nt : Nat} {tmps : Array Value} (hT : TR ρ nt t tmps) {v : AV} {m' : AMem} : ∀ {rs : List ResultVar} {k : List AV → OR}, resultsA P rs t m k = .mk v m' →
    ∃ l cs, k l = .mk v m' ∧ VRs ρ l cs ∧ (rs.mapM (resV tmps)).run P w = .ok cs w
  | [], k, h => ⟨[], [], h, .nil, by simp⟩
  | .tmp i :: l, k, h => by
    have h : evK t (.tmp i) (fun v => resultsA P l t m fun vs => k (v :: vs)) = .mk v m' := h
    rw [evK_eq] at h
    obtain ⟨l1, cs, h1, h2, h3⟩ := resultsA_inv V hT h
    refine ⟨_ :: l1, tmps.getD i undef :: cs, h1, .cons _ _ _ _ (hT.rel i) h2, ?_⟩
    rw [List.mapM_cons, Sem.run_bind, show (resV tmps (.tmp i)).run P w = .ok (tmps.getD i undef) w from rfl]
    simp only [Sem.run_bind, Result.andThen_ok]
    rw [h3]; simp
  | .cell a ty :: l, k, h => by
    have h : evK t (.tmp a) (fun a => match aLoad P ty a m with
      | .mk v _ => resultsA P l t m fun vs => k (v :: vs)
      | .fail c => .fail c) = .mk v m' := h
    rw [evK_eq] at h
    cases hl : aLoad P ty (evA t (.tmp a)) m with
    | fail c => rw [hl] at h; cases h
    | mk u m1 =>
      rw [hl] at h
      obtain ⟨l1, cs, h1, h2, h3⟩ := resultsA_inv V hT (show (resultsA P l t m fun vs => k (u :: vs)) = .mk v m' from h)
      have ha : VR ρ (evA t (.tmp a)) (tmps.getD a undef) := hT.rel a
      obtain ⟨e1, vc, e2, e3⟩ := aLoad_run (P := P) V ha hl
      obtain ⟨b, off, e4, _⟩ := onPtr_inv _ hl fail_ne
      rw [e4] at ha
      refine ⟨u :: l1, vc :: cs, h1, .cons _ _ _ _ e2 h2, ?_⟩
      have hr : (resV tmps (.cell a ty)).run P w = .ok vc w := by
        show (do loadVar ty (← asAddr (tmps.getD a undef)) : Sem Value).run P w = _
        generalize tmps.getD a undef = va at *
        cases ha with
        | ptr _ _ L hL => simpa [Instr.loadAt, Instr.sureAddr, asAddr] using e3
      rw [List.mapM_cons, Sem.run_bind, hr]
      simp only [Sem.run_bind, Result.andThen_ok]
      rw [h3]; simp

theorem results_run {fn : Func} {t : T AV} {m : AMem} {ρ : Ren} {w : World} (V : View ρ m w) {nt : Nat} {tmps : Array Value} (hT : TR ρ nt t tmps) {v : AV} {m' : AMem} (h : resultsA P fn.results.toList t m (fun l => one l m) = .mk v m') :
    m' = m ∧ ∃ vc, VR ρ v vc ∧ (results fn tmps).run P w = .ok vc w := by
  obtain ⟨l, cs, h1, h2, h3⟩ := resultsA_inv (P := P) V hT h
  have hr : (results fn tmps).run P w = .ok (if h : cs.toArray.size = 1 then cs.toArray[0] else .tuple cs.toArray) w := by
    show (do let vs ← fn.results.mapM (resV tmps); pure (if h : vs.size = 1 then vs[0] else .tuple vs) : Sem Value).run P w = _
    rw [Array.mapM_eq_mapM_toList, map_eq_pure_bind]
    simp only [Sem.run_bind]
    rw [h3]
    simp
  unfold one at h1
  split at h1
  · rename_i u
    cases h1
    obtain ⟨x, rfl, hx⟩ := VRs.one' h2
    exact ⟨rfl, x, hx, hr⟩
  · rename_i hl
    cases h1
    refine ⟨rfl, .tuple cs.toArray, .tup _ _ (by simpa using h2), ?_⟩
    rw [hr]
    have : cs.toArray.size ≠ 1 := by
      intro e
      have e : cs.length = 1 := by simpa using e
      rw [← h2.length] at e
      obtain ⟨u, rfl⟩ := List.length_eq_one_iff.1 e
      exact hl u rfl
    rw [dif_neg this]

/-- The summaries hold. -/
noncomputable def SumsOK (P : Program) (S : Sums) : Prop := ∀ f s, S f = some s → ∀ args m v m', s args m = .mk v m' → ∀ (ρ : Ren) (w : World) (cs : Array Value), View ρ m w → VRs ρ args cs.toList → Fresh ρ m.next m'.next →
  ((callFunc f cs).run P w = .ok (.enter f cs) w ∧ Calls P f cs w (Post ρ m w v m')) ∨ (∃ ρ' w' vc, (callFunc f cs).run P w = .ok (.value vc) w' ∧ Step ρ m w ρ' m' w' ∧ VR ρ' v vc)

noncomputable def xOf : X → Exit
  | .norm => .normal
  | .exit i => .exit i
  | .ret => .ret

/-- What a run of the evaluator says of code. -/
noncomputable def CodeOK (P : Program) (S : Sums) (n : Nat) : Prop := ∀ (nt : Nat) (c : Code) (t : T AV) (m : AMem) (x : X) (t' : T AV) (m' : AMem), exec P S n nt c t m = .mk x t' m' → ∀ (ρ : Ren) (a : Act) (w : World), View ρ m w → TR ρ nt t a.tmps → Fresh ρ m.next m'.next →
  ∀ Q : Exit → Act → World → Prop, (∀ ρ' a' w', Step ρ m w ρ' m' w' → TR ρ' nt t' a'.tmps → a'.defers = a.defers → Q (xOf x) a' w') → c.wp P Q a w

theorem codeOf_inv {f : FuncId} {fn : Func} {c : Code} (h : codeOf P f = some (fn, c)) : P.funcs[f]? = some fn ∧ fn.body = some c ∧ (fn.name == "runtime.NumGoroutine") = false := by
  unfold codeOf at h
  split at h
  · rename_i fn' hf
    split at h
    · rename_i c' hb
      rw [bif2_eq] at h
      split at h
      · cases h
      · rename_i hn
        cases h
        exact ⟨hf, hb, by simpa using hn⟩
    · cases h
  · cases h

theorem call_ok (hS : SumsOK P S) {n : Nat} (hC : CodeOK P S n) : CallOK P (callF P S (exec P S n)) := by
  intro f args m v m' h ρ w cs V hv hf
  unfold callF at h
  cases hs : S f with
  | some s => rw [hs] at h; exact hS f s hs args m v m' h ρ w cs V hv hf
  | none =>
    rw [hs] at h
    cases hc : codeOf P f with
    | none => simp only [hc] at h; cases h
    | some fc =>
      obtain ⟨fn, c⟩ := fc
      simp only [hc] at h
      obtain ⟨h1, h2, h3⟩ := codeOf_inv hc
      rcases putK_eq (OR.fail 1001) args 0 .leaf (fun t => leaveA P fn (exec P S n (nTmps fn args.length) c t m)) with e | ⟨t, ht, e⟩
      · rw [e] at h; cases h
      · rw [e] at h
        refine .inl ⟨by have := beq_eq_false_iff_ne.1 h3; simp [callFunc, h1, h2, this], calls_of_wp h1 h2 ?_⟩
        cases hx : exec P S n (nTmps fn args.length) c t m with
        | fail q => rw [hx] at h; cases h
        | mk x t' m1 =>
          rw [hx] at h
          have hl : args.length = cs.size := by simpa using hv.length
          have hT : TR ρ (nTmps fn args.length) t (cs ++ Array.replicate (fn.ntmps - cs.size) undef) := by
            refine ⟨?_, fun i => ?_⟩
            · unfold nTmps
              rw [bif2_eq]
              split
              · rename_i q; have q : args.length < fn.ntmps := by simpa [Nat.blt_eq] using q
                simp; omega
              · rename_i q; have q : ¬ args.length < fn.ntmps := by simpa [Nat.blt_eq] using q
                simp; omega
            · rw [ht]
              by_cases hi : i < args.length
              · rw [if_pos (by omega)]
                have : args[i - 0]? = some args[i] := by simp [hi]
                obtain ⟨y, hy, hr⟩ := hv.get (i - 0) this
                rw [this]
                have hic : i < cs.size := by omega
                have hy : cs[i]? = some y := by simpa using hy
                simp [Array.getElem?_append_left hic, hy]
                exact hr
              · rw [if_neg (by omega), T.get_leaf]
                have hic : cs.size ≤ i := by omega
                have : (cs ++ Array.replicate (fn.ntmps - cs.size) undef).getD i undef = undef := by
                  simp only [Array.getD_eq_getD_getElem?, Array.getElem?_append_right hic, Array.getElem?_replicate]
                  split <;> rfl
                rw [this]
                exact VR.undef _
          have leave : ∀ (y : X), (y = .norm ∨ y = .ret) → exec P S n (nTmps fn args.length) c t m = .mk y t' m1 → resultsA P fn.results.toList t' m1 (fun l => one l m1) = .mk v m' →
              c.wp P (bodyPost P fn (Post ρ m w v m')) { tmps := cs ++ Array.replicate (fn.ntmps - cs.size) undef, defers := [] } w := fun y hy hx h => by
            have hm : m' = m1 := by
              obtain ⟨l, _, h, _, _⟩ : ∃ l, (l : List AV) = l ∧ one l m1 = .mk v m' ∧ True ∧ True := by
                clear hx
                generalize fn.results.toList = rs at h
                have : ∀ (rs : List ResultVar) (k : List AV → OR), resultsA P rs t' m1 k = .mk v m' → ∃ l, k l = .mk v m' := by
                  intro rs
                  induction rs with
                  | nil => intro k h; exact ⟨[], h⟩
                  | cons r rs ih =>
                    intro k h
                    cases r with
                    | tmp i =>
                      have h : evK t' (.tmp i) (fun v => resultsA P rs t' m1 fun vs => k (v :: vs)) = .mk v m' := h
                      rw [evK_eq] at h
                      obtain ⟨l, hl⟩ := ih _ h
                      exact ⟨_, hl⟩
                    | cell a ty =>
                      have h : evK t' (.tmp a) (fun a => match aLoad P ty a m1 with
                        | .mk v _ => resultsA P rs t' m1 fun vs => k (v :: vs)
                        | .fail c => .fail c) = .mk v m' := h
                      rw [evK_eq] at h
                      split at h
                      · obtain ⟨l, hl⟩ := ih _ h
                        exact ⟨_, hl⟩
                      · cases h
                obtain ⟨l, hl⟩ := this rs _ h
                exact ⟨l, rfl, hl, trivial, trivial⟩
              unfold one at h
              split at h <;> (cases h; rfl)
            subst hm
            refine hC _ c t m y t' m' hx ρ _ w V hT hf _ fun ρ' a' w' st hT' hd => ?_
            obtain ⟨_, vc, e1, e2⟩ := results_run (P := P) st.view hT' h
            rcases hy with rfl | rfl
            · exact ⟨hd, vc, e2, vc, ρ', rfl, st, e1⟩
            · exact ⟨hd, vc, e2, vc, ρ', rfl, st, e1⟩
          cases x with
          | norm => exact leave .norm (.inl rfl) hx h
          | exit i => cases h
          | ret => exact leave .ret (.inr rfl) hx h

theorem code_ok (hm : P.follows .mixedOrders = true) (hS : SumsOK P S) : ∀ n, CodeOK P S n ∧
    ∀ (nt : Nat) (b : Code) (t : T AV) (m : AMem) (x : X) (t' : T AV) (m' : AMem), exec P S n nt (.loop b) t m = .mk x t' m' → ∀ (ρ : Ren) (a : Act) (w : World), View ρ m w → TR ρ nt t a.tmps → Fresh ρ m.next m'.next →
      ∀ Q : Exit → Act → World → Prop, (∀ ρ' a' w', Step ρ m w ρ' m' w' → TR ρ' nt t' a'.tmps → a'.defers = a.defers → Q (xOf x) a' w') → Code.rounds P b Q n a w := by
  intro n
  induction n with
  | zero => exact ⟨fun nt c t m x t' m' h => (by cases h), fun nt c t m x t' m' h => (by cases h)⟩
  | succ n ih =>
    obtain ⟨A, B⟩ := ih
    have hcall := call_ok hS A
    have L : ∀ (nt : Nat) (b : Code) (t : T AV) (m : AMem) (x : X) (t' : T AV) (m' : AMem), exec P S (n + 1) nt (.loop b) t m = .mk x t' m' → ∀ (ρ : Ren) (a : Act) (w : World), View ρ m w → TR ρ nt t a.tmps → Fresh ρ m.next m'.next →
        ∀ Q : Exit → Act → World → Prop, (∀ ρ' a' w', Step ρ m w ρ' m' w' → TR ρ' nt t' a'.tmps → a'.defers = a.defers → Q (xOf x) a' w') → Code.rounds P b Q (n + 1) a w := by
      intro nt b t m x t' m' h ρ a w V hT hf Q hQ
      rw [exec_succ] at h
      have h : C.thenK (exec P S n nt b t m) (fun t m => exec P S n nt (.loop b) t m) = .mk x t' m' := h
      rw [rounds_succ]
      rcases thenK_inv h with ⟨t1, m1, e1, e2⟩ | ⟨e, hx⟩
      · have hl := exec_next n nt (.loop b) e2
        refine A nt b t m .norm t1 m1 e1 ρ a w V hT (hf.le hl) _ fun ρ1 a1 w1 s1 hT1 hd1 => ?_
        exact B nt b t1 m1 x t' m' e2 ρ1 a1 w1 s1.view hT1 (s1.fresh hf) Q fun ρ' a' w' s hT' hd => hQ ρ' a' w' (s1.trans s) hT' (hd.trans hd1)
      · refine A nt b t m x t' m' e ρ a w V hT hf _ fun ρ1 a1 w1 s1 hT1 hd1 => ?_
        have := hQ ρ1 a1 w1 s1 hT1 hd1
        cases x with
        | norm => exact absurd rfl hx
        | exit i => exact this
        | ret => exact this
    refine ⟨?_, L⟩
    intro nt c t m x t' m' h ρ a w V hT hf Q hQ
    cases c with
    | skip => cases h; exact wp_skip (hQ ρ a w V.refl hT rfl)
    | region id ops drawn =>
      cases drawn with
      | true =>
        have h : drawnA P (callF P S (exec P S n)) nt ops t m = .mk x t' m' := h
        obtain ⟨rfl, _, hw⟩ := drawn_wp (id := id) (Q := Q) hm hcall h V hT hf fun ρ' a' w' s hT' hd => by
          have := hQ ρ' a' w' s hT' hd
          have hx := (drawn_norm h)
          subst hx; exact this
        exact hw
      | false =>
        have h : opsA P (callF P S (exec P S n)) nt ops ops.toList t m = .mk x t' m' := h
        have hx := opsA_wp.opsA_norm h
        subst hx
        obtain ⟨_, hw⟩ := opsA_wp (Q := Q) hcall ops.toList 0 (fun j => by simp) h V hT hf fun ρ' a' w' s hT' hd => hQ ρ' a' w' s hT' hd
        refine wp_region ?_
        rw [List.range_eq_range']
        simpa using hw
    | seq c1 c2 =>
      have h : C.thenK (exec P S n nt c1 t m) (fun t m => exec P S n nt c2 t m) = .mk x t' m' := h
      refine wp_seq ?_
      rcases thenK_inv h with ⟨t1, m1, e1, e2⟩ | ⟨e, hx⟩
      · have hl := exec_next n nt c2 e2
        refine A nt c1 t m .norm t1 m1 e1 ρ a w V hT (hf.le hl) _ fun ρ1 a1 w1 s1 hT1 hd1 => ?_
        exact A nt c2 t1 m1 x t' m' e2 ρ1 a1 w1 s1.view hT1 (s1.fresh hf) Q fun ρ' a' w' s hT' hd => hQ ρ' a' w' (s1.trans s) hT' (hd.trans hd1)
      · refine A nt c1 t m x t' m' e ρ a w V hT hf _ fun ρ1 a1 w1 s1 hT1 hd1 => ?_
        have := hQ ρ1 a1 w1 s1 hT1 hd1
        cases x with
        | norm => exact absurd rfl hx
        | exit i => exact this
        | ret => exact this
    | cond v c1 c2 =>
      have h : evK t v (fun v => v.onBool (fun v => bif2 v (exec P S n nt c1 t m) (exec P S n nt c2 t m)) (.fail 1010)) = .mk x t' m' := h
      rw [evK_eq] at h
      obtain ⟨q, hq, h⟩ := onBool_inv _ h (fun e => by cases e)
      have hv := hT.ev v
      rw [hq] at hv
      cases he : a.eval v with
      | bool q' =>
        rw [he] at hv
        cases hv
        refine wp_cond he ?_
        cases q with
        | true => exact A nt c1 t m x t' m' h ρ a w V hT hf Q hQ
        | false => exact A nt c2 t m x t' m' h ρ a w V hT hf Q hQ
      | _ => rw [he] at hv; cases hv
    | block id b =>
      have h : @Res.rec (fun _ => Res) Res.fail (fun x t m => @X.rec (fun _ => Res) (.mk .norm t m) (fun i => bif2 (Nat.beq i id) (.mk .norm t m) (.mk (.exit i) t m)) (.mk .ret t m) x) (exec P S n nt b t m) = .mk x t' m' := h
      refine wp_block ?_
      cases hr : exec P S n nt b t m with
      | fail c => rw [hr] at h; cases h
      | mk y t1 m1 =>
        rw [hr] at h
        cases y with
        | norm => cases h; exact A nt b t m .norm t' m' hr ρ a w V hT hf _ fun ρ' a' w' s hT' hd => hQ ρ' a' w' s hT' hd
        | ret => cases h; exact A nt b t m .ret t' m' hr ρ a w V hT hf _ fun ρ' a' w' s hT' hd => hQ ρ' a' w' s hT' hd
        | exit i =>
          have h : bif2 (Nat.beq i id) (Res.mk .norm t1 m1) (.mk (.exit i) t1 m1) = .mk x t' m' := h
          rw [bif2_eq] at h
          split at h
          · rename_i hi
            have hi : i = id := Nat.eq_of_beq_eq_true hi
            cases h
            refine A nt b t m (.exit i) t' m' hr ρ a w V hT hf _ fun ρ' a' w' s hT' hd => ?_
            show (if i = id then Q .normal a' w' else Q (.exit i) a' w')
            rw [if_pos hi]; exact hQ ρ' a' w' s hT' hd
          · rename_i hi
            have hi : ¬ i = id := fun e => hi (by rw [e]; exact Nat.beq_refl id)
            cases h
            refine A nt b t m (.exit i) t' m' hr ρ a w V hT hf _ fun ρ' a' w' s hT' hd => ?_
            show (if i = id then Q .normal a' w' else Q (.exit i) a' w')
            rw [if_neg hi]; exact hQ ρ' a' w' s hT' hd
    | loop b => exact wp_loop_rounds (n + 1) (L nt b t m x t' m' h ρ a w V hT hf Q hQ)
    | exit id => cases h; exact wp_exit (hQ ρ a w V.refl hT rfl)
    | scope b =>
      refine wp_scope_straight (A nt b t m x t' m' h ρ a w V hT hf _ fun ρ' a' w' s hT' hd => ?_)
      have := hQ ρ' a' w' s hT' hd
      cases x <;> exact this
    | label l => cases h; exact wp_label (hQ ρ a w V.refl hT rfl)
    | ret => cases h; exact wp_ret (hQ ρ a w V.refl hT rfl)
    | _ => cases h
where
  drawn_norm {call : Call} {nt : Nat} {all : Array Oper} {t : T AV} {m : AMem} {x : X} {t' : T AV} {m' : AMem} (h : drawnA P call nt all t m = .mk x t' m') : x = .norm := by
    unfold drawnA at h
    cases hms : masks all with
    | none => rw [hms] at h; cases h
    | some ms =>
      rw [hms] at h
      exact (opsD_trace (show opsD P call nt all all.toList ms 0 t m ⟨0, 0, 0, m, [], []⟩ = .mk x t' m' from h)).1

/-- What the evaluator answers of a call holds of the program. -/
theorem call_sound (hm : P.follows .mixedOrders = true) (hS : SumsOK P S) (n : Nat) : CallOK P (call P S n) := call_ok hS (code_ok hm hS n).1

end
end Go.Ev
