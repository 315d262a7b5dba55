/- Summaries: what stands for a call of a function, and why it may. -/
import Derived.Test.YtkobbfimabpfeaaGreatDoorEvZ
import Derived.Test.YtkobbfimabpfeaaGreatDoorEvSum0
import Derived.Lib.Bytealg
namespace Go.Ev

section
variable {P : Program}

/-- A summary holds of a function. -/
noncomputable def SumOK (P : Program) (f : FuncId) (s : List AV → AMem → OR) : Prop := ∀ args m v m', s args m = .mk v m' → ∀ (ρ : Ren) (w : World) (cs : Array Value), View ρ m w → VRs ρ args cs.toList → Fresh ρ m.next m'.next →
  ((callFunc f cs).run P w = .ok (.enter f cs) w ∧ Calls P f cs w (Post ρ m w v m')) ∨ (∃ ρ' w' vc, (callFunc f cs).run P w = .ok (.value vc) w' ∧ Step ρ m w ρ' m' w' ∧ VR ρ' v vc)

theorem idxGo_eq (c : UInt8) : ∀ (l : List UInt8) (i : Nat), idxGo c.toNat (l.map UInt8.toNat) i = if Lib.indexByte l c = -1 then -1 else (i : Int) + Lib.indexByte l c
  | [], i => rfl
  | b :: l, i => by
    have hge := Lib.indexByte_ge l c
    have hcons : Lib.indexByte (b :: l) c = if b == c then 0 else if Lib.indexByte l c == -1 then -1 else Lib.indexByte l c + 1 := rfl
    have hbc : Nat.beq b.toNat c.toNat = (b == c) := by
      rw [Bool.eq_iff_iff]
      constructor
      · intro h; rw [UInt8.toNat_inj.1 (Nat.eq_of_beq_eq_true h)]; simp
      · intro h; rw [eq_of_beq h]; exact Nat.beq_refl _
    show (bif Nat.beq b.toNat c.toNat then Int.ofNat i else idxGo c.toNat (l.map UInt8.toNat) (i + 1)) = _
    rw [hbc, idxGo_eq c l (i + 1), hcons]
    cases hb : b == c with
    | true => simp
    | false =>
      simp only [cond_false, Bool.false_eq_true, if_false, beq_iff_eq]
      generalize Lib.indexByte l c = q at *
      by_cases h : q = -1
      · simp [h]
      · rw [if_neg h, if_neg h, if_neg (by omega)]
        omega

theorem indexByteSum_ok {f : FuncId} {fn : Func} (hf : P.funcs[f]? = some fn) (hname : (fn.name == "runtime.NumGoroutine") = false) (hb : fn.body.isNone = true) (hn : Extern.findNext fn = none)
    (he : Extern.find fn = some Extern.BytealgIndexByte.indexByte) : SumOK P f indexByteSum := by
  intro args m v m' h ρ w cs V hv hfr
  unfold indexByteSum at h
  split at h
  · rename_i s c
    rw [bif2_eq] at h
    split at h
    · rename_i hc
      have hc : c < 256 := by simpa [Nat.blt_eq] using hc
      rw [fInt_eq] at h
      cases h
      obtain ⟨x, y, hcs, hx, hy⟩ := VRs.two hv
      obtain ⟨z, rfl, hz⟩ := str_inv hx
      cases hy
      have e : cs = #[.string z, .int .u8 (Int.ofNat c)] := by apply Array.ext'; simpa using hcs
      subst e
      refine .inr ⟨ρ, w, .int .i64 (idxGo c s 0), ?_, V.refl, .int _ _⟩
      rw [run_callFunc_extern hf hname hb hn he, run_indexByte_string, Lib.firstIdx_eq]
      have e2 : (Int.ofNat c).toNat.toUInt8.toNat = c := by
        show (UInt8.ofNat c).toNat = c
        simp; omega
      have := idxGo_eq (Int.ofNat c).toNat.toUInt8 z.data.toList 0
      rw [e2, hz] at this
      rw [this]
      simp only [Result.andThen]
      have hge := Lib.indexByte_ge z.data.toList (Int.ofNat c).toNat.toUInt8
      split
      · rename_i q; rw [q]
      · simp
    · cases h
  · cases h

/-- A run that began without memory, beside a memory. -/
theorem GStep.frame {ρ ρ0 ρ1 : Ren} {m : AMem} {w w' : World} {lo hi : Nat} {g : Nat → Option Blk} (S : GStep ρ0 (T.leaf : T Blk).get lo w ρ1 g hi w') (V : View ρ m w) : Step ρ m w ρ m w' where
  ren _ _ := rfl
  le := Nat.le_refl _
  sim := ⟨fun b x hb => (V.sim.blk b x hb).mono (fun _ _ e => e) fun L e => S.keeps _ (by obtain ⟨L', e1, e2⟩ := (V.sim.blk b x hb).loc; rw [e] at e1; cases e1; exact e2) (fun b x L h => by cases h), V.sim.sep⟩
  wf := V.wf
  img b x L h1 h2 h3 := .inr ⟨b, x, L, h1, h2, h3, rfl⟩
  imgR b x L h1 h3 := .inr ⟨b, x, L, h1, h3, rfl⟩
  keeps k hk _ := S.keeps k hk (fun b x L h => by cases h)
  size := S.size
  os := S.os
  tape := S.tape
  output := S.output

theorem codeOf_enter {f : FuncId} (h : (codeOf P f).isSome = true) (cs : Array Value) (w : World) : (callFunc f cs).run P w = .ok (.enter f cs) w := by
  cases hc : codeOf P f with
  | none => rw [hc] at h; cases h
  | some fc =>
    obtain ⟨fn, c⟩ := fc
    obtain ⟨h1, h2, h3⟩ := codeOf_inv hc
    have := beq_eq_false_iff_ne.1 h3
    simp [callFunc, h1, h2, this]

/-- A run from nothing, said of any world. -/
theorem run_closed {S : Sums} (hm : P.follows .mixedOrders = true) (hS : SumsOK P S) {f : FuncId} (hs : S f = none) {n : Nat} {b : Bool} {m1 : AMem} (h : call P S n f [] ⟨0, .leaf⟩ = .mk (.bool b) m1) (w : World) :
    Calls P f #[] w fun e w' => e = .returned (.bool b) ∧ ∃ ρ, GStep (fun _ => none) (T.leaf : T Blk).get 0 w ρ m1.t.get m1.next w' := by
  rcases call_sound hm hS n f [] ⟨0, .leaf⟩ _ _ h (fun _ => none) w #[] (View.leaf _ _ _) .nil (fun _ _ _ => rfl) with ⟨_, hc⟩ | ⟨ρ', w', vc, hr, _, _⟩
  · refine hc.mono fun e w' ⟨vc, ρ', he, hs, hv⟩ => ?_
    cases hv
    exact ⟨he, ρ', hs⟩
  · -- it is code
    exfalso
    unfold call callF at h
    rw [hs] at h
    cases hc : codeOf P f with
    | none => simp only [hc] at h; cases h
    | some fc =>
      rw [codeOf_enter (by rw [hc]; rfl)] at hr
      cases hr

theorem begunSum_ok {S : Sums} (hm : P.follows .mixedOrders = true) (hS : SumsOK P S) {f : FuncId} (hs : S f = none) {n : Nat} {m1 : AMem} (h : call P S n f [] ⟨0, .leaf⟩ = .mk (.bool true) m1) : SumOK P f begunSum := by
  intro args m v m' h2 ρ w cs V hv hfr
  unfold begunSum at h2
  split at h2
  · cases h2
    have e : cs = #[] := by
      apply Array.ext'
      cases hcs : cs.toList with
      | nil => rfl
      | cons x l => rw [hcs] at hv; cases hv
    subst e
    refine .inl ⟨?_, (run_closed hm hS hs h w).mono fun e w' ⟨he, ρ', s⟩ => ⟨.bool true, ρ, he, s.frame V, .bool _⟩⟩
    refine codeOf_enter ?_ _ _
    unfold call callF at h
    rw [hs] at h
    cases hc : codeOf P f with
    | none => simp only [hc] at h; cases h
    | some fc => rfl
  · cases h2

end
end Go.Ev
