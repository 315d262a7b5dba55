/- A run with arguments, said of any world. From the middle of a function: what a run of the evaluator says of the code that is left. From the middle of a function, part by part: what a part leaves is what the next one is run on; a number that a part never asks may be told behind it. Part by part, as many parts as are told, from the beginning of a function on; what is left is handed on. DriveRange: the parts ahead of l[n/2] = x are run once, what is left five times; notes of Parse and of same serve. -/
import Derived.Test.YtpgjlcbjcnbjkaaGreatDoorEvGc
import Derived.Below
import Derived.Tactics
import Derived.Test.YtpgjlcbjcnbjkaaGreatDoorEvHf
section
namespace Go.Ev
/-- A run with arguments from no memory, said of any world. -/
theorem run_args {P : Program} {S : Sums} (hm : P.follows .mixedOrders = true) (hS : SumsOK P S) {f : FuncId} (hs : S f = none) {n : Nat} {args : List AV} {b : Bool} {m1 : AMem} (h : call P S n f args ⟨0, .leaf⟩ = .mk (.bool b) m1) (w : World)
    (cs : Array Value) (hv : VRs (fun _ => none) args cs.toList) :
    Calls P f cs w fun e w' => e = .returned (.bool b) ∧ ∃ ρ, GStep (fun _ => none) (T.leaf : T Blk).get 0 w ρ m1.t.get m1.next w' := by
  rcases call_sound hm hS n f args ⟨0, .leaf⟩ _ _ h (fun _ => none) w cs (View.leaf _ _ _) hv (fun _ _ _ => rfl) with ⟨_, hc⟩ | ⟨ρ', w', vc, hr, _, _⟩
  · refine hc.mono fun e w' ⟨vc, ρ', he, hs, hv⟩ => ?_
    cases hv
    exact ⟨he, ρ', hs⟩
  · exfalso
    unfold call callF at h
    rw [hs] at h
    cases hc : codeOf P f with
    | none => simp only [hc] at h; cases h
    | some fc =>
      rw [codeOf_enter (by rw [hc]; rfl)] at hr
      cases hr
end Go.Ev
end
section
namespace Go.Ev
open Go.RowKit
/-- What stands behind the first four parts. -/
noncomputable def tail4 : Code → Code
  | .seq _ (.seq _ (.seq _ (.seq _ d))) => d
  | c => c
noncomputable def withTail4 : Code → Code → Code
  | .seq a (.seq b (.seq c (.seq d _))), R => .seq a (.seq b (.seq c (.seq d R)))
  | _, R => R
theorem withTail4_tail (C : Code) : withTail4 C (tail4 C) = C := by
  unfold withTail4
  split
  · rfl
  · rename_i h
    unfold tail4
    split
    · exact absurd rfl (h _ _ _ _ _)
    · rfl
theorem carve4 {P : Program} {C : Code} {Q : Exit → Act → World → Prop} {a : Act} {w : World} (h : ∀ R, R = tail4 C → Code.wp P (withTail4 C R) Q a w) : Code.wp P C Q a w := by
  have := h (tail4 C) rfl
  rwa [withTail4_tail] at this
noncomputable def tail1 : Code → Code
  | .seq _ d => d
  | c => c
noncomputable def withTail1 : Code → Code → Code
  | .seq a _, R => .seq a R
  | _, R => R
theorem withTail1_tail (C : Code) : withTail1 C (tail1 C) = C := by
  unfold withTail1
  split
  · rfl
  · rename_i h
    unfold tail1
    split
    · exact absurd rfl (h _ _)
    · rfl
theorem carve1 {P : Program} {C : Code} {Q : Exit → Act → World → Prop} {a : Act} {w : World} (h : ∀ R, R = tail1 C → Code.wp P (withTail1 C R) Q a w) : Code.wp P C Q a w := by
  have := h (tail1 C) rfl
  rwa [withTail1_tail] at this
/-- What stands behind the first five parts. -/
noncomputable def tail5 : Code → Code
  | .seq _ (.seq _ (.seq _ (.seq _ (.seq _ d)))) => d
  | c => c
noncomputable def withTail5 : Code → Code → Code
  | .seq a (.seq b (.seq c (.seq d (.seq e _)))), R => .seq a (.seq b (.seq c (.seq d (.seq e R))))
  | _, R => R
theorem withTail5_tail (C : Code) : withTail5 C (tail5 C) = C := by
  unfold withTail5
  split
  · rfl
  · rename_i h
    unfold tail5
    split
    · exact absurd rfl (h _ _ _ _ _ _)
    · rfl
theorem carve5 {P : Program} {C : Code} {Q : Exit → Act → World → Prop} {a : Act} {w : World} (h : ∀ R, R = tail5 C → Code.wp P (withTail5 C R) Q a w) : Code.wp P C Q a w := by
  have := h (tail5 C) rfl
  rwa [withTail5_tail] at this

noncomputable def isTrue (v : Option AV) : Bool := match v with
  | some (.bool b) => b
  | _ => false
noncomputable def okMid (i : Nat) (r : Res) : Bool := @Res.rec (fun _ => Bool) (fun _ => false) (fun x t _ => @X.rec (fun _ => Bool) false (fun _ => false) (isTrue (t.get i)) x) r
noncomputable def midRun (P : Program) (S : Sums) (nt : Nat) (c : Code) (l : List AV) : Res := putK (Res.fail 1) l 0 .leaf fun t => exec P S 100000 nt c t ⟨0, .leaf⟩

theorem mid_ok {P : Program} {S : Sums} (hm : P.follows .mixedOrders = true) (hS : SumsOK P S) {nt i : Nat} {c : Code} {l : List AV} (h : okMid i (midRun P S nt c l) = true) {fn : Func} {tmps : Array Value} (hsz : tmps.size = nt)
    (hv : VRs (fun _ => none) l tmps.toList) (hres : ∀ (a : Array Value) (w : World), a.getD i undef = .bool true → (results fn a).run P w = .ok (.bool true) w) {w0 w : World} (hb : Below w0.heap.size w0 w) :
    Code.wp P c (bodyPost P fn fun e w' => e = .returned (.bool true) ∧ Below w0.heap.size w0 w') ⟨tmps, []⟩ w := by
  unfold midRun at h
  rcases putK_eq (Res.fail 1) l 0 .leaf (fun t => exec P S 100000 nt c t ⟨0, .leaf⟩) with e | ⟨t, ht, e⟩
  · rw [e] at h; cases h
  · rw [e] at h
    cases hr : exec P S 100000 nt c t ⟨0, .leaf⟩ with
    | fail n => rw [hr] at h; cases h
    | mk x t' m' =>
      rw [hr] at h
      cases x with
      | norm => cases h
      | exit n => cases h
      | ret =>
        have h : isTrue (t'.get i) = true := h
        have hlen := hv.length
        refine (code_ok hm hS 100000).1 nt c t ⟨0, .leaf⟩ .ret t' m' hr (fun _ => none) ⟨tmps, []⟩ w (View.leaf _ _ _) ⟨hsz, fun j => ?_⟩ (fun _ _ _ => rfl) _ (fun ρ' a' w' hs hT hd => bodyPost_ret (hres _ _ ?_) hd ⟨rfl, ?_⟩)
        · rw [ht]
          by_cases hj : j < l.length
          · rw [if_pos (by omega)]
            have hl : l[j - 0]? = some l[j] := by simp [hj]
            rw [hl]
            obtain ⟨cv, h1, h2⟩ := hv.get j (by simp [hj] : l[j]? = some l[j])
            have : tmps.getD j undef = cv := by
              have h3 : tmps[j]? = some cv := by simpa using h1
              simp [Array.getD_eq_getD_getElem?, h3]
            show VR _ l[j] (tmps.getD j undef)
            rw [this]; exact h2
          · rw [if_neg (by omega)]
            have h3 : tmps[j]? = none := by
              rw [Array.getElem?_eq_none]
              have : tmps.toList.length = tmps.size := Array.length_toList
              omega
            have : tmps.getD j undef = undef := by simp [Array.getD_eq_getD_getElem?, h3]
            show VR _ AV.undef (tmps.getD j undef)
            rw [this]; exact VR.undef _
        · have hrel := hT.rel i
          cases hg : t'.get i with
          | none => rw [hg] at h; cases h
          | some v =>
            rw [hg] at h hrel
            cases v with
            | bool b =>
              have h : b = true := h
              subst h
              generalize a'.tmps.getD i undef = q at hrel
              cases hrel; rfl
            | _ => cases h
        · exact hb.trans (Below.mono ⟨hs.os, hs.tape, hs.output, hs.size, fun k hk => hs.keeps k hk fun b x L h => by cases h⟩ hb.size)
end Go.Ev
end
section
namespace Go.Ev
open Go.RowKit
section
variable (P : Program) (S : Sums) (nt : Nat)
/-- A part, and what is asked of what it leaves. -/
noncomputable def partRun {β : Type} (z : β) (c : Code) (t : T AV) (m : AMem) (k : T AV → AMem → β) : β :=
  @Res.rec (fun _ => β) (fun _ => z) (fun x t m => @X.rec (fun _ => β) (k t m) (fun _ => z) z x) (exec P S 100000 nt c t m)
/-- A slot is told anew, and the rest is run. -/
noncomputable def restRun (i slot : Nat) (c : Code) (t : T AV) (m : AMem) (v : Int) : Bool :=
  T.setK false (some (.int .i64 v)) t slot fun t => okMid i (exec P S 100000 nt c t m)
end
section
variable {P : Program} {S : Sums} {nt : Nat}
theorem partRun_ok (hm : P.follows .mixedOrders = true) (hS : SumsOK P S) {β : Type} {z r : β} (hz : z ≠ r) {c : Code} {t : T AV} {m : AMem} {k : T AV → AMem → β} (h : partRun P S nt z c t m k = r) {ρ : Ren} {a : Act} {w : World} (V : View ρ m w)
    (hT : TR ρ nt t a.tmps) (hρ : ∀ b, m.next ≤ b → ρ b = none) {Q : Exit → Act → World → Prop} {R : Code}
    (hQ : ∀ ρ' t' m' a' w', Step ρ m w ρ' m' w' → TR ρ' nt t' a'.tmps → a'.defers = a.defers → (∀ b, m'.next ≤ b → ρ' b = none) → k t' m' = r → Code.wp P R Q a' w') : Code.wp P (.seq c R) Q a w := by
  unfold partRun at h
  cases e : exec P S 100000 nt c t m with
  | fail n => rw [e] at h; exact absurd h hz
  | mk x t' m' =>
    rw [e] at h
    cases x with
    | exit n => exact absurd h hz
    | ret => exact absurd h hz
    | norm =>
      refine wp_seq ((code_ok hm hS 100000).1 nt c t m .norm t' m' e ρ a w V hT (fun b h1 _ => hρ b h1) _ fun ρ' a' w' s hT' hd => ?_)
      exact hQ ρ' t' m' a' w' s hT' hd (fun b hb => (s.ren b (by omega)).trans (hρ b (Nat.le_trans s.le hb))) h
/-- The rest, a slot told anew as what it is. -/
theorem restRun_ok (hm : P.follows .mixedOrders = true) (hS : SumsOK P S) {i slot : Nat} {c : Code} {t : T AV} {m : AMem} {v : Int} (h : restRun P S nt i slot c t m v = true) (hv : t.get slot = some (.int .i64 v)) {fn : Func}
    {ρ : Ren} {a : Act} {w wA w0 : World} (s0 : Step (fun _ => none) ⟨0, .leaf⟩ wA ρ m w) (hT : TR ρ nt t a.tmps) (hρ : ∀ b, m.next ≤ b → ρ b = none) (hd : a.defers = [])
    (hres : ∀ (a : Array Value) (w : World), a.getD i undef = .bool true → (results fn a).run P w = .ok (.bool true) w) (hb : Below w0.heap.size w0 wA) :
    Code.wp P c (bodyPost P fn fun e w' => e = .returned (.bool true) ∧ Below w0.heap.size w0 w') a w := by
  unfold restRun at h
  rcases T.setK_eq false (some (AV.int .i64 v)) t slot (fun t => okMid i (exec P S 100000 nt c t m)) with e | ⟨t1, ht, e⟩
  · rw [e] at h; cases h
  · rw [e] at h
    have hT1 : TR ρ nt t1 a.tmps := ⟨hT.size, fun j => by
      rw [ht j]
      by_cases hj : j = slot
      · rw [if_pos hj, hj]; have := hT.rel slot; rwa [hv] at this
      · rw [if_neg hj]; exact hT.rel j⟩
    cases hr : exec P S 100000 nt c t1 m with
    | fail n => rw [hr] at h; cases h
    | mk x t' m' =>
      rw [hr] at h
      cases x with
      | norm => cases h
      | exit n => cases h
      | ret =>
        have h : isTrue (t'.get i) = true := h
        refine (code_ok hm hS 100000).1 nt c t1 m .ret t' m' hr ρ a w s0.view hT1 (fun b h1 _ => hρ b h1) _ fun ρ' a' w' hs hT' hd' => bodyPost_ret (hres _ _ ?_) (hd'.trans hd) ⟨rfl, ?_⟩
        · have hrel := hT'.rel i
          cases hg : t'.get i with
          | none => rw [hg] at h; cases h
          | some u =>
            rw [hg] at h hrel
            cases u with
            | bool b =>
              have h : b = true := h
              subst h
              generalize a'.tmps.getD i undef = q at hrel
              cases hrel; rfl
            | _ => cases h
        · have hs := s0.trans hs
          exact hb.trans (Below.mono ⟨hs.os, hs.tape, hs.output, hs.size, fun k hk => hs.keeps k hk fun b x L h => by cases h⟩ hb.size)
end
end Go.Ev
end
section
namespace Go.Ev
open Go.RowKit
section
variable (P : Program) (S : Sums) (nt : Nat)
noncomputable def partsRun {β : Type} (z : β) : Nat → Code → T AV → AMem → (Code → T AV → AMem → β) → β
  | 0, c, t, m, k => k c t m
  | n + 1, .seq a R, t, m, k => partRun P S nt z a t m fun t m => partsRun z n R t m k
  | _ + 1, _, _, _, _ => z
noncomputable def startRun {β : Type} (z : β) (l : List AV) (n : Nat) (c : Code) (k : Code → T AV → AMem → β) : β := putK z l 0 .leaf fun t => partsRun P S nt z n c t ⟨0, .leaf⟩ k
end
section
variable {P : Program} {S : Sums} {nt : Nat}
theorem partsRun_ok (hm : P.follows .mixedOrders = true) (hS : SumsOK P S) {β : Type} {z r : β} (hz : z ≠ r) {wA : World} : ∀ (n : Nat) {C : Code} {t : T AV} {m : AMem} {k : Code → T AV → AMem → β} (_ : partsRun P S nt z n C t m k = r)
    {ρ : Ren} {a : Act} {w : World} (_ : Step (fun _ => none) ⟨0, .leaf⟩ wA ρ m w) (_ : TR ρ nt t a.tmps) (_ : ∀ b, m.next ≤ b → ρ b = none) {Q : Exit → Act → World → Prop}
    (_ : ∀ R ρ' t' m' a' w', Step (fun _ => none) ⟨0, .leaf⟩ wA ρ' m' w' → TR ρ' nt t' a'.tmps → a'.defers = a.defers → (∀ b, m'.next ≤ b → ρ' b = none) → k R t' m' = r → Code.wp P R Q a' w'), Code.wp P C Q a w
  | 0, C, t, m, k, h, ρ, a, w, s0, hT, hρ, Q, hQ => hQ C ρ t m a w s0 hT rfl hρ h
  | n + 1, C, t, m, k, h, ρ, a, w, s0, hT, hρ, Q, hQ => by
    cases C with
    | seq c R =>
      exact partRun_ok hm hS hz (k := fun t m => partsRun P S nt z n R t m k) h s0.view hT hρ fun ρ' t' m' a' w' s hT' hd hρ' h' =>
        partsRun_ok hm hS hz n h' (s0.trans s) hT' hρ' fun R ρ'' t'' m'' a'' w'' s'' hT'' hd'' => hQ R ρ'' t'' m'' a'' w'' s'' hT'' (hd''.trans hd)
    | _ => exact absurd h hz
theorem startRun_ok (hm : P.follows .mixedOrders = true) (hS : SumsOK P S) {β : Type} {z r : β} (hz : z ≠ r) {n : Nat} {C : Code} {l : List AV} {k : Code → T AV → AMem → β} (h : startRun P S nt z l n C k = r)
    {tmps : Array Value} (hsz : tmps.size = nt) (hv : VRs (fun _ => none) l tmps.toList) {wA : World} {Q : Exit → Act → World → Prop}
    (hQ : ∀ R ρ' t' m' a' w', Step (fun _ => none) ⟨0, .leaf⟩ wA ρ' m' w' → TR ρ' nt t' a'.tmps → a'.defers = [] → (∀ b, m'.next ≤ b → ρ' b = none) → k R t' m' = r → Code.wp P R Q a' w') : Code.wp P C Q ⟨tmps, []⟩ wA := by
  unfold startRun at h
  rcases putK_eq z l 0 .leaf (fun t => partsRun P S nt z n C t ⟨0, .leaf⟩ k) with e | ⟨t, ht, e⟩
  · rw [e] at h; exact absurd h hz
  · rw [e] at h
    have hlen := hv.length
    refine partsRun_ok hm hS hz n h (View.leaf (fun _ => none) _ wA).refl ⟨hsz, fun j => ?_⟩ (fun _ _ => rfl) hQ
    rw [ht]
    by_cases hj : j < l.length
    · rw [if_pos (by omega)]
      have hl : l[j - 0]? = some l[j] := by simp [hj]
      rw [hl]
      obtain ⟨cv, h1, h2⟩ := hv.get j (by simp [hj] : l[j]? = some l[j])
      have : tmps.getD j undef = cv := by
        have h3 : tmps[j]? = some cv := by simpa using h1
        simp [Array.getD_eq_getD_getElem?, h3]
      show VR _ l[j] (tmps.getD j undef)
      rw [this]; exact h2
    · rw [if_neg (by omega)]
      have h3 : tmps[j]? = none := by
        rw [Array.getElem?_eq_none]
        have : tmps.toList.length = tmps.size := Array.length_toList
        omega
      have : tmps.getD j undef = undef := by simp [Array.getD_eq_getD_getElem?, h3]
      show VR _ AV.undef (tmps.getD j undef)
      rw [this]; exact VR.undef _
end
end Go.Ev
end
section
namespace Go.Ev
open Go.Proofs
noncomputable def codeDr : Code := Tryz.f4.body.getD .skip
abbrev frameDr (n x : Int) : List AV := .int .i64 n :: .int .i64 x :: List.replicate 135 .any
noncomputable def lateDr (S : Sums) (k : Nat) (R : Code) (t : T AV) (m : AMem) : Option AV × Bool :=
  (t.get 1, restRun Tryz.prog S 137 4 1 R t m (.ofNat 0) && restRun Tryz.prog S 137 4 1 R t m (.ofNat 1) && restRun Tryz.prog S 137 4 1 R t m (.ofNat 2) && restRun Tryz.prog S 137 4 1 R t m (.ofNat (k + 3)) && restRun Tryz.prog S 137 4 1 R t m (.negSucc k))
noncomputable def runDr (S : Sums) (n : Nat) (x : Int) (k : Nat) : Option AV × Bool := startRun Tryz.prog S 137 (none, false) (frameDr (.ofNat n) x) 11 codeDr (lateDr S k)
/-- With a note of Parse; with one of same besides. -/
noncomputable def qPDr (e : Memo) : Sums := addS 19 (fun args m => memoTry e args m (call Tryz.prog q5Z 100000 19 args m)) q5Z
theorem qPDr_ok {e : Memo} (h : MemoOK Tryz.prog 19 e) : SumsOK Tryz.prog (qPDr e) := addS_ok (memoSum_ok h fun args m v m1 h => call_sound mixed q5Z_ok 100000 19 args m v m1 h) q5Z_ok
noncomputable def qSDr (e d : Memo) : Sums := addB [16] (addS 21 (fun args m => memoTry d args m (.fail 3301)) (qPDr e))
abbrev DrOK (n : Nat) : Prop := ∃ e d, MemoOK Tryz.prog 19 e ∧ MemoOK Tryz.prog 21 d ∧ ∀ (x : Int) (k : Nat), runDr (qSDr e d) n x k = (some (.int .i64 x), true)

/-- The words, and what both functions are given. -/
noncomputable def words60 : List AV := [.int .i64 (.ofNat 0), .int .i64 (.ofNat 1), .int .i64 (.ofNat 0), .int .i64 (.ofNat 1), .int .i64 (.ofNat 0), .int .i64 (.ofNat 1), .int .i64 (.ofNat 0), .int .i64 (.ofNat 1), .int .i64 (.ofNat 0), .int .i64 (.ofNat 1), .int .i64 (.ofNat 0), .int .i64 (.ofNat 1), .int .i64 (.ofNat 0), .int .i64 (.ofNat 1), .int .i64 (.ofNat 0), .int .i64 (.ofNat 1), .int .i64 (.ofNat 0), .int .i64 (.ofNat 1), .int .i64 (.ofNat 0), .int .i64 (.ofNat 1), .int .i64 (.ofNat 0), .int .i64 (.ofNat 1), .int .i64 (.ofNat 0), .int .i64 (.ofNat 1), .int .i64 (.ofNat 0), .int .i64 (.ofNat 1), .int .i64 (.ofNat 0), .int .i64 (.ofNat 1), .int .i64 (.ofNat 0), .int .i64 (.ofNat 1), .int .i64 (.ofNat 0), .int .i64 (.ofNat 1), .int .i64 (.ofNat 0), .int .i64 (.ofNat 1), .int .i64 (.ofNat 0), .int .i64 (.ofNat 1), .int .i64 (.ofNat 0), .int .i64 (.ofNat 1), .int .i64 (.ofNat 0), .int .i64 (.ofNat 1), .int .i64 (.ofNat 0), .int .i64 (.ofNat 1), .int .i64 (.ofNat 0), .int .i64 (.ofNat 1), .int .i64 (.ofNat 0), .int .i64 (.ofNat 1), .int .i64 (.ofNat 0), .int .i64 (.ofNat 1), .int .i64 (.ofNat 0), .int .i64 (.ofNat 1), .int .i64 (.ofNat 0), .int .i64 (.ofNat 1), .int .i64 (.ofNat 0), .int .i64 (.ofNat 1), .int .i64 (.ofNat 0), .int .i64 (.ofNat 1), .int .i64 (.ofNat 0), .int .i64 (.ofNat 1), .int .i64 (.ofNat 0), .int .i64 (.ofNat 1)]
noncomputable def patP (n : Nat) : Pat := [(0, .cells true true 1 [.int .i64 (.ofNat 0), .int .i64 (.ofNat 1), .int .i64 (.ofNat 2), .int .i64 (.ofNat 3), .int .i64 (.ofNat 4), .int .i64 (.ofNat 5), .int .i64 (.ofNat 6)]),
  (1, .cells true true 1 [.slice 8 0 4 none, .slice 9 0 4 none, .slice 10 0 4 none, .slice 11 0 4 none, .slice 12 0 4 none, .slice 13 0 4 none, .slice 14 0 4 none]),
  (2, .cells true true 1 [.slice 15 0 1 none, .slice 16 0 1 none, .slice 17 0 1 none, .slice 18 0 1 none, .slice 19 0 1 none, .slice 20 0 1 none, .slice 21 0 1 none]),
  (3, .cells true true 1 [.str [78], .str [80], .str [77], .str [], .str [101]]),
  (4, .cells true true 1 [.int .i64 (.ofNat 0), .int .i64 (.ofNat 1), .int .i64 (.ofNat 2)]),
  (5, .cells true true 1 [.int .i64 (.ofNat 0), .int .i64 (.ofNat 1), .int .i64 (.ofNat 1)]),
  (6, .cells true true 4 [.int .i64 (.negSucc 0), .slice 22 0 1 (some 1), .int .i64 (.ofNat 0), .int .i64 (.ofNat 0), .int .i64 (.ofNat 4), .slice 23 0 3 none, .int .i64 (.ofNat 1), .int .i64 (.ofNat 1), .int .i64 (.ofNat 4), .slice 24 0 3 none, .int .i64 (.ofNat 2), .int .i64 (.ofNat 1), .int .i64 (.ofNat 4), .slice 25 0 1 none, .int .i64 (.ofNat 0), .int .i64 (.ofNat 0)])] ++ (7, .cells true true 1 (words60.take n)) :: [(8, .cells true true 2 [.int .i64 (.ofNat 1), .int .i64 (.ofNat 1), .int .i64 (.ofNat 0), .int .i64 (.ofNat 0), .int .i64 (.ofNat 0), .int .i64 (.ofNat 0), .int .i64 (.ofNat 0), .int .i64 (.ofNat 0)]),
  (9, .cells true true 2 [.int .i64 (.ofNat 0), .int .i64 (.ofNat 0), .int .i64 (.ofNat 2), .int .i64 (.ofNat 3), .int .i64 (.ofNat 2), .int .i64 (.ofNat 3), .int .i64 (.ofNat 2), .int .i64 (.ofNat 3)]),
  (10, .cells true true 2 [.int .i64 (.ofNat 0), .int .i64 (.ofNat 0), .int .i64 (.ofNat 1), .int .i64 (.ofNat 3), .int .i64 (.ofNat 1), .int .i64 (.ofNat 4), .int .i64 (.ofNat 3), .int .i64 (.ofNat 0)]),
  (11, .cells true true 2 [.int .i64 (.ofNat 1), .int .i64 (.ofNat 1), .int .i64 (.ofNat 0), .int .i64 (.ofNat 0), .int .i64 (.ofNat 0), .int .i64 (.ofNat 0), .int .i64 (.ofNat 0), .int .i64 (.ofNat 0)]),
  (12, .cells true true 2 [.int .i64 (.ofNat 1), .int .i64 (.ofNat 1), .int .i64 (.ofNat 0), .int .i64 (.ofNat 0), .int .i64 (.ofNat 0), .int .i64 (.ofNat 0), .int .i64 (.ofNat 0), .int .i64 (.ofNat 0)]),
  (13, .cells true true 2 [.int .i64 (.ofNat 0), .int .i64 (.ofNat 0), .int .i64 (.ofNat 2), .int .i64 (.ofNat 1), .int .i64 (.ofNat 1), .int .i64 (.ofNat 4), .int .i64 (.ofNat 2), .int .i64 (.ofNat 1)]),
  (14, .cells true true 2 [.int .i64 (.ofNat 0), .int .i64 (.ofNat 0), .int .i64 (.ofNat 2), .int .i64 (.ofNat 2), .int .i64 (.ofNat 2), .int .i64 (.ofNat 2), .int .i64 (.ofNat 2), .int .i64 (.ofNat 2)]),
  (15, .cells true true 1 [.int .i64 (.ofNat 2)]),
  (16, .cells true true 1 [.int .i64 (.negSucc 0)]),
  (17, .cells true true 1 [.int .i64 (.negSucc 0)]),
  (18, .cells true true 1 [.int .i64 (.ofNat 5)]),
  (19, .cells true true 1 [.int .i64 (.ofNat 6)]),
  (20, .cells true true 1 [.int .i64 (.negSucc 0)]),
  (21, .cells true true 1 [.int .i64 (.negSucc 0)]),
  (22, .cells true true 1 [.int .i64 (.ofNat 4)]),
  (23, .cells true true 1 [.int .i64 (.ofNat 4), .int .i64 (.ofNat 1), .int .i64 (.ofNat 4)]),
  (24, .cells true true 1 [.int .i64 (.ofNat 4), .int .i64 (.ofNat 2), .int .i64 (.ofNat 4)]),
  (25, .cells true true 1 [.int .i64 (.ofNat 0)])]
noncomputable def argP (n : Nat) : List AV := [.agg [.int .i64 (.ofNat 3), .int .i64 (.ofNat 1), .int .i64 (.ofNat 0), .int .i64 (.ofNat 4), .slice 0 0 7 none, .slice 1 0 7 none, .slice 2 0 7 none], .agg [.int .i64 (.ofNat 3), .int .i64 (.ofNat 1), .int .i64 (.ofNat 4), .int .i64 (.ofNat 0), .slice 3 0 5 none, .slice 4 0 3 none, .slice 5 0 3 none, .slice 6 0 4 none], .slice 7 0 n (some n)]
noncomputable def patS (n : Nat) : Pat := [(0, .cells true true 1 [.str [78], .str [80], .str [77], .str [], .str [101]]),
  (1, .cells true true 1 [.int .i64 (.ofNat 0), .int .i64 (.ofNat 1), .int .i64 (.ofNat 2)]),
  (2, .cells true true 1 [.int .i64 (.ofNat 0), .int .i64 (.ofNat 1), .int .i64 (.ofNat 1)]),
  (3, .cells true true 4 [.int .i64 (.negSucc 0), .slice 9 0 1 (some 1), .int .i64 (.ofNat 0), .int .i64 (.ofNat 0), .int .i64 (.ofNat 4), .slice 10 0 3 none, .int .i64 (.ofNat 1), .int .i64 (.ofNat 1), .int .i64 (.ofNat 4), .slice 11 0 3 none, .int .i64 (.ofNat 2), .int .i64 (.ofNat 1), .int .i64 (.ofNat 4), .slice 12 0 1 none, .int .i64 (.ofNat 0), .int .i64 (.ofNat 0)]),
  (4, .cells true true 1 [.int .i64 (.ofNat 0), .int .i64 (.ofNat 1), .int .i64 (.ofNat 2), .int .i64 (.ofNat 3), .int .i64 (.ofNat 4), .int .i64 (.ofNat 5), .int .i64 (.ofNat 6)]),
  (5, .cells true true 1 [.slice 13 0 4 none, .slice 14 0 4 none, .slice 15 0 4 none, .slice 16 0 4 none, .slice 17 0 4 none, .slice 18 0 4 none, .slice 19 0 4 none]),
  (6, .cells true true 1 [.slice 20 0 1 none, .slice 21 0 1 none, .slice 22 0 1 none, .slice 23 0 1 none, .slice 24 0 1 none, .slice 25 0 1 none, .slice 26 0 1 none]),
  (7, .cells true true 1 [.int .i64 (.ofNat 3), .int .i64 (.ofNat 1), .int .i64 (.ofNat 4), .int .i64 (.ofNat 0), .slice 0 0 5 none, .slice 1 0 3 none, .slice 2 0 3 none, .slice 3 0 4 none, .slice 27 0 7 none, .slice 28 0 7 none, .int .i64 (.ofNat 0), .int .i64 (.ofNat 4)])] ++ (8, .cells true true 1 (words60.take n)) :: [(9, .cells true true 1 [.int .i64 (.ofNat 4)]),
  (10, .cells true true 1 [.int .i64 (.ofNat 4), .int .i64 (.ofNat 1), .int .i64 (.ofNat 4)]),
  (11, .cells true true 1 [.int .i64 (.ofNat 4), .int .i64 (.ofNat 2), .int .i64 (.ofNat 4)]),
  (12, .cells true true 1 [.int .i64 (.ofNat 0)]),
  (13, .cells true true 2 [.int .i64 (.ofNat 1), .int .i64 (.ofNat 1), .int .i64 (.ofNat 0), .int .i64 (.ofNat 0), .int .i64 (.ofNat 0), .int .i64 (.ofNat 0), .int .i64 (.ofNat 0), .int .i64 (.ofNat 0)]),
  (14, .cells true true 2 [.int .i64 (.ofNat 0), .int .i64 (.ofNat 0), .int .i64 (.ofNat 2), .int .i64 (.ofNat 3), .int .i64 (.ofNat 2), .int .i64 (.ofNat 3), .int .i64 (.ofNat 2), .int .i64 (.ofNat 3)]),
  (15, .cells true true 2 [.int .i64 (.ofNat 0), .int .i64 (.ofNat 0), .int .i64 (.ofNat 1), .int .i64 (.ofNat 3), .int .i64 (.ofNat 1), .int .i64 (.ofNat 4), .int .i64 (.ofNat 3), .int .i64 (.ofNat 0)]),
  (16, .cells true true 2 [.int .i64 (.ofNat 1), .int .i64 (.ofNat 1), .int .i64 (.ofNat 0), .int .i64 (.ofNat 0), .int .i64 (.ofNat 0), .int .i64 (.ofNat 0), .int .i64 (.ofNat 0), .int .i64 (.ofNat 0)]),
  (17, .cells true true 2 [.int .i64 (.ofNat 1), .int .i64 (.ofNat 1), .int .i64 (.ofNat 0), .int .i64 (.ofNat 0), .int .i64 (.ofNat 0), .int .i64 (.ofNat 0), .int .i64 (.ofNat 0), .int .i64 (.ofNat 0)]),
  (18, .cells true true 2 [.int .i64 (.ofNat 0), .int .i64 (.ofNat 0), .int .i64 (.ofNat 2), .int .i64 (.ofNat 1), .int .i64 (.ofNat 1), .int .i64 (.ofNat 4), .int .i64 (.ofNat 2), .int .i64 (.ofNat 1)]),
  (19, .cells true true 2 [.int .i64 (.ofNat 0), .int .i64 (.ofNat 0), .int .i64 (.ofNat 2), .int .i64 (.ofNat 2), .int .i64 (.ofNat 2), .int .i64 (.ofNat 2), .int .i64 (.ofNat 2), .int .i64 (.ofNat 2)]),
  (20, .cells true true 1 [.int .i64 (.ofNat 2)]),
  (21, .cells true true 1 [.int .i64 (.negSucc 0)]),
  (22, .cells true true 1 [.int .i64 (.negSucc 0)]),
  (23, .cells true true 1 [.int .i64 (.ofNat 5)]),
  (24, .cells true true 1 [.int .i64 (.ofNat 6)]),
  (25, .cells true true 1 [.int .i64 (.negSucc 0)]),
  (26, .cells true true 1 [.int .i64 (.negSucc 0)]),
  (27, .cells true true 2 [.slice 29 0 1 (some 1), .slice 30 0 5 none, .slice 31 0 1 none, .slice 32 0 5 none, .slice 33 0 3 none, .slice 34 0 5 none, .slice 35 0 1 none, .slice 36 0 5 none, .slice 37 0 1 none, .slice 38 0 5 none, .slice 39 0 3 none, .slice 40 0 5 none, .slice 41 0 3 none, .slice 42 0 5 none]),
  (28, .cells true true 1 [.slice 43 0 4 (some 4), .slice 44 0 4 (some 4), .slice 45 0 4 (some 4), .slice 46 0 4 (some 4), .slice 47 0 4 (some 4), .slice 48 0 4 (some 4), .slice 49 0 4 (some 4)]),
  (29, .cells true true 2 [.int .i64 (.ofNat 0), .int .i64 (.ofNat 0)]),
  (30, .cells true true 1 [.int .i64 (.ofNat 1), .int .i64 (.negSucc 0), .int .i64 (.negSucc 0), .int .i64 (.negSucc 0), .int .i64 (.ofNat 2)]),
  (31, .cells true true 2 [.int .i64 (.ofNat 3), .int .i64 (.ofNat 1)]),
  (32, .cells true true 1 [.int .i64 (.negSucc 0), .int .i64 (.negSucc 0), .int .i64 (.negSucc 0), .int .i64 (.negSucc 0), .int .i64 (.negSucc 0)]),
  (33, .cells true true 2 [.int .i64 (.ofNat 0), .int .i64 (.ofNat 1), .int .i64 (.ofNat 1), .int .i64 (.ofNat 1), .int .i64 (.ofNat 2), .int .i64 (.ofNat 1)]),
  (34, .cells true true 1 [.int .i64 (.negSucc 0), .int .i64 (.ofNat 3), .int .i64 (.ofNat 4), .int .i64 (.negSucc 0), .int .i64 (.negSucc 0)]),
  (35, .cells true true 2 [.int .i64 (.ofNat 1), .int .i64 (.ofNat 2)]),
  (36, .cells true true 1 [.int .i64 (.ofNat 1), .int .i64 (.negSucc 0), .int .i64 (.negSucc 0), .int .i64 (.negSucc 0), .int .i64 (.ofNat 5)]),
  (37, .cells true true 2 [.int .i64 (.ofNat 2), .int .i64 (.ofNat 2)]),
  (38, .cells true true 1 [.int .i64 (.ofNat 1), .int .i64 (.negSucc 0), .int .i64 (.negSucc 0), .int .i64 (.negSucc 0), .int .i64 (.ofNat 6)]),
  (39, .cells true true 2 [.int .i64 (.ofNat 1), .int .i64 (.ofNat 1), .int .i64 (.ofNat 1), .int .i64 (.ofNat 3), .int .i64 (.ofNat 2), .int .i64 (.ofNat 1)]),
  (40, .cells true true 1 [.int .i64 (.negSucc 0), .int .i64 (.ofNat 3), .int .i64 (.ofNat 4), .int .i64 (.negSucc 0), .int .i64 (.negSucc 0)]),
  (41, .cells true true 2 [.int .i64 (.ofNat 1), .int .i64 (.ofNat 1), .int .i64 (.ofNat 2), .int .i64 (.ofNat 1), .int .i64 (.ofNat 2), .int .i64 (.ofNat 3)]),
  (42, .cells true true 1 [.int .i64 (.negSucc 0), .int .i64 (.ofNat 3), .int .i64 (.ofNat 4), .int .i64 (.negSucc 0), .int .i64 (.negSucc 0)]),
  (43, .cells true true 2 [.int .i64 (.ofNat 1), .int .i64 (.ofNat 1), .int .i64 (.ofNat 0), .int .i64 (.ofNat 0), .int .i64 (.ofNat 0), .int .i64 (.ofNat 0), .int .i64 (.ofNat 0), .int .i64 (.ofNat 0)]),
  (44, .cells true true 2 [.int .i64 (.ofNat 0), .int .i64 (.ofNat 0), .int .i64 (.ofNat 2), .int .i64 (.ofNat 3), .int .i64 (.ofNat 2), .int .i64 (.ofNat 3), .int .i64 (.ofNat 2), .int .i64 (.ofNat 3)]),
  (45, .cells true true 2 [.int .i64 (.ofNat 0), .int .i64 (.ofNat 0), .int .i64 (.ofNat 1), .int .i64 (.ofNat 3), .int .i64 (.ofNat 1), .int .i64 (.ofNat 4), .int .i64 (.ofNat 3), .int .i64 (.ofNat 0)]),
  (46, .cells true true 2 [.int .i64 (.ofNat 1), .int .i64 (.ofNat 1), .int .i64 (.ofNat 0), .int .i64 (.ofNat 0), .int .i64 (.ofNat 0), .int .i64 (.ofNat 0), .int .i64 (.ofNat 0), .int .i64 (.ofNat 0)]),
  (47, .cells true true 2 [.int .i64 (.ofNat 1), .int .i64 (.ofNat 1), .int .i64 (.ofNat 0), .int .i64 (.ofNat 0), .int .i64 (.ofNat 0), .int .i64 (.ofNat 0), .int .i64 (.ofNat 0), .int .i64 (.ofNat 0)]),
  (48, .cells true true 2 [.int .i64 (.ofNat 0), .int .i64 (.ofNat 0), .int .i64 (.ofNat 2), .int .i64 (.ofNat 1), .int .i64 (.ofNat 1), .int .i64 (.ofNat 4), .int .i64 (.ofNat 2), .int .i64 (.ofNat 1)]),
  (49, .cells true true 2 [.int .i64 (.ofNat 0), .int .i64 (.ofNat 0), .int .i64 (.ofNat 2), .int .i64 (.ofNat 2), .int .i64 (.ofNat 2), .int .i64 (.ofNat 2), .int .i64 (.ofNat 2), .int .i64 (.ofNat 2)])]
noncomputable def argS (n : Nat) : List AV := [.agg [.int .i64 (.ofNat 3), .int .i64 (.ofNat 1), .int .i64 (.ofNat 4), .int .i64 (.ofNat 0), .slice 0 0 5 none, .slice 1 0 3 none, .slice 2 0 3 none, .slice 3 0 4 none], .agg [.int .i64 (.ofNat 3), .int .i64 (.ofNat 1), .int .i64 (.ofNat 0), .int .i64 (.ofNat 4), .slice 4 0 7 none, .slice 5 0 7 none, .slice 6 0 7 none], .ptr 7 0, .slice 8 0 n (some n)]
end Go.Ev
end
