/- slices.Insert: where there is no room. -/
import Derived.Test.YtkobbfimabpfeaaGreatDoorEvIns3
namespace Go.Ev

section
variable {P : Program} {S : Sums}

/-- What the small memory has become: the new cells alone. -/
noncomputable def oneBlk (nb size n : Nat) (c : T AV) : Nat → Option Blk := fun j => if j = nb then some (.cells false true size n c) else none

/-- A call's answer: the new slice, of all that is known. -/
noncomputable def InsPost (ρ : Ren) (m : AMem) (w : World) (size len : Nat) (c1 : T AV) : Ending → World → Prop := fun e w' =>
  ∃ vc ρ', e = .returned vc ∧ GStep ρ m.t.get m.next w ρ' (oneBlk m.next size ((len + 1) * size) c1) (m.next + 1) w' ∧ VR ρ' (.slice m.next 0 (len + 1) none) vc

theorem elemsK_static {m : AMem} {b off n size : Nat} {cap : Option Nat} {k : List AV → OR} {v : AV} {m' : AMem} (h : elemsK m size n (.slice b off n cap) k = .mk v m') :
    ∃ ro sg E N c, m.t.get b = some (.cells ro sg E N c) ∧ off + n * size ≤ N ∧ k (cellsFrom c off (n * size)) = .mk v m' := by
  have h : bif2 (Nat.ble n n) (loadK m b off (Nat.mul n size) k) (.fail 80) = .mk v m' := h
  rw [bif2_eq, if_pos (by simp)] at h
  exact loadK_inv h

theorem set_same_loc {ρ : Ren} {b : Nat} {L : Loc} (h : ρ b = some L) {E : Nat} (hE : L.E = E) : ρ.set b ⟨L.blk, L.base + 0, L.csize, E⟩ = ρ := by
  funext x
  by_cases hx : x = b
  · subst hx; rw [Ren.set_same, h, ← hE]; rfl
  · rw [Ren.set_other _ _ _ hx]

theorem insGrow_ok {n : Nat} (hcall : CallOK P (callF P S (exec P S n))) {f : FuncId} (hcode : (codeOf P f).isSome = true) {size b off len : Nat} {i v : AV} {m : AMem} {k : List AV → OR} {r : AV} {m' : AMem} (h : insGrow P S n f size b off len i v m k = .mk r m') :
    ∃ l, k l = .mk r m' ∧ l.length = (len + 1) * size ∧ ∀ (ρ : Ren) (w : World) (cs : Array Value), View ρ m w → VRs ρ [.slice b off len (some len), i, v] cs.toList → ρ m.next = none → ∀ c1 : T AV, (∀ i, i < l.length → c1.get i = l[i]?) → Calls P f cs w (InsPost ρ m w size len c1) := by
  unfold insGrow at h
  cases hc : callF P S (exec P S n) f [.slice b off len (some len), i, v] m with
  | fail c => rw [hc] at h; cases h
  | mk r1 m1 =>
    rw [hc] at h
    cases r1 with
    | slice b' off' len' cap' =>
      cases cap' with
      | some cp => cases h
      | none =>
        replace h : bif2 (Nat.beq b' m.next && Nat.beq off' 0 && Nat.beq len' (Nat.succ len) && Nat.beq m1.next (Nat.succ m.next)) (ownK m1 b' size <| elemsK m1 size (Nat.succ len) (.slice b' 0 (Nat.succ len) none) k) (.fail 3115) = .mk r m' := h
        rw [bif2_eq] at h
        split at h
        · rename_i hq
          simp only [Bool.and_eq_true] at hq
          obtain ⟨⟨⟨q1, q2⟩, q3⟩, q4⟩ := hq
          have q1 := Nat.eq_of_beq_eq_true q1
          have q2 := Nat.eq_of_beq_eq_true q2
          have q3 := Nat.eq_of_beq_eq_true q3
          have q4 := Nat.eq_of_beq_eq_true q4
          subst q1 q2 q3
          obtain ⟨sg, N, c, hb, h⟩ := ownK_inv h
          obtain ⟨ro, sg', E, N', c', hb', hN, hk⟩ := elemsK_static h
          rw [hb] at hb'; cases hb'
          have hll : (cellsFrom c 0 (len.succ * size)).length = (len + 1) * size := cellsFrom_length _ _ _
          refine ⟨_, hk, hll, fun ρ w cs V hv hfr c1 hc1 => ?_⟩
          have hF : Fresh ρ m.next m1.next := fun x h1 h2 => by
            have : x = m.next := by omega
            rw [this]; exact hfr
          rcases hcall f _ m _ _ hc ρ w cs V hv hF with ⟨_, hcl⟩ | ⟨_, _, _, hr, _, _⟩
          · refine hcl.mono fun e w' hp => ?_
            obtain ⟨vc, ρ', he, st, hvc⟩ := hp
            subst he
            cases hvc with
            | sliceO _ _ _ cc L hL hle hE =>
              have V1 := st.view
              obtain ⟨L0, cs0, el0, fz0, w1, w2, w3, w4, w5, w6, w7⟩ := V1.sim.blk _ _ hb
              rw [hL] at w1; cases w1
              have hmul : (len + 1) * size ≤ cc * size := Nat.mul_le_mul_right _ hle
              have hEs : L.base + 0 + cc * size = L.csize := by rw [← w4]; exact hE
              have hs := seen_anew V1 (b1 := m.next) (d := 0) (hi := m1.next) hb hL (.inl ⟨rfl, rfl, rfl⟩) (n' := (len + 1) * size) (c' := c1) (g' := fun j => if j = m.next then some (.cells false true size ((len + 1) * size) c1) else if j = m.next then none else m1.t.get j) (fun j => rfl) (by omega) (fun cs2 el2 fz2 x1 x2 i hi => by
                rw [w2] at x1; cases x1
                have hi' : i < len.succ * size := hi
                obtain ⟨x, hx, hxv⟩ := w6 i (by omega)
                refine ⟨x, by simpa using hx, ?_⟩
                rw [hc1 i (by rw [hll]; exact hi), cellsFrom_get _ _ _ _ hi']
                simpa using hxv)
              rw [set_same_loc hL w4] at hs
              have hs := hs.less (g := oneBlk m.next size ((len + 1) * size) c1) (hi' := m.next + 1) (fun b x hx => by
                unfold oneBlk at hx
                split at hx
                · rename_i e; cases hx; simp [e]
                · cases hx) (fun b x hx => by
                unfold oneBlk at hx
                split at hx
                · omega
                · cases hx) q4
              exact ⟨_, ρ', rfl, st.trans hs, .sliceO _ _ _ cc L hL hle hE⟩
          · exfalso
            rw [codeOf_enter hcode] at hr
            cases hr
        · cases h
    | _ => cases h

end
end Go.Ev
