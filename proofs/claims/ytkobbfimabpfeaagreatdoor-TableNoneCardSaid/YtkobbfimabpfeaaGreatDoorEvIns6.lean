/- slices.Insert: its summary holds. -/
import Derived.Test.YtkobbfimabpfeaaGreatDoorEvIns5
namespace Go.Ev

section
variable {P : Program} {S : Sums}

theorem twoK_inv {m : AMem} {b vb : Nat} {k : AMem → OR} {v : AV} {m' : AMem} (h : twoK m b vb k = .mk v m') :
    ∃ x y m2, m.t.get b = some x ∧ m.t.get vb = some y ∧ m2.next = m.next ∧ (∀ j, m2.t.get j = if j = vb then some y else if j = b then some x else none) ∧ k m2 = .mk v m' := by
  unfold twoK at h
  split at h
  · rename_i x y hx hy
    rcases T.setK_eq (OR.fail 3117) (some x) (T.leaf : T Blk) b (fun t => T.setK (.fail 3118) (some y) t vb fun t => k ⟨m.next, t⟩) with e | ⟨t1, h1, e⟩
    · rw [e] at h; cases h
    · rw [e] at h
      rcases T.setK_eq (OR.fail 3118) (some y) t1 vb (fun t => k ⟨m.next, t⟩) with e2 | ⟨t2, h2, e2⟩
      · rw [e2] at h; cases h
      · rw [e2] at h
        exact ⟨x, y, ⟨m.next, t2⟩, hx, hy, rfl, fun j => by show t2.get j = _; rw [h2, h1]; rfl, h⟩
  · cases h

theorem insertSum_ok (hm : P.follows .mixedOrders = true) (hS : SumsOK P S) {n : Nat} {f : FuncId} {fn : Func} {code : Code} {p : InsParts} {st e : TypeId} {ei : TypeInfo} (hcode : codeOf P f = some (fn, code)) (H : InsCode P fn code p st e ei) (hp : insParts code = some p) (hnt : 95 ≤ nTmps fn 3)
    {size : Nat} (hsz : 0 < size) : SumOK P f (insertSum P S n f size) := by
  intro args m v m' h ρ w cs V hv hfr
  have hcall := call_ok hS (code_ok hm hS n).1
  obtain ⟨hfn, hbody, _⟩ := codeOf_inv hcode
  unfold insertSum at h
  split at h
  · rename_i b off len kk i vb voff vl vc
    rw [bif2_eq] at h
    split at h
    · rw [hcode] at h
      have h : insMid P S n f (fn, code) size b off len (.int kk (.ofNat i)) vb (.slice vb voff vl vc) m = .mk v m' := h
      unfold insMid at h
      simp only [hp] at h
      rw [bif2_eq] at h
      split at h
      · cases h
      · obtain ⟨x, y, m2, hx, hy, hm2, hg2, h⟩ := twoK_inv h
        have hc : (codeOf P f).isSome = true := by rw [hcode]; rfl
        obtain ⟨l1, h, hl1, grow⟩ := insGrow_ok hcall hc h
        obtain ⟨l2, h, hl2, shift⟩ := insShift_ok hm hS hfn hbody H hnt hsz h
        rw [bif2_eq] at h
        split at h
        · rename_i heq
          have heq := (eqV_both 1000).2 _ _ heq
          subst heq
          rcases T.setK_eq (OR.fail 3122) none m.t b (fun t => T.setK (.fail 3123) none t vb fun t => growA size l1 (Nat.succ len) ⟨m.next, t⟩) with e1 | ⟨t1, ht1, e1⟩
          · rw [e1] at h; cases h
          rw [e1] at h
          rcases T.setK_eq (OR.fail 3123) none t1 vb (fun t => growA size l1 (Nat.succ len) ⟨m.next, t⟩) with e2 | ⟨t2, ht2, e2⟩
          · rw [e2] at h; cases h
          rw [e2] at h
          obtain ⟨m3, c1, hn3, hg3, hc3, hk3⟩ := newBlk_inv h
          cases hk3
          have hn3 : m'.next = m.next + 1 := hn3
          have sub2 : ∀ j z, m2.t.get j = some z → m.t.get j = some z := fun j z hz => by
            rw [hg2] at hz
            split at hz
            · rename_i e; rw [e, ← hz]; exact hy
            · split at hz
              · rename_i e; rw [e, ← hz]; exact hx
              · cases hz
          have V2 : View ρ m2 w := ⟨V.sim.less sub2, fun j z hz => by rw [hm2]; exact V.wf j z (sub2 j z hz)⟩
          have hnone : ρ m2.next = none := by rw [hm2]; exact hfr _ (Nat.le_refl _) (by omega)
          have fin : Calls P f cs w (InsPost ρ m2 w size len c1) := by
            cases hcs : cs.toList with
            | nil => rw [hcs] at hv; cases hv
            | cons a l =>
              rw [hcs] at hv
              cases hv with
              | cons _ _ _ _ ha hrest =>
                cases ha with
                | sliceO _ _ _ cc L hL hle hE =>
                  by_cases q : cc = len
                  · subst q
                    exact grow ρ w cs V2 (by rw [hcs]; exact .cons _ _ _ _ (.sliceE _ _ _ _ L hL (Nat.le_refl _)) hrest) hnone c1 hc3
                  · exact shift ρ w cs L cc V2 (by rw [hcs]; exact .cons _ _ _ _ (.sliceO _ _ _ _ L hL hle hE) hrest) hL (by omega) hE hnone c1 hc3
          refine .inl ⟨codeOf_enter hc _ _, fin.mono fun e w' hpost => ?_⟩
          obtain ⟨vcx, ρ', he, hs, hvc⟩ := hpost
          rw [hm2] at hs hvc
          have B : GStep ρ m.t.get m.next w ρ m.t.get (m.next + 1) w :=
            ⟨fun _ _ => rfl, by omega, V.sim, fun j z hz => by have := V.wf j z hz; omega, fun j z L q1 q2 q3 => .inr ⟨j, z, L, q1, q2, q3, rfl⟩, fun j z L q1 q3 => .inr ⟨j, z, L, q1, q3, rfl⟩, fun _ _ _ => rfl, Nat.le_refl _, rfl, rfl, rfl⟩
          have X := B.extend hs sub2 (Nat.le_refl _) (Nat.le_refl _) (fun b h1 h2 => hfr b h1 (by omega))
          have Y := X.less (g := m'.t.get) (hi' := m'.next) (fun j z hz => by
            rw [hg3] at hz
            split at hz
            · rename_i e
              have e : j = m.next := e
              cases hz
              refine over_new ?_
              unfold oneBlk
              rw [if_pos e, hl1]
            · rename_i e
              have e : j ≠ m.next := e
              have hz : t2.get j = some z := hz
              rw [ht2, ht1] at hz
              split at hz
              · cases hz
              · rename_i hjv
                split at hz
                · cases hz
                · rename_i hjb
                  rw [over_old (by unfold oneBlk; rw [if_neg e]) (by rw [hg2, if_neg hjv, if_neg hjb])]
                  exact hz) (fun j z hz => by
            rw [hg3] at hz
            split at hz
            · rename_i e
              have e : j = m.next := e
              omega
            · have hz : t2.get j = some z := hz
              rw [ht2, ht1] at hz
              split at hz
              · cases hz
              · split at hz
                · cases hz
                · have := V.wf j z hz; omega) hn3.symm
          exact ⟨vcx, ρ', he, Y, hvc⟩
        · cases h
    · exact hcall _ _ _ _ _ h ρ w cs V hv hfr
  · exact hcall _ _ _ _ _ h ρ w cs V hv hfr

end
end Go.Ev
