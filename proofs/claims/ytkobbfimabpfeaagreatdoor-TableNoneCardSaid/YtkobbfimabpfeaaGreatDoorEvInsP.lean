/- slices.Insert: its summary holds. -/
import Derived.Test.YtkobbfimabpfeaaGreatDoorEvSum1
import Derived.Lib.Overlaps
namespace Go.Ev

section
variable {P : Program}

theorem shape_of {w : World} {b : Nat} {cs : Array Value} {elem : TypeId} {fz : Nat × Nat} (h : w.heap[b]? = some (.cells cs elem fz)) : w.shape? b = some (elem, cs.size) := by
  simp [World.shape?, h]

theorem frozen_of {w : World} {a : Addr} {cs : Array Value} {elem : TypeId} {fz : Nat × Nat} (h : w.heap[a.block]? = some (.cells cs elem fz)) (hfz : ∀ i, ¬ (fz.1 ≤ i ∧ i < fz.2)) : w.frozen? a = false := by
  obtain ⟨lo, hi⟩ := fz
  have := hfz a.off
  simp only [World.frozen?, h]
  simp at this ⊢
  exact this

theorem overSum_ok {f : FuncId} {fn : Func} {tS tR e : TypeId} {i : TypeInfo} (hf : P.funcs[f]? = some fn) (hname : (fn.name == "runtime.NumGoroutine") = false) (hb : fn.body.isNone = true) (hn : Extern.findNext fn = none)
    (he : Extern.find fn = some (Extern.SlicesOverlaps.overlaps #[tS, tS] #[tR])) (ht : P.underlying tS = some (.slice e)) (hi : P.info? e = some i) : SumOK P f overSum := by
  intro args m v m' h ρ w cs V hv hfr
  unfold overSum at h
  split at h
  · rename_i b1 o1 l1 c1 b2 o2 l2 c2
    split at h
    · rename_i ro E N c sg E' N' c' g1 g2
      rw [bif2_eq] at h
      split at h
      · cases h
      · rename_i hne
        have hne : b1 ≠ b2 := fun e => hne (by rw [e]; exact Nat.beq_refl _)
        cases h
        obtain ⟨x, y, hcs, hx, hy⟩ := VRs.two hv
        have e : cs = #[x, y] := by apply Array.ext'; simpa using hcs
        subst e
        obtain ⟨L1, cs1, el1, fz1, q1, q2, q3, q4, q5, q6, q7, q8⟩ := V.sim.blk b1 _ g1
        obtain ⟨L2, cs2, el2, fz2, r1, r2, r3, r4, r5, r6, r7, r8⟩ := V.sim.blk b2 _ g2
        have hap : L1.blk ≠ L2.blk := (V.sim.sep b2 b1 _ _ L2 L1 g2 g1 (Ne.symm hne) rfl r1 q1).symm
        have fin : ∀ (la ca lb cb : Nat), (callFunc f #[.slice (some ⟨L1.blk, L1.base + o1, none⟩) la ca, .slice (some ⟨L2.blk, L2.base + o2, none⟩) lb cb]).run P w = .ok (.value (.bool false)) w := fun la ca lb cb => by
          rw [run_callFunc_extern hf hname hb hn he,
            Lib.run_overlaps_apart w tS tR e ht i.size (fun w => run_sizeOf hi w) ⟨L1.blk, L1.base + o1, none⟩ ⟨L2.blk, L2.base + o2, none⟩ la ca lb cb hap el1 el2 cs1.size cs2.size (shape_of q2) (shape_of r2) (by omega) (frozen_of q2 (q8 rfl)) (frozen_of q2 (q8 rfl))]
          rfl
        have main : ∀ (x y : Value), VR ρ (.slice b1 o1 l1 c1) x → VR ρ (.slice b2 o2 l2 c2) y → (callFunc f #[x, y]).run P w = .ok (.value (.bool false)) w := fun x y hx hy => by
          cases hx with
          | sliceE _ _ _ _ K hK => rw [q1] at hK; cases hK; cases hy with
            | sliceE _ _ _ _ K' hK' => rw [r1] at hK'; cases hK'; exact fin _ _ _ _
            | sliceO _ _ _ _ K' hK' => rw [r1] at hK'; cases hK'; exact fin _ _ _ _
          | sliceO _ _ _ _ K hK => rw [q1] at hK; cases hK; cases hy with
            | sliceE _ _ _ _ K' hK' => rw [r1] at hK'; cases hK'; exact fin _ _ _ _
            | sliceO _ _ _ _ K' hK' => rw [r1] at hK'; cases hK'; exact fin _ _ _ _
        exact .inr ⟨ρ, w, .bool false, main x y hx hy, V.refl, .bool _⟩
    · cases h
  · cases h

/-- A summary for one function alone. -/
theorem sumsI_ok {f : FuncId} (h : SumOK P f overSum) : SumsOK P (sumsI f) := by
  intro g s hs args m v m' he ρ w cs V hv hfr
  unfold sumsI at hs
  rw [bif2_eq] at hs
  split at hs
  · rename_i hg
    have hg : g = f := Nat.eq_of_beq_eq_true hg
    subst hg
    cases hs
    exact h args m v m' he ρ w cs V hv hfr
  · cases hs

/-! ### A name's value is set -/

theorem T.ex_set {α : Type} (v : Option α) : ∀ (i : Nat) (t : T α), ∃ t' : T α, ∀ j, t'.get j = if j = i then v else t.get j := by
  intro i
  induction i using Nat.strongRecOn with
  | _ i ih =>
    intro t
    have key : ∀ (u : Option α) (l r : T α), ∃ t' : T α, ∀ j, t'.get j = if j = i then v else (T.node u l r).get j := by
      intro u l r
      by_cases h0 : i = 0
      · subst h0
        refine ⟨.node v l r, fun j => ?_⟩
        by_cases hj : j = 0
        · subst hj; rfl
        · rw [T.get_succ _ _ _ _ hj, T.get_succ _ _ _ _ hj, if_neg hj]
      · by_cases h2 : i % 2 = 0
        · obtain ⟨r', hr⟩ := ih (i / 2) (by omega) r
          refine ⟨.node u l r', fun j => ?_⟩
          by_cases hj : j = 0
          · subst hj; rw [if_neg (by omega)]; rfl
          · rw [T.get_succ _ _ _ _ hj, T.get_succ _ _ _ _ hj, hr]
            by_cases h3 : j % 2 = 0
            · rw [if_pos h3, if_pos h3]
              by_cases h4 : j / 2 = i / 2
              · rw [if_pos h4, if_pos (by omega)]
              · rw [if_neg h4, if_neg (by omega)]
            · rw [if_neg h3, if_neg h3, if_neg (by omega)]
        · obtain ⟨l', hl⟩ := ih (i / 2) (by omega) l
          refine ⟨.node u l' r, fun j => ?_⟩
          by_cases hj : j = 0
          · subst hj; rw [if_neg (by omega)]; rfl
          · rw [T.get_succ _ _ _ _ hj, T.get_succ _ _ _ _ hj, hl]
            by_cases h3 : j % 2 = 0
            · rw [if_pos h3, if_pos h3, if_neg (by omega)]
            · rw [if_neg h3, if_neg h3]
              by_cases h4 : j / 2 = i / 2
              · rw [if_pos h4, if_pos (by omega)]
              · rw [if_neg h4, if_neg (by omega)]
    cases t with
    | node u l r => exact key u l r
    | leaf =>
      obtain ⟨t', h⟩ := key none .leaf .leaf
      refine ⟨t', fun j => ?_⟩
      rw [h]
      by_cases hj : j = 0
      · subst hj; rfl
      · rw [T.get_succ _ _ _ _ hj]; simp [T.get_leaf]

theorem TR.put {ρ : Ren} {nt : Nat} {t t1 : T AV} {a : Act} {d : Nat} {v : AV} {vc : Value} (hT : TR ρ nt t a.tmps) (hd : d < nt) (hv : VR ρ v vc) (h : ∀ u, t1.get u = if u = d then some v else t.get u) : TR ρ nt t1 (a.put (some d) vc).tmps := by
  refine ⟨by simp [Act.put, hT.size], fun i => ?_⟩
  rw [h]
  by_cases hi : i = d
  · subst hi
    rw [if_pos rfl, put_same (by rw [hT.size]; exact hd)]
    exact hv
  · rw [if_neg hi, put_other (fun e => hi (by cases e; rfl))]
    exact hT.rel i

/-- One operation of a list, that leaves the evaluator's memory alone. -/
theorem list_step {call : Call} (hcall : CallOK P call) {ops : Array Oper} {Q : Exit → Act → World → Prop} {o : Oper} {rest : List Oper} {nt : Nat} {t : T AV} {m : AMem} {ρ : Ren} {a : Act} {w : World} (V : View ρ m w) (hT : TR ρ nt t a.tmps)
    (hg : o.guard = none) {d : Nat} (hd : o.dst = some d) (hdn : d < nt) {v : AV} (h : opTab o.op P call t m = .mk v m)
    (hk : ∀ ρ' a' w' t', Step ρ m w ρ' m w' → TR ρ' nt t' a'.tmps → a'.defers = a.defers → (∀ u, t'.get u = if u = d then some v else t.get u) → wpList P ops Q rest a' w') : wpList P ops Q (o :: rest) a w := by
  obtain ⟨t', ht⟩ := T.ex_set (some v) d t
  have hfr : Fresh ρ m.next m.next := fun b h1 h2 => by omega
  refine wpList_plain hg fun K hK => op_wp hcall V (fun x _ => hT.ev x) h hfr fun ρ' w' vc S hv => hK _ _ ?_
  rw [hd]
  exact hk ρ' _ w' t' S ((hT.mono (S.sub hfr)).put hdn hv ht) rfl ht

end
end Go.Ev
