/- What is noted of a call: how it is shown, how it serves. -/
import Derived.Test.YtkobbfimabpfeaaGreatDoorEvMep
namespace Go.Ev

/-! ### The search for names hands on names, or gives up -/

section
variable {β : Type} {fx : Nat} {z : β}

theorem bindK_spec (x y : Nat) (g : T Nat) (todo : List Nat) (k : FK β) : bindK fx z x y g todo k = z ∨ ∃ g' l, bindK fx z x y g todo k = k g' l := by
  unfold bindK
  rw [bif2_eq]
  split
  · exact .inr ⟨_, _, rfl⟩
  · split
    · exact .inr ⟨_, _, rfl⟩
    · rcases T.setK_eq z (some y) g x fun g => k g (x :: todo) with h | ⟨g', _, h⟩
      · exact .inl h
      · exact .inr ⟨_, _, h⟩

mutual
theorem fV_spec : ∀ (n : Nat) (a b : AV) (g : T Nat) (todo : List Nat) (k : FK β), fV fx z n a b g todo k = z ∨ ∃ g' l, fV fx z n a b g todo k = k g' l
  | 0, _, _, _, _, _ => .inl rfl
  | n + 1, a, b, g, todo, k => by
    unfold fV
    split <;> first | exact bindK_spec _ _ _ _ _ | exact fVs_spec n _ _ _ _ _ | exact fV_spec n _ _ _ _ _ | exact .inr ⟨_, _, rfl⟩
theorem fVs_spec : ∀ (n : Nat) (a b : List AV) (g : T Nat) (todo : List Nat) (k : FK β), fV.fVs fx z n a b g todo k = z ∨ ∃ g' l, fV.fVs fx z n a b g todo k = k g' l
  | 0, _, _, _, _, _ => .inl rfl
  | n + 1, a :: l, b :: m, g, todo, k => by
    have e : fV.fVs fx z (n + 1) (a :: l) (b :: m) g todo k = fV fx z n a b g todo fun g todo => fV.fVs fx z n l m g todo k := rfl
    rw [e]
    rcases fV_spec n a b g todo fun g todo => fV.fVs fx z n l m g todo k with h | ⟨g', l', h⟩
    · exact .inl h
    · rw [h]; exact fVs_spec n l m g' l' k
  | n + 1, [], _, _, _, _ => .inr ⟨_, _, rfl⟩
  | n + 1, _ :: _, [], _, _, _ => .inr ⟨_, _, rfl⟩
end

theorem fCells_spec (c : T AV) : ∀ (l : List AV) (i : Nat) (g : T Nat) (todo : List Nat) (k : FK β), fCells fx z c l i g todo k = z ∨ ∃ g' l', fCells fx z c l i g todo k = k g' l'
  | [], _, _, _, _ => .inr ⟨_, _, rfl⟩
  | a :: l, i, g, todo, k => by
    have e : fCells fx z c (a :: l) i g todo k = fV fx z fuelV a ((c.get i).getD .any) g todo fun g todo => fCells fx z c l (Nat.succ i) g todo k := rfl
    rw [e]
    rcases fV_spec fuelV a ((c.get i).getD .any) g todo fun g todo => fCells fx z c l (Nat.succ i) g todo k with h | ⟨g', l', h⟩
    · exact .inl h
    · rw [h]; exact fCells_spec c l _ g' l' k

theorem fEs_spec : ∀ (l m : List Ent) (g : T Nat) (todo : List Nat) (k : FK β), fEs fx z l m g todo k = z ∨ ∃ g' l', fEs fx z l m g todo k = k g' l'
  | [], _, _, _, _ => .inr ⟨_, _, rfl⟩
  | e :: l, m, g, todo, k => by
    unfold fEs
    split
    · rename_i x m' _
      rcases fV_spec fuelV e.v x.v g todo fun g todo => fEs fx z l m' g todo k with h | ⟨g', l', h⟩
      · exact .inl h
      · rw [h]; exact fEs_spec l m' g' l' k
    · exact .inl rfl

theorem fB_spec (p : PB) (x : Blk) (g : T Nat) (todo : List Nat) (k : FK β) : fB fx z p x g todo k = z ∨ ∃ g' l', fB fx z p x g todo k = k g' l' := by
  unfold fB
  split
  · exact fCells_spec _ _ _ _ _ _
  · exact fEs_spec _ _ _ _ _
  · exact .inl rfl

theorem fAll_spec (pat : Pat) (t : T Blk) : ∀ (n : Nat) (g : T Nat) (todo : List Nat) (k : T Nat → β), fAll fx z pat t n g todo k = z ∨ ∃ g', fAll fx z pat t n g todo k = k g'
  | 0, _, _, _ => .inl rfl
  | n + 1, g, [], k => .inr ⟨g, rfl⟩
  | n + 1, g, b :: todo, k => by
    unfold fAll
    split
    · exact fAll_spec pat t n g todo k
    · rename_i p _
      split
      · exact .inl rfl
      · rename_i y _
        split
        · exact .inl rfl
        · rename_i x _
          rcases fB_spec p x g todo fun g todo => fAll fx z pat t n g todo k with h | ⟨g', l', h⟩
          · exact .inl h
          · rw [h]; exact fAll_spec pat t n g' l' k

theorem findS_spec (pat : Pat) (vs : List AV) (olds : List Nat) (t : T Blk) (ws : List AV) (k : T Nat → β) : findS fx z pat vs olds t ws k = z ∨ ∃ g, findS fx z pat vs olds t ws k = k g := by
  unfold findS
  rcases fVs_spec (fx := fx) (z := z) fuelV vs ws .leaf olds fun g todo => fAll fx z pat t 100000 g todo k with h | ⟨g', l', h⟩
  · exact .inl h
  · rw [h]; exact fAll_spec pat t 100000 g' l' k
end

/-! ### Blocks are laid, others given up -/

section
variable {β : Type} {z : β}

/-- A note of other words. -/
noncomputable def PB.map' (f : AV → AV) : PB → PB
  | .cells ro sg E l => .cells ro sg E (l.map f)
  | .map ro ck es => .map ro ck (es.map fun e => ⟨f e.k, f e.v, e.born⟩)

theorem putB_spec (f : AV → AV) (p : PB) (y : Nat) (t : T Blk) (k : T Blk → β) : putB z f p y t k = z ∨ ∃ t' X, (∀ j, t'.get j = if j = y then some X else t.get j) ∧ FitB (p.map' f) X ∧ putB z f p y t k = k t' := by
  cases p with
  | cells ro sg E l =>
    have e : putB z f (.cells ro sg E l) y t k = putK z (l.map f) 0 .leaf fun c => T.setK z (some (.cells ro sg E l.length c)) t y k := rfl
    rw [e]
    rcases putK_eq z (l.map f) 0 .leaf fun c => T.setK z (some (.cells ro sg E l.length c)) t y k with h | ⟨c, hc, h⟩
    · exact .inl h
    · rw [h]
      rcases T.setK_eq z (some (.cells ro sg E l.length c)) t y k with h | ⟨t', ht, h⟩
      · exact .inl h
      · refine .inr ⟨t', _, ht, ⟨rfl, rfl, rfl, by simp, fun i hi => ?_⟩, h⟩
        rw [hc, if_pos (by simpa using hi)]; simp
  | map ro ck es =>
    rcases T.setK_eq z (some (.map ro ck (es.map fun e => ⟨f e.k, f e.v, e.born⟩))) t y k with h | ⟨t', ht, h⟩
    · exact .inl h
    · exact .inr ⟨t', _, ht, ⟨rfl, rfl, rfl⟩, h⟩

theorem putP_spec (s : Sg) (f : AV → AV) : ∀ (l : Pat) (t : T Blk) (k : T Blk → β), putP z s f l t k = z ∨ ((images s l).Nodup → ∃ t', putP z s f l t k = k t' ∧ (∀ b, (∀ x, x ∈ l → s x.1 ≠ some b) → t'.get b = t.get b) ∧
    ∀ x, x ∈ l → ∃ y X, s x.1 = some y ∧ t'.get y = some X ∧ FitB (x.2.map' f) X)
  | [], t, k => .inr fun _ => ⟨t, rfl, fun _ _ => rfl, fun x h => by simp at h⟩
  | q :: l, t, k => by
    unfold putP
    cases hs : s q.1 with
    | none => exact .inl rfl
    | some y =>
      simp only
      rcases putB_spec (z := z) f q.2 y t fun t => putP z s f l t k with h | ⟨t1, X, h1, h2, h⟩
      · exact .inl h
      · rw [h]
        rcases putP_spec s f l t1 k with h3 | h3
        · exact .inl h3
        · refine .inr fun hnd => ?_
          rw [images_cons hs] at hnd
          obtain ⟨hny, hnd⟩ := List.nodup_cons.1 hnd
          obtain ⟨t', e, hold, hnew⟩ := h3 hnd
          refine ⟨t', e, fun b hb => ?_, fun x hx => ?_⟩
          · rw [hold b fun x hx => hb x (List.mem_cons_of_mem _ hx), h1, if_neg fun e => hb q (by simp) (by rw [hs, e])]
          · rcases List.mem_cons.1 hx with rfl | hx
            · refine ⟨y, X, hs, ?_, h2⟩
              rw [hold y fun x hx e => hny (images_mem hx e), h1, if_pos rfl]
            · exact hnew x hx

theorem dropW_spec (s : Sg) : ∀ (l : Pat) (t : T Blk) (k : T Blk → β), dropW z s l t k = z ∨ ∃ t', dropW z s l t k = k t' ∧ (∀ b, (∃ x, x ∈ l ∧ x.2.wr = true ∧ s x.1 = some b) → t'.get b = none) ∧
    (∀ b, (∀ x, x ∈ l → x.2.wr = true → s x.1 ≠ some b) → t'.get b = t.get b)
  | [], t, k => .inr ⟨t, rfl, fun b ⟨x, h, _⟩ => by simp at h, fun _ _ => rfl⟩
  | q :: l, t, k => by
    unfold dropW
    rw [bif2_eq]
    by_cases hw : q.2.wr = true
    · rw [if_pos hw]
      cases hs : s q.1 with
      | none => exact .inl rfl
      | some y =>
        simp only
        rcases T.setK_eq z none t y fun t => dropW z s l t k with h | ⟨t1, h1, h⟩
        · exact .inl h
        · rw [h]
          rcases dropW_spec s l t1 k with h3 | ⟨t', e, ha, hb⟩
          · exact .inl h3
          · refine .inr ⟨t', e, fun b ⟨x, hx, hxw, hxs⟩ => ?_, fun b hn => ?_⟩
            · by_cases hin : ∃ x, x ∈ l ∧ x.2.wr = true ∧ s x.1 = some b
              · exact ha b hin
              · rw [hb b fun x hx h1 h2 => hin ⟨x, hx, h1, h2⟩, h1]
                rcases List.mem_cons.1 hx with rfl | hx
                · rw [hs] at hxs; cases hxs; rw [if_pos rfl]
                · exact absurd ⟨x, hx, hxw, hxs⟩ hin
            · rw [hb b fun x hx => hn x (List.mem_cons_of_mem _ hx), h1, if_neg fun e => hn q (by simp) hw (by rw [hs, e])]
    · rw [if_neg hw]
      rcases dropW_spec s l t k with h3 | ⟨t', e, ha, hb⟩
      · exact .inl h3
      · refine .inr ⟨t', e, fun b ⟨x, hx, hxw, hxs⟩ => ?_, fun b hn => hb b fun x hx => hn x (List.mem_cons_of_mem _ hx)⟩
        rcases List.mem_cons.1 hx with rfl | hx
        · exact absurd hxw hw
        · exact ha b ⟨x, hx, hxw, hxs⟩
end

/-! ### Values under other names -/

mutual
theorem renV_rel {s : Sg} {ρ ρ' : Ren} (h : ∀ j y, s j = some y → ∀ L, ρ j = some L → ρ' y = some L) : ∀ (n : Nat) {a : AV} {v : Value}, VR ρ a v → VR ρ' (renV s n a) v
  | 0, _, _, _ => .any _
  | n + 1, _, _, hv => by
    cases hv with
    | any => exact .any _
    | bool b => exact .bool b
    | int k i => exact .int k i
    | str l t ht => exact .str l t ht
    | ptr b off L hL =>
      show VR ρ' (match s b with | some y => .ptr y off | none => .any) _
      cases hs : s b with
      | none => exact .any _
      | some y => exact .ptr y off L (h b y hs L hL)
    | nilp => exact .nilp
    | sliceE b off len c L hL hl =>
      show VR ρ' (match s b with | some y => .slice y off len (some c) | none => .any) _
      cases hs : s b with
      | none => exact .any _
      | some y => exact .sliceE y off len c L (h b y hs L hL) hl
    | sliceO b off len c L hL hl he =>
      show VR ρ' (match s b with | some y => .slice y off len none | none => .any) _
      cases hs : s b with
      | none => exact .any _
      | some y => exact .sliceO y off len c L (h b y hs L hL) hl he
    | nils => exact .nils
    | emp a c => exact .emp a c
    | map b L hL =>
      show VR ρ' (match s b with | some y => .map y | none => .any) _
      cases hs : s b with
      | none => exact .any _
      | some y => exact .map y L (h b y hs L hL)
    | nilm => exact .nilm
    | fn f caps cs hc => exact .fn f _ cs (renVs_rel h n hc)
    | nilf => exact .nilf
    | iface t v c hc => exact .iface t _ c (renV_rel h n hc)
    | nili => exact .nili
    | agg l cs hc => exact .agg _ cs (renVs_rel h n hc)
    | tup l cs hc => exact .tup _ cs (renVs_rel h n hc)
theorem renVs_rel {s : Sg} {ρ ρ' : Ren} (h : ∀ j y, s j = some y → ∀ L, ρ j = some L → ρ' y = some L) : ∀ (n : Nat) {l : List AV} {vs : List Value}, VRs ρ l vs → VRs ρ' (l.map (renV s n)) vs
  | _, _, _, .nil => .nil
  | n, _, _, .cons a c l cs hc hcs => .cons _ c _ cs (renV_rel h n hc) (renVs_rel h n hcs)
end

theorem renB_rel {s : Sg} {ρ ρ' : Ren} {w : World} {p : PB} {x X : Blk} {i b : Nat} (h : ∀ j y, s j = some y → ∀ L, ρ j = some L → ρ' y = some L) (hs : s i = some b) (hx : BR ρ w i x) (hf : FitB p x) (hF : FitB (p.map' (renV s fuelV)) X) : BR ρ' w b X := by
  cases p with
  | cells ro sg E l =>
    cases x with
    | map _ _ _ => exact hf.elim
    | cells ro1 sg1 E1 n1 c1 =>
      cases X with
      | map _ _ _ => exact hF.elim
      | cells ro2 sg2 E2 n2 c2 =>
        obtain ⟨rfl, rfl, rfl, rfl, h1⟩ := hf
        obtain ⟨rfl, rfl, rfl, rfl, h2⟩ := hF
        obtain ⟨L, cs, elem, fz, a1, a2, a3, a4, a5, a6, a7⟩ := hx
        refine ⟨L, cs, elem, fz, h i b hs L a1, a2, a3, a4, by simpa using a5, fun j hj => ?_, a7⟩
        have hj' : j < l.length := by simpa using hj
        obtain ⟨v, e1, e2⟩ := a6 j hj'
        refine ⟨v, e1, ?_⟩
        rw [h2 j hj]
        rw [h1 j hj'] at e2
        have e3 : l[j]? = some l[j] := by simp [hj']
        have e4 : (l.map (renV s fuelV))[j]? = some (renV s fuelV l[j]) := by simp [hj']
        rw [e4]
        rw [e3] at e2
        exact renV_rel h fuelV e2
  | map ro ck es =>
    cases x with
    | cells _ _ _ _ _ => exact hf.elim
    | map ro1 ck1 es1 =>
      cases X with
      | cells _ _ _ _ _ => exact hF.elim
      | map ro2 ck2 es2 =>
        obtain ⟨rfl, rfl, rfl⟩ := hf
        obtain ⟨rfl, rfl, rfl⟩ := hF
        obtain ⟨L, mes, a1, a2, ⟨l, hp, hes⟩, hold, hnd⟩ := hx
        refine ⟨L, mes, h i b hs L a1, a2, ⟨l, hp, ?_⟩, hold, hnd⟩
        clear hp a2
        induction hes with
        | nil => exact .nil
        | cons e y es ys he _ ih => exact .cons _ _ _ _ ⟨renV_rel h fuelV he.key, renV_rel h fuelV he.val, he.born⟩ ih

/-! ### What is noted holds -/

section
variable {P : Program}

noncomputable def MemoOK (P : Program) (f : FuncId) (e : Memo) : Prop := ∀ g0, Fits g0 e.pat → ∀ (ρ : Ren) (w : World) (cs : Array Value), Sim ρ g0 w → (∀ b x, g0 b = some x → b < e.n0) → VRs ρ e.args cs.toList → (∀ b, e.n0 ≤ b → ρ b = none) →
  (callFunc f cs).run P w = .ok (.enter f cs) w ∧ Calls P f cs w fun en w' => ∃ vc ρ' g1, en = .returned vc ∧ Fits g1 e.out ∧ GStep ρ g0 e.n0 w ρ' g1 e.n1 w' ∧ VR ρ' e.res vc ∧ ∀ b, e.n1 ≤ b → ρ' b = none

/-- From what a run comes to, to what is noted of it. -/
theorem noted_step {e : Memo} {t0 : T Blk} {g0 : Nat → Option Blk} (hle01 : e.n0 ≤ e.n1) (hdom : ∀ b x, t0.get b = some x → ∃ y, g0 b = some y ∧ y.wr = x.wr) (hdom' : ∀ b x, g0 b = some x → ∃ y, t0.get b = some y ∧ y.wr = x.wr)
    {ρ ρ1 : Ren} {w w' : World} {m1 : AMem} {v : AV} {vc : Value} (S : GStep ρ t0.get e.n0 w ρ1 m1.t.get m1.next w') (hv : VR ρ1 v vc) (htop : ∀ b, e.n0 ≤ b → ρ b = none) (h : asNoted e v m1 = true) :
    ∃ ρ' g1, Fits g1 e.out ∧ GStep ρ g0 e.n0 w ρ' g1 e.n1 w' ∧ VR ρ' e.res vc ∧ ∀ b, e.n1 ≤ b → ρ' b = none := by
  unfold asNoted at h
  obtain ⟨g, h⟩ : ∃ g, bif2 (leV (newS e.n0 e.n1 g) fuelV e.res v) (bif2 (leP (newS e.n0 e.n1 g) m1.t e.out) (nodupN (images (newS e.n0 e.n1 g) e.out)) false) false = true := by
    rcases findS_spec (fx := e.n0) (z := false) e.out [e.res] (e.out.map (·.1) |>.filter fun b => Nat.blt b e.n0) m1.t [v] fun g =>
        bif2 (leV (newS e.n0 e.n1 g) fuelV e.res v) (bif2 (leP (newS e.n0 e.n1 g) m1.t e.out) (nodupN (images (newS e.n0 e.n1 g) e.out)) false) false with q | ⟨g, q⟩
    · rw [q] at h; cases h
    · rw [q] at h; exact ⟨g, h⟩
  simp only [bif2_eq] at h
  split at h
  · rename_i h1
    split at h
    · rename_i h2
      have lowS : ∀ b, b < e.n0 → newS e.n0 e.n1 g b = some b := fun b hb => by
        have : Nat.blt b e.n0 = true := by simpa [Nat.blt_eq] using hb
        simp [newS, bif2_eq, this]
      have highS : ∀ b, e.n1 ≤ b → newS e.n0 e.n1 g b = none := fun b hb => by
        have q1 : Nat.blt b e.n0 = false := by rw [Bool.eq_false_iff]; intro q; simp [Nat.blt_eq] at q; omega
        have q2 : Nat.blt b e.n1 = false := by rw [Bool.eq_false_iff]; intro q; simp [Nat.blt_eq] at q; omega
        simp [newS, bif2_eq, q1, q2]
      have hlow : ∀ b, b < e.n0 → bindS (newS e.n0 e.n1 g) ρ1 b = ρ b := fun b hb => by
        unfold bindS; rw [lowS b hb]; exact S.ren b (by omega)
      have hhigh : ∀ b, e.n1 ≤ b → bindS (newS e.n0 e.n1 g) ρ1 b = none := fun b hb => by unfold bindS; rw [highS b hb]; rfl
      obtain ⟨g1, hg1⟩ := fits_ex e.out
      have hsim := Sim.turned S.sim h2 h hg1
      have far : ∀ b x L, g1 b = some x → bindS (newS e.n0 e.n1 g) ρ1 b = some L → ∃ y X, m1.t.get y = some X ∧ ρ1 y = some L ∧ (x.wr = true → X.wr = true) := fun b x L hb e1 => by
        obtain ⟨p, hp, hf⟩ := hg1.of hb
        obtain ⟨y, X, a1, a2, a3⟩ := leP_inv h2 b p hp
        exact ⟨y, X, a2, by simpa [bindS, a1] using e1, fun hw => leB_wr a3 (by rw [← hf.wr]; exact hw)⟩
      refine ⟨bindS (newS e.n0 e.n1 g) ρ1, g1, hg1, ⟨fun b hb => ?_, hle01, hsim, fun b x hb => ?_, fun b x L hb hw e1 => ?_, fun b x L hb e1 => ?_, fun k hk hn => ?_, S.size, S.os, S.tape, S.output⟩, leV_rel _ h1 hv, hhigh⟩
      · by_cases hlt : b < e.n0
        · exact hlow b hlt
        · rw [hhigh b (by omega), htop b (by omega)]
      · rcases Nat.lt_or_ge b e.n1 with hlt | hge
        · exact hlt
        · obtain ⟨p, hp, _⟩ := hg1.of hb
          obtain ⟨y, X, a1, _⟩ := leP_inv h2 b p hp
          rw [highS b hge] at a1; cases a1
      · obtain ⟨y, X, a1, a2, a3⟩ := far b x L hb e1
        rcases S.img y X L a1 (a3 hw) a2 with q | ⟨b0, x0, L0, q1, q2, q3, q4⟩
        · exact .inl q
        · obtain ⟨y0, r1, r2⟩ := hdom b0 x0 q1
          exact .inr ⟨b0, y0, L0, r1, by rw [r2]; exact q2, q3, q4⟩
      · obtain ⟨y, X, a1, a2, a3⟩ := far b x L hb e1
        rcases S.imgR y X L a1 a2 with q | ⟨b0, x0, L0, q1, q3, q4⟩
        · exact .inl q
        · obtain ⟨y0, r1, r2⟩ := hdom b0 x0 q1
          exact .inr ⟨b0, y0, L0, r1, q3, q4⟩
      · refine S.keeps k hk fun b x L hb hw e1 => ?_
        obtain ⟨y0, r1, r2⟩ := hdom b x hb
        exact hn b y0 L r1 (by rw [r2]; exact hw) e1
    · cases h
  · cases h

theorem PB.map_id (p : PB) : p.map' (fun v => v) = p := by
  cases p with
  | cells ro sg E l => simp [PB.map']
  | map ro ck es =>
    have : (es.map fun e => (⟨e.k, e.v, e.born⟩ : Ent)) = es := by
      have : (fun e : Ent => (⟨e.k, e.v, e.born⟩ : Ent)) = id := by funext e; rfl
      rw [this]; simp
    simp only [PB.map', this]

theorem images_some : ∀ pl : Pat, images some pl = pl.map (·.1)
  | [] => rfl
  | x :: l => by simp [images, images_some l]

theorem startP_inv {e : Memo} {k : T Blk → Bool} (hnd : nodupN (images some e.pat) = true) (h : startP false e k = true) : ∃ t, Fits t.get e.pat ∧ k t = true := by
  unfold startP at h
  rcases putP_spec (z := false) some (fun v => v) e.pat .leaf k with q | q
  · rw [q] at h; cases h
  · obtain ⟨t, q, hold, hnew⟩ := q (nodupN_inv hnd)
    rw [q] at h
    refine ⟨t, fun b => ?_, h⟩
    split
    · rename_i hl
      rw [hold b fun x hx e1 => ?_, T.get_leaf]
      have := mem_lookP (s := some) (nodupN_inv hnd) hx rfl
      rw [Option.some.inj e1, hl] at this; cases this
    · rename_i p hl
      obtain ⟨y, X, a1, a2, a3⟩ := hnew (b, p) (lookP_mem hl)
      cases a1
      rw [PB.map_id] at a3
      exact ⟨X, a2, a3⟩

theorem Fits.sim {g g' : Nat → Option Blk} {pl : Pat} (h : Fits g pl) (h' : Fits g' pl) {ρ : Ren} {w : World} (hs : Sim ρ g w) : Sim ρ g' w := by
  have tr : ∀ {b x}, g' b = some x → ∃ p y, FitB p x ∧ g b = some y ∧ FitB p y := fun {b x} hb => by
    obtain ⟨p, hp, hf⟩ := h'.of hb
    obtain ⟨y, hy, hfy⟩ := h.there hp
    exact ⟨p, y, hf, hy, hfy⟩
  refine ⟨fun b x hb => ?_, fun b b' x x' L L' hb hb' hne hw e e' => ?_⟩
  · obtain ⟨p, y, hf, hy, hfy⟩ := tr hb
    exact (hs.blk b y hy).fit hfy hf
  · obtain ⟨p, y, hf, hy, hfy⟩ := tr hb
    obtain ⟨p', y', hf', hy', hfy'⟩ := tr hb'
    exact hs.sep b b' y y' L L' hy hy' hne (by rw [hfy.wr, ← hf.wr]; exact hw) e e'

theorem Fits.dom {g g' : Nat → Option Blk} {pl : Pat} (h : Fits g pl) (h' : Fits g' pl) : ∀ b x, g b = some x → ∃ y, g' b = some y ∧ y.wr = x.wr := fun b x hb => by
  obtain ⟨p, hp, hf⟩ := h.of hb
  obtain ⟨y, hy, hfy⟩ := h'.there hp
  exact ⟨y, hy, by rw [hf.wr, hfy.wr]⟩

theorem memoRun_ok {S : Sums} (hm : P.follows .mixedOrders = true) (hS : SumsOK P S) {f : FuncId} (hs : S f = none) {n : Nat} {e : Memo} (h : memoRun P S n f e = true) : MemoOK P f e := by
  unfold memoRun at h
  simp only [bif2_eq] at h
  split at h
  · rename_i h1
    have h1 : e.n0 ≤ e.n1 := by simpa [Nat.ble_eq] using h1
    split at h
    · rename_i hnd
      obtain ⟨t, ht, h⟩ := startP_inv hnd h
      cases hr : call P S n f e.args ⟨e.n0, t⟩ with
      | fail c => rw [hr] at h; cases h
      | mk v m1 =>
        rw [hr] at h
        have h : asNoted e v m1 = true := h
        intro g0 hg0 ρ w cs hsim hwf hv htop
        have V : View ρ ⟨e.n0, t⟩ w := ⟨hg0.sim ht hsim, fun b x hb => by obtain ⟨y, hy, _⟩ := ht.dom hg0 b x hb; exact hwf b y hy⟩
        rcases call_sound hm hS n f e.args ⟨e.n0, t⟩ v m1 hr ρ w cs V hv (fun b hb _ => htop b hb) with ⟨he, hc⟩ | ⟨ρ', w', vc, hrun, _, _⟩
        · refine ⟨he, hc.mono fun en w' ⟨vc, ρ1, hen, st, hvc⟩ => ?_⟩
          obtain ⟨ρ', g1, a1, a2, a3, a4⟩ := noted_step h1 (ht.dom hg0) (hg0.dom ht) st hvc htop h
          exact ⟨vc, ρ', g1, hen, a1, a2, a3, a4⟩
        · exfalso
          unfold call callF at hr
          rw [hs] at hr
          cases hc : codeOf P f with
          | none => simp only [hc] at hr; cases hr
          | some fc =>
            rw [codeOf_enter (by rw [hc]; rfl)] at hrun
            cases hrun
    · cases h
  · cases h

theorem memoRunN_ok {S : Sums} {N : FuncId → Bool} (hm : P.follows .mixedOrders = true) (hS : SumsOK P S) {f : FuncId} {n hi : Nat} {e : Memo} (h : memoRunN P S N n hi f e = true) : MemoOK P f e := by
  unfold memoRunN at h
  simp only [bif2_eq] at h
  split at h
  · rename_i h1
    have h1 : e.n0 ≤ e.n1 := by simpa [Nat.ble_eq] using h1
    split at h
    · rename_i h2
      have h2 : e.n0 ≤ hi := by simpa [Nat.ble_eq] using h2
      split at h
      · rename_i hnd
        obtain ⟨t, ht, h⟩ := startP_inv hnd h
        intro g0 hg0 ρ w cs hsim hwf hv htop
        have V : View ρ ⟨e.n0, t⟩ w := ⟨hg0.sim ht hsim, fun b x hb => by obtain ⟨y, hy, _⟩ := ht.dom hg0 b x hb; exact hwf b y hy⟩
        obtain ⟨he, hc⟩ := nCall_sound hm hS h V hv (fun b hb _ => htop b hb) h2
        refine ⟨he, hc.mono fun en w' ⟨vc, hen, v, m1, its, ρ1, hk, st, _, _, hvc⟩ => ?_⟩
        obtain ⟨ρ', g1, a1, a2, a3, a4⟩ := noted_step h1 (ht.dom hg0) (hg0.dom ht) st hvc htop hk
        exact ⟨vc, ρ', g1, hen, a1, a2, a3, a4⟩
      · cases h
    · cases h
  · cases h

/-! ### What is noted serves -/


theorem boundS_inv {s : Sg} {top : Nat} : ∀ {n : Nat}, boundS s top n = true → ∀ b y, b < n → s b = some y → y < top
  | 0, _, b, y, h, _ => by omega
  | n + 1, h, b, y, hb, hs => by
    unfold boundS at h
    obtain ⟨h1, h⟩ := bif2_and h
    by_cases e : b = n
    · subst e
      rw [hs] at h1
      simpa [Nat.blt_eq] using h1
    · exact boundS_inv h b y (by omega) hs

theorem okOut_inv {n0 : Nat} {pat : Pat} : ∀ {l : Pat}, okOut n0 pat l = true → ∀ x, x ∈ l → (x.1 < n0 → ∃ p, lookP x.1 pat = some p ∧ p.wr = true) ∧ (n0 ≤ x.1 → x.2.wr = true)
  | q :: l, h, x, hx => by
    unfold okOut at h
    obtain ⟨h1, h⟩ := bif2_and h
    rcases List.mem_cons.1 hx with rfl | hx
    · rw [bif2_eq] at h1
      by_cases h2 : x.1 < n0
      · rw [if_pos (by simpa [Nat.blt_eq] using h2)] at h1
        cases hl : lookP x.1 pat with
        | none => rw [hl] at h1; cases h1
        | some p => rw [hl] at h1; exact ⟨fun _ => ⟨p, rfl, h1⟩, fun q => by omega⟩
      · rw [if_neg (by simpa [Nat.blt_eq] using h2)] at h1
        exact ⟨fun q => absurd q h2, fun _ => h1⟩
    · exact okOut_inv h x hx

theorem memoTry_ok {f : FuncId} {e : Memo} (he : MemoOK P f e) {args : List AV} {m : AMem} {no : OR} {v : AV} {m' : AMem} (h : memoTry e args m no = .mk v m') :
    no = .mk v m' ∨ ∀ (ρ : Ren) (w : World) (cs : Array Value), View ρ m w → VRs ρ args cs.toList → Fresh ρ m.next m'.next → (callFunc f cs).run P w = .ok (.enter f cs) w ∧ Calls P f cs w (Post ρ m w v m') := by
  unfold memoTry at h
  obtain q | ⟨g, q⟩ := findS_spec (fx := 0) (z := no) e.pat e.args [] m.t args fun g =>
    bif2 (leV.leVs (cutS e.n0 g) fuelV e.args args) (bif2 (leP (cutS e.n0 g) m.t e.pat) (bif2 (nodupN (images (cutS e.n0 g) e.pat)) (bif2 (boundS (cutS e.n0 g) m.next e.n0)
      (bif2 (nodupN (images (tau g e.n0 e.n1 m.next) e.out)) (bif2 (okOut e.n0 e.pat e.out)
      (dropW (.fail 3201) (cutS e.n0 g) e.pat m.t fun t => putP (.fail 3202) (tau g e.n0 e.n1 m.next) (renV (tau g e.n0 e.n1 m.next) fuelV) e.out t fun t =>
        fNat (Nat.add m.next (Nat.sub e.n1 e.n0)) fun nx => .mk (renV (tau g e.n0 e.n1 m.next) fuelV e.res) ⟨nx, t⟩)
      no) no) no) no) no) no
  · rw [q] at h; exact .inl h
  rw [q] at h
  clear q
  simp only [bif2_eq] at h
  split at h
  · rename_i hargs
    split at h
    · rename_i hpat
      split at h
      · rename_i hnd
        split at h
        · rename_i hbd
          split at h
          · rename_i hndo
            split at h
            · rename_i hok
              refine .inr ?_
              obtain ⟨s, hs⟩ : ∃ s, s = cutS e.n0 g := ⟨_, rfl⟩
              obtain ⟨τ, hτ⟩ : ∃ τ, τ = tau g e.n0 e.n1 m.next := ⟨_, rfl⟩
              have sHigh : ∀ b, e.n0 ≤ b → s b = none := fun b hb => by
                have q1 : Nat.blt b e.n0 = false := by rw [Bool.eq_false_iff]; intro q; simp [Nat.blt_eq] at q; omega
                rw [hs]; simp [cutS, bif2_eq, q1]
              have τLow : ∀ b, b < e.n0 → τ b = s b := fun b hb => by
                have q1 : Nat.blt b e.n0 = true := by simpa [Nat.blt_eq] using hb
                rw [hs, hτ]; simp [tau, cutS, bif2_eq, q1]
              have τMid : ∀ b, e.n0 ≤ b → b < e.n1 → τ b = some (m.next + (b - e.n0)) := fun b hb hb' => by
                have q1 : Nat.blt b e.n0 = false := by rw [Bool.eq_false_iff]; intro q; simp [Nat.blt_eq] at q; omega
                have q2 : Nat.blt b e.n1 = true := by simpa [Nat.blt_eq] using hb'
                rw [hτ]; simp [tau, bif2_eq, q1, q2]
              have τHigh : ∀ b, e.n0 ≤ b → e.n1 ≤ b → τ b = none := fun b hb hb' => by
                have q1 : Nat.blt b e.n0 = false := by rw [Bool.eq_false_iff]; intro q; simp [Nat.blt_eq] at q; omega
                have q2 : Nat.blt b e.n1 = false := by rw [Bool.eq_false_iff]; intro q; simp [Nat.blt_eq] at q; omega
                rw [hτ]; simp [tau, bif2_eq, q1, q2]
              rw [← hs] at hargs hpat hnd hbd h
              rw [← hτ] at hndo h
              clear hs hτ
              obtain q | ⟨t1, q, hdrop, hkeep⟩ := dropW_spec (z := OR.fail 3201) s e.pat m.t fun t => putP (.fail 3202) τ (renV τ fuelV) e.out t fun t => fNat (Nat.add m.next (Nat.sub e.n1 e.n0)) fun nx => .mk (renV τ fuelV e.res) ⟨nx, t⟩
              · rw [q] at h; cases h
              rw [q] at h
              clear q
              obtain q | q := putP_spec (z := OR.fail 3202) τ (renV τ fuelV) e.out t1 fun t => fNat (Nat.add m.next (Nat.sub e.n1 e.n0)) fun nx => .mk (renV τ fuelV e.res) ⟨nx, t⟩
              · rw [q] at h; cases h
              obtain ⟨t2, q, hold, hnew⟩ := q (nodupN_inv hndo)
              rw [q, fNat_eq] at h
              cases h
              intro ρ w cs V hv hf
              have hf : Fresh ρ m.next (m.next + (e.n1 - e.n0)) := hf
              obtain ⟨g0, hg0⟩ := fits_ex e.pat
              have hsim := Sim.turned V.sim hpat hnd hg0
              have hwf0 : ∀ b x, g0 b = some x → b < e.n0 := fun b x hb => by
                rcases Nat.lt_or_ge b e.n0 with hlt | hge
                · exact hlt
                · obtain ⟨p, hp, _⟩ := hg0.of hb
                  obtain ⟨y, X, a1, _⟩ := leP_inv hpat b p hp
                  rw [sHigh b hge] at a1; cases a1
              obtain ⟨hen, hc⟩ := he g0 hg0 (bindS s ρ) w cs hsim hwf0 (leVs_rel _ hargs hv) (fun b hb => by unfold bindS; rw [sHigh b hb]; rfl)
              refine ⟨hen, hc.mono fun en w' ⟨vc, ρ1, g1, hret, hg1, S, hvc, htop⟩ => ?_⟩
              have h01 := S.le
              -- the new names
              obtain ⟨ρ', hρ'⟩ : ∃ ρ' : Ren, ρ' = fun b => if m.next ≤ b ∧ b < m.next + (e.n1 - e.n0) then ρ1 (e.n0 + (b - m.next)) else ρ b := ⟨_, rfl⟩
              have low1 : ∀ b, b < e.n0 → ρ1 b = bindS s ρ b := fun b hb => S.ren b (by omega)
              have out' : ∀ b, ¬ (m.next ≤ b ∧ b < m.next + (e.n1 - e.n0)) → ρ' b = ρ b := fun b hb => by rw [hρ']; simp only [if_neg hb]
              have in' : ∀ b, m.next ≤ b → b < m.next + (e.n1 - e.n0) → ρ' b = ρ1 (e.n0 + (b - m.next)) := fun b h1 h2 => by rw [hρ']; simp only [if_pos (And.intro h1 h2)]
              have F1 : ∀ j y, τ j = some y → ρ' y = ρ1 j := fun j y hj => by
                rcases Nat.lt_or_ge j e.n0 with hlt | hge
                · rw [τLow j hlt] at hj
                  have := boundS_inv hbd j y hlt hj
                  rw [out' y (by omega), low1 j hlt]
                  simp [bindS, hj]
                · rcases Nat.lt_or_ge j e.n1 with h1 | h1
                  · rw [τMid j hge h1] at hj
                    cases hj
                    rw [in' _ (by omega) (by omega)]
                    congr 1; omega
                  · rw [τHigh j hge h1] at hj; cases hj
              have F1' : ∀ j y, τ j = some y → ∀ L, ρ1 j = some L → ρ' y = some L := fun j y hj L hL => by rw [F1 j y hj]; exact hL
              have hsub : Sub ρ ρ' := fun b L hL => by
                by_cases hb : m.next ≤ b ∧ b < m.next + (e.n1 - e.n0)
                · rw [hf b hb.1 hb.2] at hL; cases hL
                · rw [out' b hb]; exact hL
              -- a name's block behind
              have G : ∀ b X, t2.get b = some X → (∃ i p x1, (i, p) ∈ e.out ∧ τ i = some b ∧ g1 i = some x1 ∧ FitB p x1 ∧ FitB (p.map' (renV τ fuelV)) X) ∨
                  (m.t.get b = some X ∧ b < m.next ∧ (∀ x, x ∈ e.out → τ x.1 ≠ some b) ∧ ∀ x, x ∈ e.pat → x.2.wr = true → s x.1 ≠ some b) := fun b X hb => by
                by_cases hin : ∃ x, x ∈ e.out ∧ τ x.1 = some b
                · obtain ⟨x, hx, hxb⟩ := hin
                  obtain ⟨y, Y, a1, a2, a3⟩ := hnew x hx
                  rw [hxb] at a1; cases a1
                  rw [hb] at a2; cases a2
                  obtain ⟨x1, e1, e2⟩ := hg1.there (mem_lookP (nodupN_inv hndo) hx hxb)
                  exact .inl ⟨x.1, x.2, x1, hx, hxb, e1, e2, a3⟩
                · have hno : ∀ x, x ∈ e.out → τ x.1 ≠ some b := fun x hx q => hin ⟨x, hx, q⟩
                  rw [hold b hno] at hb
                  by_cases hd : ∃ x, x ∈ e.pat ∧ x.2.wr = true ∧ s x.1 = some b
                  · rw [hdrop b hd] at hb; cases hb
                  · have hd' : ∀ x, x ∈ e.pat → x.2.wr = true → s x.1 ≠ some b := fun x h1 h2 h3 => hd ⟨x, h1, h2, h3⟩
                    rw [hkeep b hd'] at hb
                    exact .inr ⟨hb, V.wf b X hb, hno, hd'⟩
              -- noted blocks that may be written, in the memory
              have W : ∀ i x0 L, g0 i = some x0 → x0.wr = true → bindS s ρ i = some L → ∃ p y Y, (i, p) ∈ e.pat ∧ p.wr = true ∧ s i = some y ∧ m.t.get y = some Y ∧ Y.wr = true ∧ ρ y = some L := fun i x0 L hi hw hL => by
                obtain ⟨p, hp, hfp⟩ := hg0.of hi
                obtain ⟨y, Y, a1, a2, a3⟩ := leP_inv hpat i p hp
                exact ⟨p, y, Y, lookP_mem hp, by rw [← hfp.wr]; exact hw, a1, a2, leB_wr a3 (by rw [← hfp.wr]; exact hw), by simpa [bindS, a1] using hL⟩
              have oldLoc : ∀ b X L, m.t.get b = some X → ρ' b = some L → ρ b = some L ∧ L.blk < w.heap.size := fun b X L hb hL => by
                obtain ⟨L0, e1, e2⟩ := (V.sim.blk b X hb).loc
                have := hsub _ _ e1
                rw [hL] at this; cases this
                exact ⟨e1, e2⟩
              -- a block of what comes of it lies in a new block, or in one that may be written
              have lies : ∀ i p x1 b L, (i, p) ∈ e.out → τ i = some b → g1 i = some x1 → FitB p x1 → ρ' b = some L → w.heap.size ≤ L.blk ∨ ∃ p0 i0 y0 Y L0, (i0, p0) ∈ e.pat ∧ p0.wr = true ∧ s i0 = some y0 ∧ m.t.get y0 = some Y ∧ Y.wr = true ∧ ρ y0 = some L0 ∧ L0.blk = L.blk := fun i p x1 b L hm hb h1 hfp hL => by
                have hρ1 : ρ1 i = some L := by rw [← F1 i b hb]; exact hL
                obtain ⟨o1, o2⟩ := okOut_inv hok (i, p) hm
                rcases Nat.lt_or_ge i e.n0 with hlt | hge
                · obtain ⟨p0, hp0, hw0⟩ := o1 hlt
                  obtain ⟨x0, hx0, hf0⟩ := hg0.there hp0
                  obtain ⟨p2, y, Y, a1, a2, a3, a4, a5, a6⟩ := W i x0 L hx0 (by rw [hf0.wr]; exact hw0) (by rw [← low1 i hlt]; exact hρ1)
                  exact .inr ⟨p2, i, y, Y, L, a1, a2, a3, a4, a5, a6, rfl⟩
                · rcases S.img i x1 L h1 (by rw [hfp.wr]; exact o2 hge) hρ1 with q | ⟨i0, x0, L0, q1, q2, q3, q4⟩
                  · exact .inl q
                  · obtain ⟨p2, y, Y, a1, a2, a3, a4, a5, a6⟩ := W i0 x0 L0 q1 q2 q3
                    exact .inr ⟨p2, i0, y, Y, L0, a1, a2, a3, a4, a5, a6, q4⟩
              have hstep : GStep ρ m.t.get m.next w ρ' t2.get (m.next + (e.n1 - e.n0)) w' := by
                refine ⟨fun b hb => out' b hb, by omega, ⟨fun b X hb => ?_, fun b b' X X' L L' hb hb' hne hw e1 e1' => ?_⟩, fun b X hb => ?_, fun b X L hb hw e1 => ?_, fun b X L hb e1 => ?_, fun k hk hn => ?_, S.size, S.os, S.tape, S.output⟩
                · rcases G b X hb with ⟨i, p, x1, hm, hτ, h1, hfp, hfX⟩ | ⟨hb, hlt, _, hd⟩
                  · exact renB_rel F1' hτ (S.sim.blk i x1 h1) hfp hfX
                  · refine (V.sim.blk b X hb).mono hsub fun L hL => S.keeps _ ?_ fun i x0 L0 hi hw hL0 q => ?_
                    · obtain ⟨L1, e1, e2⟩ := (V.sim.blk b X hb).loc
                      rw [hL] at e1; cases e1; exact e2
                    · obtain ⟨p2, y, Y, a1, a2, a3, a4, a5, a6⟩ := W i x0 L0 hi hw hL0
                      exact V.sim.sep y b Y X L0 L a4 hb (fun q2 => hd (i, p2) a1 a2 (by rw [a3, q2])) a5 a6 hL q
                · rcases G b X hb with ⟨i, p, x1, hm, hτ, h1, hfp, hfX⟩ | ⟨hb, hlt, _, hd⟩ <;> rcases G b' X' hb' with ⟨i', p', x1', hm', hτ', h1', hfp', hfX'⟩ | ⟨hb', hlt', _, hd'⟩
                  · have hXw : x1.wr = true := by
                      rw [hfp.wr]; rw [hfX.wr] at hw
                      cases p <;> exact hw
                    refine S.sim.sep i i' x1 x1' L L' h1 h1' (fun q => hne ?_) hXw (by rw [← F1 i b hτ]; exact e1) (by rw [← F1 i' b' hτ']; exact e1')
                    subst q; rw [hτ] at hτ'; exact Option.some.inj hτ'
                  · obtain ⟨o1, o2⟩ := oldLoc b' X' L' hb' e1'
                    rcases lies i p x1 b L hm hτ h1 hfp e1 with q | ⟨p0, i0, y0, Y, L0, a1, a2, a3, a4, a5, a6, a7⟩
                    · omega
                    · rw [← a7]
                      exact V.sim.sep y0 b' Y X' L0 L' a4 hb' (fun q => hd' (i0, p0) a1 a2 (by rw [a3, q])) a5 a6 o1
                  · obtain ⟨o1, o2⟩ := oldLoc b X L hb e1
                    rcases lies i' p' x1' b' L' hm' hτ' h1' hfp' e1' with q | ⟨p0, i0, y0, Y, L0, a1, a2, a3, a4, a5, a6, a7⟩
                    · omega
                    · rw [← a7]
                      exact V.sim.sep b y0 X Y L L0 hb a4 (fun q => hd (i0, p0) a1 a2 (by rw [a3, q])) hw o1 a6
                  · exact V.sim.sep b b' X X' L L' hb hb' hne hw (oldLoc b X L hb e1).1 (oldLoc b' X' L' hb' e1').1
                · rcases G b X hb with ⟨i, p, x1, hm, hτ, h1, hfp, hfX⟩ | ⟨hb, hlt, _, hd⟩
                  · have hi : i < e.n1 := S.wf i x1 h1
                    rcases Nat.lt_or_ge i e.n0 with hlt | hge
                    · rw [τLow i hlt] at hτ
                      have := boundS_inv hbd i b hlt hτ
                      omega
                    · rw [τMid i hge hi] at hτ
                      have := Option.some.inj hτ
                      omega
                  · omega
                · rcases G b X hb with ⟨i, p, x1, hm, hτ, h1, hfp, hfX⟩ | ⟨hb, hlt, _, hd⟩
                  · rcases lies i p x1 b L hm hτ h1 hfp e1 with q | ⟨p0, i0, y0, Y, L0, a1, a2, a3, a4, a5, a6, a7⟩
                    · exact .inl q
                    · exact .inr ⟨y0, Y, L0, a4, a5, a6, a7⟩
                  · exact .inr ⟨b, X, L, hb, hw, (oldLoc b X L hb e1).1, rfl⟩
                · rcases G b X hb with ⟨i, p, x1, hm, hτ, h1, hfp, hfX⟩ | ⟨hb, hlt, _, hd⟩
                  · rcases lies i p x1 b L hm hτ h1 hfp e1 with q | ⟨p0, i0, y0, Y, L0, a1, a2, a3, a4, a5, a6, a7⟩
                    · exact .inl q
                    · exact .inr ⟨y0, Y, L0, a4, a6, a7⟩
                  · exact .inr ⟨b, X, L, hb, (oldLoc b X L hb e1).1, rfl⟩
                · refine S.keeps k hk fun i x0 L hi hw hL q => ?_
                  obtain ⟨p2, y, Y, a1, a2, a3, a4, a5, a6⟩ := W i x0 L hi hw hL
                  exact hn y Y L a4 a5 a6 q
              exact ⟨vc, ρ', hret, hstep, renV_rel F1' _ hvc⟩
            · exact .inl h
          · exact .inl h
        · exact .inl h
      · exact .inl h
    · exact .inl h
  · exact .inl h

/-- A summary with what is noted ahead of it. -/
theorem memoSum_ok {f : FuncId} {e : Memo} (he : MemoOK P f e) {no : List AV → AMem → OR} (hno : SumOK P f no) : SumOK P f fun args m => memoTry e args m (no args m) := by
  intro args m v m' h ρ w cs V hv hf
  rcases memoTry_ok he h with h | h
  · exact hno args m v m' h ρ w cs V hv hf
  · exact .inl (h ρ w cs V hv hf)

end
end Go.Ev
