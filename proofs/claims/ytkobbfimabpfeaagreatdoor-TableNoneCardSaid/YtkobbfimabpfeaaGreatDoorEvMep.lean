/- What is noted of a call holds wherever memory is the like. -/
import Derived.Test.YtkobbfimabpfeaaGreatDoorEvInsP
import Derived.Test.YtkobbfimabpfeaaGreatDoorEvNdp
import Derived.Test.YtkobbfimabpfeaaGreatDoorEvMe
namespace Go.Ev

/-! ### Blocks and what is noted of them -/

noncomputable def FitB (p : PB) (x : Blk) : Prop := match p, x with
  | .cells ro sg E l, .cells ro' sg' E' n c => ro' = ro ∧ sg' = sg ∧ E' = E ∧ n = l.length ∧ ∀ i, i < l.length → (c.get i).getD .any = (l[i]?).getD .any
  | .map ro ck es, .map ro' ck' es' => ro' = ro ∧ ck' = ck ∧ es' = es
  | _, _ => False

noncomputable def Fits (g : Nat → Option Blk) (pl : Pat) : Prop := ∀ b, match lookP b pl with
  | none => g b = none
  | some p => ∃ x, g b = some x ∧ FitB p x

theorem Fits.of {g : Nat → Option Blk} {pl : Pat} (h : Fits g pl) {b : Nat} {x : Blk} (hb : g b = some x) : ∃ p, lookP b pl = some p ∧ FitB p x := by
  have := h b
  split at this
  · rw [hb] at this; cases this
  · rename_i p hp
    obtain ⟨y, e, f⟩ := this
    rw [hb] at e; cases e
    exact ⟨p, hp, f⟩
theorem Fits.there {g : Nat → Option Blk} {pl : Pat} (h : Fits g pl) {b : Nat} {p : PB} (hp : lookP b pl = some p) : ∃ x, g b = some x ∧ FitB p x := by
  have := h b
  rw [hp] at this; exact this

theorem FitB.wr {p : PB} {x : Blk} (h : FitB p x) : x.wr = p.wr := by
  cases p <;> cases x <;> first | exact h.elim | (obtain ⟨rfl, _⟩ := h; rfl)

theorem trie_ex (l : List AV) : ∀ n, ∃ c : T AV, ∀ i, i < n → c.get i = l[i]?
  | 0 => ⟨.leaf, fun i h => by omega⟩
  | n + 1 => by
    obtain ⟨c, h⟩ := trie_ex l n
    obtain ⟨c', h'⟩ := T.ex_set l[n]? n c
    refine ⟨c', fun i hi => ?_⟩
    rw [h']
    by_cases e : i = n
    · rw [if_pos e, e]
    · rw [if_neg e]; exact h i (by omega)

theorem fitB_ex (p : PB) : ∃ x, FitB p x := by
  cases p with
  | cells ro sg E l =>
    obtain ⟨c, h⟩ := trie_ex l l.length
    exact ⟨.cells ro sg E l.length c, rfl, rfl, rfl, rfl, fun i hi => by rw [h i hi]⟩
  | map ro ck es => exact ⟨.map ro ck es, rfl, rfl, rfl⟩

theorem fits_ex (pl : Pat) : ∃ g, Fits g pl := by
  refine ⟨fun b => (lookP b pl).map fun p => Classical.choose (fitB_ex p), fun b => ?_⟩
  split
  · rename_i h; simp only [h, Option.map_none]
  · rename_i p h; exact ⟨Classical.choose (fitB_ex p), by simp only [h, Option.map_some], Classical.choose_spec (fitB_ex p)⟩

/-- What holds of a block holds of another one of which the same is noted. -/
theorem BR.fit {ρ : Ren} {w : World} {b : Nat} {p : PB} {x y : Blk} (h : BR ρ w b x) (hx : FitB p x) (hy : FitB p y) : BR ρ w b y := by
  cases p with
  | cells ro sg E l =>
    cases x with
    | map _ _ _ => exact hx.elim
    | cells ro1 sg1 E1 n1 c1 =>
      cases y with
      | map _ _ _ => exact hy.elim
      | cells ro2 sg2 E2 n2 c2 =>
        obtain ⟨rfl, rfl, rfl, rfl, h1⟩ := hx
        obtain ⟨rfl, rfl, rfl, rfl, h2⟩ := hy
        obtain ⟨L, cs, elem, fz, a1, a2, a3, a4, a5, a6, a7⟩ := h
        exact ⟨L, cs, elem, fz, a1, a2, a3, a4, a5, fun i hi => by rw [h2 i hi, ← h1 i hi]; exact a6 i hi, a7⟩
  | map ro ck es =>
    cases x with
    | cells _ _ _ _ _ => exact hx.elim
    | map ro1 ck1 es1 =>
      cases y with
      | cells _ _ _ _ _ => exact hy.elim
      | map ro2 ck2 es2 =>
        obtain ⟨rfl, rfl, rfl⟩ := hx
        obtain ⟨rfl, rfl, rfl⟩ := hy
        exact h

/-! ### Names turned -/

noncomputable def bindS (s : Sg) (ρ : Ren) : Ren := fun b => (s b).bind ρ

theorem nm_inv {s : Sg} {x y : Nat} (h : nm s x y = true) : s x = some y := by
  unfold nm at h
  split at h
  · rename_i z hz; rw [hz, Nat.eq_of_beq_eq_true h]
  · cases h

theorem nm_loc {s : Sg} {ρ : Ren} {x y : Nat} (h : nm s x y = true) {L : Loc} (hL : ρ y = some L) : bindS s ρ x = some L := by
  unfold bindS; rw [nm_inv h]; exact hL

mutual
theorem leV_rel {s : Sg} {ρ : Ren} : ∀ (n : Nat) {a b : AV} {v : Value}, leV s n a b = true → VR ρ b v → VR (bindS s ρ) a v
  | 0, a, b, v, h, _ => by cases h
  | n + 1, a, b, v, h, hv => by
    unfold leV at h
    split at h <;> try simp only [bif2_eq] at h
    · exact .any v
    · cases hv; rw [eq_of_beq h]; exact .bool _
    · split at h
      · rename_i hk
        cases hv
        rw [kEq_eq hk]
        rw [iEq_eq] at h
        rw [eq_of_beq h]; exact .int _ _
      · cases h
    · rw [lEq_eq] at h
      rw [eq_of_beq h]
      cases hv with | str _ t ht => exact .str _ t ht
    · split at h
      · rename_i ho
        cases hv with | ptr _ _ L hL =>
        rw [Nat.eq_of_beq_eq_true ho]
        exact .ptr _ _ L (nm_loc h hL)
      · cases h
    · cases hv; exact .nilp
    · split at h
      · rename_i ho
        split at h
        · rename_i hl
          rw [Nat.eq_of_beq_eq_true ho, Nat.eq_of_beq_eq_true hl]
          cases hv with | sliceO _ _ _ c L hL h1 h2 => exact .sliceO _ _ _ c L (nm_loc h hL) h1 h2
        · cases h
      · cases h
    · split at h
      · rename_i ho
        split at h
        · rename_i hl
          split at h
          · rename_i hc
            rw [Nat.eq_of_beq_eq_true ho, Nat.eq_of_beq_eq_true hl, Nat.eq_of_beq_eq_true hc]
            cases hv with | sliceE _ _ _ _ L hL h1 => exact .sliceE _ _ _ _ L (nm_loc h hL) h1
          · cases h
        · cases h
      · cases h
    · cases hv; exact .nils
    · cases hv; exact .emp _ _
    · cases hv with | map _ L hL => exact .map _ L (nm_loc h hL)
    · cases hv; exact .nilm
    · cases hv; exact .nilf
    · split at h
      · rename_i hf
        cases hv with | fn _ _ cs hcs =>
        rw [Nat.eq_of_beq_eq_true hf]
        exact .fn _ _ cs (leVs_rel n h hcs)
      · cases h
    · split at h
      · rename_i ht
        cases hv with | iface _ _ c hc =>
        rw [Nat.eq_of_beq_eq_true ht]
        exact .iface _ _ c (leV_rel n h hc)
      · cases h
    · cases hv; exact .nili
    · cases hv with | agg _ cs hcs => exact .agg _ cs (leVs_rel n h hcs)
    · cases hv with | tup _ cs hcs => exact .tup _ cs (leVs_rel n h hcs)
    · cases h
theorem leVs_rel {s : Sg} {ρ : Ren} : ∀ (n : Nat) {a b : List AV} {v : List Value}, leV.leVs s n a b = true → VRs ρ b v → VRs (bindS s ρ) a v
  | 0, a, b, v, h, _ => by cases h
  | n + 1, [], [], _, _, .nil => .nil
  | n + 1, a :: l, b :: m, _, h, .cons _ c _ cs hc hcs => by
    have h : bif2 (leV s n a b) (leV.leVs s n l m) false = true := h
    rw [bif2_eq] at h
    split at h
    · rename_i h1; exact .cons _ c _ cs (leV_rel n h1 hc) (leVs_rel n h hcs)
    · cases h
  | n + 1, [], _ :: _, _, h, _ => by cases h
  | n + 1, _ :: _, [], _, h, _ => by cases h
end

theorem leCells_inv {s : Sg} {c : T AV} : ∀ {l : List AV} {i : Nat}, leCells s c l i = true → ∀ j, j < l.length → leV s fuelV ((l[j]?).getD .any) ((c.get (i + j)).getD .any) = true
  | [], i, _, j, hj => by simp at hj
  | a :: l, i, h, j, hj => by
    unfold leCells at h
    rw [bif2_eq] at h
    split at h
    · rename_i h1
      cases j with
      | zero => simpa using h1
      | succ j =>
        have := leCells_inv h j (by simpa using hj)
        rw [show Nat.succ i + j = i + (j + 1) from by omega] at this
        simpa using this
    · cases h

theorem takeKey_inv {k : AV} : ∀ {l : List Ent} {x : Ent} {r : List Ent}, takeKey k l = some (x, r) → ∃ a b, l = a ++ x :: b ∧ r = a ++ b
  | [], x, r, h => by cases h
  | e :: l, x, r, h => by
    unfold takeKey at h
    rw [bif2_eq] at h
    split at h
    · cases h; exact ⟨[], l, rfl, rfl⟩
    · split at h
      · rename_i y r' h1
        cases h
        obtain ⟨a, b, h2, h3⟩ := takeKey_inv h1
        exact ⟨e :: a, b, by rw [h2]; rfl, by rw [h3]; rfl⟩
      · cases h

theorem ERs.atL {ρ : Ren} {x : Ent} {b : List Ent} : ∀ {a : List Ent} {l : List MapEntry}, ERs ρ (a ++ x :: b) l → ∃ la y lb, l = la ++ y :: lb ∧ ERs ρ a la ∧ ER ρ x y ∧ ERs ρ b lb
  | [], _, .cons _ y _ l h hs => ⟨[], y, l, rfl, .nil, h, hs⟩
  | e :: a, _, .cons _ y _ l h hs => by
    obtain ⟨la, z, lb, h1, h2, h3, h4⟩ := ERs.atL hs
    exact ⟨y :: la, z, lb, by rw [h1]; rfl, .cons _ _ _ _ h h2, h3, h4⟩

theorem leEs_rel {s : Sg} {ρ : Ren} : ∀ {es m : List Ent} {l : List MapEntry}, leEs s es m = true → ERs ρ m l → ∃ l2, l2.Perm l ∧ ERs (bindS s ρ) es l2
  | [], [], _, _, .nil => ⟨[], .refl _, .nil⟩
  | [], _ :: _, _, h, _ => by cases h
  | e :: es, m, l, h, hl => by
    unfold leEs at h
    split at h
    · rename_i x r hx
      simp only [bif2_eq] at h
      split at h
      · rename_i h1
        split at h
        · rename_i h2
          split at h
          · rename_i h3
            obtain ⟨a, b, rfl, rfl⟩ := takeKey_inv hx
            obtain ⟨la, y, lb, rfl, r1, r2, r3⟩ := ERs.atL hl
            obtain ⟨l2, hp, hr⟩ := leEs_rel h (r1.append r3)
            refine ⟨y :: l2, (hp.cons y).trans List.perm_middle.symm, .cons _ _ _ _ ⟨leV_rel _ h1 r2.key, leV_rel _ h2 r2.val, fun n hn => ?_⟩ hr⟩
            rw [hn] at h3
            cases hxb : x.born with
            | none => rw [hxb] at h3; cases h3
            | some q =>
              rw [hxb] at h3
              have := Nat.eq_of_beq_eq_true (show Nat.beq n q = true from h3)
              rw [this]; exact r2.born q hxb
          · cases h
        · cases h
      · cases h
    · cases h

theorem leB_wr {s : Sg} {p : PB} {x : Blk} (h : leB s p x = true) (hp : p.wr = true) : x.wr = true := by
  unfold leB at h
  split at h
  · simp only [bif2_eq] at h
    split at h
    · rename_i h1
      simp only [PB.wr, Bool.not_eq_true'] at hp
      subst hp
      simpa [Blk.wr] using h1
    · cases h
  · simp only [bif2_eq] at h
    split at h
    · rename_i h1
      simp only [PB.wr, Bool.not_eq_true'] at hp
      subst hp
      simpa [Blk.wr] using h1
    · cases h
  · cases h

theorem leB_rel {s : Sg} {ρ : Ren} {w : World} {p : PB} {x y : Blk} {b c : Nat} (h : leB s p x = true) (hx : BR ρ w c x) (hs : s b = some c) (hy : FitB p y) : BR (bindS s ρ) w b y := by
  have hloc : ∀ L, ρ c = some L → bindS s ρ b = some L := fun L e => by unfold bindS; rw [hs]; exact e
  unfold leB at h
  split at h
  · rename_i ro sg E l ro' sg' E' n cc
    simp only [bif2_eq] at h
    split at h
    · rename_i h1
      split at h
      · rename_i h2
        split at h
        · rename_i h3
          split at h
          · rename_i h4
            have h4 : l.length ≤ n := by simpa [Nat.ble_eq] using h4
            cases y with
            | map _ _ _ => exact hy.elim
            | cells ro2 sg2 E2 n2 c2 =>
              obtain ⟨rfl, rfl, rfl, rfl, hc⟩ := hy
              obtain ⟨L, cs, elem, fz, a1, a2, a3, a4, a5, a6, a7, a8⟩ := hx
              refine ⟨L, cs, elem, fz, hloc L a1, a2, a3, by rw [a4, ← Nat.eq_of_beq_eq_true h3], by omega, fun i hi => ?_, fun e => a7 ?_, fun e => a8 ?_⟩
              · obtain ⟨v, e1, e2⟩ := a6 i (by omega)
                refine ⟨v, e1, ?_⟩
                rw [hc i hi]
                have := leCells_inv h i hi
                rw [Nat.zero_add] at this
                exact leV_rel _ this e2
              · subst e; simpa using h1
              · subst e; simpa using h2
          · cases h
        · cases h
      · cases h
    · cases h
  · rename_i ro ck es ro' ck' es'
    simp only [bif2_eq] at h
    split at h
    · split at h
      · rename_i h2
        cases y with
        | cells _ _ _ _ _ => exact hy.elim
        | map ro2 ck2 es2 =>
          obtain ⟨rfl, rfl, rfl⟩ := hy
          obtain ⟨L, mes, a1, a2, ⟨l, hp, hes⟩, hold, hnd⟩ := hx
          have hck := Nat.eq_of_beq_eq_true h2
          subst hck
          obtain ⟨l2, hp2, hr⟩ := leEs_rel h hes
          exact ⟨L, mes, hloc L a1, a2, ⟨l2, hp2.trans hp, hr⟩, hold, hnd⟩
      · cases h
    · cases h
  · cases h

theorem leP_inv {s : Sg} {t : T Blk} : ∀ {pl : Pat}, leP s t pl = true → ∀ b p, lookP b pl = some p → ∃ y x, s b = some y ∧ t.get y = some x ∧ leB s p x = true
  | [], _, b, p, h => by cases h
  | q :: pl, h, b, p, hp => by
    unfold leP at h
    rw [bif2_eq] at h
    cases hs : s q.1 with
    | none => rw [hs] at h; simp at h
    | some y =>
      cases ht : t.get y with
      | none => simp only [hs, ht] at h; simp at h
      | some x =>
        simp only [hs, ht] at h
        split at h
        · rename_i h1
          unfold lookP at hp
          rw [bif2_eq] at hp
          split at hp
          · rename_i e
            have e := Nat.eq_of_beq_eq_true e
            subst e
            cases hp
            exact ⟨y, x, hs, ht, h1⟩
          · exact leP_inv h b p hp
        · cases h

theorem nodupN_inv : ∀ {l : List Nat}, nodupN l = true → l.Nodup
  | [], _ => List.nodup_nil
  | a :: l, h => by
    unfold nodupN at h
    rw [bif2_eq] at h
    split at h
    · cases h
    · rename_i h1
      refine List.nodup_cons.2 ⟨fun hm => h1 ?_, nodupN_inv h⟩
      exact List.any_eq_true.2 ⟨a, hm, Nat.beq_refl a⟩

theorem images_mem {s : Sg} : ∀ {pl : Pat} {x : Nat × PB} {y : Nat}, x ∈ pl → s x.1 = some y → y ∈ images s pl
  | q :: pl, x, y, h, e => by
    unfold images
    rcases List.mem_cons.1 h with rfl | h
    · rw [e]; simp
    · split
      · exact List.mem_cons_of_mem _ (images_mem h e)
      · exact images_mem h e

theorem images_cons {s : Sg} {q : Nat × PB} {pl : Pat} {y : Nat} (e : s q.1 = some y) : images s (q :: pl) = y :: images s pl := by
  simp [images, e]

/-- One image, one name. -/
theorem images_inj {s : Sg} : ∀ {pl : Pat}, (images s pl).Nodup → ∀ x x' y, x ∈ pl → x' ∈ pl → s x.1 = some y → s x'.1 = some y → x = x'
  | q :: pl, h, x, x', y, hx, hx', e, e' => by
    have tail : (images s pl).Nodup := by
      unfold images at h
      split at h
      · exact (List.nodup_cons.1 h).2
      · exact h
    rcases List.mem_cons.1 hx with r | r <;> rcases List.mem_cons.1 hx' with r' | r'
    · rw [r, r']
    · rw [← r, images_cons e] at h
      exact absurd (images_mem r' e') (List.nodup_cons.1 h).1
    · rw [← r', images_cons e'] at h
      exact absurd (images_mem r e) (List.nodup_cons.1 h).1
    · exact images_inj tail x x' y r r' e e'

theorem lookP_mem : ∀ {pl : Pat} {b : Nat} {p : PB}, lookP b pl = some p → (b, p) ∈ pl
  | q :: pl, b, p, h => by
    unfold lookP at h
    rw [bif2_eq] at h
    split at h
    · rename_i e
      have e := Nat.eq_of_beq_eq_true e
      subst e; cases h; simp
    · exact List.mem_cons_of_mem _ (lookP_mem h)

theorem mem_lookP {s : Sg} {pl : Pat} (h : (images s pl).Nodup) {x : Nat × PB} {y : Nat} (hx : x ∈ pl) (e : s x.1 = some y) : lookP x.1 pl = some x.2 := by
  cases hl : lookP x.1 pl with
  | none =>
    exfalso
    have : ∀ {pl : Pat}, x ∈ pl → lookP x.1 pl ≠ none := fun {pl} => by
      induction pl with
      | nil => intro h; simp at h
      | cons q pl ih =>
        intro hm hn
        unfold lookP at hn
        rw [bif2_eq] at hn
        split at hn
        · cases hn
        · rename_i hne
          rcases List.mem_cons.1 hm with rfl | hm
          · exact hne (Nat.beq_refl _)
          · exact ih hm hn
    exact this hx hl
  | some p =>
    have := images_inj h (x.1, p) x y (lookP_mem hl) hx e e
    rw [← this]

/-- A view of what is noted. -/
theorem Sim.turned {s : Sg} {ρ : Ren} {t : T Blk} {w : World} {pl : Pat} {g : Nat → Option Blk} (V : Sim ρ t.get w) (hle : leP s t pl = true) (hnd : nodupN (images s pl) = true) (hg : Fits g pl) : Sim (bindS s ρ) g w := by
  refine ⟨fun b x hb => ?_, fun b b' x x' L L' hb hb' hne hw e e' => ?_⟩
  · obtain ⟨p, hp, hf⟩ := hg.of hb
    obtain ⟨y, z, h1, h2, h3⟩ := leP_inv hle b p hp
    exact leB_rel h3 (V.blk y z h2) h1 hf
  · obtain ⟨p, hp, hf⟩ := hg.of hb
    obtain ⟨p', hp', hf'⟩ := hg.of hb'
    obtain ⟨y, z, h1, h2, h3⟩ := leP_inv hle b p hp
    obtain ⟨y', z', h1', h2', h3'⟩ := leP_inv hle b' p' hp'
    refine V.sep y y' z z' L L' h2 h2' (fun q => hne ?_) (leB_wr h3 (by rw [← hf.wr]; exact hw)) ?_ ?_
    · subst q
      have := images_inj (nodupN_inv hnd) (b, p) (b', p') y (lookP_mem hp) (lookP_mem hp') h1 h1'
      exact (Prod.mk.inj this).1
    · simpa [bindS, h1] using e
    · simpa [bindS, h1'] using e'

end Go.Ev
