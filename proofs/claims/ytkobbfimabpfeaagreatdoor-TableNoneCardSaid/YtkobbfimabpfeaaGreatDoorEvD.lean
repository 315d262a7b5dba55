/- Memory: what the evaluator's loads, stores and new blocks are in a world. -/
import Derived.Test.YtkobbfimabpfeaaGreatDoorEvC
import Derived.Laws.Append
import Derived.Laws.Tables
import Derived.Laws.StructEq
namespace Go.Ev

structure View (ρ : Ren) (m : AMem) (w : World) : Prop where
  sim : Sim ρ m.t.get w
  wf : ∀ b x, m.t.get b = some x → b < m.next

theorem GStep.view {ρ ρ' : Ren} {m m' : AMem} {w w' : World} (h : Step ρ m w ρ' m' w') : View ρ' m' w' := ⟨h.sim, h.wf⟩
theorem View.refl {ρ : Ren} {m : AMem} {w : World} (h : View ρ m w) : Step ρ m w ρ m w := GStep.refl h.sim h.wf

theorem addr_add (B o i : Nat) : (⟨B, o, none⟩ : Addr).add i = ⟨B, o + i, none⟩ := by
  unfold Addr.add; split
  · rename_i h; subst h; rfl
  · rfl

/-! ### Kinds of values -/

section
variable {γ : Type} (d : γ)
theorem onPtr_inv {a : AV} {h : Nat → Nat → γ} {r : γ} (e : a.onPtr h d = r) (hd : d ≠ r) : ∃ b o, a = .ptr b o ∧ h b o = r := by
  cases a <;> first | exact absurd e hd | exact ⟨_, _, rfl, e⟩
theorem onInt_inv {a : AV} {h : IntKind → Int → γ} {r : γ} (e : a.onInt h d = r) (hd : d ≠ r) : ∃ b o, a = .int b o ∧ h b o = r := by
  cases a <;> first | exact absurd e hd | exact ⟨_, _, rfl, e⟩
theorem onBool_inv {a : AV} {h : Bool → γ} {r : γ} (e : a.onBool h d = r) (hd : d ≠ r) : ∃ b, a = .bool b ∧ h b = r := by
  cases a <;> first | exact absurd e hd | exact ⟨_, rfl, e⟩
theorem onStr_inv {a : AV} {h : List Nat → γ} {r : γ} (e : a.onStr h d = r) (hd : d ≠ r) : ∃ b, a = .str b ∧ h b = r := by
  cases a <;> first | exact absurd e hd | exact ⟨_, rfl, e⟩
theorem onSlice_inv {a : AV} {h : Nat → Nat → Nat → Option Nat → γ} {r : γ} (e : a.onSlice h d = r) (hd : d ≠ r) : ∃ b o l c, a = .slice b o l c ∧ h b o l c = r := by
  cases a <;> first | exact absurd e hd | exact ⟨_, _, _, _, rfl, e⟩
theorem onFn_inv {a : AV} {h : FuncId → List AV → γ} {r : γ} (e : a.onFn h d = r) (hd : d ≠ r) : ∃ f l, a = .fn f l ∧ h f l = r := by
  cases a <;> first | exact absurd e hd | exact ⟨_, _, rfl, e⟩
theorem onAgg_inv {a : AV} {h : List AV → γ} {r : γ} (e : a.onAgg h d = r) (hd : d ≠ r) : ∃ l, a = .agg l ∧ h l = r := by
  cases a <;> first | exact absurd e hd | exact ⟨_, rfl, e⟩
theorem onTup_inv {a : AV} {h : List AV → γ} {r : γ} (e : a.onTup h d = r) (hd : d ≠ r) : ∃ l, a = .tup l ∧ h l = r := by
  cases a <;> first | exact absurd e hd | exact ⟨_, rfl, e⟩
end
theorem fail_ne {c : Nat} {v : AV} {m : AMem} : OR.fail c ≠ .mk v m := fun h => by cases h

/-! ### Reading -/

theorem blkK_inv {m m' : AMem} {b : Nat} {k : Bool → Nat → Nat → T AV → OR} {v : AV} (h : blkK m b k = .mk v m') : ∃ ro sg E N c, m.t.get b = some (.cells ro sg E N c) ∧ k ro E N c = .mk v m' := by
  unfold blkK at h
  cases hg : m.t.get b with
  | none => rw [hg] at h; cases h
  | some x => cases x with
    | cells ro sg E N c => rw [hg] at h; exact ⟨ro, sg, E, N, c, rfl, h⟩
    | map ro ck es => rw [hg] at h; cases h

theorem loadK_inv {m m' : AMem} {b off n : Nat} {k : List AV → OR} {v : AV} (h : loadK m b off n k = .mk v m') :
    ∃ ro sg E N c, m.t.get b = some (.cells ro sg E N c) ∧ off + n ≤ N ∧ k (cellsFrom c off n) = .mk v m' := by
  obtain ⟨ro, sg, E, N, c, h1, h2⟩ := blkK_inv h
  rw [bif2_eq] at h2
  split at h2
  · rename_i hle; rw [takeK_eq] at h2; exact ⟨ro, sg, E, N, c, h1, by simpa [Nat.ble_eq] using hle, h2⟩
  · cases h2

section
variable {P : Program} {ρ : Ren} {m : AMem} {w : World}

/-- A cell that the view knows. -/
theorem View.cell (V : View ρ m w) {b : Nat} {ro sg : Bool} {E N : Nat} {c : T AV} (hb : m.t.get b = some (.cells ro sg E N c)) {L : Loc} (hL : ρ b = some L) {i : Nat} (hi : i < N) :
    ∃ v, w.cell? ⟨L.blk, L.base + i, none⟩ = some v ∧ VR ρ ((c.get i).getD .any) v := by
  obtain ⟨L0, cs, elem, fz, h1, h2, h3, h4, hN, h5, h6⟩ := V.sim.blk b _ hb
  rw [hL] at h1; cases h1
  obtain ⟨v, hv, hr⟩ := h5 i hi
  exact ⟨v, by rw [cell_of_row w _ _ _ _ _ h2]; exact hv, hr⟩

theorem exists_list {Q : Nat → Value → Prop} : ∀ n, (∀ i, i < n → ∃ v, Q i v) → ∃ l : List Value, l.length = n ∧ ∀ i v, l[i]? = some v → Q i v
  | 0, _ => ⟨[], rfl, fun i v h => by simp at h⟩
  | n + 1, h => by
    obtain ⟨l, hl, hq⟩ := exists_list n fun i hi => h i (by omega)
    obtain ⟨v, hv⟩ := h n (by omega)
    refine ⟨l ++ [v], by simp [hl], fun i u hu => ?_⟩
    rcases Nat.lt_or_ge i n with hi | hi
    · rw [List.getElem?_append_left (by omega)] at hu; exact hq i u hu
    · rw [List.getElem?_append_right (by omega)] at hu
      by_cases e : i = n
      · subst e; simp [hl] at hu; subst hu; exact hv
      · rw [List.getElem?_eq_none (by simp; omega)] at hu; cases hu

/-- Cells that the view knows are loaded. -/
theorem View.load (V : View ρ m w) {b : Nat} {ro sg : Bool} {E N : Nat} {c : T AV} (hb : m.t.get b = some (.cells ro sg E N c)) {L : Loc} (hL : ρ b = some L) {off n : Nat} (hn : off + n ≤ N) :
    ∃ vs : List Value, vs.length = n ∧ (∀ w1 : World, w1.heap = w.heap → (loadCells ⟨L.blk, L.base + off, none⟩ n).run P w1 = .ok vs.toArray w1) ∧ VRs ρ (cellsFrom c off n) vs := by
  obtain ⟨vs, hl, hq⟩ := exists_list (Q := fun i v => w.cell? ⟨L.blk, L.base + (off + i), none⟩ = some v ∧ VR ρ ((c.get (off + i)).getD .any) v) n fun i hi => V.cell hb hL (by omega)
  refine ⟨vs, hl, fun w1 hw1 => ?_, VRs.of_get (by rw [cellsFrom_length, hl]) fun i v hv => ?_⟩
  · have := run_loadCells_list (P := P) w1 ⟨L.blk, L.base + off, none⟩ vs fun j v hj => by
      rw [addr_add, Nat.add_assoc, show w1.cell? = w.cell? from by funext a; simp [World.cell?, hw1]]; exact (hq j v hj).1
    rw [hl] at this; exact this
  · have hi : i < n := by
      rcases Nat.lt_or_ge i n with h | h
      · exact h
      · rw [List.getElem?_eq_none (by rw [cellsFrom_length]; exact h)] at hv; cases hv
    rw [cellsFrom_get _ _ _ _ hi] at hv; cases hv
    have : vs[i]? = some vs[i] := List.getElem?_eq_getElem (by omega)
    exact ⟨vs[i], this, (hq i _ this).2⟩

theorem layout_inv {t : TypeId} {g : Bool} {n : Nat} (h : layout P t = some (g, n)) : ∃ d i, P.underlying t = some d ∧ P.info? t = some i ∧ n = i.size ∧ (isAgg t).run P w = .ok g w := by
  unfold layout at h
  cases hu : P.underlying t with
  | none => simp [hu] at h
  | some d =>
    cases hi : P.info? t with
    | none => simp [hu, hi] at h
    | some i =>
      simp [hu, hi] at h
      refine ⟨d, i, rfl, rfl, h.2.symm, ?_⟩
      unfold isAgg
      rw [← h.1]
      simp only [Sem.run_bind, run_underlying hu, Result.andThen_ok, isAggA, hu]
      cases d <;> rfl

theorem run_sizeOf {t : TypeId} {i : TypeInfo} (h : P.info? t = some i) (w : World) : (sizeOf t).run P w = .ok i.size w := by
  simp [sizeOf, typeInfo, h]

theorem aLoad_run (V : View ρ m w) {t : TypeId} {a : AV} {va : Value} (ha : VR ρ a va) {v : AV} {m' : AMem} (h : aLoad P t a m = .mk v m') :
    m' = m ∧ ∃ vc, VR ρ v vc ∧ (Instr.loadAt t va).run P w = .ok vc w := by
  obtain ⟨b, off, rfl, h0⟩ := onPtr_inv _ h fail_ne
  clear h
  cases ha with
  | ptr _ _ L hL =>
    cases hlay : layout P t with
    | none => rw [hlay] at h0; cases h0
    | some lay =>
      rw [hlay] at h0
      obtain ⟨g, n⟩ := lay
      obtain ⟨d, i, hu, hi, rfl, hagg⟩ := layout_inv (w := w) hlay
      have h : loadL m b off (g, i.size) = .mk v m' := h0
      unfold loadL at h
      rw [bif2_eq] at h
      split at h
      · rename_i hg
        obtain ⟨ro, sg, E, N, c, h1, h2, h3⟩ := loadK_inv h
        cases h3
        obtain ⟨vs, hl, hrun, hr⟩ := V.load (P := P) h1 hL h2
        refine ⟨rfl, .agg vs.toArray, .agg _ _ (by simpa using hr), ?_⟩
        have hg : g = true := hg
        subst hg
        simp only [Instr.loadAt, Instr.sureAddr, loadVar, Sem.run_bind, Sem.run_pure, Result.andThen_ok, hagg, if_true, run_sizeOf hi, hrun w rfl]
      · rename_i hg
        obtain ⟨ro, sg, E, N, c, h1, h2⟩ := blkK_inv h
        rw [bif2_eq] at h2
        split at h2
        · rename_i hlt
          obtain ⟨u, hc, hr⟩ := V.cell h1 hL (i := off) (by simpa [Nat.blt_eq] using hlt)
          have hg : g = false := by simpa using hg
          subst hg
          have hv : m' = m ∧ v = (c.get off).getD .any := by
            cases hcg : c.get off with
            | none => rw [hcg] at h2; cases h2; exact ⟨rfl, rfl⟩
            | some z => rw [hcg] at h2; cases h2; exact ⟨rfl, rfl⟩
          obtain ⟨rfl, rfl⟩ := hv
          refine ⟨rfl, u, hr, ?_⟩
          simp only [Instr.loadAt, Instr.sureAddr, loadVar, Sem.run_bind, Sem.run_pure, Result.andThen_ok, hagg, Bool.false_eq_true, if_false, run_load, hc]
        · cases h2

/-! ### Writing -/

theorem run_storeCells (P : Program) (B o : Nat) (t : TypeId) (fz : Nat × Nat) : ∀ (vs : List Value) (i : Nat) (w : World) (cs : Array Value), w.heap[B]? = some (.cells cs t fz) → o + i + vs.length ≤ cs.size →
    (∀ j, j < cs.size → ¬ (fz.1 ≤ j ∧ j < fz.2)) → (∀ v ∈ vs, v.oneCell' = true) →
    ∃ w' cs', (storeCells ⟨B, o, none⟩ vs i).run P w = .ok () w' ∧ w'.heap[B]? = some (.cells cs' t fz) ∧ cs'.size = cs.size ∧
      (∀ j, cs'[j]? = if o + i ≤ j ∧ j < o + i + vs.length then vs[j - (o + i)]? else cs[j]?) ∧ (∀ k, k ≠ B → w'.heap[k]? = w.heap[k]?) ∧ w'.heap.size = w.heap.size ∧
      w'.os = w.os ∧ w'.tape = w.tape ∧ w'.output = w.output
  | [], i, w, cs, h, _, _, _ => ⟨w, cs, rfl, h, rfl, fun j => by rw [if_neg (by simp only [List.length_nil]; omega)], fun _ _ => rfl, rfl, rfl, rfl, rfl⟩
  | v :: vs, i, w, cs, h, hl, hf, hv => by
    have hl' : o + i + vs.length + 1 ≤ cs.size := by simp at hl; omega
    have hcell : w.cell? ⟨B, o + i, none⟩ = some (cs[o + i]'(by omega)) := by rw [cell_of_row w _ _ _ _ _ h]; exact Array.getElem?_eq_getElem _
    have hfr : w.frozen? ⟨B, o + i, none⟩ = false := by
      have := hf (o + i) (by omega)
      obtain ⟨lo, hi⟩ := fz
      simp only [World.frozen?, h]
      simpa using this
    have hB : (w.setCell ⟨B, o + i, none⟩ v).heap[B]? = some (.cells (cs.setIfInBounds (o + i) v) t fz) := by
      simp only [World.setCell, Array.getElem?_modify, if_true, h]; rfl
    obtain ⟨w', cs', h1, h2, h3, h4, h5, h6, h7, h8, h9⟩ := run_storeCells P B o t fz vs (i + 1) (w.setCell ⟨B, o + i, none⟩ v) _ hB (by simp; omega) (by simpa using hf) fun u hu => hv u (List.mem_cons_of_mem _ hu)
    refine ⟨w', cs', ?_, h2, by simpa using h3, fun j => ?_, fun k hk => ?_, by simpa using h6, h7, h8, h9⟩
    · have : (storeCells ⟨B, o, none⟩ (v :: vs) i).run P w = ((store ((⟨B, o, none⟩ : Addr).add i) v).run P w).andThen fun _ w1 => (storeCells ⟨B, o, none⟩ vs (i + 1)).run P w1 := by
        rw [storeCells, Sem.run_bind]
      rw [this, addr_add, run_store P w _ _ _ (hv v (by simp)), hcell]
      simp only [hfr, Bool.false_eq_true, if_false, Result.andThen_ok]
      exact h1
    · rw [h4]
      by_cases a : j = o + i
      · subst a
        rw [if_neg (by omega), if_pos (by simp), Array.getElem?_setIfInBounds_self_of_lt (by omega)]
        simp
      · by_cases b : o + (i + 1) ≤ j ∧ j < o + (i + 1) + vs.length
        · rw [if_pos b, if_pos (by simp; omega)]
          obtain ⟨q, rfl⟩ : ∃ q, j = o + (i + 1) + q := ⟨j - (o + (i + 1)), by omega⟩
          rw [show o + (i + 1) + q - (o + i) = q + 1 from by omega, show o + (i + 1) + q - (o + (i + 1)) = q from by omega]; simp
        · rw [if_neg b, if_neg (by simp; omega), Array.getElem?_setIfInBounds_ne (by omega)]
    · rw [h5 k hk]
      exact heap_setCell_other w _ k v hk

theorem plain_one {a : AV} {v : Value} (h : VR ρ a v) (hp : a.plain = true) : v.oneCell' = true := by
  cases h <;> first | rfl | (simp [AV.plain] at hp)

theorem VRs.plain : ∀ {l : List AV} {cs : List Value}, VRs ρ l cs → l.all AV.plain = true → ∀ v ∈ cs, v.oneCell' = true
  | _, _, .nil, _ => fun _ h => by cases h
  | _, _, .cons v c l cs h hs, hp => fun u hu => by
    simp at hp
    rcases List.mem_cons.1 hu with rfl | hu
    · exact plain_one h hp.1
    · exact VRs.plain hs (by simpa using hp.2) u hu

theorem storeK_inv {m m' : AMem} {b off : Nat} {l : List AV} {k : AMem → OR} {v : AV} (h : storeK m b off l k = .mk v m') :
    ∃ sg E N c, m.t.get b = some (.cells false sg E N c) ∧ off + l.length ≤ N ∧ l.all AV.plain = true ∧
      ∃ m1 c', m1.next = m.next ∧ (∀ j, m1.t.get j = if j = b then some (.cells false true E N c') else m.t.get j) ∧ (∀ j, c'.get j = if off ≤ j ∧ j < off + l.length then l[j - off]? else c.get j) ∧ k m1 = .mk v m' := by
  obtain ⟨ro, sg, E, N, c, h1, h2⟩ := blkK_inv h
  rw [bif2_eq] at h2
  split at h2
  · rename_i hc
    simp only [Bool.and_eq_true, Bool.not_eq_true'] at hc
    obtain ⟨⟨hro, hle⟩, hp⟩ := hc
    subst hro
    rcases putK_eq (OR.fail 34) l off c (fun c => T.setK (.fail 34) (some (.cells false true E N c)) m.t b fun t => k ⟨m.next, t⟩) with e | ⟨c', hc', e⟩
    · rw [e] at h2; cases h2
    · rw [e] at h2
      rcases T.setK_eq (OR.fail 34) (some (.cells false true E N c')) m.t b (fun t => k ⟨m.next, t⟩) with e2 | ⟨t', ht', e2⟩
      · rw [e2] at h2; cases h2
      · rw [e2] at h2
        exact ⟨sg, E, N, c, h1, by simpa [Nat.ble_eq] using hle, hp, ⟨m.next, t'⟩, c', rfl, ht', hc', h2⟩
  · cases h2

/-- Cells that the view knows are written. -/
theorem View.store (V : View ρ m w) {b off : Nat} {L : Loc} (hL : ρ b = some L) {l : List AV} {cs : List Value} (hl : VRs ρ l cs) {k : AMem → OR} {v : AV} {m' : AMem} (h : storeK m b off l k = .mk v m') :
    ∃ m1 w1, k m1 = .mk v m' ∧ (storeCells ⟨L.blk, L.base + off, none⟩ cs).run P w = .ok () w1 ∧ Step ρ m w ρ m1 w1 := by
  obtain ⟨sg, E, N, c, hb, hle, hp, m1, c', hn, hg, hc', hk⟩ := storeK_inv h
  obtain ⟨L0, cs0, elem, fz, h1, h2, h3, h4, hN, h5, h6⟩ := V.sim.blk b _ hb
  rw [hL] at h1; cases h1
  have hlen : l.length = cs.length := hl.length
  have hin : L.base + off + cs.length ≤ cs0.size := by omega
  obtain ⟨w1, cs1, g1, g2, g3, g4, g5, g6, g7, g8, g9⟩ := run_storeCells P L.blk (L.base + off) elem fz cs 0 w cs0 h2 (by omega) (h6.1 rfl) (hl.plain hp)
  refine ⟨m1, w1, hk, g1, ?_⟩
  have := GStep.write (g' := m1.t.get) (hi := m1.next) (b1 := b) (d := 0) (E := E) (n' := N) (c' := c') V.sim V.wf hb hL h2 g3 g2 g5 g6 g7 g8 g9 (.inl ⟨rfl, rfl, hn⟩) (fun j => by rw [hg]; by_cases h : j = b <;> simp [h]) (by omega) (fun i hi => by
    rw [g4, hc']
    by_cases a : off ≤ i ∧ i < off + l.length
    · rw [if_pos a, if_pos (by omega)]
      have : l[i - off]? = some l[i - off] := List.getElem?_eq_getElem (by omega)
      obtain ⟨x, hx, hr⟩ := hl.get _ this
      exact ⟨x, by rw [show L.base + 0 + i - (L.base + off + 0) = i - off from by omega]; exact hx, by rw [this]; exact hr⟩
    · rw [if_neg a, if_neg (by omega)]; simpa using h5 i hi)
  have e : ρ.set b ⟨L.blk, L.base + 0, L.csize, E⟩ = ρ := by
    funext x
    by_cases hx : x = b
    · rw [hx, Ren.set_same, hL, ← h4]; rfl
    · rw [Ren.set_other _ _ _ hx]
  rw [e] at this; exact this

end
end Go.Ev
