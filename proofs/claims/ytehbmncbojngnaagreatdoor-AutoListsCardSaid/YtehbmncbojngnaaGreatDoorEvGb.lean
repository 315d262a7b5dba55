/- Memory: what the evaluator's loads, stores and new blocks are in a world. Operations: each that the evaluator carries out is carried out alike by the model. Operations, on: strings, structs, nils; unary ones; parts, bounds. Operations, on: unary ones, conversions, fields, elements, parts, lengths. Operations, on: what makes memory and writes it. Operations, on: stores, append, copy, clear; bytes and strings; lengths; the builtins. -/
import Derived.Test.YtehbmncbojngnaaGreatDoorEvGa
import Derived.Laws.Append
import Derived.Laws.Tables
import Derived.Laws.StructEq
import Derived.Laws.BytesString
import Derived.Laws.Slices
import Derived.Laws.MakeOwn
section
namespace Go.Ev
set_option linter.all false
structure View (ρ : Ren) (m : AMem) (w : World) : Prop where
  sim : Sim ρ m.t.get w
  wf : ∀ b x, m.t.get b = some x → b < m.next
theorem GStep.view {ρ ρ' : Ren} {m m' : AMem} {w w' : World} (h : Step ρ m w ρ' m' w') : View ρ' m' w' := ⟨h.sim, h.wf⟩
theorem View.refl {ρ : Ren} {m : AMem} {w : World} (h : View ρ m w) : Step ρ m w ρ m w := GStep.refl h.sim h.wf
theorem addr_add (B o i : Nat) : (⟨B, o, none⟩ : Addr).add i = ⟨B, o + i, none⟩ := by
  unfold Addr.add; split
  · rename_i h; subst h; rfl
  · rfl
/-! ### Kinds of values -/
section
variable {γ : Type} (d : γ)
theorem onPtr_inv {a : AV} {h : Nat → Nat → γ} {r : γ} (e : a.onPtr h d = r) (hd : d ≠ r) : ∃ b o, a = .ptr b o ∧ h b o = r := by
  cases a <;> first | exact absurd e hd | exact ⟨_, _, rfl, e⟩
theorem onInt_inv {a : AV} {h : IntKind → Int → γ} {r : γ} (e : a.onInt h d = r) (hd : d ≠ r) : ∃ b o, a = .int b o ∧ h b o = r := by
  cases a <;> first | exact absurd e hd | exact ⟨_, _, rfl, e⟩
theorem onBool_inv {a : AV} {h : Bool → γ} {r : γ} (e : a.onBool h d = r) (hd : d ≠ r) : ∃ b, a = .bool b ∧ h b = r := by
  cases a <;> first | exact absurd e hd | exact ⟨_, rfl, e⟩
theorem onStr_inv {a : AV} {h : List Nat → γ} {r : γ} (e : a.onStr h d = r) (hd : d ≠ r) : ∃ b, a = .str b ∧ h b = r := by
  cases a <;> first | exact absurd e hd | exact ⟨_, rfl, e⟩
theorem onSlice_inv {a : AV} {h : Nat → Nat → Nat → Option Nat → γ} {r : γ} (e : a.onSlice h d = r) (hd : d ≠ r) : ∃ b o l c, a = .slice b o l c ∧ h b o l c = r := by
  cases a <;> first | exact absurd e hd | exact ⟨_, _, _, _, rfl, e⟩
theorem onFn_inv {a : AV} {h : FuncId → List AV → γ} {r : γ} (e : a.onFn h d = r) (hd : d ≠ r) : ∃ f l, a = .fn f l ∧ h f l = r := by
  cases a <;> first | exact absurd e hd | exact ⟨_, _, rfl, e⟩
theorem onAgg_inv {a : AV} {h : List AV → γ} {r : γ} (e : a.onAgg h d = r) (hd : d ≠ r) : ∃ l, a = .agg l ∧ h l = r := by
  cases a <;> first | exact absurd e hd | exact ⟨_, rfl, e⟩
theorem onTup_inv {a : AV} {h : List AV → γ} {r : γ} (e : a.onTup h d = r) (hd : d ≠ r) : ∃ l, a = .tup l ∧ h l = r := by
  cases a <;> first | exact absurd e hd | exact ⟨_, rfl, e⟩
end
theorem fail_ne {c : Nat} {v : AV} {m : AMem} : OR.fail c ≠ .mk v m := fun h => by cases h
/-! ### Reading -/
theorem blkK_inv {m m' : AMem} {b : Nat} {k : Bool → Nat → Nat → T AV → OR} {v : AV} (h : blkK m b k = .mk v m') : ∃ ro sg E N c, m.t.get b = some (.cells ro sg E N c) ∧ k ro E N c = .mk v m' := by
  unfold blkK at h
  cases hg : m.t.get b with
  | none => rw [hg] at h; cases h
  | some x => cases x with
    | cells ro sg E N c => rw [hg] at h; exact ⟨ro, sg, E, N, c, rfl, h⟩
    | map ro ck es => rw [hg] at h; cases h
theorem loadK_inv {m m' : AMem} {b off n : Nat} {k : List AV → OR} {v : AV} (h : loadK m b off n k = .mk v m') :
    ∃ ro sg E N c, m.t.get b = some (.cells ro sg E N c) ∧ off + n ≤ N ∧ k (cellsFrom c off n) = .mk v m' := by
  obtain ⟨ro, sg, E, N, c, h1, h2⟩ := blkK_inv h
  rw [bif2_eq] at h2
  split at h2
  · rename_i hle; rw [takeK_eq] at h2; exact ⟨ro, sg, E, N, c, h1, by simpa [Nat.ble_eq] using hle, h2⟩
  · cases h2
section
variable {P : Program} {ρ : Ren} {m : AMem} {w : World}
/-- A cell that the view knows. -/
theorem View.cell (V : View ρ m w) {b : Nat} {ro sg : Bool} {E N : Nat} {c : T AV} (hb : m.t.get b = some (.cells ro sg E N c)) {L : Loc} (hL : ρ b = some L) {i : Nat} (hi : i < N) :
    ∃ v, w.cell? ⟨L.blk, L.base + i, none⟩ = some v ∧ VR ρ ((c.get i).getD .any) v := by
  obtain ⟨L0, cs, elem, fz, h1, h2, h3, h4, hN, h5, h6⟩ := V.sim.blk b _ hb
  rw [hL] at h1; cases h1
  obtain ⟨v, hv, hr⟩ := h5 i hi
  exact ⟨v, by rw [cell_of_row w _ _ _ _ _ h2]; exact hv, hr⟩
theorem exists_list {Q : Nat → Value → Prop} : ∀ n, (∀ i, i < n → ∃ v, Q i v) → ∃ l : List Value, l.length = n ∧ ∀ i v, l[i]? = some v → Q i v
  | 0, _ => ⟨[], rfl, fun i v h => by simp at h⟩
  | n + 1, h => by
    obtain ⟨l, hl, hq⟩ := exists_list n fun i hi => h i (by omega)
    obtain ⟨v, hv⟩ := h n (by omega)
    refine ⟨l ++ [v], by simp [hl], fun i u hu => ?_⟩
    rcases Nat.lt_or_ge i n with hi | hi
    · rw [List.getElem?_append_left (by omega)] at hu; exact hq i u hu
    · rw [List.getElem?_append_right (by omega)] at hu
      by_cases e : i = n
      · subst e; simp [hl] at hu; subst hu; exact hv
      · rw [List.getElem?_eq_none (by simp; omega)] at hu; cases hu
/-- Cells that the view knows are loaded. -/
theorem View.load (V : View ρ m w) {b : Nat} {ro sg : Bool} {E N : Nat} {c : T AV} (hb : m.t.get b = some (.cells ro sg E N c)) {L : Loc} (hL : ρ b = some L) {off n : Nat} (hn : off + n ≤ N) :
    ∃ vs : List Value, vs.length = n ∧ (∀ w1 : World, w1.heap = w.heap → (loadCells ⟨L.blk, L.base + off, none⟩ n).run P w1 = .ok vs.toArray w1) ∧ VRs ρ (cellsFrom c off n) vs := by
  obtain ⟨vs, hl, hq⟩ := exists_list (Q := fun i v => w.cell? ⟨L.blk, L.base + (off + i), none⟩ = some v ∧ VR ρ ((c.get (off + i)).getD .any) v) n fun i hi => V.cell hb hL (by omega)
  refine ⟨vs, hl, fun w1 hw1 => ?_, VRs.of_get (by rw [cellsFrom_length, hl]) fun i v hv => ?_⟩
  · have := run_loadCells_list (P := P) w1 ⟨L.blk, L.base + off, none⟩ vs fun j v hj => by
      rw [addr_add, Nat.add_assoc, show w1.cell? = w.cell? from by funext a; simp [World.cell?, hw1]]; exact (hq j v hj).1
    rw [hl] at this; exact this
  · have hi : i < n := by
      rcases Nat.lt_or_ge i n with h | h
      · exact h
      · rw [List.getElem?_eq_none (by rw [cellsFrom_length]; exact h)] at hv; cases hv
    rw [cellsFrom_get _ _ _ _ hi] at hv; cases hv
    have : vs[i]? = some vs[i] := List.getElem?_eq_getElem (by omega)
    exact ⟨vs[i], this, (hq i _ this).2⟩
theorem layout_inv {t : TypeId} {g : Bool} {n : Nat} (h : layout P t = some (g, n)) : ∃ d i, P.underlying t = some d ∧ P.info? t = some i ∧ n = i.size ∧ (isAgg t).run P w = .ok g w := by
  unfold layout at h
  cases hu : P.underlying t with
  | none => simp [hu] at h
  | some d =>
    cases hi : P.info? t with
    | none => simp [hu, hi] at h
    | some i =>
      simp [hu, hi] at h
      refine ⟨d, i, rfl, rfl, h.2.symm, ?_⟩
      unfold isAgg
      rw [← h.1]
      simp only [Sem.run_bind, run_underlying hu, Result.andThen_ok, isAggA, hu]
      cases d <;> rfl
theorem run_sizeOf {t : TypeId} {i : TypeInfo} (h : P.info? t = some i) (w : World) : (sizeOf t).run P w = .ok i.size w := by
  simp [sizeOf, typeInfo, h]
theorem aLoad_run (V : View ρ m w) {t : TypeId} {a : AV} {va : Value} (ha : VR ρ a va) {v : AV} {m' : AMem} (h : aLoad P t a m = .mk v m') :
    m' = m ∧ ∃ vc, VR ρ v vc ∧ (Instr.loadAt t va).run P w = .ok vc w := by
  obtain ⟨b, off, rfl, h0⟩ := onPtr_inv _ h fail_ne
  clear h
  cases ha with
  | ptr _ _ L hL =>
    cases hlay : layout P t with
    | none => rw [hlay] at h0; cases h0
    | some lay =>
      rw [hlay] at h0
      obtain ⟨g, n⟩ := lay
      obtain ⟨d, i, hu, hi, rfl, hagg⟩ := layout_inv (w := w) hlay
      have h : loadL m b off (g, i.size) = .mk v m' := h0
      unfold loadL at h
      rw [bif2_eq] at h
      split at h
      · rename_i hg
        obtain ⟨ro, sg, E, N, c, h1, h2, h3⟩ := loadK_inv h
        cases h3
        obtain ⟨vs, hl, hrun, hr⟩ := V.load (P := P) h1 hL h2
        refine ⟨rfl, .agg vs.toArray, .agg _ _ (by simpa using hr), ?_⟩
        have hg : g = true := hg
        subst hg
        simp only [Instr.loadAt, Instr.sureAddr, loadVar, Sem.run_bind, Sem.run_pure, Result.andThen_ok, hagg, if_true, run_sizeOf hi, hrun w rfl]
      · rename_i hg
        obtain ⟨ro, sg, E, N, c, h1, h2⟩ := blkK_inv h
        rw [bif2_eq] at h2
        split at h2
        · rename_i hlt
          obtain ⟨u, hc, hr⟩ := V.cell h1 hL (i := off) (by simpa [Nat.blt_eq] using hlt)
          have hg : g = false := by simpa using hg
          subst hg
          have hv : m' = m ∧ v = (c.get off).getD .any := by
            cases hcg : c.get off with
            | none => rw [hcg] at h2; cases h2; exact ⟨rfl, rfl⟩
            | some z => rw [hcg] at h2; cases h2; exact ⟨rfl, rfl⟩
          obtain ⟨rfl, rfl⟩ := hv
          refine ⟨rfl, u, hr, ?_⟩
          simp only [Instr.loadAt, Instr.sureAddr, loadVar, Sem.run_bind, Sem.run_pure, Result.andThen_ok, hagg, Bool.false_eq_true, if_false, run_load, hc]
        · cases h2
/-! ### Writing -/
theorem run_storeCells (P : Program) (B o : Nat) (t : TypeId) (fz : Nat × Nat) : ∀ (vs : List Value) (i : Nat) (w : World) (cs : Array Value), w.heap[B]? = some (.cells cs t fz) → o + i + vs.length ≤ cs.size →
    (∀ j, j < cs.size → ¬ (fz.1 ≤ j ∧ j < fz.2)) → (∀ v ∈ vs, v.oneCell' = true) →
    ∃ w' cs', (storeCells ⟨B, o, none⟩ vs i).run P w = .ok () w' ∧ w'.heap[B]? = some (.cells cs' t fz) ∧ cs'.size = cs.size ∧
      (∀ j, cs'[j]? = if o + i ≤ j ∧ j < o + i + vs.length then vs[j - (o + i)]? else cs[j]?) ∧ (∀ k, k ≠ B → w'.heap[k]? = w.heap[k]?) ∧ w'.heap.size = w.heap.size ∧
      w'.os = w.os ∧ w'.tape = w.tape ∧ w'.output = w.output
  | [], i, w, cs, h, _, _, _ => ⟨w, cs, rfl, h, rfl, fun j => by rw [if_neg (by simp only [List.length_nil]; omega)], fun _ _ => rfl, rfl, rfl, rfl, rfl⟩
  | v :: vs, i, w, cs, h, hl, hf, hv => by
    have hl' : o + i + vs.length + 1 ≤ cs.size := by simp at hl; omega
    have hcell : w.cell? ⟨B, o + i, none⟩ = some (cs[o + i]'(by omega)) := by rw [cell_of_row w _ _ _ _ _ h]; exact Array.getElem?_eq_getElem _
    have hfr : w.frozen? ⟨B, o + i, none⟩ = false := by
      have := hf (o + i) (by omega)
      obtain ⟨lo, hi⟩ := fz
      simp only [World.frozen?, h]
      simpa using this
    have hB : (w.setCell ⟨B, o + i, none⟩ v).heap[B]? = some (.cells (cs.setIfInBounds (o + i) v) t fz) := by
      simp only [World.setCell, Array.getElem?_modify, if_true, h]; rfl
    obtain ⟨w', cs', h1, h2, h3, h4, h5, h6, h7, h8, h9⟩ := run_storeCells P B o t fz vs (i + 1) (w.setCell ⟨B, o + i, none⟩ v) _ hB (by simp; omega) (by simpa using hf) fun u hu => hv u (List.mem_cons_of_mem _ hu)
    refine ⟨w', cs', ?_, h2, by simpa using h3, fun j => ?_, fun k hk => ?_, by simpa using h6, h7, h8, h9⟩
    · have : (storeCells ⟨B, o, none⟩ (v :: vs) i).run P w = ((store ((⟨B, o, none⟩ : Addr).add i) v).run P w).andThen fun _ w1 => (storeCells ⟨B, o, none⟩ vs (i + 1)).run P w1 := by
        rw [storeCells, Sem.run_bind]
      rw [this, addr_add, run_store P w _ _ _ (hv v (by simp)), hcell]
      simp only [hfr, Bool.false_eq_true, if_false, Result.andThen_ok]
      exact h1
    · rw [h4]
      by_cases a : j = o + i
      · subst a
        rw [if_neg (by omega), if_pos (by simp), Array.getElem?_setIfInBounds_self_of_lt (by omega)]
        simp
      · by_cases b : o + (i + 1) ≤ j ∧ j < o + (i + 1) + vs.length
        · rw [if_pos b, if_pos (by simp; omega)]
          obtain ⟨q, rfl⟩ : ∃ q, j = o + (i + 1) + q := ⟨j - (o + (i + 1)), by omega⟩
          rw [show o + (i + 1) + q - (o + i) = q + 1 from by omega, show o + (i + 1) + q - (o + (i + 1)) = q from by omega]; simp
        · rw [if_neg b, if_neg (by simp; omega), Array.getElem?_setIfInBounds_ne (by omega)]
    · rw [h5 k hk]
      exact heap_setCell_other w _ k v hk
theorem plain_one {a : AV} {v : Value} (h : VR ρ a v) (hp : a.plain = true) : v.oneCell' = true := by
  cases h <;> first | rfl | (simp [AV.plain] at hp)
theorem VRs.plain : ∀ {l : List AV} {cs : List Value}, VRs ρ l cs → l.all AV.plain = true → ∀ v ∈ cs, v.oneCell' = true
  | _, _, .nil, _ => fun _ h => by cases h
  | _, _, .cons v c l cs h hs, hp => fun u hu => by
    simp at hp
    rcases List.mem_cons.1 hu with rfl | hu
    · exact plain_one h hp.1
    · exact VRs.plain hs (by simpa using hp.2) u hu
theorem storeK_inv {m m' : AMem} {b off : Nat} {l : List AV} {k : AMem → OR} {v : AV} (h : storeK m b off l k = .mk v m') :
    ∃ sg E N c, m.t.get b = some (.cells false sg E N c) ∧ off + l.length ≤ N ∧ l.all AV.plain = true ∧
      ∃ m1 c', m1.next = m.next ∧ (∀ j, m1.t.get j = if j = b then some (.cells false true E N c') else m.t.get j) ∧ (∀ j, c'.get j = if off ≤ j ∧ j < off + l.length then l[j - off]? else c.get j) ∧ k m1 = .mk v m' := by
  obtain ⟨ro, sg, E, N, c, h1, h2⟩ := blkK_inv h
  rw [bif2_eq] at h2
  split at h2
  · rename_i hc
    simp only [Bool.and_eq_true, Bool.not_eq_true'] at hc
    obtain ⟨⟨hro, hle⟩, hp⟩ := hc
    subst hro
    rcases putK_eq (OR.fail 34) l off c (fun c => T.setK (.fail 34) (some (.cells false true E N c)) m.t b fun t => k ⟨m.next, t⟩) with e | ⟨c', hc', e⟩
    · rw [e] at h2; cases h2
    · rw [e] at h2
      rcases T.setK_eq (OR.fail 34) (some (.cells false true E N c')) m.t b (fun t => k ⟨m.next, t⟩) with e2 | ⟨t', ht', e2⟩
      · rw [e2] at h2; cases h2
      · rw [e2] at h2
        exact ⟨sg, E, N, c, h1, by simpa [Nat.ble_eq] using hle, hp, ⟨m.next, t'⟩, c', rfl, ht', hc', h2⟩
  · cases h2
/-- Cells that the view knows are written. -/
theorem View.store (V : View ρ m w) {b off : Nat} {L : Loc} (hL : ρ b = some L) {l : List AV} {cs : List Value} (hl : VRs ρ l cs) {k : AMem → OR} {v : AV} {m' : AMem} (h : storeK m b off l k = .mk v m') :
    ∃ m1 w1, k m1 = .mk v m' ∧ (storeCells ⟨L.blk, L.base + off, none⟩ cs).run P w = .ok () w1 ∧ Step ρ m w ρ m1 w1 := by
  obtain ⟨sg, E, N, c, hb, hle, hp, m1, c', hn, hg, hc', hk⟩ := storeK_inv h
  obtain ⟨L0, cs0, elem, fz, h1, h2, h3, h4, hN, h5, h6⟩ := V.sim.blk b _ hb
  rw [hL] at h1; cases h1
  have hlen : l.length = cs.length := hl.length
  have hin : L.base + off + cs.length ≤ cs0.size := by omega
  obtain ⟨w1, cs1, g1, g2, g3, g4, g5, g6, g7, g8, g9⟩ := run_storeCells P L.blk (L.base + off) elem fz cs 0 w cs0 h2 (by omega) (h6.1 rfl) (hl.plain hp)
  refine ⟨m1, w1, hk, g1, ?_⟩
  have := GStep.write (g' := m1.t.get) (hi := m1.next) (b1 := b) (d := 0) (E := E) (n' := N) (c' := c') V.sim V.wf hb hL h2 g3 g2 g5 g6 g7 g8 g9 (.inl ⟨rfl, rfl, hn⟩) (fun j => by rw [hg]; by_cases h : j = b <;> simp [h]) (by omega) (fun i hi => by
    rw [g4, hc']
    by_cases a : off ≤ i ∧ i < off + l.length
    · rw [if_pos a, if_pos (by omega)]
      have : l[i - off]? = some l[i - off] := List.getElem?_eq_getElem (by omega)
      obtain ⟨x, hx, hr⟩ := hl.get _ this
      exact ⟨x, by rw [show L.base + 0 + i - (L.base + off + 0) = i - off from by omega]; exact hx, by rw [this]; exact hr⟩
    · rw [if_neg a, if_neg (by omega)]; simpa using h5 i hi)
  have e : ρ.set b ⟨L.blk, L.base + 0, L.csize, E⟩ = ρ := by
    funext x
    by_cases hx : x = b
    · rw [hx, Ren.set_same, hL, ← h4]; rfl
    · rw [Ren.set_other _ _ _ hx]
  rw [e] at this; exact this
end
end Go.Ev
end
section
namespace Go.Ev
set_option linter.all false
section
variable {P : Program} {ρ : Ren} {m : AMem} {w : World}
/-! ### New blocks -/
theorem newBlk_inv {sg : Bool} {E : Nat} {l : List AV} {m m' : AMem} {k : Nat → AMem → OR} {v : AV} (h : newBlk sg E l m k = .mk v m') :
    ∃ m1 c, m1.next = m.next + 1 ∧ (∀ j, m1.t.get j = if j = m.next then some (.cells false sg E l.length c) else m.t.get j) ∧ (∀ i, i < l.length → c.get i = l[i]?) ∧ k m.next m1 = .mk v m' := by
  unfold newBlk at h
  rcases putK_eq (OR.fail 30) l 0 .leaf (fun c => fNat l.length fun n => T.setK (.fail 31) (some (.cells false sg E n c)) m.t m.next fun t => fNat (Nat.succ m.next) fun nx => k m.next ⟨nx, t⟩) with e | ⟨c, hc, e⟩
  · rw [e] at h; cases h
  · rw [e, fNat_eq] at h
    rcases T.setK_eq (OR.fail 31) (some (.cells false sg E l.length c)) m.t m.next (fun t => fNat (Nat.succ m.next) fun nx => k m.next ⟨nx, t⟩) with e2 | ⟨t, ht, e2⟩
    · rw [e2] at h; cases h
    · rw [e2, fNat_eq] at h
      exact ⟨⟨m.next + 1, t⟩, c, rfl, ht, fun i hi => by rw [hc, if_pos (by omega)]; simp, h⟩
/-- A new block under a new name; behind what is known it may hold more. -/
theorem View.new (V : View ρ m w) {sg : Bool} {E : Nat} {l : List AV} {cs rest : List Value} (hl : VRs ρ l cs) {m1 : AMem} {c : T AV} (hn : m1.next = m.next + 1)
    (hg : ∀ j, m1.t.get j = if j = m.next then some (.cells false sg E l.length c) else m.t.get j) (hc : ∀ i, i < l.length → c.get i = l[i]?) (hfr : ρ m.next = none)
    {A : Array Value} (hA : A = (cs ++ rest).toArray) {elem : TypeId} {fz : Nat × Nat} (hfz : ∀ i, i < A.size → ¬ (fz.1 ≤ i ∧ i < fz.2)) (hsg : sg = false → ∀ i, ¬ (fz.1 ≤ i ∧ i < fz.2)) :
    Step ρ m w (ρ.set m.next ⟨w.heap.size, 0, A.size, E⟩) m1 (w.alloc (.cells A elem fz)) := by
  subst hA
  show GStep ρ m.t.get m.next w _ m1.t.get m1.next _
  rw [hn]
  refine GStep.alloc V.sim V.wf hfr (by simp [hl.length]) (fun i hi => ?_) hfz hsg hg
  have : l[i]? = some l[i] := List.getElem?_eq_getElem hi
  obtain ⟨x, hx, hr⟩ := hl.get i this
  have hi' : i < cs.length := hl.length ▸ hi
  exact ⟨x, by simp [List.getElem?_append_left hi', hx], by rw [hc i hi, this]; exact hr⟩
/-! ### Operands -/
noncomputable def cstA (v : Value) : AV :=
  match v with
  | .bool b => .bool b
  | .int i n => .int i n
  | .string s => .str (s.data.toList.map UInt8.toNat)
  | .agg cs => .agg (scals cs.toList)
  | .tuple cs => match cs.toList with
    | [] => .undef
    | _ => .any
  | v => scal v
theorem cst_eq {β : Type} (v : Value) (k : AV → β) : cst v k = k (cstA v) := by
  unfold cst cstA
  cases v <;> try rfl
  · simp
  · rename_i cs; simp only []; cases cs.toList <;> rfl
theorem scal_rel (ρ : Ren) (v : Value) : VR ρ (scal v) v := by
  unfold scal
  split <;> first | exact .any _ | constructor
  all_goals rfl
theorem scals_rel (ρ : Ren) : ∀ l : List Value, VRs ρ (scals l) l
  | [] => .nil
  | v :: l => .cons _ _ _ _ (scal_rel ρ v) (scals_rel ρ l)
theorem cstA_rel (ρ : Ren) (v : Value) : VR ρ (cstA v) v := by
  unfold cstA
  split
  · constructor
  · constructor
  · exact .str _ _ rfl
  · exact .agg _ _ (scals_rel ρ _)
  · rename_i cs
    split
    · rename_i h; exact .tup _ _ (by rw [h]; exact .nil)
    · exact .any _
  · exact scal_rel ρ _
/-- What an operand is. -/
noncomputable def evA (t : T AV) (x : Operand) : AV :=
  match x with
  | .tmp i => (t.get i).getD .undef
  | .const v => cstA v
  | .global _ => .any
  | .func f => .fn f []
theorem evK_eq {β : Type} (t : T AV) (x : Operand) (k : AV → β) : evK t x k = k (evA t x) := by
  cases x with
  | tmp i =>
    show @Option.rec AV (fun _ => β) (k .undef) k (t.get i) = _
    simp only [evA]
    cases t.get i <;> rfl
  | const v => exact cst_eq v k
  | global g => rfl
  | func f => rfl
theorem evsK_eq {β : Type} (t : T AV) : ∀ (l : List Operand) (k : List AV → β), evsK t l k = k (l.map (evA t))
  | [], _ => rfl
  | x :: l, k => by
    show evK t x (fun v => evsK t l fun vs => k (v :: vs)) = _
    rw [evK_eq, evsK_eq t l]; rfl
theorem evPs_eq {β : Type} (t : T AV) : ∀ (l : List (Nat × Operand)) (k : List (Nat × AV) → β), evPs t l k = k (l.map fun p => (p.1, evA t p.2))
  | [], _ => rfl
  | x :: l, k => by
    show evK t x.2 (fun v => evPs t l fun vs => k ((x.1, v) :: vs)) = _
    rw [evK_eq, evPs_eq t l]; rfl
theorem evO_eq {β : Type} (t : T AV) (x : Option Operand) (k : Option AV → β) : evO t x k = k (x.map (evA t)) := by
  cases x with
  | none => rfl
  | some x => exact evK_eq t x _
/-- The temporaries. -/
structure TR (ρ : Ren) (nt : Nat) (t : T AV) (tmps : Array Value) : Prop where
  size : tmps.size = nt
  rel : ∀ i, VR ρ ((t.get i).getD .undef) (tmps.getD i undef)
theorem TR.mono {ρ ρ' : Ren} {nt : Nat} {t : T AV} {tmps : Array Value} (h : TR ρ nt t tmps) (hs : Sub ρ ρ') : TR ρ' nt t tmps := ⟨h.size, fun i => (h.rel i).mono hs⟩
theorem TR.ev {nt : Nat} {t : T AV} {a : Act} (h : TR ρ nt t a.tmps) (x : Operand) : VR ρ (evA t x) (a.eval x) := by
  cases x with
  | tmp i => exact h.rel i
  | const v => exact cstA_rel ρ v
  | global g => exact .any _
  | func f => exact .fn f [] #[] .nil
/-- A result goes into its temporary. -/
theorem dstK_inv {nt : Nat} {dst : Option Tmp} {v : AV} {t : T AV} {k : T AV → Res} {x : X} {t' : T AV} {m' : AMem} (h : dstK nt dst v t k = .mk x t' m') :
    ∃ t1, k t1 = .mk x t' m' ∧ ∀ {ρ : Ren} {a : Act} {vc : Value}, TR ρ nt t a.tmps → VR ρ v vc → TR ρ nt t1 (a.put dst vc).tmps := by
  cases dst with
  | none => exact ⟨t, h, fun h _ => h⟩
  | some d =>
    have h : bif2 (Nat.blt d nt) (T.setK (.fail 121) (some v) t d k) (.fail 122) = .mk x t' m' := h
    rw [bif2_eq] at h
    split at h
    · rename_i hd
      have hd : d < nt := by simpa [Nat.blt_eq] using hd
      rcases T.setK_eq (Res.fail 121) (some v) t d k with e | ⟨t1, ht, e⟩
      · rw [e] at h; cases h
      · rw [e] at h
        refine ⟨t1, h, fun {ρ a vc} hT hv => ⟨by simp [Act.put, hT.size], fun i => ?_⟩⟩
        rw [ht]
        by_cases hi : i = d
        · subst hi
          have hi' : i < a.tmps.size := by rw [hT.size]; exact hd
          simp [Act.put, Array.getElem?_setIfInBounds_self_of_lt hi']; exact hv
        · have := hT.rel i
          simp only [Act.put, if_neg hi]
          simpa [Array.getElem?_setIfInBounds_ne (Ne.symm hi)] using this
    · cases h
/-! ### What is shown of an operation -/
/-- The operation is carried out, with that value. -/
noncomputable def Runs (P : Program) (ρ : Ren) (m : AMem) (w : World) (v : AV) (m' : AMem) (s : Sem Next) : Prop :=
  ∃ ρ' w' vc, Step ρ m w ρ' m' w' ∧ VR ρ' v vc ∧ (s.run P w = .ok (.value vc) w' ∨ (s.run P w = .ok .skip w' ∧ vc = undef))
/-- One that leaves memory alone. -/
noncomputable def Val (P : Program) (ρ : Ren) (m : AMem) (w : World) (v : AV) (m' : AMem) (s : Sem Value) : Prop := m' = m ∧ ∃ vc, VR ρ v vc ∧ s.run P w = .ok vc w
theorem Val.runs (V : View ρ m w) {v : AV} {m' : AMem} {s : Sem Value} (h : Val P ρ m w v m' s) : Runs P ρ m w v m' (do pure (.value (← s))) := by
  obtain ⟨rfl, vc, hv, hr⟩ := h
  exact ⟨ρ, w, vc, V.refl, hv, .inl (by simp [hr])⟩
theorem Val.mk {v : AV} {m' : AMem} {s : Sem Value} {u : AV} {uc : Value} (h : OR.mk u m = .mk v m') (hr : s.run P w = .ok uc w) (hv : VR ρ u uc) : Val P ρ m w v m' s := by
  cases h; exact ⟨rfl, uc, hv, hr⟩
theorem iBool_val {b : Bool} {v : AV} {m' : AMem} {s : Sem Value} (h : iBool b m = .mk v m') (hr : s.run P w = .ok (.bool b) w) : Val P ρ m w v m' s := by
  cases b
  · exact Val.mk (u := .bool false) h hr (.bool _)
  · exact Val.mk (u := .bool true) h hr (.bool _)
/-! ### Numbers -/
theorem bits_land (k : IntKind) (x y : Nat) (hx : x < 2 ^ k.bits) (hy : y < 2 ^ k.bits) : (BitVec.ofInt k.bits (Int.ofNat x) &&& BitVec.ofInt k.bits (Int.ofNat y)).toNat = Nat.land x y := by
  rw [BitVec.toNat_and]
  simp [Nat.mod_eq_of_lt hx, Nat.mod_eq_of_lt hy]
theorem bits_lor (k : IntKind) (x y : Nat) (hx : x < 2 ^ k.bits) (hy : y < 2 ^ k.bits) : (BitVec.ofInt k.bits (Int.ofNat x) ||| BitVec.ofInt k.bits (Int.ofNat y)).toNat = Nat.lor x y := by
  rw [BitVec.toNat_or]
  simp [Nat.mod_eq_of_lt hx, Nat.mod_eq_of_lt hy]
theorem bits_xor (k : IntKind) (x y : Nat) (hx : x < 2 ^ k.bits) (hy : y < 2 ^ k.bits) : (BitVec.ofInt k.bits (Int.ofNat x) ^^^ BitVec.ofInt k.bits (Int.ofNat y)).toNat = Nat.xor x y := by
  rw [BitVec.toNat_xor]
  simp [Nat.mod_eq_of_lt hx, Nat.mod_eq_of_lt hy]
theorem iBits_val {f : Nat → Nat → Nat} {k : IntKind} {a b : Int} {v : AV} {m' : AMem} {s : Sem Value} (h : iBits f k a b m = .mk v m')
    (hr : ∀ x y, x < 2 ^ k.bits → y < 2 ^ k.bits → a = Int.ofNat x → b = Int.ofNat y → s.run P w = .ok (.int k (k.wrap (Int.ofNat (f x y)))) w) : Val P ρ m w v m' s := by
  cases a with
  | negSucc x => cases h
  | ofNat x =>
    cases b with
    | negSucc y => cases h
    | ofNat y =>
      have h : bif2 (Nat.blt x (2 ^ k.bits) && Nat.blt y (2 ^ k.bits)) (wrapK k (.ofNat (f x y)) fun n => OR.mk (.int k n) m) (OR.fail 13) = OR.mk v m' := h
      rw [bif2_eq] at h
      split at h
      · rename_i hc
        simp only [Bool.and_eq_true, Nat.blt_eq] at hc
        rw [wrapK_eq] at h
        exact Val.mk h (hr x y hc.1 hc.2 rfl rfl) (.int _ _)
      · cases h
theorem pow_cast (n : Nat) : (Int.ofNat (2 ^ n)) = (2 : Int) ^ n := by simp
theorem shift_amount (y b : Nat) : (bif2 (Nat.ble y b) y b) = min y b := by
  rw [bif2_eq]; split
  · rename_i h; rw [Nat.min_eq_left (by simpa [Nat.ble_eq] using h)]
  · rename_i h; rw [Nat.min_eq_right (by simp [Nat.ble_eq] at h; omega)]
theorem iBin_val {op : BinOp} {t : TypeId} {k k' : IntKind} {a b : Int} {v : AV} {m' : AMem} (h0 : iBin op k a k' b m = .mk v m') : Val P ρ m w v m' (binOp op t (.int k a) (.int k' b)) := by
  have kk : isShift op = false → k = k' ∧ intTab op k a b m = .mk v m' := by
    intro hs
    have h := h0
    unfold iBin at h
    rw [hs] at h
    have h : bif2 (kEq k k') (intTab op k a b m) (.fail 19) = .mk v m' := h
    rw [bif2_eq] at h
    split at h
    · rename_i e; exact ⟨kEq_eq e, h⟩
    · cases h
  cases op with
  | shl =>
    cases b with
    | negSucc y => cases h0
    | ofNat y =>
      have h : (wrapK k (Int.mul a (.ofNat (2 ^ (bif2 (Nat.ble y k.bits) y k.bits)))) fun n => OR.mk (.int k n) m) = .mk v m' := h0
      rw [wrapK_eq, shift_amount, pow_cast] at h
      refine Val.mk h ?_ (.int _ _)
      simp only [binOp, Op.shift]
      rw [if_neg (by simp)]
      rfl
  | shr =>
    cases b with
    | negSucc y => cases h0
    | ofNat y =>
      have h : (fInt (Int.fdiv a (.ofNat (2 ^ (bif2 (Nat.ble y k.bits) y k.bits)))) fun n => OR.mk (.int k n) m) = .mk v m' := h0
      rw [fInt_eq, shift_amount, pow_cast] at h
      refine Val.mk h ?_ (.int _ _)
      simp only [binOp, Op.shift]
      rw [if_neg (by simp)]
      rfl
  | add =>
    obtain ⟨rfl, h⟩ := kk rfl
    have h : (wrapK k (Int.add a b) fun n => OR.mk (.int k n) m) = .mk v m' := h
    rw [wrapK_eq] at h
    exact Val.mk h (by simp [binOp, Op.intArith]) (.int _ _)
  | sub =>
    obtain ⟨rfl, h⟩ := kk rfl
    have h : (wrapK k (Int.sub a b) fun n => OR.mk (.int k n) m) = .mk v m' := h
    rw [wrapK_eq] at h
    exact Val.mk h (by simp [binOp, Op.intArith]; rfl) (.int _ _)
  | mul =>
    obtain ⟨rfl, h⟩ := kk rfl
    have h : (wrapK k (Int.mul a b) fun n => OR.mk (.int k n) m) = .mk v m' := h
    rw [wrapK_eq] at h
    exact Val.mk h (by simp [binOp, Op.intArith]) (.int _ _)
  | quo =>
    obtain ⟨rfl, h⟩ := kk rfl
    have h : bif2 (iEq b 0) (.fail 11) (wrapK k (Int.tdiv a b) fun n => OR.mk (.int k n) m) = .mk v m' := h
    rw [bif2_eq, iEq_eq] at h
    split at h
    · cases h
    · rename_i hb
      rw [wrapK_eq] at h
      exact Val.mk h (by simp [binOp, Op.intDiv, show b ≠ 0 from by simpa using hb]) (.int _ _)
  | rem =>
    obtain ⟨rfl, h⟩ := kk rfl
    have h : bif2 (iEq b 0) (.fail 11) (bif2 (iEq b 1) (.mk (.int k 0) m) (fInt (Int.tmod a b) fun n => OR.mk (.int k n) m)) = .mk v m' := h
    rw [bif2_eq, iEq_eq] at h
    split at h
    · cases h
    · rename_i hb
      rw [bif2_eq, iEq_eq] at h
      split at h
      · rename_i h1
        have h1 : b = 1 := by simpa using h1
        subst h1
        exact Val.mk h (by simp [binOp, Op.intDiv]) (.int _ _)
      · rw [fInt_eq] at h
        exact Val.mk h (by simp [binOp, Op.intDiv, show b ≠ 0 from by simpa using hb]) (.int _ _)
  | eql =>
    obtain ⟨rfl, h⟩ := kk rfl
    exact iBool_val (b := iEq a b) h (by simp [binOp, Op.intCmp, iEq_eq])
  | neq =>
    obtain ⟨rfl, h⟩ := kk rfl
    exact iBool_val (b := !iEq a b) h (by simp [binOp, Op.intCmp, iEq_eq, bne])
  | lss =>
    obtain ⟨rfl, h⟩ := kk rfl
    exact iBool_val (b := iLt a b) h (by simp [binOp, Op.intCmp, iLt_eq])
  | leq =>
    obtain ⟨rfl, h⟩ := kk rfl
    exact iBool_val (b := !iLt b a) h (by
      have e : decide (a ≤ b) = !decide (b < a) := by rw [Bool.eq_iff_iff]; simp
      simp [binOp, Op.intCmp, iLt_eq, e])
  | gtr =>
    obtain ⟨rfl, h⟩ := kk rfl
    exact iBool_val (b := iLt b a) h (by simp [binOp, Op.intCmp, iLt_eq])
  | geq =>
    obtain ⟨rfl, h⟩ := kk rfl
    exact iBool_val (b := !iLt a b) h (by
      have e : decide (b ≤ a) = !decide (a < b) := by rw [Bool.eq_iff_iff]; simp
      simp [binOp, Op.intCmp, iLt_eq, e])
  | and =>
    obtain ⟨rfl, h⟩ := kk rfl
    exact iBits_val (f := Nat.land) h fun x y hx hy ea eb => by
      subst ea eb; simp only [binOp, Op.intBits, ne_eq, not_true_eq_false, if_false, bits_land k x y hx hy]; rfl
  | or =>
    obtain ⟨rfl, h⟩ := kk rfl
    exact iBits_val (f := Nat.lor) h fun x y hx hy ea eb => by
      subst ea eb; simp only [binOp, Op.intBits, ne_eq, not_true_eq_false, if_false, bits_lor k x y hx hy]; rfl
  | xor =>
    obtain ⟨rfl, h⟩ := kk rfl
    exact iBits_val (f := Nat.xor) h fun x y hx hy ea eb => by
      subst ea eb; simp only [binOp, Op.intBits, ne_eq, not_true_eq_false, if_false, bits_xor k x y hx hy]; rfl
  | andNot =>
    obtain ⟨rfl, h⟩ := kk rfl
    cases h
end
end Go.Ev
end
section
namespace Go.Ev
set_option linter.all false
section
variable {P : Program} {ρ : Ren} {m : AMem} {w : World}
/-! ### Strings -/
theorem toNat_inj : ∀ (x y : List UInt8), (x.map UInt8.toNat == y.map UInt8.toNat) = (x == y)
  | [], [] => rfl
  | [], _ :: _ => rfl
  | _ :: _, [] => rfl
  | a :: x, b :: y => by
    simp only [List.map_cons, List.cons_beq_cons, toNat_inj x y]
    have : (a.toNat == b.toNat) = (a == b) := by rw [Bool.eq_iff_iff, beq_iff_eq, beq_iff_eq, UInt8.toNat_inj]
    rw [this]
theorem lLt_eq : ∀ (x y : List UInt8), lLt (x.map UInt8.toNat) (y.map UInt8.toNat) = Op.bytesLess x y
  | [], [] => rfl
  | _ :: _, [] => rfl
  | [], _ :: _ => rfl
  | a :: x, b :: y => by
    show bif2 (Nat.blt a.toNat b.toNat) true (bif2 (Nat.beq a.toNat b.toNat) (lLt (x.map UInt8.toNat) (y.map UInt8.toNat)) false) = (a < b || (a == b && Op.bytesLess x y))
    rw [lLt_eq x y]
    by_cases h : a < b
    · have : Nat.blt a.toNat b.toNat = true := by rw [Nat.blt_eq]; exact UInt8.lt_iff_toNat_lt.1 h
      simp [this, h]
    · have : Nat.blt a.toNat b.toNat = false := by rw [Bool.eq_false_iff]; intro e; exact h (UInt8.lt_iff_toNat_lt.2 (by simpa [Nat.blt_eq] using e))
      simp only [this, bif2_false, h, decide_false, Bool.false_or]
      by_cases e : a = b
      · subst e; simp
      · have : Nat.beq a.toNat b.toNat = false := by rw [Bool.eq_false_iff]; intro q; exact e (UInt8.toNat_inj.1 (Nat.eq_of_beq_eq_true q))
        simp [this, e]
theorem str_inv {l : List Nat} {v : Value} (h : VR ρ (.str l) v) : ∃ s : ByteArray, v = .string s ∧ s.data.toList.map UInt8.toNat = l := by
  cases h with | str l s h => exact ⟨s, rfl, h⟩
theorem str_len {l : List Nat} {s : ByteArray} (h : s.data.toList.map UInt8.toNat = l) : l.length = s.size := by rw [← h]; simp
theorem aStr_val {op : BinOp} {t : TypeId} {a b : List Nat} {x y : ByteArray} (hx : x.data.toList.map UInt8.toNat = a) (hy : y.data.toList.map UInt8.toNat = b) {v : AV} {m' : AMem} (h : aStr op a b m = .mk v m') :
    Val P ρ m w v m' (binOp op t (.string x) (.string y)) := by
  have heq : lEq a b = (x.toList == y.toList) := by rw [lEq_eq, ← hx, ← hy, toNat_inj, ByteArray.toList_eq, ByteArray.toList_eq]
  have hlt : lLt a b = Op.bytesLess x.toList y.toList := by rw [← hx, ← hy, lLt_eq, ByteArray.toList_eq, ByteArray.toList_eq]
  cases op with
  | add =>
    simp only [aStr, bif2_eq] at h
    split at h
    · rename_i hc
      refine Val.mk h (uc := .string (x ++ y)) ?_ (.str _ _ ?_)
      · have : ¬ (((x.size + y.size : Nat) : Int) > IntKind.i64.max) := by
          have h1 := str_len hx; have h2 := str_len hy
          have h3 : a.length + b.length < 9223372036854775807 := by simpa [Nat.blt_eq] using hc
          have h4 : IntKind.i64.max = 9223372036854775807 := by decide
          rw [h4]; omega
        simp only [binOp, Op.stringOp]
        rw [if_neg this]; rfl
      · rw [← hx, ← hy]; simp
    · cases h
  | eql => exact iBool_val (b := lEq a b) h (by simp [binOp, Op.stringOp, heq])
  | neq => exact iBool_val (b := !lEq a b) h (by simp [binOp, Op.stringOp, heq])
  | lss => exact iBool_val (b := lLt a b) h (by simp [binOp, Op.stringOp, hlt])
  | leq => exact iBool_val (b := lLt a b || lEq a b) h (by simp [binOp, Op.stringOp, hlt, heq])
  | gtr => exact iBool_val (b := !(lLt a b || lEq a b)) h (by simp [binOp, Op.stringOp, hlt, heq])
  | geq => exact iBool_val (b := !lLt a b) h (by simp [binOp, Op.stringOp, hlt])
  | _ => cases h
/-! ### Held against one another -/
theorem flip_val {op : BinOp} {t : TypeId} {r : Bool} {x y : Value} {v : AV} {m' : AMem} (h : flip op r m = .mk v m') (h1 : (binOp .eql t x y).run P w = .ok (.bool r) w)
    (h2 : (binOp .neq t x y).run P w = .ok (.bool (!r)) w) : Val P ρ m w v m' (binOp op t x y) := by
  cases op with
  | eql => exact iBool_val (b := r) h h1
  | neq => exact iBool_val (b := !r) h h2
  | _ => cases h
theorem nil_equal (d : Nat) {t : TypeId} {x y : AV} {vx vy : Value} (hx : VR ρ x vx) (hy : VR ρ y vy) {i : Nat} {a b : Bool} (hnx : nilOf x = some (i, a)) (hny : nilOf y = some (i, b)) (hk : nilKind P t = some i)
    (hab : (a || b) = true) : (Op.equalIn (d + 1) t vx vy).run P w = .ok (a && b) w ∧ binOp .eql t vx vy = (do pure (.bool (← Op.equal t vx vy))) ∧ binOp .neq t vx vy = (do pure (.bool (!(← Op.equal t vx vy)))) := by
  unfold nilKind at hk
  split at hk <;> cases hk <;> rename_i q hu <;> cases x <;> simp [nilOf] at hnx <;> cases y <;> simp [nilOf] at hny <;>
    (subst hnx; subst hny; cases hx <;> cases hy <;> first
      | (simp at hab; done)
      | exact ⟨by simp only [Op.equalIn, Sem.run_bind, run_underlying hu, Result.andThen_ok]; rfl, rfl, rfl⟩)
theorem aNil_val {op : BinOp} {t : TypeId} {x y : AV} {vx vy : Value} (hx : VR ρ x vx) (hy : VR ρ y vy) {v : AV} {m' : AMem} (h : aNil P op t x y m = .mk v m') :
    Val P ρ m w v m' (binOp op t vx vy) := by
  unfold aNil at h
  split at h
  · rename_i i a j b k hnx hny hk
    rw [bif2_eq] at h
    split at h
    · rename_i hc
      simp only [Bool.and_eq_true] at hc
      obtain ⟨⟨h1, h2⟩, hab⟩ := hc
      obtain rfl := Nat.eq_of_beq_eq_true h1
      obtain rfl := Nat.eq_of_beq_eq_true h2
      obtain ⟨e1, e2, e3⟩ := nil_equal (w := w) 9999 hx hy hnx hny hk hab
      have e1 : (Op.equal t vx vy).run P w = .ok (a && b) w := e1
      exact flip_val h (t := t) (by rw [e2]; simp [e1]) (by rw [e3]; simp [e1])
    · cases h
  · cases h
theorem sEq_run {d : Nat} {t : TypeId} {x y : AV} {vx vy : Value} (hx : VR ρ x vx) (hy : VR ρ y vy) {r : Bool} (h : sEq (P.underlying t) x y = some r) :
    (isAgg t).run P w = .ok false w ∧ (Op.equalIn (d + 1) t vx vy).run P w = .ok r w := by
  unfold sEq at h
  split at h
  · rename_i a b hu
    cases h; cases hx; cases hy
    exact ⟨by simp [isAgg, run_underlying hu], by simp [Op.equalIn, run_underlying hu]⟩
  · rename_i k0 j a k b hu
    rw [bif2_eq] at h
    split at h
    · rename_i hk
      cases h; cases hx; cases hy
      obtain rfl := kEq_eq hk
      exact ⟨by simp [isAgg, run_underlying hu], by simp [Op.equalIn, run_underlying hu, iEq_eq]⟩
    · cases h
  · rename_i a b hu
    cases h
    obtain ⟨s, rfl, hs⟩ := str_inv hx
    obtain ⟨s', rfl, hs'⟩ := str_inv hy
    refine ⟨by simp [isAgg, run_underlying hu], ?_⟩
    rw [lEq_eq, ← hs, ← hs', toNat_inj]
    simp [Op.equalIn, run_underlying hu, beq_toListBytes, ByteArray.toList_eq]
  · cases h
theorem aggEq_run {d : Nat} : ∀ (fs : List Field) {xs ys : List AV} {cx cy : Array Value} (_ : VRs ρ xs cx.toList) (_ : VRs ρ ys cy.toList) {r : Bool} (_ : aggEq P fs xs ys = some r),
    (Op.eqFields (d + 1) cx cy fs).run P w = .ok r w
  | [], _, _, _, _, _, _, r, h => by simp [aggEq] at h; subst h; rfl
  | f :: fs, xs, ys, cx, cy, hx, hy, r, h => by
    simp only [aggEq, bif2_eq] at h
    split at h
    · cases h
    · rename_i hn
      split at h
      · rename_i x y ex ey
        obtain ⟨vx, e1, r1⟩ := hx.get _ ex
        obtain ⟨vy, e2, r2⟩ := hy.get _ ey
        have hpx : ∀ z, sEq (P.underlying f.type) x y = some z → (part f.type cx f.offset).run P w = .ok vx w := fun z hz => by
          have e1' : cx[f.offset]? = some vx := by rw [← e1]; simp
          simp [part, (sEq_run (d := d) (w := w) r1 r2 hz).1, e1']
        have hpy : ∀ z, sEq (P.underlying f.type) x y = some z → (part f.type cy f.offset).run P w = .ok vy w := fun z hz => by
          have e2' : cy[f.offset]? = some vy := by rw [← e2]; simp
          simp [part, (sEq_run (d := d) (w := w) r1 r2 hz).1, e2']
        have hne : f.name ≠ "_" := by simpa using hn
        split at h
        · rename_i hs
          simp only [Op.eqFields, Sem.run_bind, Sem.run_ite, if_pos hne, hpx _ hs, hpy _ hs, Result.andThen_ok, (sEq_run (d := d) (w := w) r1 r2 hs).2]
          simpa using aggEq_run (d := d) fs hx hy h
        · rename_i hs
          cases h
          simp only [Op.eqFields, Sem.run_bind, Sem.run_ite, if_pos hne, hpx _ hs, hpy _ hs, Result.andThen_ok, (sEq_run (d := d) (w := w) r1 r2 hs).2]
          simp
        · cases h
      · cases h
theorem aggEq1_run {d : Nat} : ∀ (fs : List Field) {xs ys : List AV} {cx cy : Array Value} (_ : VRs ρ xs cx.toList) (_ : VRs ρ ys cy.toList) {r : Bool} (_ : aggEq1 P fs xs ys = some r),
    (Op.eqFields (d + 2) cx cy fs).run P w = .ok r w
  | [], _, _, _, _, _, _, r, h => by simp [aggEq1] at h; subst h; rfl
  | f :: fs, xs, ys, cx, cy, hx, hy, r, h => by
    simp only [aggEq1, bif2_eq] at h
    split at h
    · cases h
    · rename_i hn
      have hne : f.name ≠ "_" := by simpa using hn
      split at h
      · rename_i gs hu
        split at h
        · rename_i i hi
          split at h
          · cases h
          · rename_i hst
            simp only [Bool.not_eq_true] at hst
            have hagg : (isAgg f.type).run P w = .ok true w := by simp [isAgg, run_underlying hu]
            have hpart : ∀ c : Array Value, (part f.type c f.offset).run P w = .ok (.agg (c.extract f.offset (f.offset + i.size))) w := fun c => by simp [part, hagg, run_sizeOf hi]
            have hf : P.fieldsOf f.type = gs := by simp [Program.fieldsOf, hu]
            have sub : ∀ z, aggEq P gs.toList ((xs.drop f.offset).take i.size) ((ys.drop f.offset).take i.size) = some z → (Op.equalIn (d + 1 + 1) f.type (.agg (cx.extract f.offset (f.offset + i.size))) (.agg (cy.extract f.offset (f.offset + i.size)))).run P w = .ok z w := fun z hz => by
              rw [run_equalIn_struct w (d + 1) f.type _ _ (by rw [hf]; exact hu) hst, hf]
              have hx' : VRs ρ ((xs.drop f.offset).take i.size) (cx.extract f.offset (f.offset + i.size)).toList := by
                have := (hx.drop f.offset).take i.size
                simpa [List.take_drop, Nat.add_comm] using this
              have hy' : VRs ρ ((ys.drop f.offset).take i.size) (cy.extract f.offset (f.offset + i.size)).toList := by
                have := (hy.drop f.offset).take i.size
                simpa [List.take_drop, Nat.add_comm] using this
              exact aggEq_run (d := d) gs.toList hx' hy' hz
            split at h
            · rename_i hs
              simp only [Op.eqFields, Sem.run_bind, Sem.run_ite, if_pos hne, hpart, Result.andThen_ok, sub _ hs]
              simpa using aggEq1_run (d := d) fs hx hy h
            · rename_i hs
              cases h
              simp only [Op.eqFields, Sem.run_bind, Sem.run_ite, if_pos hne, hpart, Result.andThen_ok, sub _ hs]
              simp
            · cases h
        · cases h
      · rename_i dd hdd
        split at h
        · rename_i x y ex ey
          obtain ⟨vx, e1, r1⟩ := hx.get _ ex
          obtain ⟨vy, e2, r2⟩ := hy.get _ ey
          have hpx : ∀ z, sEq (P.underlying f.type) x y = some z → (part f.type cx f.offset).run P w = .ok vx w := fun z hz => by
            have e1' : cx[f.offset]? = some vx := by rw [← e1]; simp
            simp [part, (sEq_run (d := d + 1) (w := w) r1 r2 hz).1, e1']
          have hpy : ∀ z, sEq (P.underlying f.type) x y = some z → (part f.type cy f.offset).run P w = .ok vy w := fun z hz => by
            have e2' : cy[f.offset]? = some vy := by rw [← e2]; simp
            simp [part, (sEq_run (d := d + 1) (w := w) r1 r2 hz).1, e2']
          split at h
          · rename_i hs
            simp only [Op.eqFields, Sem.run_bind, Sem.run_ite, if_pos hne, hpx _ hs, hpy _ hs, Result.andThen_ok, (sEq_run (d := d + 1) (w := w) r1 r2 hs).2]
            simpa using aggEq1_run (d := d) fs hx hy h
          · rename_i hs
            cases h
            simp only [Op.eqFields, Sem.run_bind, Sem.run_ite, if_pos hne, hpx _ hs, hpy _ hs, Result.andThen_ok, (sEq_run (d := d + 1) (w := w) r1 r2 hs).2]
            simp
          · cases h
        · cases h
theorem aAggEq_val {op : BinOp} {t : TypeId} {xs ys : List AV} {cx cy : Array Value} (hx : VRs ρ xs cx.toList) (hy : VRs ρ ys cy.toList) {v : AV} {m' : AMem} (h : aAggEq P op t xs ys m = .mk v m') :
    Val P ρ m w v m' (binOp op t (.agg cx) (.agg cy)) ∧ ∀ (o : BinOp) (x y : Operand), (eqGuard o t x y (.agg cx) (.agg cy)).run P w = .ok () w := by
  unfold aAggEq at h
  split at h
  · rename_i fs hu
    rw [bif2_eq] at h
    split at h
    · rename_i hc
      simp only [Bool.and_eq_true, Bool.not_eq_true'] at hc
      split at h
      · rename_i r hr
        have hf : P.fieldsOf t = fs := by simp [Program.fieldsOf, hu]
        have hrun : (Op.equalIn (9999 + 1) t (.agg cx) (.agg cy)).run P w = .ok r w := by
          rw [run_equalIn_struct w 9999 t cx cy (by rw [hf]; exact hu) hc.2, hf]
          exact aggEq1_run (d := 9997) fs.toList hx hy hr
        exact ⟨flip_val h (t := t) (by rw [run_eql_struct, hrun]; rfl) (by rw [run_neq_struct, hrun]; rfl), fun o x y => run_eqGuard_agg w o t x y cx cy hc.1⟩
      · cases h
    · cases h
  · cases h
/-- '==' where one look at the type and the two values tells. -/
noncomputable def oneLook (d : TypeDesc) (x y : Value) : Option Bool :=
  match d, x, y with
  | .bool, .bool a, .bool b => some (a == b)
  | .interface _, .nilIface, .nilIface => some true
  | .interface _, .nilIface, .iface _ _ => some false
  | .interface _, .iface _ _, .nilIface => some false
  | _, _, _ => none
theorem one_look (n : Nat) {t : TypeId} {d : TypeDesc} {x y : Value} {r : Bool} (hu : P.underlying t = some d) (h : oneLook d x y = some r) : (Op.equalIn (n + 1) t x y).run P w = .ok r w := by
  unfold oneLook at h
  split at h <;> cases h <;> (simp only [Op.equalIn, Sem.run_bind, run_underlying hu, Result.andThen_ok]; rfl)
theorem one_equal {t : TypeId} {d : TypeDesc} {x y : Value} {r : Bool} (hu : P.underlying t = some d) (h : oneLook d x y = some r) : (Op.equal t x y).run P w = .ok r w := one_look 9999 hu h
theorem flip_one {op : BinOp} {t : TypeId} {d : TypeDesc} {r : Bool} {x y : Value} {v : AV} {m' : AMem} (h : flip op r m = .mk v m') (hu : P.underlying t = some d) (hl : oneLook d x y = some r)
    (e1 : binOp .eql t x y = (do pure (.bool (← Op.equal t x y)))) (e2 : binOp .neq t x y = (do pure (.bool (!(← Op.equal t x y))))) : Val P ρ m w v m' (binOp op t x y) :=
  flip_val h (t := t) (by rw [e1]; simp [one_equal (w := w) hu hl]) (by rw [e2]; simp [one_equal (w := w) hu hl])
theorem eqGuard_plain {op : BinOp} {t : TypeId} {x y : Operand} {a b : Value} (h1 : a ≠ .nilIface ∨ b ≠ .nilIface) (h2 : (∀ c, a ≠ .agg c) ∨ (∀ c, b ≠ .agg c)) : (eqGuard op t x y a b).run P w = .ok () w := by
  cases op <;> first | rfl | (cases a <;> first | rfl | (cases b <;> first | rfl | (simp at h1; done) | (simp at h2; done)))
theorem aIface_val {op : BinOp} {t : TypeId} {x y : AV} {ox oy : Operand} {vx vy : Value} (hx : VR ρ x vx) (hy : VR ρ y vy) {v : AV} {m' : AMem} (h : aIface P op t (isConst ox || isConst oy) x y m = .mk v m') :
    Val P ρ m w v m' (do eqGuard op t ox oy vx vy; binOp op t vx vy) := by
  have join : ∀ {s : Sem Value} {u : Sem Unit}, u.run P w = .ok () w → Val P ρ m w v m' s → Val P ρ m w v m' (do u; s) := by
    intro s u hu ⟨e, vc, hv, hr⟩
    exact ⟨e, vc, hv, by simp [hu, hr]⟩
  unfold aIface at h
  split at h
  · rename_i ms hu
    rw [bif2_eq] at h
    split at h
    · rename_i hl
      cases hx; cases hy
      refine join ?_ (flip_one h hu rfl rfl rfl)
      cases op <;> first | rfl | (cases ox <;> cases oy <;> first | rfl | (cases hl; done))
    · cases h
  · rename_i ms _ _ hu
    cases hx; cases hy
    exact join (eqGuard_plain (.inr (by simp)) (.inl (by simp))) (flip_one h hu rfl rfl rfl)
  · rename_i ms _ _ hu
    cases hx; cases hy
    exact join (eqGuard_plain (.inl (by simp)) (.inl (by simp))) (flip_one h hu rfl rfl rfl)
  · cases h
theorem aBin_val {op : BinOp} {t : TypeId} {x y : AV} {ox oy : Operand} {vx vy : Value} (hx : VR ρ x vx) (hy : VR ρ y vy) {v : AV} {m' : AMem} (h : aBin P op t (isConst ox || isConst oy) x y m = .mk v m') :
    Val P ρ m w v m' (do eqGuard op t ox oy vx vy; binOp op t vx vy) := by
  have join : ∀ {s : Sem Value} {u : Sem Unit}, u.run P w = .ok () w → Val P ρ m w v m' s → Val P ρ m w v m' (do u; s) := by
    intro s u hu ⟨e, vc, hv, hr⟩
    exact ⟨e, vc, hv, by simp [hu, hr]⟩
  have rest : ∀ h : aBinRest P op t (isConst ox || isConst oy) x y m = .mk v m', Val P ρ m w v m' (do eqGuard op t ox oy vx vy; binOp op t vx vy) := by
    intro h
    have nil : ∀ h : aNil P op t x y m = .mk v m', (∀ c, x ≠ .agg c) → x ≠ .nili → Val P ρ m w v m' (do eqGuard op t ox oy vx vy; binOp op t vx vy) := by
      intro h h1 h2
      refine join (eqGuard_plain (.inl ?_) (.inl ?_)) (aNil_val hx hy h)
      · intro e; subst e; cases hx with
        | nili => exact h2 rfl
        | any => unfold aNil at h; simp [nilOf] at h
      · intro c e; subst e; cases hx with
        | agg l _ _ => exact h1 l rfl
        | any => unfold aNil at h; simp [nilOf] at h
    cases x with
    | bool a =>
      obtain ⟨b, rfl, h1⟩ := onBool_inv _ h fail_ne
      clear h; have h := h1
      split at h
      · rename_i hu
        cases hx; cases hy
        exact join (eqGuard_plain (.inl (by simp)) (.inl (by simp))) (flip_one h hu rfl rfl rfl)
      · cases h
    | agg xs =>
      obtain ⟨ys, rfl, h1⟩ := onAgg_inv _ h fail_ne
      clear h; have h := h1
      cases hx with | agg _ cx hcx => cases hy with | agg _ cy hcy =>
      obtain ⟨h1, h2⟩ := aAggEq_val (w := w) hcx hcy h
      exact join (h2 _ _ _) h1
    | nili => exact aIface_val hx hy h
    | iface i u => exact aIface_val hx hy h
    | _ => exact nil h (by simp) (by simp)
  cases x with
  | int k a =>
    have h1 : y.onInt (fun k' b => iBin op k a k' b m) (.fail 23) = .mk v m' := h
    obtain ⟨k', b, rfl, h2⟩ := onInt_inv _ h1 fail_ne
    cases hx; cases hy
    exact join (eqGuard_plain (.inl (by simp)) (.inl (by simp))) (iBin_val h2)
  | str a =>
    have h1 : y.onStr (fun b => aStr op a b m) (.fail 23) = .mk v m' := h
    obtain ⟨b, rfl, h2⟩ := onStr_inv _ h1 fail_ne
    obtain ⟨s, rfl, hs⟩ := str_inv hx
    obtain ⟨s', rfl, hs'⟩ := str_inv hy
    exact join (eqGuard_plain (.inl (by simp)) (.inl (by simp))) (aStr_val hs hs' h2)
  | _ => exact rest h
end
end Go.Ev
end
section
namespace Go.Ev
set_option linter.all false
section
variable {P : Program} {ρ : Ren} {m : AMem} {w : World}
/-! ### Unary -/
theorem xor_ones (n a : Nat) (h : a < 2 ^ n) : (BitVec.ofInt n (2 ^ n - 1 : Int) ^^^ BitVec.ofInt n (Int.ofNat a)).toNat = 2 ^ n - 1 - a := by
  have e : BitVec.ofInt n (2 ^ n - 1 : Int) = BitVec.allOnes n := by
    apply BitVec.eq_of_toNat_eq
    have h1 : 0 < 2 ^ n := Nat.two_pow_pos n
    have h2 : ((2 : Int) ^ n - 1) = ((2 ^ n - 1 : Nat) : Int) := by rw [Int.natCast_sub (by omega)]; simp
    rw [h2, BitVec.ofInt_natCast, BitVec.toNat_ofNat, BitVec.toNat_allOnes]
    exact Nat.mod_eq_of_lt (by omega)
  rw [e, BitVec.allOnes_xor, BitVec.toNat_not]
  simp [Nat.mod_eq_of_lt h]
theorem not_wrap (k : IntKind) (n : Int) : k.wrap ((BitVec.ofInt k.bits (-1) ^^^ BitVec.ofInt k.bits n).toNat) = k.wrap (-1 - n) := by
  have hW : (0 : Int) < 2 ^ k.bits := by exact_mod_cast Nat.two_pow_pos k.bits
  have hnot : BitVec.ofInt k.bits (-1) ^^^ BitVec.ofInt k.bits n = BitVec.ofInt k.bits (-1 - n) := by
    have h1 : BitVec.ofInt k.bits (-1) = BitVec.allOnes k.bits := by
      apply BitVec.eq_of_toInt_eq
      cases k <;> decide
    rw [h1, BitVec.allOnes_xor]
    apply BitVec.eq_of_toNat_eq
    rw [BitVec.toNat_not, BitVec.toNat_ofInt, BitVec.toNat_ofInt]
    have hr0 := Int.emod_nonneg n (Int.ne_of_gt hW)
    have hr1 := Int.emod_lt_of_pos n hW
    have e : (-1 - n) % 2 ^ k.bits = 2 ^ k.bits - 1 - n % 2 ^ k.bits := by
      have h2 := Int.mul_ediv_add_emod n (2 ^ k.bits)
      have h3 : -1 - n = (2 ^ k.bits - 1 - n % 2 ^ k.bits) + 2 ^ k.bits * (-(n / 2 ^ k.bits) - 1) := by
        rw [Int.mul_sub, Int.mul_neg]; omega
      rw [h3, Int.add_mul_emod_self_left]
      exact Int.emod_eq_of_lt (by omega) (by omega)
    have e1 : ((2 ^ k.bits : Nat) : Int) = 2 ^ k.bits := by simp
    rw [e1, e]
    have hP := Nat.two_pow_pos k.bits
    omega
  rw [hnot, BitVec.toNat_ofInt]
  have e1 : ((2 ^ k.bits : Nat) : Int) = 2 ^ k.bits := by simp
  rw [e1]
  have h0 := Int.emod_nonneg (-1 - n) (Int.ne_of_gt hW)
  rw [Int.toNat_of_nonneg h0]
  unfold IntKind.wrap
  simp only [Int.emod_emod_of_dvd _ (Int.dvd_refl _)]
theorem aUn_val {op : UnOp} {x : AV} {vx : Value} (hx : VR ρ x vx) {v : AV} {m' : AMem} (h : aUn op x m = .mk v m') : Val P ρ m w v m' (Op.unary op vx) := by
  cases op with
  | neg =>
    have h : x.onInt (fun k n => wrapK k (Int.sub 0 n) fun n => OR.mk (.int k n) m) (OR.fail 109) = .mk v m' := h
    obtain ⟨k, n, rfl, h1⟩ := onInt_inv _ h fail_ne
    cases hx
    rw [wrapK_eq] at h1
    exact Val.mk h1 (by simp only [Op.unary, Op.intArith]; rfl) (.int _ _)
  | not =>
    have h : x.onBool (fun b => iBool (!b) m) (.fail 109) = .mk v m' := h
    obtain ⟨b, rfl, h1⟩ := onBool_inv _ h fail_ne
    cases hx
    exact iBool_val (b := !b) h1 (by simp [Op.unary])
  | xor =>
    have g : x.onInt (fun k n => match k.signed, n with
      | false, .ofNat a => bif2 (Nat.blt a (2 ^ k.bits)) (fInt (.ofNat (Nat.sub (2 ^ k.bits - 1) a)) fun n => OR.mk (.int k n) m) (OR.fail 108)
      | true, n => wrapK k (Int.sub (-1) n) fun n => OR.mk (.int k n) m
      | _, _ => OR.fail 108) (OR.fail 109) = .mk v m' := h
    clear h
    obtain ⟨k, n, rfl, h1⟩ := onInt_inv _ g fail_ne
    clear g
    cases hx
    split at h1
    · rename_i a hs
      rw [bif2_eq] at h1
      split at h1
      · rename_i hlt
        have hlt : a < 2 ^ k.bits := by simpa [Nat.blt_eq] using hlt
        rw [fInt_eq] at h1
        refine Val.mk h1 (uc := .int k (Int.ofNat (2 ^ k.bits - 1 - a))) ?_ (.int _ _)
        have hm : k.max = (2 ^ k.bits - 1 : Int) := by simp [IntKind.max, hs]
        have hx := xor_ones k.bits a hlt
        simp only [Op.unary, hs, Bool.false_eq_true, if_false, Op.intBits, hm, hx, Sem.run_pure]
        have : k.wrap (Int.ofNat (2 ^ k.bits - 1 - a)) = Int.ofNat (2 ^ k.bits - 1 - a) := by
          apply wrap_small
          have ht : topOf k = 2 ^ k.bits := by cases k <;> first | rfl | (simp [IntKind.signed] at hs)
          rw [ht]; have := Nat.two_pow_pos k.bits; omega
        rw [show ((2 ^ k.bits - 1 - a : Nat) : Int) = Int.ofNat (2 ^ k.bits - 1 - a) from rfl, this]
      · cases h1
    · rename_i hs
      rw [wrapK_eq] at h1
      refine Val.mk h1 ?_ (.int _ _)
      simp only [Op.unary, hs, if_true, Op.intBits, Sem.run_pure]
      rw [not_wrap]; rfl
    · cases h1
  | plus => cases h
/-! ### Fields, elements -/
theorem run_info {t : TypeId} {i : TypeInfo} (h : P.info? t = some i) (w : World) : (typeInfo t).run P w = .ok i w := by simp [typeInfo, h]
theorem aFieldAddr_val {s : TypeId} {x : AV} {vx : Value} (hx : VR ρ x vx) {f : Nat} {v : AV} {m' : AMem} (h : aFieldAddr P s x f m = .mk v m') : Val P ρ m w v m' (Instr.fieldAt s vx f) := by
  obtain ⟨b, off, rfl, h1⟩ := onPtr_inv _ h fail_ne
  cases hx with | ptr _ _ L hL =>
  cases hf : fieldAt P s f with
  | none => rw [hf] at h1; cases h1
  | some d =>
    rw [hf] at h1
    have h1 : (fNat (Nat.add off d) fun o => OR.mk (.ptr b o) m) = .mk v m' := h1
    rw [fNat_eq] at h1
    unfold fieldAt at hf
    split at hf
    · rename_i fs hu
      split at hf
      · rename_i fd hfd
        split at hf
        · rename_i i hi
          rw [bif2_eq] at hf
          split at hf
          · cases hf
          · rename_i hz
            cases hf
            have hz : ¬ i.size = 0 := fun e => hz (by rw [e]; rfl)
            refine Val.mk h1 (uc := .pointer (some ⟨L.blk, L.base + (off + fd.offset), none⟩)) ?_ (.ptr _ _ L hL)
            simp [Instr.fieldAt, run_underlying hu, hfd, Instr.sureAddr, fieldPlace, run_sizeOf hi, hz, addr_add, Nat.add_assoc]
        · cases hf
      · cases hf
    · cases hf
theorem partA_val {t : TypeId} {l : List AV} {cs : Array Value} (hl : VRs ρ l cs.toList) {off : Nat} {v : AV} {m' : AMem} (h : partA P t l off m = .mk v m') : Val P ρ m w v m' (part t cs off) := by
  unfold partA at h
  split at h
  · cases h
  · rename_i n hlay
    obtain ⟨d, i, hu, hi, rfl, hagg⟩ := layout_inv (w := w) hlay
    refine Val.mk h (uc := .agg (cs.extract off (off + i.size))) (by simp [part, hagg, run_sizeOf hi]) (.agg _ _ ?_)
    have := (hl.drop off).take i.size
    simpa [List.take_drop, Nat.add_comm] using this
  · rename_i n hlay
    obtain ⟨d, i, hu, hi, rfl, hagg⟩ := layout_inv (w := w) hlay
    split at h
    · rename_i u hu'
      obtain ⟨c, hc, hr⟩ := hl.get _ hu'
      have hc : cs[off]? = some c := by rw [← hc]; simp
      exact Val.mk h (by simp [part, hagg, hc]) hr
    · cases h
theorem aField_val {s : TypeId} {x : AV} {vx : Value} (hx : VR ρ x vx) {f : Nat} {v : AV} {m' : AMem} (h : aField P s x f m = .mk v m') : Val P ρ m w v m' (Instr.field s vx f) := by
  obtain ⟨l, rfl, h1⟩ := onAgg_inv _ h fail_ne
  cases hx with | agg _ cs hcs =>
  split at h1
  · rename_i fs hu
    split at h1
    · rename_i fd hfd
      obtain ⟨e, vc, hv, hr⟩ := partA_val (w := w) hcs h1
      exact ⟨e, vc, hv, by simp [Instr.field, run_underlying hu, hfd, asAgg, hr]⟩
    · cases h1
  · cases h1
theorem ixOf_arr {t : TypeId} {n size : Nat} (h : ixOf P t = .arr n size) : ∃ e i, P.underlying t = some (.array n e) ∧ P.info? e = some i ∧ size = i.size := by
  unfold ixOf at h
  split at h
  · rename_i n' e hu
    split at h
    · rename_i i hi; cases h; exact ⟨e, i, hu, hi, rfl⟩
    · cases h
  · split at h <;> cases h
  · cases h
theorem ixOf_sl {t : TypeId} {size : Nat} (h : ixOf P t = .sl size) : ∃ e i, P.underlying t = some (.slice e) ∧ P.info? e = some i ∧ size = i.size := by
  unfold ixOf at h
  split at h
  · split at h <;> cases h
  · rename_i e hu
    split at h
    · rename_i i hi; cases h; exact ⟨e, i, hu, hi, rfl⟩
    · cases h
  · cases h
theorem aIndexAddr_val {t : TypeId} {x ix : AV} {vx vi : Value} (hx : VR ρ x vx) (hi : VR ρ ix vi) {v : AV} {m' : AMem} (h : aIndexAddr P t x ix m = .mk v m') : Val P ρ m w v m' (Instr.indexAt t vx vi) := by
  obtain ⟨k, n, rfl, h1⟩ := onInt_inv _ h fail_ne
  cases hi
  cases n with
  | negSucc n => cases h1
  | ofNat i =>
    cases hix : ixOf P t with
    | bad => simp only [hix] at h1; cases h1
    | arr n size =>
      simp only [hix] at h1
      obtain ⟨b, off, rfl, h2⟩ := onPtr_inv _ h1 fail_ne
      cases hx with | ptr _ _ L hL =>
      rw [bif2_eq] at h2
      split at h2
      · rename_i hlt
        have hlt : i < n := by simpa [Nat.blt_eq] using hlt
        rw [fNat_eq] at h2
        obtain ⟨e, j, hu, hj, rfl⟩ := ixOf_arr hix
        refine Val.mk h2 (uc := .pointer (some ⟨L.blk, L.base + (off + i * j.size), none⟩)) ?_ (.ptr _ _ L hL)
        simp [Instr.indexAt, asIntOf, run_underlying hu, Instr.sureAddr, hlt, run_sizeOf hj, addr_add, Nat.add_assoc]
      · cases h2
    | sl size =>
      simp only [hix] at h1
      obtain ⟨b, off, len, cap, rfl, h2⟩ := onSlice_inv _ h1 fail_ne
      rw [bif2_eq] at h2
      split at h2
      · rename_i hlt
        have hlt : i < len := by simpa [Nat.blt_eq] using hlt
        rw [fNat_eq] at h2
        obtain ⟨e, j, hu, hj, rfl⟩ := ixOf_sl hix
        have go : ∀ (L : Loc) (c : Nat), ρ b = some L → Val P ρ m w v m' (Instr.indexAt t (.slice (some ⟨L.blk, L.base + off, none⟩) len c) (.int k (Int.ofNat i))) := fun L c hL => by
          refine Val.mk h2 (uc := .pointer (some ⟨L.blk, L.base + (off + i * j.size), none⟩)) ?_ (.ptr _ _ L hL)
          simp [Instr.indexAt, asIntOf, run_underlying hu, hlt, run_sizeOf hj, addr_add, Nat.add_assoc]
        cases hx with
        | sliceE _ _ _ _ L hL => exact go L _ hL
        | sliceO _ _ _ _ L hL => exact go L _ hL
      · cases h2
theorem aIndex_val {t : TypeId} {x ix : AV} {vx vi : Value} (hx : VR ρ x vx) (hi : VR ρ ix vi) {v : AV} {m' : AMem} (h : aIndex P t x ix m = .mk v m') : Val P ρ m w v m' (Instr.index t vx vi) := by
  unfold aIndex at h
  split at h
  · rename_i k i
    cases hi
    split at h
    · rename_i s hu
      obtain ⟨z, rfl, hz⟩ := str_inv hx
      split at h
      · rename_i b hb
        rw [← hz] at hb
        simp only [List.getElem?_map, Option.map_eq_some_iff] at hb
        obtain ⟨c, hc, rfl⟩ := hb
        have hc' : z[i]? = some c := by
          have hlt := (List.getElem?_eq_some_iff.1 hc)
          obtain ⟨q1, q2⟩ := hlt
          have q1' : i < z.size := by simpa using q1
          rw [getElem?_pos z i q1']
          congr 1
        refine Val.mk h (uc := .int .u8 c.toNat) ?_ (.int _ _)
        simp [Instr.index, asIntOf, run_underlying hu, hc']
      · cases h
    · rename_i n e cs hu
      cases hx with | agg _ cx hcx =>
      split at h
      · rename_i j hj
        rw [bif2_eq] at h
        split at h
        · rename_i hlt
          have hlt : i < n := by simpa [Nat.blt_eq] using hlt
          obtain ⟨e1, vc, hv, hr⟩ := partA_val (w := w) hcx h
          refine ⟨e1, vc, hv, ?_⟩
          have hr : (part e cx (i * j.size)).run P w = .ok vc w := hr
          simp [Instr.index, asIntOf, run_underlying hu, hlt, run_sizeOf hj, hr]
        · cases h
      · cases h
    · cases h
  · cases h
/-! ### Parts -/
theorem bnd_inv {x : Option AV} {d : Nat} {k : Nat → OR} {v : AV} {m' : AMem} (h : bnd x d k = .mk v m') :
    ∃ n, k n = .mk v m' ∧ ((x = none ∧ n = d) ∨ ∃ j, x = some (.int j (Int.ofNat n))) := by
  unfold bnd at h
  split at h
  · exact ⟨d, h, .inl ⟨rfl, rfl⟩⟩
  · rename_i j i; exact ⟨i, h, .inr ⟨j, rfl⟩⟩
  · cases h
/-- An operand that need not be there. -/
noncomputable def VO (ρ : Ren) : Option AV → Option Value → Prop
  | none, none => True
  | some a, some v => VR ρ a v
  | _, _ => False
theorem VO.isSome {x : Option AV} {v : Option Value} (h : VO ρ x v) : x.isSome = v.isSome := by
  cases x <;> cases v <;> first | rfl | exact h.elim
theorem VO.bound {x : Option AV} {v : Option Value} (h : VO ρ x v) {d n : Nat} (hn : (x = none ∧ n = d) ∨ ∃ j, x = some (.int j (Int.ofNat n))) : (v = none ∧ n = d) ∨ ∃ j, v = some (.int j (n : Int)) := by
  rcases hn with ⟨rfl, rfl⟩ | ⟨j, rfl⟩
  · cases v with
    | none => exact .inl ⟨rfl, rfl⟩
    | some v => exact h.elim
  · cases v with
    | none => exact h.elim
    | some v => cases h; exact .inr ⟨j, rfl⟩
/-- The bounds of a slice expression, all in order. -/
theorem run_bounds {isSlice : Bool} {len cap l h M : Nat} {lo hi mx : Option Value} (hl : (lo = none ∧ l = 0) ∨ ∃ j, lo = some (.int j (l : Int))) (hh : (hi = none ∧ h = len) ∨ ∃ j, hi = some (.int j (h : Int)))
    (hm : (mx = none ∧ M = cap) ∨ ∃ j, mx = some (.int j (M : Int))) (h1 : l ≤ h) (h2 : h ≤ M) (h3 : M ≤ cap) (hs : mx.isSome = true → hi.isSome = true) :
    (Instr.sliceBounds isSlice len cap lo hi mx).run P w = .ok (l, h, M) w := by
  have b : ∀ (k : IntKind) (i y : Nat) (c : BoundsCode), i ≤ y → (Instr.sliceBound (.int k (i : Int)) y c).run P w = .ok i w := fun k i y c hi => by
    have := run_sliceBound (P := P) w k (i : Int) y c (by omega) (by omega)
    simpa using this
  rcases hm with ⟨rfl, rfl⟩ | ⟨jm, rfl⟩
  · rcases hh with ⟨rfl, rfl⟩ | ⟨jh, rfl⟩ <;> rcases hl with ⟨rfl, rfl⟩ | ⟨jl, rfl⟩ <;> simp [Instr.sliceBounds, b, h1, h2]
  · rcases hh with ⟨rfl, rfl⟩ | ⟨jh, rfl⟩
    · simp at hs
    · rcases hl with ⟨rfl, rfl⟩ | ⟨jl, rfl⟩ <;> simp [Instr.sliceBounds, b, h1, h2, h3]
theorem run_sliceAt {t e : TypeId} {i : TypeInfo} {a : Option Addr} {len cap l h M : Nat} {lo hi mx : Option Value} (hu : P.underlying t = some (.slice e)) (hi' : P.info? e = some i)
    (hb : (Instr.sliceBounds true len cap lo hi mx).run P w = .ok (l, h, M) w) :
    (Instr.sliceAt t (.slice a len cap) lo hi mx).run P w = .ok (.slice (if M = l then a else a.map (·.add (l * i.size))) (h - l) (M - l)) w := by
  simp [Instr.sliceAt, Instr.slice, run_underlying hu, hb, run_sizeOf hi']
theorem cutAt_inv {b off size l h M : Nat} {v : AV} {m' : AMem} (e : cutAt b off size l h M m = .mk v m') :
    .mk (.slice b (if M = l then off else off + l * size) (h - l) (some (M - l))) m = OR.mk v m' := by
  unfold cutAt at e
  simp only [fNat_eq, bif2_eq] at e
  have : (if Nat.beq M l = true then off else off.add (l.mul size)) = (if M = l then off else off + l * size) := by
    by_cases q : M = l
    · rw [if_pos q, if_pos (by rw [q]; exact Nat.beq_refl l)]
    · rw [if_neg q, if_neg (fun z => q (Nat.eq_of_beq_eq_true z))]; rfl
  rw [this] at e
  exact e
theorem cut_val {b off size l h M : Nat} {v : AV} {m' : AMem} {s : Sem Value} (e : .mk (.slice b (if M = l then off else off + l * size) (h - l) (some (M - l))) m = OR.mk v m') {K : Loc}
    (hr : s.run P w = .ok (.slice (if M = l then some ⟨K.blk, K.base + off, none⟩ else (some (⟨K.blk, K.base + off, none⟩ : Addr)).map (·.add (l * size))) (h - l) (M - l)) w) (_ : Loc) (hK : ρ b = some K) (h1 : l ≤ h) (h2 : h ≤ M) : Val P ρ m w v m' s := by
  refine Val.mk e hr ?_
  by_cases q : M = l
  · rw [if_pos q, if_pos q]; exact .sliceE _ _ _ _ K hK (by omega)
  · rw [if_neg q, if_neg q]
    simp only [Option.map, addr_add]
    rw [Nat.add_assoc]
    exact .sliceE _ _ _ _ K hK (by omega)
theorem aSlice_val (V : View ρ m w) {t : TypeId} {x : AV} {vx : Value} (hx : VR ρ x vx) {lo hi mx : Option AV} {vlo vhi vmx : Option Value} (hlo : VO ρ lo vlo) (hhi : VO ρ hi vhi) (hmx : VO ρ mx vmx) {v : AV} {m' : AMem}
    (h : aSlice P t x lo hi mx m = .mk v m') : Val P ρ m w v m' (Instr.sliceAt t vx vlo vhi vmx) := by
  unfold aSlice at h
  split at h
  · -- a string
    rename_i s hu
    obtain ⟨z, rfl, hz⟩ := str_inv hx
    split at h
    · cases h
    · rw [fNat_eq] at h
      obtain ⟨H, h, hH⟩ := bnd_inv h
      obtain ⟨L, h, hL⟩ := bnd_inv h
      rw [bif2_eq] at h
      split at h
      · rename_i hc
        simp only [Bool.and_eq_true, Nat.ble_eq] at hc
        have hn := str_len hz
        have hb := run_bounds (P := P) (w := w) (isSlice := false) (len := z.size) (cap := z.size) (hlo.bound hL) (by rw [← hn]; exact hhi.bound hH) (.inl ⟨rfl, rfl⟩ : ((none : Option Value) = none ∧ z.size = z.size) ∨ _) hc.1 (by omega) (Nat.le_refl _) (by simp)
        have hmx' : vmx = none := by cases vmx with | none => rfl | some _ => exact hmx.elim
        subst hmx'
        refine Val.mk h (uc := .string (z.extract L H)) ?_ (.str _ _ ?_)
        · simp [Instr.sliceAt, Instr.slice, run_underlying hu, hb]
        · rw [← hz]; simp [List.map_take, List.map_drop, ByteArray.data_extract, Array.toList_extract, List.extract]
      · cases h
  · -- a slice
    rename_i e b off len cap hu
    split at h
    · rename_i j hj
      split at h
      · rename_i cp c
        obtain ⟨M, h, hM⟩ := bnd_inv h
        obtain ⟨H, h, hH⟩ := bnd_inv h
        obtain ⟨L, h, hL⟩ := bnd_inv h
        rw [bif2_eq] at h
        split at h
        · rename_i hc
          simp only [Bool.and_eq_true, Nat.ble_eq] at hc
          cases hx with | sliceE _ _ _ _ K hK hle =>
          have h := cutAt_inv h
          have hb := run_bounds (P := P) (w := w) (isSlice := true) (len := len) (cap := c) (hlo.bound hL) (hhi.bound hH) (hmx.bound hM) hc.1.1.2 hc.1.2 hc.2 (by
            rw [← hmx.isSome, ← hhi.isSome]; intro q; rcases Bool.or_eq_true_iff.1 hc.1.1.1 with a | a
            · exact a
            · rw [q] at a; cases a)
          exact cut_val h (run_sliceAt hu hj hb) K hK hc.1.1.2 hc.1.2
        · cases h
      · obtain ⟨H, h, hH⟩ := bnd_inv h
        obtain ⟨L, h, hL⟩ := bnd_inv h
        rw [bif2_eq] at h
        split at h
        · rename_i hc
          simp only [Bool.and_eq_true, Nat.ble_eq] at hc
          cases hx with | sliceO _ _ _ c K hK hle hE =>
          have hmx' : vmx = none := by cases vmx with | none => rfl | some _ => exact hmx.elim
          subst hmx'
          have hb := run_bounds (P := P) (w := w) (isSlice := true) (len := len) (cap := c) (hlo.bound hL) (hhi.bound hH) (.inl ⟨rfl, rfl⟩ : ((none : Option Value) = none ∧ c = c) ∨ _) hc.1 (by omega) (Nat.le_refl _) (by simp)
          have hrun := run_sliceAt (a := some ⟨K.blk, K.base + off, none⟩) hu hj hb
          rw [bif2_eq] at h
          split at h
          · rename_i h0
            have h0 : L = 0 := Nat.eq_of_beq_eq_true h0
            subst h0
            refine Val.mk h hrun ?_
            have : (if c = 0 then some (⟨K.blk, K.base + off, none⟩ : Addr) else Option.map (fun (x : Addr) => x.add (0 * j.size)) (some ⟨K.blk, K.base + off, none⟩)) = some ⟨K.blk, K.base + off, none⟩ := by
              split
              · rfl
              · simp [addr_add]
            rw [this]
            exact .sliceO _ _ _ _ K hK (by omega) (by simpa using hE)
          · rename_i h0
            rw [bif2_eq] at h
            split at h
            · rename_i hlt
              have hlt : L < len := by simpa [Nat.blt_eq] using hlt
              obtain ⟨ro, sg, E, N, cc, hb1, h⟩ := blkK_inv h
              rw [bif2_eq] at h
              split at h
              · rename_i hEj
                have hEj : E = j.size := Nat.eq_of_beq_eq_true hEj
                obtain ⟨K0, _, _, _, e1, _, _, e4, _⟩ := V.sim.blk b _ hb1
                rw [hK] at e1; cases e1
                simp only [fNat_eq] at h
                refine Val.mk h hrun ?_
                rw [if_neg (by omega)]
                simp only [Option.map, addr_add]
                rw [Nat.add_assoc]
                refine .sliceO _ _ _ _ K hK (by show H - L ≤ c - L; omega) ?_
                show K.base + (off + L * j.size) + (c - L) * K.E = K.csize
                rw [← hE, e4, hEj]
                have : L * j.size + (c - L) * j.size = c * j.size := by rw [← Nat.add_mul]; congr 1; omega
                omega
              · cases h
            · refine Val.mk h hrun ?_
              have : H - L = 0 := by rename_i hlt; simp [Nat.blt_eq] at hlt; omega
              rw [this]
              split
              · exact .emp _ _
              · exact .emp _ _
        · obtain ⟨ro, sg, E, N, cc, hb1, h⟩ := blkK_inv h
          rw [bif2_eq] at h
          split at h
          · rename_i hd
            simp only [Bool.and_eq_true, Nat.ble_eq, Nat.blt_eq] at hd
            obtain ⟨⟨⟨hLH, hEj⟩, hN⟩, hLt⟩ := hd
            have hEj : E = j.size := Nat.eq_of_beq_eq_true hEj
            have hN : off + H * j.size ≤ N := hN
            have hLt : L * j.size < H * j.size := hLt
            cases hx with | sliceO _ _ _ c K hK hle hE =>
            have hmx' : vmx = none := by cases vmx with | none => rfl | some _ => exact hmx.elim
            subst hmx'
            obtain ⟨K0, _, _, _, e1, _, e3, e4, e5, _⟩ := V.sim.blk b _ hb1
            rw [hK] at e1; cases e1
            have hpos : 0 < j.size := by
              rcases Nat.eq_zero_or_pos j.size with h0 | h0
              · rw [h0] at hLt; simp at hLt
              · exact h0
            have hcc : H * j.size ≤ c * j.size := by rw [e4, hEj] at hE; omega
            have hHc : H ≤ c := Nat.le_of_mul_le_mul_right hcc hpos
            have hLH' : L < H := Nat.lt_of_mul_lt_mul_right hLt
            have hb := run_bounds (P := P) (w := w) (isSlice := true) (len := len) (cap := c) (hlo.bound hL) (hhi.bound hH) (.inl ⟨rfl, rfl⟩ : ((none : Option Value) = none ∧ c = c) ∨ _) hLH hHc (Nat.le_refl _) (by simp)
            have hrun := run_sliceAt (a := some ⟨K.blk, K.base + off, none⟩) hu hj hb
            simp only [fNat_eq] at h
            refine Val.mk h hrun ?_
            rw [if_neg (by omega)]
            simp only [Option.map, addr_add]
            rw [Nat.add_assoc]
            refine .sliceO _ _ _ _ K hK (by show H - L ≤ c - L; omega) ?_
            show K.base + (off + L * j.size) + (c - L) * K.E = K.csize
            rw [← hE, e4, hEj]
            have : L * j.size + (c - L) * j.size = c * j.size := by rw [← Nat.add_mul]; congr 1; omega
            omega
          · cases h
      · obtain ⟨M, h, hM⟩ := bnd_inv h
        obtain ⟨H, h, hH⟩ := bnd_inv h
        obtain ⟨L, h, hL⟩ := bnd_inv h
        rw [bif2_eq] at h
        split at h
        · rename_i mv hc
          simp only [Bool.and_eq_true, Nat.ble_eq] at hc
          cases hx with | sliceO _ _ _ c K hK hle hE =>
          have h := cutAt_inv h
          have hM' : (vmx = none ∧ M = c) ∨ ∃ j, vmx = some (.int j (M : Int)) := by
            rcases hmx.bound hM with ⟨q, _⟩ | q
            · subst q; exact hmx.elim
            · exact .inr q
          have hb := run_bounds (P := P) (w := w) (isSlice := true) (len := len) (cap := c) (hlo.bound hL) (hhi.bound hH) hM' hc.1.1.2 hc.1.2 (by omega) (by
            intro _; rw [← hhi.isSome]; exact hc.1.1.1)
          exact cut_val h (run_sliceAt hu hj hb) K hK hc.1.1.2 hc.1.2
        · cases h
    · cases h
  · -- a nil slice
    rename_i e hu
    split at h
    · rename_i j hj
      obtain ⟨M, g1, hM⟩ := bnd_inv h
      obtain ⟨H, g2, hH⟩ := bnd_inv g1
      obtain ⟨L, g3, hL⟩ := bnd_inv g2
      clear h g1 g2; have h := g3; clear g3
      rw [bif2_eq] at h
      split at h
      · rename_i hc
        simp only [Bool.and_eq_true] at hc
        obtain rfl := Nat.eq_of_beq_eq_true hc.1.1.2
        obtain rfl := Nat.eq_of_beq_eq_true hc.1.2
        obtain rfl := Nat.eq_of_beq_eq_true hc.2
        cases hx
        have hb := run_bounds (P := P) (w := w) (isSlice := true) (len := 0) (cap := 0) (hlo.bound hL) (hhi.bound hH) (hmx.bound hM) (Nat.le_refl _) (Nat.le_refl _) (Nat.le_refl _) (by
            rw [← hmx.isSome, ← hhi.isSome]; intro q; rcases Bool.or_eq_true_iff.1 hc.1.1.1 with a | a
            · exact a
            · rw [q] at a; cases a)
        exact Val.mk h (run_sliceAt (a := none) hu hj hb) (by simpa using VR.nils)
      · cases h
    · cases h
  · -- an array
    rename_i n e b off hu
    split at h
    · rename_i j hj
      obtain ⟨M, h, hM⟩ := bnd_inv h
      obtain ⟨H, h, hH⟩ := bnd_inv h
      obtain ⟨L, h, hL⟩ := bnd_inv h
      rw [bif2_eq] at h
      split at h
      · rename_i hc
        simp only [Bool.and_eq_true, Nat.ble_eq] at hc
        cases hx with | ptr _ _ K hK =>
        have h := cutAt_inv h
        have hb := run_bounds (P := P) (w := w) (isSlice := false) (len := n) (cap := n) (hlo.bound hL) (hhi.bound hH) (hmx.bound hM) hc.1.1.2 hc.1.2 hc.2 (by
            rw [← hmx.isSome, ← hhi.isSome]; intro q; rcases Bool.or_eq_true_iff.1 hc.1.1.1 with a | a
            · exact a
            · rw [q] at a; cases a)
        refine cut_val h ?_ K hK hc.1.1.2 hc.1.2
        simp only [Instr.sliceAt, Sem.run_bind, run_underlying hu, Result.andThen_ok, Instr.sureAddr, Sem.run_pure, hb, run_sizeOf hj]
        by_cases q : M = L
        · rw [if_pos q, if_pos q]
        · rw [if_neg q, if_neg q]; rfl
      · cases h
    · cases h
  · cases h
end
end Go.Ev
end
section
namespace Go.Ev
set_option linter.all false
section
variable {P : Program} {ρ : Ren} {m : AMem} {w : World}
theorem Sem.value_run {s : Sem Value} {v : Value} {w w' : World} (h : s.run P w = .ok v w') : (do pure (Next.value (← s)) : Sem Next).run P w = .ok (.value v) w' := by simp [h]
/-! ### Zero values -/
theorem VR.cells {a : AV} {v : Value} (h : VR ρ a v) (hp : a.onAgg (fun _ => true) a.plain = true) : VRs ρ a.cells v.cells.toList := by
  have h0 := h
  cases h <;> first
    | (cases hp; done)
    | exact .cons _ _ _ _ h0 .nil
    | assumption
theorem zeroA_inv {t : TypeId} {l : List AV} (h : zeroA P t = some l) : ∃ i z, P.info? t = some i ∧ i.zero = some z ∧ VRs ρ l z.cells.toList := by
  unfold zeroA at h
  split at h
  · rename_i i hi
    split at h
    · rename_i cs hz; cases h; exact ⟨i, _, hi, hz, scals_rel ρ _⟩
    · rename_i v hne hz
      cases h
      refine ⟨i, v, hi, hz, ?_⟩
      have : v.cells = #[v] := by
        cases v <;> first | rfl | (rename_i cs; exact absurd rfl (hne cs))
      rw [this]
      exact .cons _ _ _ _ (scal_rel ρ v) .nil
    · cases h
  · cases h
theorem run_zero {t : TypeId} {i : TypeInfo} {z : Value} (hi : P.info? t = some i) (hz : i.zero = some z) (w : World) : (zeroValue t).run P w = .ok z w := by simp [zeroValue, typeInfo, hi, hz]
theorem aAlloc_run (V : View ρ m w) {t : TypeId} {v : AV} {m' : AMem} (h : aAlloc P t m = .mk v m') (hf : Fresh ρ m.next m'.next) : Runs P ρ m w v m' (do pure (.value (← Instr.alloc t true (.tuple #[])))) := by
  unfold aAlloc at h
  split at h
  · rename_i l hl
    obtain ⟨i, z, hi, hz, hr⟩ := zeroA_inv (ρ := ρ) hl
    obtain ⟨m1, c, hn, hg, hc, hk⟩ := newBlk_inv h
    cases hk
    refine ⟨_, _, .pointer (some ⟨w.heap.size, 0 + 0, none⟩), V.new (rest := []) hr hn hg hc (hf _ (Nat.le_refl _) (by omega)) (A := z.cells) (by simp) (elem := t) (fz := (0, 0)) (fun i _ => by simp) (fun _ i => by simp), .ptr _ _ _ (Ren.set_same _ _ _), .inl ?_⟩
    refine Sem.value_run ?_
    simp [Instr.alloc, run_zero hi hz, newVar, newRow]
  · cases h
theorem box_run (V : View ρ m w) {t : TypeId} {x : AV} {vx : Value} (hx : VR ρ x vx) {v : AV} {m' : AMem} (h : bif2 (x.onAgg (fun _ => true) x.plain) (newBlk false 1 x.cells m fun b m => .mk (.ptr b 0) m) (.fail 112) = .mk v m') (hf : Fresh ρ m.next m'.next) :
    Runs P ρ m w v m' (do pure (.value (← Instr.box t vx))) := by
  rw [bif2_eq] at h
  split at h
  · rename_i hp
    obtain ⟨m1, c, hn, hg, hc, hk⟩ := newBlk_inv h
    cases hk
    refine ⟨_, _, .pointer (some ⟨w.heap.size, 0 + 0, none⟩), V.new (rest := []) (hx.cells hp) hn hg hc (hf _ (Nat.le_refl _) (by omega)) (A := vx.cells) (by simp) (elem := t) (fz := (0, 0)) (fun i _ => by simp) (fun _ i => by simp), .ptr _ _ _ (Ren.set_same _ _ _), .inl ?_⟩
    refine Sem.value_run ?_
    simp [Instr.box, newVar, newRow]
  · cases h
/-! ### Parts laid into an aggregate -/
/-- Parts, each with its place. -/
inductive VPs (ρ : Ren) : List (Nat × AV) → List (Nat × Value) → Prop
  | nil : VPs ρ [] []
  | cons (i : Nat) (a : AV) (v : Value) (l : List (Nat × AV)) (l' : List (Nat × Value)) (h : VR ρ a v) (hs : VPs ρ l l') : VPs ρ ((i, a) :: l) ((i, v) :: l')
theorem foldl_set (off : Nat) : ∀ (l : List Value) (j : Nat) (cs : Array Value), off + j + l.length ≤ cs.size →
    ((l.zipIdx j).foldl (fun (cs : Array Value) (p : Value × Nat) => cs.setIfInBounds (off + p.2) p.1) cs).toList = cs.toList.take (off + j) ++ l ++ cs.toList.drop (off + j + l.length)
  | [], j, cs, _ => by simp
  | v :: l, j, cs, h => by
    simp only [List.zipIdx_cons, List.foldl_cons]
    rw [foldl_set off l (j + 1) _ (by simp at h ⊢; omega)]
    simp only [Array.toList_setIfInBounds]
    simp only [List.length_cons] at h
    have hlt : off + j < cs.toList.length := by simp; omega
    rw [show off + (j + 1) = off + j + 1 from by omega]
    rw [List.take_succ_eq_append_getElem (by simpa using hlt)]
    have e1 : (cs.toList.set (off + j) v).take (off + j) = cs.toList.take (off + j) := by
      apply List.ext_getElem?
      intro i
      by_cases hi : i < off + j
      · simp [hi, List.getElem?_set_ne (show off + j ≠ i from by omega)]
      · simp [List.getElem?_take, hi]
    have e2 : (cs.toList.set (off + j) v).drop (off + j + 1 + l.length) = cs.toList.drop (off + j + (l.length + 1)) := by
      apply List.ext_getElem?
      intro i
      simp only [List.getElem?_drop]
      rw [List.getElem?_set_ne (by omega)]
      congr 1; omega
    rw [e1, e2]
    simp [List.append_assoc]
theorem fill_run {place : Nat → Option (Nat × Nat)} {place' : Nat → Option (Nat × Nat)} (hp : ∀ i x, place i = some x → place' i = some x) : ∀ {ps : List (Nat × AV)} {qs : List (Nat × Value)} (_ : VPs ρ ps qs) {l : List AV} {cs : Array Value} (_ : VRs ρ l cs.toList) {r : List AV},
    fillA place l ps = some r → ∃ cr, Instr.fill place' cs qs = some cr ∧ VRs ρ r cr.toList
  | _, _, .nil, l, cs, hl, r, h => by simp [fillA] at h; subst h; exact ⟨cs, rfl, hl⟩
  | _, _, .cons i a v ps qs ha hs, l, cs, hl, r, h => by
    simp only [fillA] at h
    split at h
    · cases h
    · rename_i off size hpl
      rw [bif2_eq] at h
      split at h
      · rename_i hc
        simp only [Bool.and_eq_true, Nat.ble_eq] at hc
        obtain ⟨⟨h1, h2⟩, h3⟩ := hc
        have h1 : a.cells.length = size := Nat.eq_of_beq_eq_true h1
        have hpl' : a.onAgg (fun _ => true) a.plain = true := by
          cases a <;> first | exact h3 | (simp [AV.onTup] at h3)
        have hcells := ha.cells hpl'
        have hvs : v.cells.size = size := by have := hcells.length; simp at this; omega
        have hlc : l.length = cs.size := by have := hl.length; simpa using this
        have h2' : off + size ≤ l.length := h2
        obtain ⟨cr, e1, e2⟩ := fill_run hp hs (l := l.take off ++ a.cells ++ l.drop (off + size)) (cs := (v.cells.toList.zipIdx.foldl (fun (cs : Array Value) (p : Value × Nat) => cs.setIfInBounds (off + p.2) p.1) cs)) (by
          rw [foldl_set off _ 0 cs (by simp; omega)]
          simp only [Nat.add_zero, Array.length_toList, hvs]
          exact ((hl.take off).append hcells).append (hl.drop (off + size))) h
        refine ⟨cr, ?_, e2⟩
        simp only [Instr.fill, hp _ _ hpl, hvs]
        rw [if_neg (by simp; omega), ← e1]
        congr 1
        rw [← Array.foldl_toList]
        simp
      · cases h
theorem run_mapM_places (fs : List Field) (h : fs.all (fun f => (P.info? f.type).isSome) = true) (w : World) :
    ∃ ps : List (Nat × Nat), (fs.mapM (fun (f : Field) => (do pure (f.offset, ← sizeOf f.type) : Sem (Nat × Nat)))).run P w = .ok ps w ∧ ∀ (i : Nat) (f : Field) (j : TypeInfo), fs[i]? = some f → P.info? f.type = some j → ps[i]? = some (f.offset, j.size) := by
  induction fs with
  | nil => exact ⟨[], by simp, fun i f j h => by simp at h⟩
  | cons f fs ih =>
    simp only [List.all_cons, Bool.and_eq_true] at h
    obtain ⟨ps, h1, h2⟩ := ih h.2
    obtain ⟨j, hj⟩ := Option.isSome_iff_exists.1 h.1
    refine ⟨(f.offset, j.size) :: ps, by simp only [List.mapM_cons, Sem.run_bind, run_sizeOf hj, Result.andThen_ok, Sem.run_pure, h1], fun i g q hg hq => ?_⟩
    cases i with
    | zero => simp at hg; subst hg; rw [hj] at hq; cases hq; rfl
    | succ i => simpa using h2 i g q (by simpa using hg) hq
theorem aBuild_run {t : TypeId} {ps : List (Nat × AV)} {qs : List (Nat × Value)} (hps : VPs ρ ps qs) {v : AV} {m' : AMem} (h : aBuild P t ps m = .mk v m') : Val P ρ m w v m' (Instr.build t qs.toArray) := by
  unfold aBuild at h
  split at h
  · rename_i z fs hz hu
    obtain ⟨i, zv, hi, hzv, hzr⟩ := zeroA_inv (ρ := ρ) hz
    rw [bif2_eq] at h
    split at h
    · rename_i hk
      split at h
      · rename_i l hl
        obtain ⟨pl, p1, p2⟩ := run_mapM_places (P := P) fs.toList (by simpa [fieldsKnown] using hk) w
        obtain ⟨cr, f1, f2⟩ := fill_run (place' := (pl.toArray[·]?)) (fun i x e => by
          unfold fieldPlaceA at e
          split at e
          · rename_i f hf
            split at e
            · rename_i j hj; cases e; simpa using p2 i f j (by simpa using hf) hj
            · cases e
          · cases e) hps hzr hl
        refine Val.mk h (uc := .agg cr) ?_ (.agg _ _ f2)
        have hm : (fs.mapM (fun (f : Field) => (do pure (f.offset, ← sizeOf f.type) : Sem (Nat × Nat)))).run P w = .ok pl.toArray w := by
          rw [Array.mapM_eq_mapM_toList, Sem.run_map, p1]; rfl
        simp only [Instr.build, Sem.run_bind, run_zero hi hzv, Result.andThen_ok, run_underlying hu, hm, f1]
        rfl
      · cases h
    · cases h
  · rename_i z n e hz hu
    obtain ⟨i, zv, hi, hzv, hzr⟩ := zeroA_inv (ρ := ρ) hz
    split at h
    · rename_i j hj
      split at h
      · rename_i l hl
        obtain ⟨cr, f1, f2⟩ := fill_run (place' := fun i => some (i * j.size, j.size)) (fun i x e => e) hps hzr hl
        refine Val.mk h (uc := .agg cr) ?_ (.agg _ _ f2)
        simp only [Instr.build, Sem.run_bind, run_zero hi hzv, Result.andThen_ok, run_underlying hu, run_sizeOf hj, f1]
        rfl
      · cases h
    · cases h
  · cases h
/-! ### Slices of one's own -/
theorem elemInfo_inv {t : TypeId} {i : TypeInfo} {z : List AV} (h : elemInfo P t = some (i, z)) :
    ∃ e zv, P.underlying t = some (.slice e) ∧ P.info? e = some i ∧ i.zero = some zv ∧ VRs ρ z zv.cells.toList ∧ z.length = i.size ∧ 0 < i.size ∧ i.bytes ≤ 4096 ∧ zv.cells.size = i.size := by
  unfold elemInfo at h
  split at h
  · rename_i e hu
    split at h
    · rename_i i' z' hi hz
      rw [bif2_eq] at h
      split at h
      · rename_i hc
        cases h
        simp only [Bool.and_eq_true, Nat.blt_eq, Nat.ble_eq] at hc
        obtain ⟨i2, zv, e1, e2, e3⟩ := zeroA_inv (ρ := ρ) hz
        rw [hi] at e1; cases e1
        have hl : z.length = i.size := Nat.eq_of_beq_eq_true hc.1.1
        have := e3.length
        simp at this
        exact ⟨e, zv, hu, hi, e2, e3, hl, hc.1.2, hc.2, by omega⟩
      · cases h
    · cases h
  · cases h
theorem repA_length (z : List AV) : ∀ n, (repA z n).length = n * z.length
  | 0 => by simp [repA]
  | n + 1 => by simp [repA, repA_length z n, Nat.add_mul]; omega
theorem repA_get (z : List AV) (hz : 0 < z.length) : ∀ n i, i < n * z.length → (repA z n)[i]? = z[i % z.length]?
  | 0, i, h => by simp at h
  | n + 1, i, h => by
    simp only [repA]
    by_cases hi : i < z.length
    · rw [List.getElem?_append_left hi, Nat.mod_eq_of_lt hi]
    · have hi : z.length ≤ i := by omega
      rw [List.getElem?_append_right hi, repA_get z hz n _ (by rw [Nat.add_mul] at h; omega)]
      rw [Nat.mod_eq_sub_mod hi]
theorem repA_rel {z : List AV} {zc : Array Value} (h : VRs ρ z zc.toList) (hz : 0 < z.length) (n : Nat) : VRs ρ (repA z n) (madeCells zc (n * zc.size)).toList := by
  have hl : z.length = zc.size := by simpa using h.length
  refine VRs.of_get (by rw [repA_length, hl]; simp [madeCells]) fun i v hv => ?_
  have hi : i < n * z.length := by
    rcases Nat.lt_or_ge i (n * z.length) with q | q
    · exact q
    · rw [List.getElem?_eq_none (by rw [repA_length]; exact q)] at hv; cases hv
  rw [repA_get z hz n i hi] at hv
  obtain ⟨c, hc, hr⟩ := h.get _ hv
  refine ⟨c, ?_, hr⟩
  have hm : i % zc.size < zc.size := Nat.mod_lt _ (by omega)
  rw [hl] at hc hi
  have hc' : zc[i % zc.size]? = some c := by rw [← hc]; simp
  simp [madeCells, hi]
  rw [getElem!_pos zc _ hm]
  rw [Array.getElem?_eq_getElem hm] at hc'
  exact Option.some.inj hc'
theorem aBuildSlice_run (V : View ρ m w) {t : TypeId} {n : Nat} {ps : List (Nat × AV)} {qs : List (Nat × Value)} (hps : VPs ρ ps qs) {v : AV} {m' : AMem} (h : aBuildSlice P t n ps m = .mk v m') (hf : Fresh ρ m.next m'.next) :
    Runs P ρ m w v m' (do pure (.value (← Instr.buildSlice t n qs.toArray))) := by
  unfold aBuildSlice at h
  split at h
  · rename_i i z he
    obtain ⟨e, zv, hu, hi, hz, hzr, hzl, hpos, hby, hzs⟩ := elemInfo_inv (ρ := ρ) he
    rw [bif2_eq] at h
    split at h
    · rename_i hc
      have hc : n * i.size ≤ 65536 := by simpa [Nat.ble_eq] using hc
      split at h
      · rename_i l hl
        obtain ⟨cr, f1, f2⟩ := fill_run (place' := fun j => some (j * i.size, i.size)) (fun i x e => e) hps (repA_rel hzr (by omega) n) hl
        obtain ⟨m1, c, hn, hg, hcc, hk⟩ := newBlk_inv h
        cases hk
        have hst := V.new (rest := []) f2 hn hg hcc (hf _ (Nat.le_refl _) (by omega)) (A := cr) (by simp) (elem := e) (fz := (0, 0)) (fun i _ => by simp) (fun _ i => by simp) (E := i.size)
        refine ⟨_, _, .slice (some ⟨w.heap.size, 0 + 0, none⟩) n n, hst, .sliceE _ _ _ _ _ (Ren.set_same _ _ _) (Nat.le_refl _), .inl ?_⟩
        refine Sem.value_run ?_
        have hle : ¬ (n * i.size > 2 ^ 24) := by omega
        rw [hzs] at f1
        by_cases h0 : n * i.size = 0
        · have e0 : (madeCells zv.cells (n * i.size)) = (Array.range (n * i.size)).map (fun j => (#[] : Array Value)[j % (#[] : Array Value).size]!) := by rw [h0]; simp [madeCells, Array.range_zero']
          simp only [Instr.buildSlice, Sem.run_bind, run_underlying hu, Result.andThen_ok, run_sizeOf hi, if_neg hle, if_pos h0, Sem.run_pure, Sem.run_ite]
          rw [← e0, f1]
          simp [newRow]
        · simp only [Instr.buildSlice, Sem.run_bind, run_underlying hu, Result.andThen_ok, run_sizeOf hi, if_neg hle, if_neg h0, Sem.run_pure, Sem.run_ite, run_zero hi hz]
          have : (Array.range (n * i.size)).map (fun x => zv.cells[x % zv.cells.size]!) = madeCells zv.cells (n * i.size) := rfl
          rw [this, f1]
          simp [newRow]
      · cases h
    · cases h
  · cases h
theorem aMakeSlice_run (V : View ρ m w) {t : TypeId} {l c : AV} {vl vc : Value} (hl : VR ρ l vl) (hc : VR ρ c vc) {v : AV} {m' : AMem} (h : aMakeSlice P t l c m = .mk v m') (hf : Fresh ρ m.next m'.next) :
    Runs P ρ m w v m' (do pure (.value (← Instr.makeSlice t vl vc))) := by
  unfold aMakeSlice at h
  split at h
  · rename_i i z he
    obtain ⟨e, zv, hu, hi, hz, hzr, hzl, hpos, hby, hzs⟩ := elemInfo_inv (ρ := ρ) he
    split at h
    · rename_i kl L kc C
      rw [bif2_eq] at h
      split at h
      · rename_i hq
        simp only [Bool.and_eq_true, Nat.ble_eq] at hq
        cases hl; cases hc
        obtain ⟨m1, cc, hn, hg, hcc, hk⟩ := newBlk_inv h
        cases hk
        have hst := V.new (rest := []) (repA_rel hzr (by omega) C) hn hg hcc (hf _ (Nat.le_refl _) (by omega)) (A := madeCells zv.cells (C * zv.cells.size)) (by simp) (elem := e) (fz := (0, 0)) (fun i _ => by simp) (fun _ i => by simp) (E := i.size)
        refine ⟨_, _, .slice (some ⟨w.heap.size, 0 + 0, none⟩) L C, hst, .sliceE _ _ _ _ _ (Ren.set_same _ _ _) hq.1, .inl ?_⟩
        refine Sem.value_run ?_
        have hb : (i.bytes : Int) * (Int.ofNat C) ≤ 281474976710656 := by
          have : i.bytes * C ≤ 4096 * 65536 := Nat.mul_le_mul hby hq.2
          have h2 : ((i.bytes * C : Nat) : Int) ≤ 281474976710656 := by omega
          simpa using h2
        have := run_make (P := P) w t e i zv hu hi hz kl kc (Int.ofNat L) (Int.ofNat C) (by simp) (by simpa using hq.1) hb (by have := hq.2; simp; omega)
        rw [hzs]
        simpa using this
      · cases h
    · cases h
  · cases h
end
end Go.Ev
end
section
namespace Go.Ev
set_option linter.all false
section
variable {P : Program} {ρ : Ren} {m : AMem} {w : World}
theorem cells_plain {a : AV} (h : a.cells.all AV.plain = true) : a.onAgg (fun _ => true) a.plain = true := by
  cases a <;> first | rfl | (simp [AV.cells, AV.onAgg, AV.plain] at h)
theorem aStore_run (V : View ρ m w) {t : TypeId} {a x : AV} {va vx : Value} (ha : VR ρ a va) (hx : VR ρ x vx) {v : AV} {m' : AMem} (h : aStore P t a x m = .mk v m') :
    Runs P ρ m w v m' (do Instr.storeAt t va vx; pure .skip) := by
  obtain ⟨b, off, rfl, h0⟩ := onPtr_inv _ h fail_ne
  clear h
  cases ha with | ptr _ _ L hL =>
  cases hlay : layout P t with
  | none => rw [hlay] at h0; cases h0
  | some lay =>
    rw [hlay] at h0
    obtain ⟨g, n⟩ := lay
    obtain ⟨d, i, hu, hi, rfl, hagg⟩ := layout_inv (w := w) hlay
    have h : storeL m b off x (g, i.size) = .mk v m' := h0
    unfold storeL at h
    rw [bif2_eq] at h
    split at h
    · rename_i hl
      have hl : x.cells.length = i.size := Nat.eq_of_beq_eq_true hl
      obtain ⟨_, _, _, _, _, _, hp, _⟩ := storeK_inv h
      have hcs := hx.cells (cells_plain hp)
      obtain ⟨m1, w1, hk, hrun, hst⟩ := V.store (P := P) hL hcs h
      cases hk
      refine ⟨ρ, w1, undef, hst, VR.undef _, .inr ⟨?_, rfl⟩⟩
      have hsz : vx.cells.size = i.size := by have := hcs.length; simp at this; omega
      simp [Instr.storeAt, Instr.sureAddr, storeVar, run_sizeOf hi, hsz, hrun]
    · cases h
/-! ### What is handed to append and copy -/
theorem lenA_run {x : AV} {vx : Value} (hx : VR ρ x vx) {n : Nat} (h : lenA x = some n) (w : World) : (Builtin.lenOf vx).run P w = .ok n w := by
  cases hx <;> simp [lenA] at h <;> subst h <;> simp [Builtin.lenOf]
  rename_i s hs; rw [← hs]; simp
theorem elemsK_inv (V : View ρ m w) {size n : Nat} {x : AV} {vx : Value} (hx : VR ρ x vx) {k : List AV → OR} {v : AV} {m' : AMem} (h : elemsK m size n x k = .mk v m') :
    ∃ l cs, k l = .mk v m' ∧ VRs ρ l cs ∧ cs.length = n * size ∧ (∀ w1 : World, w1.heap = w.heap → (Builtin.firstCells size n vx).run P w1 = .ok cs.toArray w1) ∧
      ∀ b off len cap, x = .slice b off len cap → ∀ ro sg E N c, m.t.get b = some (.cells ro sg E N c) → l = cellsFrom c off (n * size) := by
  unfold elemsK at h
  split at h
  · rename_i b off len cap
    rw [bif2_eq] at h
    split at h
    · obtain ⟨ro, sg, E, N, c, h1, h2, h3⟩ := loadK_inv h
      have go : ∀ (L : Loc) (cc : Nat), ρ b = some L → ∃ l cs, k l = .mk v m' ∧ VRs ρ l cs ∧ cs.length = n * size ∧ (∀ w1 : World, w1.heap = w.heap → (Builtin.firstCells size n (.slice (some ⟨L.blk, L.base + off, none⟩) len cc)).run P w1 = .ok cs.toArray w1) ∧
          ∀ b' off' len' cap', AV.slice b off len cap = .slice b' off' len' cap' → ∀ ro sg E N c, m.t.get b' = some (.cells ro sg E N c) → l = cellsFrom c off' (n * size) := fun L cc hL => by
        obtain ⟨vs, hl, hrun, hr⟩ := V.load (P := P) h1 hL h2
        exact ⟨_, vs, h3, hr, hl, fun w1 hw => by simpa [Builtin.firstCells] using hrun w1 hw, fun b' off' len' cap' he ro' sg' E' N' c' hg => by cases he; rw [h1] at hg; cases hg; rfl⟩
      cases hx with
      | sliceE _ _ _ _ L hL => exact go L _ hL
      | sliceO _ _ _ _ L hL => exact go L _ hL
    · cases h
  · rw [bif2_eq] at h
    split at h
    · rename_i hn
      obtain rfl : n = 0 := Nat.eq_of_beq_eq_true hn
      cases hx
      exact ⟨[], [], h, .nil, by simp, fun w1 _ => by simp [Builtin.firstCells], fun _ _ _ _ he => by cases he⟩
    · cases h
  · rw [bif2_eq] at h
    split at h
    · rename_i hn
      obtain rfl : n = 0 := Nat.eq_of_beq_eq_true hn
      cases hx
      exact ⟨[], [], h, .nil, by simp, fun w1 _ => by simp [Builtin.firstCells, loadCells, loadCellsFrom], fun _ _ _ _ he => by cases he⟩
    · cases h
  · rename_i s
    rw [bif2_eq] at h
    split at h
    · rename_i hc
      simp only [Bool.and_eq_true, Nat.ble_eq] at hc
      obtain rfl : size = 1 := Nat.eq_of_beq_eq_true hc.1
      obtain ⟨z, rfl, hz⟩ := str_inv hx
      refine ⟨_, (z.data.toList.take n).map fun b => .int .u8 b.toNat, h, ?_, ?_, fun w1 _ => ?_, fun _ _ _ _ he => by cases he⟩
      · rw [← hz, ← List.map_take, List.map_map]
        generalize z.data.toList.take n = q
        induction q with
        | nil => exact .nil
        | cons a q ih => exact .cons _ _ _ _ (.int _ _) ih
      · have := str_len hz
        have h2 := hc.2
        simp; omega
      · simp only [Builtin.firstCells, Sem.run_pure]
        congr 1
        apply Array.ext'
        simp [ByteArray.data_extract, Array.toList_extract, List.extract, List.map_take]
    · cases h
  · cases h
theorem View.world (V : View ρ m w) {w1 : World} (h : w1.heap = w.heap) : View ρ m w1 := ⟨V.sim.world h, V.wf⟩
/-! ### append -/
/-- What append asks of the types. -/
structure ApT (P : Program) (ats : Array TypeId) (st e : TypeId) (i : TypeInfo) (z : Value) : Prop where
  h0 : ats[0]? = some st
  h1 : ∃ xt d, ats[1]? = some xt ∧ P.underlying xt = some d ∧ (match d with | .int _ => true | _ => false) = false
  hu : P.underlying st = some (.slice e)
  hi : P.info? e = some i
  hz : i.zero = some z
  hb : i.bytes ≤ 4096
/-- append, of what is no number. -/
noncomputable def apRest (e : TypeId) (size : Nat) (base : Option Addr) (sLen sCap : Nat) (x : Value) : Sem Value := do
  let n ← Builtin.lenOf x
  let need := sLen + n
  if need ≤ sCap then
    let new ← Builtin.firstCells size n x
    if let some a := base then storeCells (a.add (sLen * size)) new.toList
    pure (.slice base need sCap)
  else
    if (need : Int) > IntKind.i64.max ∧ (false = true ∨ (← typeInfo e).bytes = 0) then runtimePanic (.error "growslice: len out of range")
    if Builtin.nextslicecap need sCap * (← typeInfo e).bytes > 2 ^ 48 then (if false = true then runtimePanic (.error "growslice: len out of range") else do
      if !(← Builtin.mayShare size sLen n base x) then mark .noRoom
      unsupported (.resourceLimit "append: a slice or a string whose bytes no memory bears"))
    let newCap ← choose (.appendCap need sCap e)
    askRoom (newCap * (← typeInfo e).bytes)
    let old ← Builtin.firstCells size sLen (.slice base sLen sCap)
    let new ← Builtin.firstCells size n x
    let rest := Builtin.zeroCells (← zeroValue e).cells (newCap - need)
    pure (.slice (some (← newRow e (old ++ new ++ rest))) need newCap)
theorem run_append_rest {ats : Array TypeId} {st e : TypeId} {i : TypeInfo} {z : Value} (A : ApT P ats st e i z) (ty : TypeId) (base : Option Addr) (sLen sCap : Nat) (vx : Value) :
    (Builtin.append_ ats ty #[.slice base sLen sCap, vx]).run P w = (apRest e i.size base sLen sCap vx).run P w := by
  obtain ⟨xt, d, h1, h2, h3⟩ := A.h1
  cases d <;> first
    | (cases h3; done)
    | (unfold Builtin.append_
       have g0 : (#[Value.slice base sLen sCap, vx])[0]? = some (Value.slice base sLen sCap) := rfl
       have g1 : (#[Value.slice base sLen sCap, vx])[1]? = some vx := rfl
       simp only [A.h0, h1, g0, g1, Sem.run_bind, run_underlying A.hu, run_underlying h2, run_sizeOf A.hi, Result.andThen_ok, Sem.run_pure]
       rfl)
theorem run_append_room {ats : Array TypeId} {st e : TypeId} {i : TypeInfo} {z : Value} (A : ApT P ats st e i z) (ty : TypeId) {base : Option Addr} {sLen sCap n : Nat} {vx : Value} (hl : (Builtin.lenOf vx).run P w = .ok n w) (hle : sLen + n ≤ sCap) :
    (Builtin.append_ ats ty #[.slice base sLen sCap, vx]).run P w = ((Builtin.firstCells i.size n vx).run P w).andThen fun new w1 =>
      (match base with | some a => storeCells (a.add (sLen * i.size)) new.toList | none => pure () : Sem Unit).run P w1 |>.andThen fun _ w2 => .ok (.slice base (sLen + n) sCap) w2 := by
  rw [run_append_rest A]
  cases base <;> simp [apRest, hl, hle]
theorem run_append_new {ats : Array TypeId} {st e : TypeId} {i : TypeInfo} {z : Value} (A : ApT P ats st e i z) (ty : TypeId) {base : Option Addr} {sLen sCap n : Nat} {vx : Value} (hl : (Builtin.lenOf vx).run P w = .ok n w) (hgt : sCap < sLen + n) (hs : sLen + n ≤ 2097152)
    {old new : List Value} (ho : ∀ w1 : World, w1.heap = w.heap → (Builtin.firstCells i.size sLen (.slice base sLen sCap)).run P w1 = .ok old.toArray w1) (hn : ∀ w1 : World, w1.heap = w.heap → (Builtin.firstCells i.size n vx).run P w1 = .ok new.toArray w1) :
    ∃ cap, sLen + n ≤ cap ∧ (Builtin.append_ ats ty #[.slice base sLen sCap, vx]).run P w =
      .ok (.slice (some ⟨w.heap.size, 0, none⟩) (sLen + n) cap) (({ w with drawn := w.drawn + 1 } : World).alloc (.cells ((old ++ new) ++ (Builtin.zeroCells z.cells (cap - (sLen + n))).toList).toArray e)) := by
  refine ⟨(Question.appendCap (sLen + n) sCap e).cut (w.tape w.drawn (.appendCap (sLen + n) sCap e)), by show sLen + n ≤ (sLen + n) + _; omega, ?_⟩
  have hle : ¬ (sLen + n ≤ sCap) := by omega
  have h63 : ¬ (9223372036854775807 < ((sLen : Int) + (n : Int))) := by omega
  have hfit : Builtin.nextslicecap (sLen + n) sCap * i.bytes ≤ 281474976710656 := growslice_fits hgt (by
    have : (sLen + n) * i.bytes ≤ 2097152 * 4096 := Nat.mul_le_mul hs A.hb
    omega)
  have h48 : ¬ (281474976710656 < Builtin.nextslicecap (sLen + n) sCap * i.bytes) := by omega
  have ho' := ho w.drew rfl
  have hn' := hn w.drew rfl
  rw [run_append_rest A]
  simp [apRest, hl, hle, h63, h48, run_info A.hi, Question.forced, run_zero A.hi A.hz, newRow, ho', hn']
  congr 2
  apply Array.ext'
  simp
theorem zeroCells_size (z : Array Value) (n : Nat) : (Builtin.zeroCells z n).size = n * z.size := by simp [Builtin.zeroCells]
/-- A new array, with some room behind. -/
theorem growA_run (V : View ρ m w) {size n : Nat} {l : List AV} {cs rest : List Value} (hl : VRs ρ l cs) {v : AV} {m' : AMem} (h : growA size l n m = .mk v m') (hf : Fresh ρ m.next m'.next) {cap : Nat} (hcap : n ≤ cap) (hsz : cs.length + rest.length = cap * size) (e : TypeId) :
    ∃ ρ', Step ρ m w ρ' m' (({ w with drawn := w.drawn + 1 } : World).alloc (.cells (cs ++ rest).toArray e)) ∧ VR ρ' v (.slice (some ⟨w.heap.size, 0, none⟩) n cap) := by
  obtain ⟨m1, c, hn, hg, hcc, hk⟩ := newBlk_inv h
  cases hk
  have V1 : View ρ m { w with drawn := w.drawn + 1 } := V.world rfl
  have hst := V1.new (rest := rest) hl hn hg hcc (hf _ (Nat.le_refl _) (by omega)) (A := (cs ++ rest).toArray) rfl (elem := e) (fz := (0, 0)) (fun i _ => by simp) (fun _ i => by simp) (E := size)
  refine ⟨_, (GStep.drew V.sim V.wf _).trans hst, ?_⟩
  exact .sliceO _ _ _ _ ⟨w.heap.size, 0, (cs ++ rest).toArray.size, size⟩ (Ren.set_same _ _ _) hcap (by simp; omega)
theorem appendable_inv {xt : Option TypeId} (h : appendable P xt = true) : ∃ t d, xt = some t ∧ P.underlying t = some d ∧ (match d with | .int _ => true | _ => false) = false := by
  unfold appendable at h
  split at h
  · rename_i t
    split at h
    · cases h
    · rename_i d hne hu; exact ⟨t, d, rfl, hu, by cases d <;> first | rfl | (rename_i k; exact absurd hu (by simpa using hne k))⟩
    · cases h
  · cases h
theorem firstCells_zero {vx : Value} (hl : (Builtin.lenOf vx).run P w = .ok 0 w) (size : Nat) : (Builtin.firstCells size 0 vx).run P w = .ok #[] w := by
  cases vx <;> simp [Builtin.lenOf] at hl <;> simp [Builtin.firstCells]
  rename_i a n c
  cases a <;> simp [loadCells, loadCellsFrom]
theorem append_none {ats : Array TypeId} {st e : TypeId} {i : TypeInfo} {z : Value} (A : ApT P ats st e i z) (ty : TypeId) {base : Option Addr} {sLen sCap : Nat} {vx : Value} (hl : (Builtin.lenOf vx).run P w = .ok 0 w) (hle : sLen ≤ sCap) :
    (Builtin.append_ ats ty #[.slice base sLen sCap, vx]).run P w = .ok (.slice base sLen sCap) w := by
  rw [run_append_room A ty hl (by omega), firstCells_zero hl]
  cases base <;> simp [storeCells]
theorem appendTo_run (V : View ρ m w) {ats : Array TypeId} {st e : TypeId} {i : TypeInfo} {z : Value} (A : ApT P ats st e i z) (hzs : z.cells.size = i.size) (hpos : 0 < i.size) (ty : TypeId) {b off len : Nat} {cap : Option Nat} {vs : Value} (hs : VR ρ (.slice b off len cap) vs) {x : AV} {vx : Value} (hx : VR ρ x vx) {n : Nat}
    (hlen : lenA x = some n) (hn1 : n ≤ 1048576) (hl1 : len ≤ 1048576) {v : AV} {m' : AMem} (h : appendTo i.size (.slice b off len cap) x b off len cap n m = .mk v m') (hf : Fresh ρ m.next m'.next) :
    ∃ ρ' w' vc, Step ρ m w ρ' m' w' ∧ VR ρ' v vc ∧ (Builtin.append_ ats ty #[vs, vx]).run P w = .ok vc w' := by
  have hl := fun w => lenA_run (P := P) hx hlen w
  unfold appendTo at h
  rw [fNat_eq] at h
  obtain ⟨ro, sg, E, N, c, hb, h⟩ := blkK_inv h
  obtain ⟨L, hL⟩ : ∃ L, ρ b = some L := by obtain ⟨L, hL, _⟩ := (V.sim.blk b _ hb).loc; exact ⟨L, hL⟩
  have room : ∀ {cc : Nat}, vs = .slice (some ⟨L.blk, L.base + off, none⟩) len cc → len + n ≤ cc → (∀ {ρ1 : Ren}, ρ1 b = some L → VR ρ1 (.slice b off (len + n) cap) (.slice (some ⟨L.blk, L.base + off, none⟩) (len + n) cc)) →
      (elemsK m i.size n x fun new => storeK m b (Nat.add off (Nat.mul len i.size)) new fun m => .mk (.slice b off (len + n) cap) m) = .mk v m' →
      ∃ ρ' w' vc, Step ρ m w ρ' m' w' ∧ VR ρ' v vc ∧ (Builtin.append_ ats ty #[vs, vx]).run P w = .ok vc w' := by
    intro cc hvs hle hv h
    obtain ⟨l, cs, hk, hr, hcl, hrun, _⟩ := elemsK_inv (P := P) V hx h
    obtain ⟨m1, w1, hk1, hrun1, hst⟩ := V.store (P := P) hL hr hk
    cases hk1
    refine ⟨ρ, w1, _, hst, hv hL, ?_⟩
    subst hvs
    rw [run_append_room A ty (hl w) hle, hrun w rfl]
    simp only [Result.andThen_ok, addr_add]
    rw [show L.base + off + len * i.size = L.base + (off + len * i.size) from by omega]
    have hrun1 : (storeCells ⟨L.blk, L.base + (off + len * i.size), none⟩ cs).run P w = .ok () w1 := hrun1
    rw [hrun1]; rfl
  have grow : ∀ {cc : Nat} {m0 : AMem}, View ρ m0 w → m0.next = m.next → Step ρ m w ρ m0 w → vs = .slice (some ⟨L.blk, L.base + off, none⟩) len cc → cc < len + n → ∀ {old new : List AV} {co cn : List Value}, VRs ρ old co → VRs ρ new cn → co.length = len * i.size → cn.length = n * i.size →
      (∀ w1 : World, w1.heap = w.heap → (Builtin.firstCells i.size len vs).run P w1 = .ok co.toArray w1) → (∀ w1 : World, w1.heap = w.heap → (Builtin.firstCells i.size n vx).run P w1 = .ok cn.toArray w1) → growA i.size (old ++ new) (len + n) m0 = .mk v m' →
      ∃ ρ' w' vc, Step ρ m w ρ' m' w' ∧ VR ρ' v vc ∧ (Builtin.append_ ats ty #[vs, vx]).run P w = .ok vc w' := by
    intro cc m0 V0 hm0 hst0 hvs hlt old new co cn ho hn hol hnl hro hrn hg
    subst hvs
    obtain ⟨cp, hcp, hrun⟩ := run_append_new A ty (hl w) hlt (by omega) hro hrn
    obtain ⟨ρ', hst, hv⟩ := growA_run V0 (rest := (Builtin.zeroCells z.cells (cp - (len + n))).toList) (ho.append hn) hg (by rw [hm0]; exact hf) hcp (by
      simp only [List.length_append, Array.length_toList, zeroCells_size, hol, hnl, hzs]
      rw [← Nat.add_mul, ← Nat.add_mul]; congr 1; omega) e
    exact ⟨ρ', _, _, hst0.trans hst, hv, hrun⟩
  cases cap with
  | some cc =>
    cases hs with | sliceE _ _ _ _ L' hL' hle =>
    rw [hL] at hL'; cases hL'
    simp only [bif2_eq] at h
    split at h
    · rename_i hc
      have hc : len + n ≤ cc := by simpa [Nat.ble_eq] using hc
      exact room rfl hc (fun hq => .sliceE _ _ _ _ L hq hc) h
    · rename_i hc
      have hc : cc < len + n := by have : ¬ (len + n ≤ cc) := by simpa [Nat.ble_eq] using hc
                                   omega
      obtain ⟨old, co, h1, ho, hol, hro, _⟩ := elemsK_inv (P := P) V (.sliceE b off len cc L hL hle) h
      obtain ⟨new, cn, h2, hn, hnl, hrn, _⟩ := elemsK_inv (P := P) V hx h1
      exact grow V rfl V.refl rfl hc ho hn hol hnl hro hrn h2
  | none =>
    cases hs with | sliceO _ _ _ cc L' hL' hle hE =>
    rw [hL] at hL'; cases hL'
    obtain ⟨L0, cs0, el, fz, e1, e2, e3, e4, e5, e6, e7⟩ := V.sim.blk b _ hb
    rw [hL] at e1; cases e1
    simp only [bif2_eq] at h
    split at h
    · rename_i hEs
      have hEs : E = i.size := Nat.eq_of_beq_eq_true hEs
      have hEL : L.E = i.size := e4.trans hEs
      split at h
      · rename_i hc
        have hc : off + (len + n) * i.size ≤ N := by simpa [Nat.ble_eq] using hc
        have hcc : len + n ≤ cc := by
          rw [hEL] at hE
          have : (len + n) * i.size ≤ cc * i.size := by omega
          exact Nat.le_of_mul_le_mul_right this hpos
        exact room rfl hcc (fun hq => .sliceO _ _ _ _ L hq hcc hE) h
      · split at h
        · rename_i hc
          have hc : off + len * i.size = N := Nat.eq_of_beq_eq_true hc
          unfold appendEnd at h
          rw [bif2_eq] at h
          split at h
          · cases h
          · rename_i hro
            have hro : ro = false := by simpa using hro
            subst hro
            obtain ⟨old, co, h1, ho, hol, hrold, hoc⟩ := elemsK_inv (P := P) V (.sliceO b off len cc L hL hle hE) h
            obtain ⟨new, cn, h2, hn, hnl, hrn, _⟩ := elemsK_inv (P := P) V hx h1
            rw [bif2_eq] at h2
            split at h2
            · rename_i hp
              rcases T.setK_eq (OR.fail 86) none m.t b (fun t => growA i.size (old ++ new) (len.add n) ⟨m.next, t⟩) with q | ⟨t1, ht1, q⟩
              · rw [q] at h2; cases h2
              · rw [q] at h2
                have hst0 : Step ρ m w ρ ⟨m.next, t1⟩ w := GStep.drop V.sim V.wf fun j x hj => by
                  rw [ht1] at hj
                  by_cases hjb : j = b
                  · rw [if_pos hjb] at hj; cases hj
                  · rw [if_neg hjb] at hj; exact hj
                by_cases hroom : len + n ≤ cc
                · -- there is room: the same array under a new name
                  obtain ⟨m1, c1, hn1', hg1, hc1, hk1⟩ := newBlk_inv h2
                  cases hk1
                  have hin : L.base + off + (len + n) * i.size ≤ cs0.size := by
                    rw [e3, ← hE, hEL]
                    have := Nat.mul_le_mul_right i.size hroom
                    omega
                  have hmul : (len + n) * i.size = len * i.size + n * i.size := Nat.add_mul _ _ _
                  obtain ⟨w1, cs1, g1, g2, g3, g4, g5, g6, g7, g8, g9⟩ := run_storeCells P L.blk (L.base + off + len * i.size) el fz cn 0 w cs0 e2 (by omega) (e7.1 rfl) (hn.plain hp)
                  have hol' := ho.length
                  have hnl' := hn.length
                  refine ⟨ρ.set m.next ⟨L.blk, L.base + off, L.csize, i.size⟩, w1, .slice (some ⟨L.blk, L.base + off + 0, none⟩) (len + n) cc, ?_, ?_, ?_⟩
                  · refine GStep.write (b := b) (b1 := m.next) (hi := _) (d := off) (E := i.size) (n' := (len + n) * i.size) (c' := c1) (cs' := cs1) V.sim V.wf (by rw [← hEs]; exact hb) hL e2 g3 g2 g5 g6 g7 g8 g9 (.inr ⟨rfl, hn1', hf _ (Nat.le_refl _) (by rw [hn1']; show m.next < m.next + 1; omega)⟩) (fun j => ?_) hin (fun q hq => ?_)
                    · rw [hg1, ht1]
                      have : (old ++ new).length = (len + n) * i.size := by simp; omega
                      rw [this]
                    · have hlt : q < (old ++ new).length := by simp; omega
                      rw [hc1 q hlt]
                      by_cases hqo : q < len * i.size
                      · have hqo' : q < old.length := by omega
                        rw [List.getElem?_append_left hqo']
                        have hold : cs1[L.base + off + q]? = cs0[L.base + off + q]? := by rw [g4, if_neg (by omega)]
                        obtain ⟨x1, hx1, hr1⟩ := e6 (off + q) (by omega)
                        refine ⟨x1, by rw [hold, Nat.add_assoc]; exact hx1, ?_⟩
                        have hoc := hoc _ _ _ _ rfl _ _ _ _ _ hb
                        rw [hoc, cellsFrom_get _ _ _ _ (by omega)]
                        exact hr1
                      · have hqo' : old.length ≤ q := by omega
                        rw [List.getElem?_append_right hqo']
                        have hq2 : q - old.length < new.length := by omega
                        obtain ⟨x0, hx0, hr0⟩ := hn.get (q - old.length) (List.getElem?_eq_getElem hq2)
                        refine ⟨x0, ?_, by simpa [List.getElem?_eq_getElem hq2] using hr0⟩
                        rw [g4, if_pos (by omega), ← hx0]; congr 1; omega
                  · refine .sliceO _ _ _ _ _ (Ren.set_same _ _ _) hroom ?_
                    show L.base + off + 0 + cc * i.size = L.csize
                    rw [← hEL]; omega
                  · rw [run_append_room A ty (hl w) hroom, hrn w rfl]
                    simp only [Result.andThen_ok, addr_add]
                    rw [g1]; rfl
                · exact grow hst0.view rfl hst0 rfl (by omega) ho hn hol hnl hrold hrn h2
            · cases h2
        · cases h
    · cases h
end
end Go.Ev
end
