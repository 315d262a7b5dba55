/- Operations, on: what makes memory and writes it. -/
import Derived.Test.YtkobbfimabpfeaaGreatDoorEvG
import Derived.Laws.MakeOwn
namespace Go.Ev

section
variable {P : Program} {ρ : Ren} {m : AMem} {w : World}

theorem Sem.value_run {s : Sem Value} {v : Value} {w w' : World} (h : s.run P w = .ok v w') : (do pure (Next.value (← s)) : Sem Next).run P w = .ok (.value v) w' := by simp [h]

/-! ### Zero values -/

theorem VR.cells {a : AV} {v : Value} (h : VR ρ a v) (hp : a.onAgg (fun _ => true) a.plain = true) : VRs ρ a.cells v.cells.toList := by
  have h0 := h
  cases h <;> first
    | (cases hp; done)
    | exact .cons _ _ _ _ h0 .nil
    | assumption

theorem zeroA_inv {t : TypeId} {l : List AV} (h : zeroA P t = some l) : ∃ i z, P.info? t = some i ∧ i.zero = some z ∧ VRs ρ l z.cells.toList := by
  unfold zeroA at h
  split at h
  · rename_i i hi
    split at h
    · rename_i cs hz; cases h; exact ⟨i, _, hi, hz, scals_rel ρ _⟩
    · rename_i v hne hz
      cases h
      refine ⟨i, v, hi, hz, ?_⟩
      have : v.cells = #[v] := by
        cases v <;> first | rfl | (rename_i cs; exact absurd rfl (hne cs))
      rw [this]
      exact .cons _ _ _ _ (scal_rel ρ v) .nil
    · cases h
  · cases h

theorem run_zero {t : TypeId} {i : TypeInfo} {z : Value} (hi : P.info? t = some i) (hz : i.zero = some z) (w : World) : (zeroValue t).run P w = .ok z w := by simp [zeroValue, typeInfo, hi, hz]

theorem aAlloc_run (V : View ρ m w) {t : TypeId} {v : AV} {m' : AMem} (h : aAlloc P t m = .mk v m') (hf : Fresh ρ m.next m'.next) : Runs P ρ m w v m' (do pure (.value (← Instr.alloc t true (.tuple #[])))) := by
  unfold aAlloc at h
  split at h
  · rename_i l hl
    obtain ⟨i, z, hi, hz, hr⟩ := zeroA_inv (ρ := ρ) hl
    obtain ⟨m1, c, hn, hg, hc, hk⟩ := newBlk_inv h
    cases hk
    refine ⟨_, _, .pointer (some ⟨w.heap.size, 0 + 0, none⟩), V.new (rest := []) hr hn hg hc (hf _ (Nat.le_refl _) (by omega)) (A := z.cells) (by simp) (elem := t) (fz := (0, 0)) (fun i _ => by simp) (fun _ i => by simp), .ptr _ _ _ (Ren.set_same _ _ _), .inl ?_⟩
    refine Sem.value_run ?_
    simp [Instr.alloc, run_zero hi hz, newVar, newRow]
  · cases h

theorem box_run (V : View ρ m w) {t : TypeId} {x : AV} {vx : Value} (hx : VR ρ x vx) {v : AV} {m' : AMem} (h : bif2 (x.onAgg (fun _ => true) x.plain) (newBlk false 1 x.cells m fun b m => .mk (.ptr b 0) m) (.fail 112) = .mk v m') (hf : Fresh ρ m.next m'.next) :
    Runs P ρ m w v m' (do pure (.value (← Instr.box t vx))) := by
  rw [bif2_eq] at h
  split at h
  · rename_i hp
    obtain ⟨m1, c, hn, hg, hc, hk⟩ := newBlk_inv h
    cases hk
    refine ⟨_, _, .pointer (some ⟨w.heap.size, 0 + 0, none⟩), V.new (rest := []) (hx.cells hp) hn hg hc (hf _ (Nat.le_refl _) (by omega)) (A := vx.cells) (by simp) (elem := t) (fz := (0, 0)) (fun i _ => by simp) (fun _ i => by simp), .ptr _ _ _ (Ren.set_same _ _ _), .inl ?_⟩
    refine Sem.value_run ?_
    simp [Instr.box, newVar, newRow]
  · cases h

/-! ### Parts laid into an aggregate -/

/-- Parts, each with its place. -/
inductive VPs (ρ : Ren) : List (Nat × AV) → List (Nat × Value) → Prop
  | nil : VPs ρ [] []
  | cons (i : Nat) (a : AV) (v : Value) (l : List (Nat × AV)) (l' : List (Nat × Value)) (h : VR ρ a v) (hs : VPs ρ l l') : VPs ρ ((i, a) :: l) ((i, v) :: l')

theorem foldl_set (off : Nat) : ∀ (l : List Value) (j : Nat) (cs : Array Value), off + j + l.length ≤ cs.size →
    ((l.zipIdx j).foldl (fun (cs : Array Value) (p : Value × Nat) => cs.setIfInBounds (off + p.2) p.1) cs).toList = cs.toList.take (off + j) ++ l ++ cs.toList.drop (off + j + l.length)
  | [], j, cs, _ => by simp
  | v :: l, j, cs, h => by
    simp only [List.zipIdx_cons, List.foldl_cons]
    rw [foldl_set off l (j + 1) _ (by simp at h ⊢; omega)]
    simp only [Array.toList_setIfInBounds]
    simp only [List.length_cons] at h
    have hlt : off + j < cs.toList.length := by simp; omega
    rw [show off + (j + 1) = off + j + 1 from by omega]
    rw [List.take_succ_eq_append_getElem (by simpa using hlt)]
    have e1 : (cs.toList.set (off + j) v).take (off + j) = cs.toList.take (off + j) := by
      apply List.ext_getElem?
      intro i
      by_cases hi : i < off + j
      · simp [hi, List.getElem?_set_ne (show off + j ≠ i from by omega)]
      · simp [List.getElem?_take, hi]
    have e2 : (cs.toList.set (off + j) v).drop (off + j + 1 + l.length) = cs.toList.drop (off + j + (l.length + 1)) := by
      apply List.ext_getElem?
      intro i
      simp only [List.getElem?_drop]
      rw [List.getElem?_set_ne (by omega)]
      congr 1; omega
    rw [e1, e2]
    simp [List.append_assoc]

theorem fill_run {place : Nat → Option (Nat × Nat)} {place' : Nat → Option (Nat × Nat)} (hp : ∀ i x, place i = some x → place' i = some x) : ∀ {ps : List (Nat × AV)} {qs : List (Nat × Value)} (_ : VPs ρ ps qs) {l : List AV} {cs : Array Value} (_ : VRs ρ l cs.toList) {r : List AV},
    fillA place l ps = some r → ∃ cr, Instr.fill place' cs qs = some cr ∧ VRs ρ r cr.toList
  | _, _, .nil, l, cs, hl, r, h => by simp [fillA] at h; subst h; exact ⟨cs, rfl, hl⟩
  | _, _, .cons i a v ps qs ha hs, l, cs, hl, r, h => by
    simp only [fillA] at h
    split at h
    · cases h
    · rename_i off size hpl
      rw [bif2_eq] at h
      split at h
      · rename_i hc
        simp only [Bool.and_eq_true, Nat.ble_eq] at hc
        obtain ⟨⟨h1, h2⟩, h3⟩ := hc
        have h1 : a.cells.length = size := Nat.eq_of_beq_eq_true h1
        have hpl' : a.onAgg (fun _ => true) a.plain = true := by
          cases a <;> first | exact h3 | (simp [AV.onTup] at h3)
        have hcells := ha.cells hpl'
        have hvs : v.cells.size = size := by have := hcells.length; simp at this; omega
        have hlc : l.length = cs.size := by have := hl.length; simpa using this
        have h2' : off + size ≤ l.length := h2
        obtain ⟨cr, e1, e2⟩ := fill_run hp hs (l := l.take off ++ a.cells ++ l.drop (off + size)) (cs := (v.cells.toList.zipIdx.foldl (fun (cs : Array Value) (p : Value × Nat) => cs.setIfInBounds (off + p.2) p.1) cs)) (by
          rw [foldl_set off _ 0 cs (by simp; omega)]
          simp only [Nat.add_zero, Array.length_toList, hvs]
          exact ((hl.take off).append hcells).append (hl.drop (off + size))) h
        refine ⟨cr, ?_, e2⟩
        simp only [Instr.fill, hp _ _ hpl, hvs]
        rw [if_neg (by simp; omega), ← e1]
        congr 1
        rw [← Array.foldl_toList]
        simp
      · cases h

theorem run_mapM_places (fs : List Field) (h : fs.all (fun f => (P.info? f.type).isSome) = true) (w : World) :
    ∃ ps : List (Nat × Nat), (fs.mapM (fun (f : Field) => (do pure (f.offset, ← sizeOf f.type) : Sem (Nat × Nat)))).run P w = .ok ps w ∧ ∀ (i : Nat) (f : Field) (j : TypeInfo), fs[i]? = some f → P.info? f.type = some j → ps[i]? = some (f.offset, j.size) := by
  induction fs with
  | nil => exact ⟨[], by simp, fun i f j h => by simp at h⟩
  | cons f fs ih =>
    simp only [List.all_cons, Bool.and_eq_true] at h
    obtain ⟨ps, h1, h2⟩ := ih h.2
    obtain ⟨j, hj⟩ := Option.isSome_iff_exists.1 h.1
    refine ⟨(f.offset, j.size) :: ps, by simp only [List.mapM_cons, Sem.run_bind, run_sizeOf hj, Result.andThen_ok, Sem.run_pure, h1], fun i g q hg hq => ?_⟩
    cases i with
    | zero => simp at hg; subst hg; rw [hj] at hq; cases hq; rfl
    | succ i => simpa using h2 i g q (by simpa using hg) hq

theorem aBuild_run (V : View ρ m w) {t : TypeId} {ps : List (Nat × AV)} {qs : List (Nat × Value)} (hps : VPs ρ ps qs) {v : AV} {m' : AMem} (h : aBuild P t ps m = .mk v m') : Val P ρ m w v m' (Instr.build t qs.toArray) := by
  unfold aBuild at h
  split at h
  · rename_i z fs hz hu
    obtain ⟨i, zv, hi, hzv, hzr⟩ := zeroA_inv (ρ := ρ) hz
    rw [bif2_eq] at h
    split at h
    · rename_i hk
      split at h
      · rename_i l hl
        obtain ⟨pl, p1, p2⟩ := run_mapM_places (P := P) fs.toList (by simpa [fieldsKnown] using hk) w
        obtain ⟨cr, f1, f2⟩ := fill_run (place' := (pl.toArray[·]?)) (fun i x e => by
          unfold fieldPlaceA at e
          split at e
          · rename_i f hf
            split at e
            · rename_i j hj; cases e; simpa using p2 i f j (by simpa using hf) hj
            · cases e
          · cases e) hps hzr hl
        refine Val.mk h (uc := .agg cr) ?_ (.agg _ _ f2)
        have hm : (fs.mapM (fun (f : Field) => (do pure (f.offset, ← sizeOf f.type) : Sem (Nat × Nat)))).run P w = .ok pl.toArray w := by
          rw [Array.mapM_eq_mapM_toList, Sem.run_map, p1]; rfl
        simp only [Instr.build, Sem.run_bind, run_zero hi hzv, Result.andThen_ok, run_underlying hu, hm, f1]
        rfl
      · cases h
    · cases h
  · rename_i z n e hz hu
    obtain ⟨i, zv, hi, hzv, hzr⟩ := zeroA_inv (ρ := ρ) hz
    split at h
    · rename_i j hj
      split at h
      · rename_i l hl
        obtain ⟨cr, f1, f2⟩ := fill_run (place' := fun i => some (i * j.size, j.size)) (fun i x e => e) hps hzr hl
        refine Val.mk h (uc := .agg cr) ?_ (.agg _ _ f2)
        simp only [Instr.build, Sem.run_bind, run_zero hi hzv, Result.andThen_ok, run_underlying hu, run_sizeOf hj, f1]
        rfl
      · cases h
    · cases h
  · cases h

/-! ### Slices of one's own -/

theorem elemInfo_inv {t : TypeId} {i : TypeInfo} {z : List AV} (h : elemInfo P t = some (i, z)) :
    ∃ e zv, P.underlying t = some (.slice e) ∧ P.info? e = some i ∧ i.zero = some zv ∧ VRs ρ z zv.cells.toList ∧ z.length = i.size ∧ 0 < i.size ∧ i.bytes ≤ 4096 ∧ zv.cells.size = i.size := by
  unfold elemInfo at h
  split at h
  · rename_i e hu
    split at h
    · rename_i i' z' hi hz
      rw [bif2_eq] at h
      split at h
      · rename_i hc
        cases h
        simp only [Bool.and_eq_true, Nat.blt_eq, Nat.ble_eq] at hc
        obtain ⟨i2, zv, e1, e2, e3⟩ := zeroA_inv (ρ := ρ) hz
        rw [hi] at e1; cases e1
        have hl : z.length = i.size := Nat.eq_of_beq_eq_true hc.1.1
        have := e3.length
        simp at this
        exact ⟨e, zv, hu, hi, e2, e3, hl, hc.1.2, hc.2, by omega⟩
      · cases h
    · cases h
  · cases h

theorem repA_length (z : List AV) : ∀ n, (repA z n).length = n * z.length
  | 0 => by simp [repA]
  | n + 1 => by simp [repA, repA_length z n, Nat.add_mul]; omega

theorem repA_get (z : List AV) (hz : 0 < z.length) : ∀ n i, i < n * z.length → (repA z n)[i]? = z[i % z.length]?
  | 0, i, h => by simp at h
  | n + 1, i, h => by
    simp only [repA]
    by_cases hi : i < z.length
    · rw [List.getElem?_append_left hi, Nat.mod_eq_of_lt hi]
    · have hi : z.length ≤ i := by omega
      rw [List.getElem?_append_right hi, repA_get z hz n _ (by rw [Nat.add_mul] at h; omega)]
      rw [Nat.mod_eq_sub_mod hi]

theorem repA_rel {z : List AV} {zc : Array Value} (h : VRs ρ z zc.toList) (hz : 0 < z.length) (n : Nat) : VRs ρ (repA z n) (madeCells zc (n * zc.size)).toList := by
  have hl : z.length = zc.size := by simpa using h.length
  refine VRs.of_get (by rw [repA_length, hl]; simp [madeCells]) fun i v hv => ?_
  have hi : i < n * z.length := by
    rcases Nat.lt_or_ge i (n * z.length) with q | q
    · exact q
    · rw [List.getElem?_eq_none (by rw [repA_length]; exact q)] at hv; cases hv
  rw [repA_get z hz n i hi] at hv
  obtain ⟨c, hc, hr⟩ := h.get _ hv
  refine ⟨c, ?_, hr⟩
  have hm : i % zc.size < zc.size := Nat.mod_lt _ (by omega)
  rw [hl] at hc hi
  have hc' : zc[i % zc.size]? = some c := by rw [← hc]; simp
  simp [madeCells, hi]
  rw [getElem!_pos zc _ hm]
  rw [Array.getElem?_eq_getElem hm] at hc'
  exact Option.some.inj hc'

theorem aBuildSlice_run (V : View ρ m w) {t : TypeId} {n : Nat} {ps : List (Nat × AV)} {qs : List (Nat × Value)} (hps : VPs ρ ps qs) {v : AV} {m' : AMem} (h : aBuildSlice P t n ps m = .mk v m') (hf : Fresh ρ m.next m'.next) :
    Runs P ρ m w v m' (do pure (.value (← Instr.buildSlice t n qs.toArray))) := by
  unfold aBuildSlice at h
  split at h
  · rename_i i z he
    obtain ⟨e, zv, hu, hi, hz, hzr, hzl, hpos, hby, hzs⟩ := elemInfo_inv (ρ := ρ) he
    rw [bif2_eq] at h
    split at h
    · rename_i hc
      have hc : n * i.size ≤ 65536 := by simpa [Nat.ble_eq] using hc
      split at h
      · rename_i l hl
        obtain ⟨cr, f1, f2⟩ := fill_run (place' := fun j => some (j * i.size, i.size)) (fun i x e => e) hps (repA_rel hzr (by omega) n) hl
        obtain ⟨m1, c, hn, hg, hcc, hk⟩ := newBlk_inv h
        cases hk
        have hst := V.new (rest := []) f2 hn hg hcc (hf _ (Nat.le_refl _) (by omega)) (A := cr) (by simp) (elem := e) (fz := (0, 0)) (fun i _ => by simp) (fun _ i => by simp) (E := i.size)
        refine ⟨_, _, .slice (some ⟨w.heap.size, 0 + 0, none⟩) n n, hst, .sliceE _ _ _ _ _ (Ren.set_same _ _ _) (Nat.le_refl _), .inl ?_⟩
        refine Sem.value_run ?_
        have hle : ¬ (n * i.size > 2 ^ 24) := by omega
        rw [hzs] at f1
        by_cases h0 : n * i.size = 0
        · have e0 : (madeCells zv.cells (n * i.size)) = (Array.range (n * i.size)).map (fun j => (#[] : Array Value)[j % (#[] : Array Value).size]!) := by rw [h0]; simp [madeCells, Array.range_zero']
          simp only [Instr.buildSlice, Sem.run_bind, run_underlying hu, Result.andThen_ok, run_sizeOf hi, if_neg hle, if_pos h0, Sem.run_pure, Sem.run_ite]
          rw [← e0, f1]
          simp [newRow]
        · simp only [Instr.buildSlice, Sem.run_bind, run_underlying hu, Result.andThen_ok, run_sizeOf hi, if_neg hle, if_neg h0, Sem.run_pure, Sem.run_ite, run_zero hi hz]
          have : (Array.range (n * i.size)).map (fun x => zv.cells[x % zv.cells.size]!) = madeCells zv.cells (n * i.size) := rfl
          rw [this, f1]
          simp [newRow]
      · cases h
    · cases h
  · cases h

theorem aMakeSlice_run (V : View ρ m w) {t : TypeId} {l c : AV} {vl vc : Value} (hl : VR ρ l vl) (hc : VR ρ c vc) {v : AV} {m' : AMem} (h : aMakeSlice P t l c m = .mk v m') (hf : Fresh ρ m.next m'.next) :
    Runs P ρ m w v m' (do pure (.value (← Instr.makeSlice t vl vc))) := by
  unfold aMakeSlice at h
  split at h
  · rename_i i z he
    obtain ⟨e, zv, hu, hi, hz, hzr, hzl, hpos, hby, hzs⟩ := elemInfo_inv (ρ := ρ) he
    split at h
    · rename_i kl L kc C
      rw [bif2_eq] at h
      split at h
      · rename_i hq
        simp only [Bool.and_eq_true, Nat.ble_eq] at hq
        cases hl; cases hc
        obtain ⟨m1, cc, hn, hg, hcc, hk⟩ := newBlk_inv h
        cases hk
        have hst := V.new (rest := []) (repA_rel hzr (by omega) C) hn hg hcc (hf _ (Nat.le_refl _) (by omega)) (A := madeCells zv.cells (C * zv.cells.size)) (by simp) (elem := e) (fz := (0, 0)) (fun i _ => by simp) (fun _ i => by simp) (E := i.size)
        refine ⟨_, _, .slice (some ⟨w.heap.size, 0 + 0, none⟩) L C, hst, .sliceE _ _ _ _ _ (Ren.set_same _ _ _) hq.1, .inl ?_⟩
        refine Sem.value_run ?_
        have hb : (i.bytes : Int) * (Int.ofNat C) ≤ 281474976710656 := by
          have : i.bytes * C ≤ 4096 * 65536 := Nat.mul_le_mul hby hq.2
          have h2 : ((i.bytes * C : Nat) : Int) ≤ 281474976710656 := by omega
          simpa using h2
        have := run_make (P := P) w t e i zv hu hi hz kl kc (Int.ofNat L) (Int.ofNat C) (by simp) (by simpa using hq.1) hb (by have := hq.2; simp; omega)
        rw [hzs]
        simpa using this
      · cases h
    · cases h
  · cases h

end
end Go.Ev
