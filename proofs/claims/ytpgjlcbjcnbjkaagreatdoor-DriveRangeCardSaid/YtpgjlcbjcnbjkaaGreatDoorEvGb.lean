/- Operations, on: the builtins, conversions; all operations that call no function. Operations on maps: lookup, update, entries, new ones. One operation, whatever it is, a call too. Calls, regions in their order, code: whatever the evaluator answers the model comes to. Reads leave memory as it is; the small laws of masks; what is the same. A region whose order is drawn: what a run of it in the order of the text finds. A region whose order is drawn: who is ahead of whom. A region whose order is drawn: what its run in the order of the text says of all orders. A region whose order is drawn: in any order it comes to what the order of the text comes to. A region whose order is drawn: the proof's end. Code and calls: whatever the evaluator answers the model comes to. -/
import Derived.Test.YtpgjlcbjcnbjkaaGreatDoorEvGa
import Derived.MapKept
import Derived.WideKeyRuns
import Derived.Scope
import Derived.LoopN
section
namespace Go.Ev

section
variable {P : Program} {ρ : Ren} {m : AMem} {w : World}

/-- As 'Runs', of what yields a value. -/
noncomputable def RunsV (P : Program) (ρ : Ren) (m : AMem) (w : World) (v : AV) (m' : AMem) (s : Sem Value) : Prop := ∃ ρ' w' vc, Step ρ m w ρ' m' w' ∧ VR ρ' v vc ∧ s.run P w = .ok vc w'

theorem RunsV.runs {v : AV} {m' : AMem} {s : Sem Value} (h : RunsV P ρ m w v m' s) : Runs P ρ m w v m' (do pure (.value (← s))) := by
  obtain ⟨ρ', w', vc, h1, h2, h3⟩ := h
  exact ⟨ρ', w', vc, h1, h2, .inl (Sem.value_run h3)⟩
theorem Val.runsV (V : View ρ m w) {v : AV} {m' : AMem} {s : Sem Value} (h : Val P ρ m w v m' s) : RunsV P ρ m w v m' s := by
  obtain ⟨rfl, vc, hv, hr⟩ := h
  exact ⟨ρ, w, vc, V.refl, hv, hr⟩

theorem intT_inv {xt : Option TypeId} (h : intT P xt = true) : ∃ t k, xt = some t ∧ P.underlying t = some (.int k) := by
  unfold intT at h
  split at h
  · rename_i t
    split at h
    · rename_i k hu; exact ⟨t, k, rfl, hu⟩
    · cases h
  · cases h

theorem run_append_zeros {ats : Array TypeId} {st xt e : TypeId} {kn kq : IntKind} {i : TypeInfo} {z : Value} (h0 : ats[0]? = some st) (h1 : ats[1]? = some xt) (hu : P.underlying st = some (.slice e)) (hx : P.underlying xt = some (.int kn)) (hi : P.info? e = some i) (hz : i.zero = some z)
    (hby : i.bytes ≤ 4096) (hpos : 0 < i.size) (ty : TypeId) {base : Option Addr} {sLen sCap k : Nat} (hk : 0 < k) (hgt : sCap < sLen + k) (hs : sLen + k ≤ 1048576) {old : List Value}
    (ho : ∀ w1 : World, w1.heap = w.heap → (Builtin.firstCells i.size sLen (.slice base sLen sCap)).run P w1 = .ok old.toArray w1) :
    ∃ cap, sLen + k ≤ cap ∧ (Builtin.append_ ats ty #[.slice base sLen sCap, .int kq (Int.ofNat k)]).run P w =
      .ok (.slice (some ⟨w.heap.size, 0, none⟩) (sLen + k) cap) (({ w with drawn := w.drawn + 1 } : World).alloc (.cells ((old ++ (Builtin.zeroCells z.cells k).toList) ++ (Builtin.zeroCells z.cells (cap - (sLen + k))).toList).toArray e)) := by
  refine ⟨(Question.appendCap (sLen + k) sCap e).cut (w.tape w.drawn (.appendCap (sLen + k) sCap e)), by show sLen + k ≤ (sLen + k) + _; omega, ?_⟩
  have hfit : Builtin.nextslicecap (sLen + k) sCap * i.bytes ≤ 281474976710656 := growslice_fits hgt (by
    have : (sLen + k) * i.bytes ≤ 1048576 * 4096 := Nat.mul_le_mul hs hby
    omega)
  have h48 : k * i.bytes ≤ 281474976710656 := by
    have : k * i.bytes ≤ 1048576 * 4096 := Nat.mul_le_mul (by omega) hby
    omega
  have ho' := ho w.drew rfl
  have hkz : k ≠ 0 := by omega
  have hw : IntKind.i64.wrap (k : Int) = k := by rw [IntKind.wrap_i64]; omega
  have hn : ¬ (sLen + k ≤ sCap) := by omega
  have h63' : ¬ (9223372036854775807 < ((sLen : Int) + (k : Int))) := by omega
  have h48' : ¬ (281474976710656 < Builtin.nextslicecap (sLen + k) sCap * i.bytes) := by omega
  have h48i : ¬ (281474976710656 < (k : Int) * (i.bytes : Int)) := by
    rw [← Int.natCast_mul]
    omega
  have hneg : ¬ ((k : Int) < 0) := by omega
  have hns : ¬ (k * i.size = 0) := Nat.mul_ne_zero hkz (by omega)
  simp [Builtin.append_, h0, h1, run_underlying hu, run_underlying hx, sizeOf, typeInfo, zeroValue, hi, hz, asInt, asIntOf, hw, hn, hneg, hns, h63', h48', h48i, Question.forced, ho', newRow]
  congr 2
  apply Array.ext'
  simp

theorem aAppendZ_run (V : View ρ m w) {ats : Array TypeId} {st e : TypeId} (h0 : ats[0]? = some st) (ty : TypeId) {s x : AV} {vs vx : Value} (hs : VR ρ s vs) (hx : VR ρ x vx) {i : TypeInfo} {z : List AV} {zv : Value} (hu : P.underlying st = some (.slice e)) (hi : P.info? e = some i)
    (hz : i.zero = some zv) (hzr : VRs ρ z zv.cells.toList) (hzl : z.length = i.size) (hpos : 0 < i.size) (hby : i.bytes ≤ 4096) (hzs : zv.cells.size = i.size) {v : AV} {m' : AMem} (h : aAppendZ P i z ats[1]? s x m = .mk v m') (hf : Fresh ρ m.next m'.next) :
    RunsV P ρ m w v m' (Builtin.append_ ats ty #[vs, vx]) := by
  unfold aAppendZ at h
  split at h
  · rename_i b off len c kq k
    rw [bif2_eq] at h
    split at h
    · rename_i hc
      simp only [Bool.and_eq_true, Nat.blt_eq, Nat.ble_eq] at hc
      obtain ⟨⟨⟨hc1, hc2⟩, hc3⟩, hc4⟩ := hc
      have hc3 : c < len + k := hc3
      have hc4 : len + k ≤ 1048576 := hc4
      obtain ⟨xt, kn, h1, hxt⟩ := intT_inv hc1
      obtain ⟨old, co, h2, ho, hol, hro, _⟩ := elemsK_inv (P := P) V hs h
      rw [fNat_eq] at h2
      cases hs with | sliceE _ _ _ _ L hL hle =>
      cases hx
      obtain ⟨cap, hcap, hrun⟩ := run_append_zeros (kq := kq) h0 h1 hu hxt hi hz hby hpos ty hc2 hc3 hc4 hro
      have hzc : VRs ρ (repA z k) (Builtin.zeroCells zv.cells k).toList := by
        have := repA_rel hzr (by omega) k
        exact this
      obtain ⟨ρ', hst, hv⟩ := growA_run V (rest := (Builtin.zeroCells zv.cells (cap - (len + k))).toList) (ho.append hzc) h2 hf hcap (by
        simp only [List.length_append, Array.length_toList, zeroCells_size, hol, hzs]
        rw [← Nat.add_mul, ← Nat.add_mul]; congr 1; omega) e
      exact ⟨ρ', _, _, hst, hv, hrun⟩
    · cases h
  · cases h

theorem aAppend_run (V : View ρ m w) {ats : Array TypeId} {st : TypeId} (h0 : ats[0]? = some st) (ty : TypeId) {s x : AV} {vs vx : Value} (hs : VR ρ s vs) (hx : VR ρ x vx) {v : AV} {m' : AMem} (h : aAppend P st ats[1]? s x m = .mk v m') (hf : Fresh ρ m.next m'.next) :
    RunsV P ρ m w v m' (Builtin.append_ ats ty #[vs, vx]) := by
  unfold aAppend at h
  split at h
  · rename_i i z he
    obtain ⟨e, zv, hu, hi, hz, hzr, hzl, hpos, hby, hzs⟩ := elemInfo_inv (ρ := ρ) he
    rw [bif2_eq] at h
    split at h
    · exact aAppendZ_run V h0 ty hs hx hu hi hz hzr hzl hpos hby hzs h hf
    · rename_i hap
      obtain ⟨xt, d, g1, g2, g3⟩ := appendable_inv (P := P) (by simpa using hap)
      have A : ApT P ats st e i zv := ⟨h0, ⟨xt, d, g1, g2, g3⟩, hu, hi, hz, hby⟩
      split at h
      · cases h
      · rename_i n hn
        rw [fNat_eq, bif2_eq] at h
        split at h
        · cases h
        · rename_i hbig
          have hbig : n ≤ 1048576 := by simpa [Nat.blt_eq] using hbig
          have hl := lenA_run (P := P) hx hn w
          split at h
          · -- nil
            cases hs
            rw [bif2_eq] at h
            split at h
            · rename_i h00
              obtain rfl : n = 0 := Nat.eq_of_beq_eq_true h00
              cases h
              exact ⟨ρ, w, _, V.refl, .nils, append_none A ty hl (Nat.le_refl _)⟩
            · rename_i h00
              have h00 : n ≠ 0 := fun q => h00 (by rw [q]; rfl)
              obtain ⟨new, cn, h2, hn2, hnl, hrn, _⟩ := elemsK_inv (P := P) V hx h
              obtain ⟨cp, hcp, hrun⟩ := run_append_new (base := none) (sLen := 0) (sCap := 0) A ty hl (by omega) (by omega) (old := []) (fun w1 _ => by simp [Builtin.firstCells]) hrn
              simp only [Nat.zero_add] at hcp hrun
              obtain ⟨ρ', hst, hv⟩ := growA_run V (rest := (Builtin.zeroCells zv.cells (cp - n)).toList) hn2 h2 hf hcp (by
                simp only [Array.length_toList, zeroCells_size, hnl, hzs]
                rw [← Nat.add_mul]; congr 1; omega) e
              exact ⟨ρ', _, _, hst, hv, by simpa using hrun⟩
          · cases hs
            rw [bif2_eq] at h
            split at h
            · rename_i h00
              obtain rfl : n = 0 := Nat.eq_of_beq_eq_true h00
              cases h
              exact ⟨ρ, w, _, V.refl, .emp _ _, append_none A ty hl (Nat.zero_le _)⟩
            · cases h
          · rename_i b off len cap
            rw [bif2_eq] at h
            split at h
            · rename_i h00
              obtain rfl : n = 0 := Nat.eq_of_beq_eq_true h00
              cases h
              refine ⟨ρ, w, vs, V.refl, hs, ?_⟩
              cases hs with
              | sliceE _ _ _ _ L hL hle => exact append_none A ty hl hle
              | sliceO _ _ _ _ L hL hle => exact append_none A ty hl hle
            · rw [bif2_eq] at h
              split at h
              · cases h
              · rename_i hb2
                exact appendTo_run V A hzs hpos ty hs hx hn hbig (by simpa [Nat.blt_eq] using hb2) h hf
          · cases h
  · cases h

theorem aCopy_run (V : View ρ m w) {ats : Array TypeId} {dt : TypeId} (h0 : ats[0]? = some dt) (ty : TypeId) {d x : AV} {vd vx : Value} (hd : VR ρ d vd) (hx : VR ρ x vx) {v : AV} {m' : AMem} (h : aCopy P dt d x m = .mk v m') :
    RunsV P ρ m w v m' (Builtin.copy_ ats ty #[vd, vx]) := by
  unfold aCopy at h
  split at h
  · rename_i i z he
    obtain ⟨e, zv, hu, hi, hz, hzr, hzl, hpos, hby, hzs⟩ := elemInfo_inv (ρ := ρ) he
    split at h
    · rename_i n b off len cap hn
      have hl := lenA_run (P := P) hx hn w
      rw [fNat_eq] at h
      have hmin : (bif2 (Nat.ble n len) n len) = Nat.min n len := by
        rw [bif2_eq]; split
        · rename_i q; exact (Nat.min_eq_left (by simpa [Nat.ble_eq] using q)).symm
        · rename_i q; exact (Nat.min_eq_right (by simp [Nat.ble_eq] at q; omega)).symm
      rw [hmin] at h
      obtain ⟨new, cn, h2, hn2, hnl, hrn, _⟩ := elemsK_inv (P := P) V hx h
      obtain ⟨_, _, _, _, hb, _⟩ := storeK_inv h2
      obtain ⟨L, hL⟩ : ∃ L, ρ b = some L := by obtain ⟨L, hL, _⟩ := (V.sim.blk b _ hb).loc; exact ⟨L, hL⟩
      obtain ⟨m1, w1, hk1, hrun1, hst⟩ := V.store (P := P) hL hn2 h2
      cases hk1
      have go : ∀ cc, RunsV P ρ m w (.int .i64 (Int.ofNat (Nat.min n len))) _ (Builtin.copy_ ats ty #[.slice (some ⟨L.blk, L.base + off, none⟩) len cc, vx]) := fun cc => by
        refine ⟨ρ, w1, .int .i64 (Int.ofNat (Nat.min n len)), hst, .int _ _, ?_⟩
        simp [Builtin.copy_, h0, run_underlying hu, hl, run_sizeOf hi, hrn w rfl, hrun1, goInt]
      cases hd with
      | sliceE _ _ _ _ L' hL' => rw [hL] at hL'; cases hL'; exact go _
      | sliceO _ _ _ _ L' hL' => rw [hL] at hL'; cases hL'; exact go _
    · rename_i n hn
      have hl := lenA_run (P := P) hx hn w
      cases h; cases hd
      have hz0 : (Builtin.firstCells i.size 0 vx).run P w = .ok #[] w := by
        cases hx <;> simp [lenA] at hn <;> simp [Builtin.firstCells, loadCells, loadCellsFrom]
      exact ⟨ρ, w, .int .i64 0, V.refl, .int _ _, by simp [Builtin.copy_, h0, run_underlying hu, hl, run_sizeOf hi, hz0, goInt]⟩
    · rename_i n hn
      have hl := lenA_run (P := P) hx hn w
      cases h; cases hd
      have hz0 : (Builtin.firstCells i.size 0 vx).run P w = .ok #[] w := by
        cases hx <;> simp [lenA] at hn <;> simp [Builtin.firstCells, loadCells, loadCellsFrom]
      exact ⟨ρ, w, .int .i64 0, V.refl, .int _ _, by simp [Builtin.copy_, h0, run_underlying hu, hl, run_sizeOf hi, hz0, goInt, storeCells]⟩
    · cases h
  · cases h

theorem aClear_run (V : View ρ m w) {ats : Array TypeId} {t : TypeId} (h0 : ats[0]? = some t) (ty : TypeId) {x : AV} {vx : Value} (hx : VR ρ x vx) {v : AV} {m' : AMem}
    (h : aClear P t x m (fun b off l => storeK m b off l fun m => .mk .undef m) = .mk v m') : RunsV P ρ m w v m' (Builtin.clear_ ats ty #[vx]) := by
  unfold aClear at h
  split at h
  · rename_i q he
    obtain ⟨i, z⟩ := q
    obtain ⟨e, zv, hu, hi, hz, hzr, hzl, hpos, hby, hzs⟩ := elemInfo_inv (ρ := ρ) he
    cases h; cases hx
    exact ⟨ρ, w, undef, V.refl, VR.undef _, by simp [Builtin.clear_, h0, run_underlying hu, undef]⟩
  · rename_i q he
    obtain ⟨i, z⟩ := q
    obtain ⟨e, zv, hu, hi, hz, hzr, hzl, hpos, hby, hzs⟩ := elemInfo_inv (ρ := ρ) he
    cases h; cases hx
    exact ⟨ρ, w, undef, V.refl, VR.undef _, by simp [Builtin.clear_, h0, run_underlying hu, undef]⟩
  · rename_i i z b off len cap he
    obtain ⟨e, zv, hu, hi, hz, hzr, hzl, hpos, hby, hzs⟩ := elemInfo_inv (ρ := ρ) he
    have go : ∀ (L : Loc) cc, ρ b = some L → RunsV P ρ m w v m' (Builtin.clear_ ats ty #[.slice (some ⟨L.blk, L.base + off, none⟩) len cc]) := fun L cc hL => by
      rw [bif2_eq] at h
      split at h
      · rename_i h00
        obtain rfl : len = 0 := Nat.eq_of_beq_eq_true h00
        cases h
        exact ⟨ρ, w, undef, V.refl, VR.undef _, by simp [Builtin.clear_, h0, run_underlying hu, undef]⟩
      · rename_i h00
        have h00 : len ≠ 0 := fun q => h00 (by rw [q]; rfl)
        obtain ⟨m1, w1, hk1, hrun1, hst⟩ := V.store (P := P) hL (repA_rel hzr (by omega) len) h
        cases hk1
        refine ⟨ρ, w1, undef, hst, VR.undef _, ?_⟩
        have hzc : Builtin.zeroCells zv.cells len = madeCells zv.cells (len * zv.cells.size) := rfl
        obtain ⟨n, rfl⟩ : ∃ n, len = n + 1 := ⟨len - 1, by omega⟩
        simp [Builtin.clear_, h0, run_underlying hu, run_zero hi hz, hzc, hrun1, undef]
    cases hx with
    | sliceE _ _ _ _ L hL => exact go L _ hL
    | sliceO _ _ _ _ L hL => exact go L _ hL
  · cases h

theorem aLen_val {ats : Array TypeId} {t : TypeId} (h0 : ats[0]? = some t) (ty : TypeId) {x : AV} {vx : Value} (hx : VR ρ x vx) {v : AV} {m' : AMem} (h : aLen P t x m = .mk v m') : Val P ρ m w v m' (Builtin.len_ ats ty #[vx]) := by
  unfold aLen at h
  split at h
  · rename_i s hu
    obtain ⟨z, rfl, hz⟩ := str_inv hx
    rw [fNat_eq, str_len hz] at h
    exact Val.mk h (by simp [Builtin.len_, h0, run_underlying hu]; rfl) (.int _ _)
  · rename_i e b off n c hu
    cases hx <;> exact Val.mk h (by simp [Builtin.len_, h0, run_underlying hu]; rfl) (.int _ _)
  · rename_i e hu
    cases hx; exact Val.mk h (by simp [Builtin.len_, h0, run_underlying hu]; rfl) (.int _ _)
  · rename_i e hu
    cases hx; exact Val.mk h (by simp [Builtin.len_, h0, run_underlying hu]; rfl) (.int _ _)
  · rename_i n e hu
    exact Val.mk h (by simp [Builtin.len_, h0, run_underlying hu]; rfl) (.int _ _)
  · rename_i a hu
    split at h
    · rename_i n e hu2
      exact Val.mk h (by simp [Builtin.len_, h0, run_underlying hu, run_underlying hu2]; rfl) (.int _ _)
    · cases h
  · cases h

theorem aCap_val {ats : Array TypeId} {t : TypeId} (h0 : ats[0]? = some t) (ty : TypeId) {x : AV} {vx : Value} (hx : VR ρ x vx) {v : AV} {m' : AMem} (h : aCap P t x m = .mk v m') : Val P ρ m w v m' (Builtin.cap_ ats ty #[vx]) := by
  unfold aCap at h
  split at h
  · rename_i e b off n c hu
    cases hx; exact Val.mk h (by simp [Builtin.cap_, h0, run_underlying hu]; rfl) (.int _ _)
  · rename_i e hu
    cases hx; exact Val.mk h (by simp [Builtin.cap_, h0, run_underlying hu]; rfl) (.int _ _)
  · rename_i n e hu
    exact Val.mk h (by simp [Builtin.cap_, h0, run_underlying hu]; rfl) (.int _ _)
  · cases h

theorem aMax_val : ∀ {l : List AV} {cs : List Value} (_ : VRs ρ l cs) {x : AV} {vx : Value} (_ : VR ρ x vx) {v : AV} {m' : AMem} (_ : aMM true x l m = .mk v m'), Val P ρ m w v m' (cs.foldlM Builtin.max2 vx)
  | _, _, .nil, x, vx, hx, v, m', h => by
    have h : OR.mk x m = .mk v m' := by cases x <;> exact h
    exact Val.mk h (by simp) hx
  | _, _, .cons y c l cs hy hl, x, vx, hx, v, m', h => by
    cases x <;> cases y <;> first | (cases h; done) | skip
    rename_i k a k' b
    simp only [aMM, bif2_eq, if_true] at h
    cases hx; cases hy
    split at h
    · rename_i hk
      obtain rfl := kEq_eq hk
      have hm : (Builtin.max2 (.int k a) (.int k b)) = pure (.int k (if b > a then b else a)) := rfl
      rw [iLt_eq] at h
      split at h
      · rename_i hab
        obtain ⟨e, vc, hv, hr⟩ := aMax_val hl (.int k b) h
        exact ⟨e, vc, hv, by simp only [List.foldlM_cons, hm, Sem.run_bind, Sem.run_pure, Result.andThen_ok]; rw [if_pos (by simpa using hab)]; exact hr⟩
      · rename_i hab
        obtain ⟨e, vc, hv, hr⟩ := aMax_val hl (.int k a) h
        exact ⟨e, vc, hv, by simp only [List.foldlM_cons, hm, Sem.run_bind, Sem.run_pure, Result.andThen_ok]; rw [if_neg (by simpa using hab)]; exact hr⟩
    · cases h

theorem aMin_val : ∀ {l : List AV} {cs : List Value} (_ : VRs ρ l cs) {x : AV} {vx : Value} (_ : VR ρ x vx) {v : AV} {m' : AMem} (_ : aMM false x l m = .mk v m'), Val P ρ m w v m' (cs.foldlM Builtin.min2 vx)
  | _, _, .nil, x, vx, hx, v, m', h => by
    have h : OR.mk x m = .mk v m' := by cases x <;> exact h
    exact Val.mk h (by simp) hx
  | _, _, .cons y c l cs hy hl, x, vx, hx, v, m', h => by
    cases x <;> cases y <;> first | (cases h; done) | skip
    rename_i k a k' b
    simp only [aMM, bif2_eq, Bool.false_eq_true, if_false] at h
    cases hx; cases hy
    split at h
    · rename_i hk
      obtain rfl := kEq_eq hk
      have hm : (Builtin.min2 (.int k a) (.int k b)) = pure (.int k (if b < a then b else a)) := rfl
      rw [iLt_eq] at h
      split at h
      · rename_i hab
        obtain ⟨e, vc, hv, hr⟩ := aMin_val hl (.int k b) h
        exact ⟨e, vc, hv, by simp only [List.foldlM_cons, hm, Sem.run_bind, Sem.run_pure, Result.andThen_ok]; rw [if_pos (by simpa using hab)]; exact hr⟩
      · rename_i hab
        obtain ⟨e, vc, hv, hr⟩ := aMin_val hl (.int k a) h
        exact ⟨e, vc, hv, by simp only [List.foldlM_cons, hm, Sem.run_bind, Sem.run_pure, Result.andThen_ok]; rw [if_neg (by simpa using hab)]; exact hr⟩
    · cases h

/-! ### Conversions -/

theorem bytesK_inv {v : AV} {m' : AMem} : ∀ {l : List AV} {cs : List Value} (_ : VRs ρ l cs) {k : List Nat → OR} (_ : bytesK l k = .mk v m'),
    ∃ bs : List UInt8, k (bs.map UInt8.toNat) = .mk v m' ∧ cs = bs.map fun b => Value.int .u8 (b.toNat : Int)
  | _, _, .nil, k, h => ⟨[], h, rfl⟩
  | _, _, .cons a c l cs ha hl, k, h => by
    cases a <;> first | (cases h; done) | skip
    rename_i kk n
    cases kk <;> cases n <;> first | (cases h; done) | skip
    rename_i n
    simp only [bytesK, bif2_eq] at h
    split at h
    · rename_i hn
      have hn : n < 256 := by simpa [Nat.blt_eq] using hn
      obtain ⟨bs, h1, h2⟩ := bytesK_inv hl h
      cases ha
      have e : (UInt8.ofNat n).toNat = n := by simp [UInt8.toNat_ofNat', Nat.mod_eq_of_lt hn]
      exact ⟨UInt8.ofNat n :: bs, by simpa [e] using h1, by rw [h2]; simp [e]⟩
    · cases h

theorem foldl_push (bs : List UInt8) : ∀ acc : ByteArray, (bs.map fun b => (b.toNat : Int)).foldl (fun r n => r.push (UInt8.ofNat n.toNat)) acc = ⟨(acc.data.toList ++ bs).toArray⟩ := by
  induction bs with
  | nil => intro acc; simp
  | cons b bs ih =>
    intro acc
    simp only [List.map_cons, List.foldl_cons]
    rw [ih]
    simp

theorem aConvert_run (V : View ρ m w) {src dst : TypeId} {x : AV} {vx : Value} (hx : VR ρ x vx) {v : AV} {m' : AMem} (h : aConvert P src dst x m = .mk v m') (hf : Fresh ρ m.next m'.next) : RunsV P ρ m w v m' (convert src dst vx) := by
  unfold aConvert at h
  split at h
  · rename_i d0 k k' n hs hd
    cases hx
    rw [wrapK_eq] at h
    exact (Val.mk h (by simp [convert, run_underlying hs, run_underlying hd, Conv.intToInt]) (.int _ _)).runsV V
  · rename_i d0 s hs hd
    obtain ⟨z, rfl, hz⟩ := str_inv hx
    exact (Val.mk h (by simp [convert, run_underlying hs, run_underlying hd]) (.str _ _ hz)).runsV V
  · rename_i x' e hs hd hne
    split at h
    · rename_i hu8
      have conv : ∀ (a : Option Addr) (l c : Nat), (convert src dst (.slice a l c)).run P w = (Conv.bytesToString (.slice a l c)).run P w := fun a l c => by
        simp [convert, run_underlying hs, run_underlying hd, run_underlying hu8]
      split at h
      · rename_i b off len cap
        obtain ⟨ro, sg, E, N, c, h1, h2, h3⟩ := loadK_inv h
        have go : ∀ (L : Loc) cc, ρ b = some L → RunsV P ρ m w v m' (convert src dst (.slice (some ⟨L.blk, L.base + off, none⟩) len cc)) := fun L cc hL => by
          obtain ⟨vs, hl, hrun, hr⟩ := V.load (P := P) h1 hL h2
          obtain ⟨bs, hk, hcs⟩ := bytesK_inv hr h3
          cases hk
          have hrun0 := hrun w rfl
          rw [hcs] at hrun0
          have := run_bytesToString (P := P) w ⟨L.blk, L.base + off, none⟩ len cc (bs.map fun b => (b.toNat : Int)) (by rw [hrun0]; simp only [List.map_map]; rfl)
          rw [foldl_push] at this
          exact ⟨ρ, w, .string ⟨(ByteArray.empty.data.toList ++ bs).toArray⟩, V.refl, .str _ _ (by simp), by rw [conv, this]⟩
        cases hx with
        | sliceE _ _ _ _ L hL => exact go L _ hL
        | sliceO _ _ _ _ L hL => exact go L _ hL
      · cases hx
        exact (Val.mk h (uc := .string .empty) (by rw [conv]; simp [Conv.bytesToString]) (.str _ _ (by simp))).runsV V
      · cases hx
        exact (Val.mk h (uc := .string .empty) (by rw [conv, run_bytesToString (P := P) w _ 0 _ [] (by simp [loadCells, loadCellsFrom])]; rfl) (.str _ _ (by simp))).runsV V
      · cases h
    · cases h
  · rename_i d0 e s hs hd
    obtain ⟨z, rfl, hz⟩ := str_inv hx
    split at h
    · rename_i i hu8 hi
      rw [bif2_eq] at h
      split at h
      · rename_i hc
        simp only [Bool.and_eq_true, Nat.ble_eq] at hc
        have hlen := str_len hz
        obtain ⟨m1, c, hn, hg, hcc, hk⟩ := newBlk_inv h
        rw [fNat_eq] at hk
        cases hk
        have hcap : ∃ cap, z.size ≤ cap ∧ (Conv.stringToBytes e z).run P w = .ok (.slice (some ⟨w.heap.size, 0, none⟩) z.size cap)
            (({ w with drawn := w.drawn + 1 } : World).alloc (.cells (((z.data.toList.map fun (b : UInt8) => Value.int .u8 (b.toNat : Int)) ++ List.replicate (cap - z.size) (Value.int .u8 0)).toArray) e (cap, cap + 1))) := by
          refine ⟨(Question.appendCap z.size 0 e).cut (w.tape w.drawn (.appendCap z.size 0 e)), by show z.size ≤ z.size + _; omega, ?_⟩
          have hle : z.size ≤ (Question.appendCap z.size 0 e).cut (w.tape w.drawn (.appendCap z.size 0 e)) := by show z.size ≤ z.size + _; omega
          generalize hq : (Question.appendCap z.size 0 e).cut (w.tape w.drawn (.appendCap z.size 0 e)) = cap at *
          have hsz : (((z.data.toList.map fun (b : UInt8) => Value.int .u8 (b.toNat : Int)) ++ List.replicate (cap - z.size) (Value.int .u8 0)).toArray).size = cap := by simp; omega
          have hA : (Array.map (fun b : UInt8 => Value.int .u8 (b.toNat : Int)) z.data) ++ Array.replicate (cap - z.size) (Value.int .u8 0) = ((z.data.toList.map fun (b : UInt8) => Value.int .u8 (b.toNat : Int)) ++ List.replicate (cap - z.size) (Value.int .u8 0)).toArray := by
            apply Array.ext'; simp
          have hfz : (w.drew.alloc (.cells (((z.data.toList.map fun (b : UInt8) => Value.int .u8 (b.toNat : Int)) ++ List.replicate (cap - z.size) (Value.int .u8 0)).toArray) e)).freeze ⟨w.heap.size, cap, none⟩ 1 =
              w.drew.alloc (.cells (((z.data.toList.map fun (b : UInt8) => Value.int .u8 (b.toNat : Int)) ++ List.replicate (cap - z.size) (Value.int .u8 0)).toArray) e (cap, cap + 1)) := by
            rw [World.freeze, if_neg (by decide)]
            simp only [World.alloc, World.drew]
            congr 1
            apply Array.ext_getElem?
            intro i
            simp only [Array.getElem?_modify, Array.getElem?_push]
            by_cases hi : i = w.heap.size
            · subst hi; simp
            · simp [hi, Ne.symm hi]
          have hshape : (w.drew.alloc (.cells (((z.data.toList.map fun (b : UInt8) => Value.int .u8 (b.toNat : Int)) ++ List.replicate (cap - z.size) (Value.int .u8 0)).toArray) e)).shape? w.heap.size = some (e, cap) := by
            simp only [World.shape?]
            rw [show (w.drew.alloc (.cells (((z.data.toList.map fun (b : UInt8) => Value.int .u8 (b.toNat : Int)) ++ List.replicate (cap - z.size) (Value.int .u8 0)).toArray) e)).heap[w.heap.size]? = _ from heap_alloc_new w.drew _]
            simp only [hsz]
          simp only [Conv.stringToBytes, Sem.run_bind, run_choose, Question.forced, Bool.false_eq_true, if_false, Result.andThen_ok, hq, newRow, run_newObj, Sem.run_pure, hA, World.drew_eq, World.alloc_eq, markStringish, run_shape, World.size_drew, hshape, run_freeze]
          rw [hfz]
        obtain ⟨cap, hle, hrun⟩ := hcap
        have V1 : View ρ m { w with drawn := w.drawn + 1 } := V.world rfl
        have hl : VRs ρ (s.map fun c => AV.int .u8 (.ofNat c)) (z.data.toList.map fun (b : UInt8) => Value.int .u8 (b.toNat : Int)) := by
          rw [← hz, List.map_map]
          generalize z.data.toList = q
          induction q with
          | nil => exact .nil
          | cons a q ih => exact .cons _ _ _ _ (.int _ _) ih
        have hst := V1.new (rest := List.replicate (cap - z.size) (Value.int .u8 0)) hl hn hg hcc (hf _ (Nat.le_refl _) (by omega)) (A := ((z.data.toList.map fun (b : UInt8) => Value.int .u8 (b.toNat : Int)) ++ List.replicate (cap - z.size) (Value.int .u8 0)).toArray) rfl (elem := e) (fz := (cap, cap + 1)) (fun i hi => by simp at hi ⊢; omega) (fun q => by cases q) (E := 1)
        refine ⟨_, _, .slice (some ⟨w.heap.size, 0 + 0, none⟩) z.size cap, (GStep.drew V.sim V.wf _).trans hst, ?_, ?_⟩
        · rw [hlen]
          refine .sliceO _ _ _ _ ⟨w.heap.size, 0, _, 1⟩ (Ren.set_same _ _ _) hle ?_
          simp; omega
        · rw [show (convert src dst (.string z)).run P w = (Conv.stringToBytes e z).run P w from by simp [convert, run_underlying hs, run_underlying hd, run_underlying hu8]]
          exact hrun
      · cases h
    · cases h
  · cases h

/-! ### The builtins -/

theorem VRs.two {a b : AV} {cs : List Value} (h : VRs ρ [a, b] cs) : ∃ x y, cs = [x, y] ∧ VR ρ a x ∧ VR ρ b y := by
  cases h with | cons _ x _ _ h1 h2 => cases h2 with | cons _ y _ _ h3 h4 => cases h4; exact ⟨x, y, rfl, h1, h3⟩
theorem VRs.one' {a : AV} {cs : List Value} (h : VRs ρ [a] cs) : ∃ x, cs = [x] ∧ VR ρ a x := by
  cases h with | cons _ x _ _ h1 h2 => cases h2; exact ⟨x, rfl, h1⟩

theorem builtinA_run (V : View ρ m w) {b : Builtin} {ats : Array TypeId} {vs : List AV} {cs : List Value} (hv : VRs ρ vs cs) (ty : TypeId) (consts : Array Bool) {v : AV} {m' : AMem} (h : builtinA P b ats vs m = .mk v m') (hf : Fresh ρ m.next m'.next) :
    Runs P ρ m w v m' (builtin b ats ty consts cs.toArray) := by
  unfold builtinA at h
  split at h
  · rename_i t x h0
    obtain ⟨c, rfl, hc⟩ := hv.one'
    exact ((aLen_val h0 ty hc h).runsV V).runs
  · rename_i t x h0
    obtain ⟨c, rfl, hc⟩ := hv.one'
    exact ((aCap_val h0 ty hc h).runsV V).runs
  · rename_i t s x h0
    obtain ⟨c, d, rfl, hc, hd⟩ := hv.two
    exact (aAppend_run V h0 ty hc hd h hf).runs
  · rename_i t s x h0
    obtain ⟨c, d, rfl, hc, hd⟩ := hv.two
    exact (aCopy_run V h0 ty hc hd h).runs
  · rename_i t x h0
    obtain ⟨c, rfl, hc⟩ := hv.one'
    exact (aClear_run V h0 ty hc h).runs
  · rename_i x l
    cases hv with | cons _ c _ cs h1 h2 => exact ((aMax_val h2 h1 h).runsV V).runs
  · rename_i x l
    cases hv with | cons _ c _ cs h1 h2 => exact ((aMin_val h2 h1 h).runsV V).runs
  · cases h

end
end Go.Ev
end
section
namespace Go.Ev

section
variable {P : Program} {ρ : Ren} {m : AMem} {w : World}

/-! ### Keys -/

theorem flatT_inv {t : TypeId} (h : flatT P t = true) : ∃ d, P.underlying t = some d ∧ (d = .bool ∨ (∃ k, d = .int k) ∨ d = .string) := by
  unfold flatT at h
  split at h
  · rename_i hu; exact ⟨_, hu, .inl rfl⟩
  · rename_i k hu; exact ⟨_, hu, .inr (.inl ⟨k, rfl⟩)⟩
  · rename_i hu; exact ⟨_, hu, .inr (.inr rfl)⟩
  · cases h

theorem check_flat {t : TypeId} (h : flatT P t = true) (em : Bool) (n : Nat) (v : Value) : (Instr.checkKey em (n + 1) t v).run P w = .ok () w := by
  obtain ⟨d, hu, hd⟩ := flatT_inv h
  unfold Instr.checkKey
  simp only [Sem.run_bind, run_underlying hu, Result.andThen_ok]
  rcases hd with rfl | ⟨k, rfl⟩ | rfl <;> cases v <;> rfl

theorem part_flat {t : TypeId} (h : flatT P t = true) {cs : Array Value} {off : Nat} {v : Value} (hc : cs[off]? = some v) : (part t cs off).run P w = .ok v w := by
  obtain ⟨d, hu, hd⟩ := flatT_inv h
  have : (isAgg t).run P w = .ok false w := by rcases hd with rfl | ⟨k, rfl⟩ | rfl <;> simp [isAgg, run_underlying hu]
  simp [part, this, hc]

theorem check_fields (em : Bool) (n : Nat) {cs : Array Value} : ∀ (fs : List Field) (_ : ∀ f, f ∈ fs → f.offset < cs.size ∧ flatT P f.type = true),
    (forIn fs PUnit.unit (fun f (_ : PUnit) => do
      if f.name ≠ "_" then
        let a ← part f.type cs f.offset
        Instr.checkKey em (n + 1) f.type a
      pure (ForInStep.yield PUnit.unit)) : Sem PUnit).run P w = .ok PUnit.unit w
  | [], _ => by simp
  | f :: fs, h => by
    obtain ⟨h1, h2⟩ := h f (by simp)
    have ih := check_fields em n fs fun g hg => h g (by simp [hg])
    have hp := part_flat (w := w) h2 (cs := cs) (off := f.offset) (v := cs[f.offset]) (by simp [h1])
    have hk := check_flat (w := w) h2 em n cs[f.offset]
    simp only [List.forIn_cons, Sem.run_bind, Sem.run_ite]
    by_cases hn : f.name = "_"
    · simp only [hn, ne_eq, not_true_eq_false, if_false, Sem.run_pure, Result.andThen_ok]
      exact ih
    · simp only [hn, ne_eq, not_false_eq_true, if_true, hp, hk, Sem.run_pure, Result.andThen_ok]
      exact ih

theorem check_ok {kt : TypeId} {k : AV} {vk : Value} (h : keyOk P kt k = true) (hv : VR ρ k vk) (em : Bool) : (Instr.checkKey em 10000 kt vk).run P w = .ok () w := by
  unfold keyOk at h
  split at h
  · rename_i fs hu
    simp only [Bool.and_eq_true] at h
    obtain ⟨_, h⟩ := h
    obtain ⟨cs, rfl, h⟩ := onAgg_inv _ h (by simp)
    cases hv with | agg _ vs hvs =>
    have hl := hvs.length
    show (Instr.checkKey em (9998 + 1 + 1) kt (.agg vs)).run P w = .ok () w
    unfold Instr.checkKey
    simp only [Sem.run_bind, run_underlying hu, Result.andThen_ok]
    rw [← Array.forIn_toList]
    have := check_fields (P := P) (w := w) em 9998 (cs := vs) fs.toList fun f hf => by
      have := List.all_eq_true.1 h f hf
      simp only [Bool.and_eq_true, Nat.blt_eq] at this
      exact ⟨by have := this.1; simp at hl; omega, this.2⟩
    simp at this
    simp [this]
  · exact check_flat h em 9999 vk

/-! ### A key among entries -/

/-- Are a key and another one the same? as the model sees it. -/
structure EqAt (P : Program) (kt : TypeId) (d : TypeDesc) (vk yk : Value) (r : Bool) : Prop where
  now : Instr.sameNow d vk yk = some r ∨ Instr.sameNow d vk yk = none
  ask : ∀ w : World, (Op.equal kt vk yk).run P w = .ok r w

theorem keyEq_at {kt : TypeId} {d : TypeDesc} {x y : AV} {vx vy : Value} {r : Bool} (hu : P.underlying kt = some d) (hok : keyOk P kt x = true) (h : keyEq P kt x y = some r) (hx : VR ρ x vx) (hy : VR ρ y vy) : EqAt P kt d vx vy r := by
  unfold keyEq at h
  unfold keyOk at hok
  split at h
  · rename_i fs hu'
    rw [hu'] at hu; cases hu
    rw [hu'] at hok
    simp only [Bool.and_eq_true, Bool.not_eq_true'] at hok
    obtain ⟨cs, rfl, h⟩ := onAgg_inv _ h (by simp)
    have h : y.onAgg (fun ys => aggEq P fs.toList cs ys) none = some r := h
    obtain ⟨cs', rfl, h⟩ := onAgg_inv _ h (by simp)
    cases hx with | agg _ cx hcx => cases hy with | agg _ cy hcy =>
    refine ⟨.inr (by simp [Instr.sameNow]), fun w => ?_⟩
    have hf : P.fieldsOf kt = fs := by simp [Program.fieldsOf, hu']
    show (Op.equalIn (9999 + 1) kt (.agg cx) (.agg cy)).run P w = .ok r w
    rw [run_equalIn_struct w 9999 kt cx cy (by rw [hf]; exact hu') hok.1, hf]
    exact aggEq_run (d := 9998) fs.toList hcx hcy h
  · refine ⟨.inl ?_, fun w => (sEq_run (d := 9999) (w := w) hx hy h).2⟩
    rw [hu] at h
    unfold sEq at h
    split at h
    · rename_i e; cases e; cases h; cases hx; cases hy; rfl
    · rename_i e
      cases e
      rw [bif2_eq] at h
      split at h
      · rename_i hk
        cases h; cases hx; cases hy
        obtain rfl := kEq_eq hk
        simp [Instr.sameNow, iEq_eq]
      · cases h
    · rename_i e
      cases e; cases h
      obtain ⟨s, rfl, hs⟩ := str_inv hx
      obtain ⟨s', rfl, hs'⟩ := str_inv hy
      simp only [Instr.sameNow]
      rw [lEq_eq, ← hs, ← hs', toNat_inj]
      simp [beq_toListBytes, ByteArray.toList_eq]
    · cases h

theorem now_absent {kt : TypeId} {d : TypeDesc} {vk : Value} : ∀ (l : List MapEntry) (i : Nat), (∀ x, x ∈ l → EqAt P kt d vk x.key false) → Instr.findNow d vk l i = some none ∨ Instr.findNow d vk l i = none
  | [], _, _ => .inl rfl
  | x :: l, i, h => by
    rcases (h x (by simp)).now with e | e
    · simp only [Instr.findNow, e]; exact now_absent l (i + 1) fun y hy => h y (by simp [hy])
    · exact .inr (by simp only [Instr.findNow, e])
theorem ask_absent {kt : TypeId} {d : TypeDesc} {vk : Value} : ∀ (l : List MapEntry) (i : Nat), (∀ x, x ∈ l → EqAt P kt d vk x.key false) → (Instr.findAsking kt vk l i).run P w = .ok none w
  | [], _, _ => rfl
  | x :: l, i, h => by
    simp only [Instr.findAsking, Sem.run_bind, (h x (by simp)).ask w, Result.andThen_ok, Bool.false_eq_true, if_false]
    exact ask_absent l (i + 1) fun y hy => h y (by simp [hy])
theorem now_there {kt : TypeId} {d : TypeDesc} {vk : Value} {x : MapEntry} {q : List MapEntry} (hx : EqAt P kt d vk x.key true) : ∀ (p : List MapEntry) (i : Nat), (∀ y, y ∈ p → EqAt P kt d vk y.key false) →
    Instr.findNow d vk (p ++ x :: q) i = some (some (i + p.length, x.val)) ∨ Instr.findNow d vk (p ++ x :: q) i = none
  | [], i, _ => by
    rcases hx.now with e | e
    · exact .inl (by simp [Instr.findNow, e])
    · exact .inr (by simp [Instr.findNow, e])
  | y :: p, i, h => by
    rcases (h y (by simp)).now with e | e
    · have := now_there (q := q) hx p (i + 1) fun z hz => h z (by simp [hz])
      simp only [List.cons_append, Instr.findNow, e, List.length_cons]
      rw [show i + (p.length + 1) = i + 1 + p.length from by omega]; exact this
    · exact .inr (by simp only [List.cons_append, Instr.findNow, e])
theorem ask_there {kt : TypeId} {d : TypeDesc} {vk : Value} {x : MapEntry} {q : List MapEntry} (hx : EqAt P kt d vk x.key true) : ∀ (p : List MapEntry) (i : Nat), (∀ y, y ∈ p → EqAt P kt d vk y.key false) →
    (Instr.findAsking kt vk (p ++ x :: q) i).run P w = .ok (some (i + p.length, x.val)) w
  | [], i, _ => by simp [Instr.findAsking, hx.ask w]
  | y :: p, i, h => by
    simp only [List.cons_append, Instr.findAsking, Sem.run_bind, (h y (by simp)).ask w, Result.andThen_ok, Bool.false_eq_true, if_false, List.length_cons]
    rw [ask_there hx p (i + 1) fun z hz => h z (by simp [hz]), show i + (p.length + 1) = i + 1 + p.length from by omega]

theorem key_absent {kt : TypeId} {d : TypeDesc} {vk : Value} {l : List MapEntry} (hu : P.underlying kt = some d) (h : ∀ x, x ∈ l → EqAt P kt d vk x.key false) : (Instr.findKey kt vk l).run P w = .ok none w := by
  simp only [Instr.findKey, Sem.run_bind, run_underlying hu, Result.andThen_ok]
  rcases now_absent l 0 h with e | e
  · rw [e]; rfl
  · rw [e]; exact ask_absent l 0 h
theorem key_there {kt : TypeId} {d : TypeDesc} {vk : Value} {p q : List MapEntry} {x : MapEntry} (hu : P.underlying kt = some d) (hx : EqAt P kt d vk x.key true) (h : ∀ y, y ∈ p → EqAt P kt d vk y.key false) :
    (Instr.findKey kt vk (p ++ x :: q)).run P w = .ok (some (p.length, x.val)) w := by
  simp only [Instr.findKey, Sem.run_bind, run_underlying hu, Result.andThen_ok]
  rcases now_there (q := q) hx p 0 h with e | e
  · rw [e]; simp
  · rw [e]; have := ask_there (w := w) (q := q) hx p 0 h; simpa using this

/-- What 'findA' says of the entries. -/
theorem findA_inv {kt : TypeId} {d : TypeDesc} {k : AV} {vk : Value} (hu : P.underlying kt = some d) (hok : keyOk P kt k = true) (hk : VR ρ k vk) : ∀ {es : List Ent} {l : List MapEntry} (_ : ERs ρ es l) {a : List Ent} {o : Option Ent} {b : List Ent} (_ : findA P kt k es = some (a, o, b)),
    (o = none ∧ ∀ x, x ∈ l → EqAt P kt d vk x.key false) ∨
    ∃ e x la lb, o = some e ∧ es = a ++ e :: b ∧ l = la ++ x :: lb ∧ ERs ρ a la ∧ ER ρ e x ∧ ERs ρ b lb ∧ EqAt P kt d vk x.key true ∧ ∀ y, y ∈ la ++ lb → EqAt P kt d vk y.key false
  | _, _, .nil, a, o, b, h => by
    simp only [findA, Option.some.injEq, Prod.mk.injEq] at h
    exact .inl ⟨h.2.1.symm, fun x hx => by simp at hx⟩
  | _, _, .cons e x es l he hs, a, o, b, h => by
    simp only [findA] at h
    split at h
    · rename_i a' o' b' h1 h2
      cases h
      have hf := keyEq_at hu hok h1 hk he.key
      rcases findA_inv hu hok hk hs h2 with ⟨ho, hall⟩ | ⟨e', x', la, lb, ho, h3, h4, h5, h6, h7, h8, h9⟩
      · refine .inl ⟨ho, fun y hy => ?_⟩
        rcases List.mem_cons.1 hy with rfl | hy
        · exact hf
        · exact hall y hy
      · refine .inr ⟨e', x', x :: la, lb, ho, by rw [h3]; rfl, by rw [h4]; rfl, .cons _ _ _ _ he h5, h6, h7, h8, fun y hy => ?_⟩
        simp only [List.cons_append, List.mem_cons] at hy
        rcases hy with rfl | hy
        · exact hf
        · exact h9 y hy
    · rename_i a' b' h1 h2
      cases h
      rcases findA_inv hu hok hk hs h2 with ⟨_, hall⟩ | ⟨e', x', la, lb, ho, _⟩
      · exact .inr ⟨e, x, [], l, rfl, rfl, rfl, .nil, he, hs, keyEq_at hu hok h1 hk he.key, fun y hy => hall y (by simpa using hy)⟩
      · cases ho
    · cases h

theorem perm_at {α : Type} {la lb p q : List α} {x y : α} (h : (la ++ x :: lb).Perm (p ++ x :: q)) : (la ++ y :: lb).Perm (p ++ y :: q) :=
  List.perm_middle.trans ((((List.perm_middle.symm.trans (h.trans List.perm_middle)).cons_inv).cons y).trans List.perm_middle.symm)

/-- A key that is there: where it stands in the model's row. -/
theorem there_at {kt : TypeId} {d : TypeDesc} {vk : Value} {mes : Array MapEntry} {la lb : List MapEntry} {x : MapEntry} (hp : (la ++ x :: lb).Perm mes.toList) (hn : (mes.toList.map (·.born)).Nodup)
    (h : ∀ y, y ∈ la ++ lb → EqAt P kt d vk y.key false) : ∃ p q, mes.toList = p ++ x :: q ∧ ∀ y, y ∈ p → EqAt P kt d vk y.key false := by
  have hx : x ∈ mes.toList := hp.subset (by simp)
  obtain ⟨p, q, e⟩ := List.append_of_mem hx
  refine ⟨p, q, e, fun y hy => ?_⟩
  have hy' : y ∈ la ++ x :: lb := hp.symm.subset (by rw [e]; simp [hy])
  simp only [List.mem_append, List.mem_cons] at hy'
  rcases hy' with h1 | rfl | h1
  · exact h y (by simp [h1])
  · exfalso
    rw [e] at hn
    simp only [List.map_append, List.map_cons] at hn
    have := (List.nodup_append.1 hn).2.2 y.born (List.mem_map_of_mem hy) y.born (by simp)
    exact this rfl
  · exact h y (by simp [h1])

/-! ### Known keys -/

theorem scEq_val {x y : AV} {vx vy : Value} (h : scEq x y = true) (hx : VR ρ x vx) (hy : VR ρ y vy) : vx = vy ∧ ∀ n, Instr.sameBits n vx vy = true := by
  unfold scEq at h
  split at h
  · cases hx; cases hy
    have := eq_of_beq h; subst this
    exact ⟨rfl, fun n => by simp [Instr.sameBits]⟩
  · simp only [Bool.and_eq_true] at h
    cases hx; cases hy
    obtain rfl := kEq_eq h.1
    have h2 := h.2
    rw [iEq_eq] at h2
    have := eq_of_beq h2; subst this
    exact ⟨rfl, fun n => by simp [Instr.sameBits]⟩
  · obtain ⟨s, rfl, hs⟩ := str_inv hx
    obtain ⟨s', rfl, hs'⟩ := str_inv hy
    rw [lEq_eq, ← hs, ← hs', toNat_inj] at h
    have h : s.data.toList = s'.data.toList := eq_of_beq h
    have : s = s' := by
      obtain ⟨a⟩ := s; obtain ⟨b⟩ := s'
      have : a = b := Array.ext' h
      rw [this]
    subst this
    exact ⟨rfl, fun n => by simp [Instr.sameBits, MapKept.bytes_beq]⟩
  · cases h

theorem scEqs_val : ∀ {x y : List AV} {vx vy : List Value} (_ : scEqs x y = true) (_ : VRs ρ x vx) (_ : VRs ρ y vy), vx = vy ∧ ∀ n, (vx.zip vy).all (fun (a, b) => Instr.sameBits n a b) = true
  | [], [], _, _, _, .nil, .nil => ⟨rfl, fun _ => rfl⟩
  | a :: x, b :: y, _, _, h, .cons _ c _ cs hc hcs, .cons _ c' _ cs' hc' hcs' => by
    simp only [scEqs, Bool.and_eq_true] at h
    obtain ⟨rfl, h1⟩ := scEq_val h.1 hc hc'
    obtain ⟨rfl, h2⟩ := scEqs_val h.2 hcs hcs'
    exact ⟨rfl, fun n => by simp only [List.zip_cons_cons, List.all_cons, h1 n, Bool.true_and]; exact h2 n⟩

theorem keySame_val {x y : AV} {vx vy : Value} (h : keySame x y = true) (hx : VR ρ x vx) (hy : VR ρ y vy) : vx = vy ∧ (Instr.keyThatStays vy vx).run P w = .ok vx w := by
  have : vx = vy ∧ Instr.sameBits 10000 vy vx = true := by
    unfold keySame at h
    split at h
    · cases hx with | agg _ cx hcx => cases hy with | agg _ cy hcy =>
      obtain ⟨e, h2⟩ := scEqs_val h hcx hcy
      have e : cx = cy := Array.ext' e
      subst e
      exact ⟨rfl, by simp only [Instr.sameBits, beq_self_eq_true, Bool.true_and]; exact h2 9999⟩
    · obtain ⟨e, h2⟩ := scEq_val h hx hy
      subst e
      exact ⟨rfl, h2 _⟩
  obtain ⟨rfl, h2⟩ := this
  exact ⟨rfl, by simp [Instr.keyThatStays, h2]⟩

/-! ### Zero -/

theorem zeroV_inv {t : TypeId} {z : AV} (h : zeroV P t = some z) : ∃ vz, (∀ w : World, (zeroValue t).run P w = .ok vz w) ∧ ∀ ρ : Ren, VR ρ z vz := by
  unfold zeroV at h
  split at h
  · rename_i i hi
    split at h
    · rename_i cs hz; cases h; exact ⟨_, run_zero hi hz, fun ρ => .agg _ _ (scals_rel ρ _)⟩
    · rename_i v hne hz; cases h; exact ⟨_, run_zero hi hz, fun ρ => scal_rel ρ v⟩
    · cases h
  · cases h

/-! ### Reading -/

theorem mapK_inv {m m' : AMem} {b : Nat} {k : Bool → Nat → List Ent → OR} {v : AV} (h : mapK m b k = .mk v m') : ∃ ro ck es, m.t.get b = some (.map ro ck es) ∧ k ro ck es = .mk v m' := by
  unfold mapK at h
  cases hg : m.t.get b with
  | none => rw [hg] at h; cases h
  | some x => cases x with
    | cells ro sg E N c => rw [hg] at h; cases h
    | map ro ck es => rw [hg] at h; exact ⟨ro, ck, es, rfl, h⟩

theorem View.mapAt (V : View ρ m w) {b : Nat} {ro : Bool} {ck : Nat} {es : List Ent} (hb : m.t.get b = some (.map ro ck es)) {L : Loc} (hL : ρ b = some L) : ∃ mes, w.heap[L.blk]? = some (.map mes ck) ∧ MR ρ ck es mes := by
  obtain ⟨L0, mes, h1, h2, h3⟩ := V.sim.blk b _ hb
  rw [hL] at h1; cases h1
  exact ⟨mes, h2, h3⟩

theorem found_val {ok : Bool} {a : AV} {va : Value} {b : Bool} {v : AV} {m' : AMem} (h : found ok a b m = .mk v m') (ha : VR ρ a va) : m' = m ∧ VR ρ v (if ok then .tuple #[va, .bool b] else va) := by
  unfold found at h
  rw [bif2_eq] at h
  split at h
  · rename_i e; subst e; cases h; exact ⟨rfl, .tup _ _ (.cons _ _ _ _ ha (.cons _ _ _ _ (.bool _) .nil))⟩
  · rename_i e; simp only [Bool.not_eq_true] at e; subst e; cases h; exact ⟨rfl, ha⟩

theorem aLookup_val (V : View ρ m w) {t : TypeId} {x k : AV} {vx vk : Value} {ok : Bool} (hx : VR ρ x vx) (hk : VR ρ k vk) {v : AV} {m' : AMem} (h : aLookup P t x k ok m = .mk v m') : Val P ρ m w v m' (Instr.lookup t vx vk ok) := by
  unfold aLookup at h
  split at h
  · rename_i kt et hu
    rw [bif2_eq] at h
    split at h
    · rename_i hok
      have hd : ∃ d, P.underlying kt = some d := by
        unfold keyOk at hok
        split at hok
        · exact ⟨_, ‹_›⟩
        · obtain ⟨d, hd, _⟩ := flatT_inv hok; exact ⟨d, hd⟩
      obtain ⟨d, hd⟩ := hd
      split at h
      · cases h
      · rename_i z hz
        obtain ⟨vz, hzr, hzv⟩ := zeroV_inv hz
        split at h
        · cases hx
          obtain ⟨rfl, hv⟩ := found_val h (hzv ρ)
          refine ⟨rfl, _, hv, ?_⟩
          simp [Instr.lookup, run_underlying hu, check_ok hok hk, key_absent (w := w) (l := []) hd (fun x hx => by simp at hx), hzr w]
        · rename_i b
          cases hx with | map _ L hL =>
          obtain ⟨ro, ck, es, hb, h⟩ := mapK_inv h
          obtain ⟨mes, hheap, ⟨l, hp, hes⟩, hold, hnd⟩ := V.mapAt hb hL
          split at h
          · rename_i a e b' hfa
            rcases findA_inv hd hok hk hes hfa with ⟨ho, _⟩ | ⟨e', y, la, lb, ho, h3, h4, h5, he, h7, h8, h9⟩
            · cases ho
            · cases ho
              obtain ⟨rfl, hv⟩ := found_val h he.val
              subst h4
              obtain ⟨p, q, e1, e2⟩ := there_at hp hnd h9
              refine ⟨rfl, _, hv, ?_⟩
              have hf := key_there (w := w) (q := q) hd h8 e2
              rw [← e1] at hf
              simp [Instr.lookup, run_underlying hu, MapKept.run_getObj_map hheap, check_ok hok hk, hf]
          · rename_i a b' hfa
            obtain ⟨rfl, hv⟩ := found_val h (hzv ρ)
            refine ⟨rfl, _, hv, ?_⟩
            rcases findA_inv hd hok hk hes hfa with ⟨_, hall⟩ | ⟨_, _, _, _, ho, _⟩
            · have hf := key_absent (w := w) (l := mes.toList) hd fun x hx => hall x (hp.symm.subset hx)
              simp [Instr.lookup, run_underlying hu, MapKept.run_getObj_map hheap, check_ok hok hk, hf, hzr w]
            · cases ho
          · cases h
        · cases h
    · cases h
  · cases h

/-! ### Writing -/

theorem setMap_inv {m m' : AMem} {b ck : Nat} {es : List Ent} {k : AMem → OR} {v : AV} (h : setMap b ck es m k = .mk v m') : ∃ t', (∀ j, t'.get j = if j = b then some (.map false ck es) else m.t.get j) ∧ k ⟨m.next, t'⟩ = .mk v m' := by
  unfold setMap at h
  rcases T.setK_eq (OR.fail 231) (some (.map false ck es)) m.t b fun t => k ⟨m.next, t⟩ with e | ⟨t', ht, e⟩
  · rw [e] at h; cases h
  · rw [e] at h; exact ⟨t', ht, h⟩

theorem View.setMap (V : View ρ m w) {b ck ck' : Nat} {es es' : List Ent} {mes mes' : Array MapEntry} (hb : m.t.get b = some (.map false ck es)) {L : Loc} (hL : ρ b = some L) (hheap : w.heap[L.blk]? = some (.map mes ck))
    (hM : MR ρ ck' es' mes') {t' : T Blk} (ht : ∀ j, t'.get j = if j = b then some (.map false ck' es') else m.t.get j) :
    Step ρ m w ρ ⟨m.next, t'⟩ { w with heap := w.heap.setIfInBounds L.blk (.map mes' ck') } := by
  obtain ⟨h1, h2⟩ := MapKept.heap_set (w := w) (o' := .map mes' ck') hheap
  exact GStep.writeB (y := .map false ck' es') V.sim V.wf hb rfl hL ⟨L, mes', hL, h1, hM⟩ h2 (by simp) rfl rfl rfl ht

theorem ERs.append {l l' : List Ent} {xs xs' : List MapEntry} (h : ERs ρ l xs) (h' : ERs ρ l' xs') : ERs ρ (l ++ l') (xs ++ xs') := by
  induction h with
  | nil => exact h'
  | cons e x l xs h _ ih => exact .cons _ _ _ _ h ih

/-- An entry turned, its stamp as it was. -/
theorem MR.turn {ck : Nat} {a b : List Ent} {e : Ent} {mes : Array MapEntry} {la lb p q : List MapEntry} {x y : MapEntry} (hp : (la ++ x :: lb).Perm mes.toList) (hold : ∀ x, x ∈ mes.toList → x.born < ck)
    (hnd : (mes.toList.map (·.born)).Nodup) (ha : ERs ρ a la) (hb : ERs ρ b lb) (he : ER ρ e y) (hy : y.born = x.born) (e1 : mes.toList = p ++ x :: q) :
    MR ρ ck (a ++ e :: b) (p ++ y :: q).toArray := by
  refine ⟨⟨la ++ y :: lb, ?_, ha.append (.cons _ _ _ _ he hb)⟩, fun z hz => ?_, ?_⟩
  · rw [e1] at hp; exact perm_at hp
  · simp only [List.mem_append, List.mem_cons] at hz
    rcases hz with h | rfl | h
    · exact hold z (by rw [e1]; simp [h])
    · rw [hy]; exact hold x (by rw [e1]; simp)
    · exact hold z (by rw [e1]; simp [h])
  · rw [e1] at hnd
    simp only [List.map_append, List.map_cons] at hnd ⊢
    rw [hy]; exact hnd

/-- One entry more. -/
theorem MR.more {ck : Nat} {es : List Ent} {mes : Array MapEntry} (h : MR ρ ck es mes) {e : Ent} {y : MapEntry} (he : ER ρ e y) (hy : y.born = ck) : MR ρ (ck + 1) (es ++ [e]) (mes.push y) := by
  obtain ⟨⟨l, hp, hes⟩, hold, hnd⟩ := h
  refine ⟨⟨l ++ [y], by rw [Array.toList_push]; exact hp.append_right _, hes.append (.cons _ _ _ _ he .nil)⟩, fun z hz => ?_, ?_⟩
  · simp only [Array.toList_push, List.mem_append, List.mem_singleton] at hz
    rcases hz with h | rfl
    · have := hold z h; omega
    · omega
  · simp only [Array.toList_push, List.map_append, List.map_cons, List.map_nil]
    refine List.nodup_append.2 ⟨hnd, by simp, fun a ha b hb => ?_⟩
    obtain ⟨z, hz, rfl⟩ := List.mem_map.1 ha
    simp at hb
    have := hold z hz
    omega

theorem list_modify_at {α : Type} (x : α) (q : List α) (f : α → α) : ∀ p : List α, (p ++ x :: q).modify p.length f = p ++ f x :: q
  | [] => by simp
  | y :: p => by simp [list_modify_at x q f p]

theorem modify_at {mes : Array MapEntry} {p q : List MapEntry} {x : MapEntry} (e : mes.toList = p ++ x :: q) (f : MapEntry → MapEntry) : mes.modify p.length f = (p ++ f x :: q).toArray := by
  apply Array.ext'
  have : mes = (p ++ x :: q).toArray := Array.ext' e
  subst this
  simp [list_modify_at]

theorem getElem_at {mes : Array MapEntry} {p q : List MapEntry} {x : MapEntry} (e : mes.toList = p ++ x :: q) : mes[p.length]? = some x := by
  have : mes = (p ++ x :: q).toArray := Array.ext' e
  subst this
  simp

theorem keyOk_type {kt : TypeId} {k : AV} (h : keyOk P kt k = true) : ∃ d, P.underlying kt = some d := by
  unfold keyOk at h
  split at h
  · exact ⟨_, ‹_›⟩
  · obtain ⟨d, hd, _⟩ := flatT_inv h; exact ⟨d, hd⟩

theorem aMapUpdate_run (V : View ρ m w) {t : TypeId} {x k u : AV} {vx vk vu : Value} (hx : VR ρ x vx) (hk : VR ρ k vk) (hu : VR ρ u vu) {v : AV} {m' : AMem} (h : aMapUpdate P t x k u m = .mk v m') :
    Runs P ρ m w v m' (do (Instr.mapUpdate t vx vk vu); pure .skip) := by
  unfold aMapUpdate at h
  split at h
  · rename_i kt et b hut
    rw [bif2_eq] at h
    split at h
    · rename_i hok
      obtain ⟨d, hd⟩ := keyOk_type hok
      cases hx with | map _ L hL =>
      obtain ⟨ro, ck, es, hb, h⟩ := mapK_inv h
      obtain ⟨mes, hheap, hM⟩ := V.mapAt hb hL
      rw [bif2_eq] at h
      split at h
      · cases h
      rename_i hro
      simp only [Bool.not_eq_true] at hro
      subst hro
      have hM0 := hM
      obtain ⟨⟨l, hp, hes⟩, hold, hnd⟩ := hM
      split at h
      · rename_i a e b' hfa
        rw [bif2_eq] at h
        split at h
        · rename_i hsame
          obtain ⟨t', ht, h⟩ := setMap_inv h
          cases h
          rcases findA_inv hd hok hk hes hfa with ⟨ho, _⟩ | ⟨e', y, la, lb, ho, h3, h4, h5, he, h7, h8, h9⟩
          · cases ho
          · cases ho
            subst h4
            obtain ⟨p, q, e1, e2⟩ := there_at hp hnd h9
            have hf := key_there (w := w) (q := q) hd h8 e2
            rw [← e1] at hf
            obtain ⟨hkk, hks⟩ := keySame_val (P := P) (w := w) hsame hk he.key
            refine ⟨ρ, _, undef, V.setMap hb hL hheap (MR.turn (e := ⟨k, u, e.born⟩) (y := { y with key := vk, val := vu }) hp hold hnd h5 h7 ⟨hk, hu, he.born⟩ rfl e1) ht, VR.undef ρ, .inr ⟨?_, rfl⟩⟩
            simp [Instr.mapUpdate, run_underlying hut, MapKept.run_getObj_map hheap, check_ok hok hk, hf, getElem_at e1, hks, MapKept.run_setObj_map _ hheap, modify_at e1]
        · cases h
      · rename_i a b' hfa
        rw [fNat_eq] at h
        obtain ⟨t', ht, h⟩ := setMap_inv h
        cases h
        rcases findA_inv hd hok hk hes hfa with ⟨_, hall⟩ | ⟨_, _, _, _, ho, _⟩
        · have hf := key_absent (w := w) (l := mes.toList) hd fun x hx => hall x (hp.symm.subset hx)
          refine ⟨ρ, _, undef, V.setMap hb hL hheap (hM0.more (e := ⟨k, u, some ck⟩) (y := ⟨vk, vu, ck⟩) ⟨hk, hu, fun n hn => by cases hn; rfl⟩ rfl) ht, VR.undef ρ, .inr ⟨?_, rfl⟩⟩
          simp [Instr.mapUpdate, run_underlying hut, MapKept.run_getObj_map hheap, check_ok hok hk, hf, MapKept.run_setObj_map _ hheap]
        · cases ho
      · cases h
    · cases h
  · cases h

theorem MR.drop {ck : Nat} {a b : List Ent} {mes : Array MapEntry} {la lb p q : List MapEntry} {x : MapEntry} (hp : (la ++ x :: lb).Perm mes.toList) (hold : ∀ x, x ∈ mes.toList → x.born < ck)
    (hnd : (mes.toList.map (·.born)).Nodup) (ha : ERs ρ a la) (hb : ERs ρ b lb) (e1 : mes.toList = p ++ x :: q) : MR ρ ck (a ++ b) (p ++ q).toArray := by
  refine ⟨⟨la ++ lb, ?_, ha.append hb⟩, fun z hz => ?_, ?_⟩
  · rw [e1] at hp
    have h1 : (x :: (la ++ lb)).Perm (x :: (p ++ q)) := List.perm_middle.symm.trans (hp.trans List.perm_middle)
    exact h1.cons_inv
  · simp only [List.mem_append] at hz
    exact hold z (by rw [e1]; rcases hz with h | h <;> simp [h])
  · rw [e1] at hnd
    show ((p ++ q).map (·.born)).Nodup
    refine hnd.sublist ?_
    exact List.Sublist.map _ (List.Sublist.append (List.Sublist.refl p) (List.sublist_cons_self x q))

theorem erase_at {mes : Array MapEntry} {p q : List MapEntry} {x : MapEntry} (e : mes.toList = p ++ x :: q) : mes.eraseIdxIfInBounds p.length = (p ++ q).toArray := by
  have : mes = (p ++ x :: q).toArray := Array.ext' e
  subst this
  apply Array.ext'
  rw [Array.eraseIdxIfInBounds_eq]
  split
  · simp [List.eraseIdx_append_of_length_le]
  · rename_i h; simp at h

theorem aDelete_run (V : View ρ m w) {ats : Array TypeId} {t : TypeId} (h0 : ats[0]? = some t) (ty : TypeId) {x k : AV} {vx vk : Value} (hx : VR ρ x vx) (hk : VR ρ k vk) {v : AV} {m' : AMem} (h : aDelete P t x k m = .mk v m') :
    RunsV P ρ m w v m' (Builtin.delete_ ats ty #[vx, vk]) := by
  unfold aDelete at h
  split at h
  · rename_i kt et b hut
    rw [bif2_eq] at h
    split at h
    · rename_i hok
      obtain ⟨d, hd⟩ := keyOk_type hok
      cases hx with | map _ L hL =>
      obtain ⟨ro, ck, es, hb, h⟩ := mapK_inv h
      obtain ⟨mes, hheap, hM⟩ := V.mapAt hb hL
      rw [bif2_eq] at h
      split at h
      · cases h
      rename_i hro
      simp only [Bool.not_eq_true] at hro
      subst hro
      have hM0 := hM
      obtain ⟨⟨l, hp, hes⟩, hold, hnd⟩ := hM
      split at h
      · rename_i a e b' hfa
        obtain ⟨t', ht, h⟩ := setMap_inv h
        cases h
        rcases findA_inv hd hok hk hes hfa with ⟨ho, _⟩ | ⟨e', y, la, lb, ho, h3, h4, h5, he, h7, h8, h9⟩
        · cases ho
        · cases ho
          subst h4
          obtain ⟨p, q, e1, e2⟩ := there_at hp hnd h9
          have hf := key_there (w := w) (q := q) hd h8 e2
          rw [← e1] at hf
          refine ⟨ρ, _, undef, V.setMap hb hL hheap (MR.drop hp hold hnd h5 h7 e1) ht, VR.undef ρ, ?_⟩
          simp [Builtin.delete_, h0, run_underlying hut, MapKept.run_getObj_map hheap, check_ok hok hk, hf, MapKept.run_setObj_map _ hheap, erase_at e1, undef]
      · rename_i a b' hfa
        obtain ⟨t', ht, h⟩ := setMap_inv h
        cases h
        rcases findA_inv hd hok hk hes hfa with ⟨_, hall⟩ | ⟨_, _, _, _, ho, _⟩
        · have hf := key_absent (w := w) (l := mes.toList) hd fun x hx => hall x (hp.symm.subset hx)
          refine ⟨ρ, _, undef, V.setMap hb hL hheap hM0 ht, VR.undef ρ, ?_⟩
          simp [Builtin.delete_, h0, run_underlying hut, MapKept.run_getObj_map hheap, check_ok hok hk, hf, MapKept.run_setObj_map _ hheap, undef]
        · cases ho
      · cases h
    · cases h
  · cases h

theorem delA_run (V : View ρ m w) {ats : Array TypeId} {vs : List AV} {cs : List Value} (hv : VRs ρ vs cs) (ty : TypeId) {v : AV} {m' : AMem} (h : delA P ats vs m = .mk v m') : RunsV P ρ m w v m' (Builtin.delete_ ats ty cs.toArray) := by
  unfold delA at h
  split at h
  · rename_i t x k h0
    match hv with
    | .cons _ _ _ _ h1 (.cons _ _ _ _ h2 .nil) => exact aDelete_run V h0 ty h1 h2 h
  · cases h

theorem aMapEntry_run (V : View ρ m w) {t : TypeId} {x k : AV} {vx vk : Value} (hx : VR ρ x vx) (hk : VR ρ k vk) {v : AV} {m' : AMem} (h : aMapEntry P t x k m = .mk v m') :
    Runs P ρ m w v m' (do pure (.value (← Instr.mapEntry t vx vk))) := by
  unfold aMapEntry at h
  split at h
  · rename_i kt et b hut
    rw [bif2_eq] at h
    split at h
    · rename_i hok
      obtain ⟨d, hd⟩ := keyOk_type hok
      cases hx with | map _ L hL =>
      obtain ⟨ro, ck, es, hb, h⟩ := mapK_inv h
      obtain ⟨mes, hheap, hM⟩ := V.mapAt hb hL
      rw [bif2_eq] at h
      split at h
      · cases h
      rename_i hro
      simp only [Bool.not_eq_true] at hro
      subst hro
      have hM0 := hM
      obtain ⟨⟨l, hp, hes⟩, hold, hnd⟩ := hM
      split at h
      · rename_i a e b' hfa
        rw [bif2_eq] at h
        split at h
        · rename_i hsame
          split at h
          · rename_i n hn
            cases h
            rcases findA_inv hd hok hk hes hfa with ⟨ho, _⟩ | ⟨e', y, la, lb, ho, h3, h4, h5, he, h7, h8, h9⟩
            · cases ho
            · cases ho
              subst h4
              obtain ⟨p, q, e1, e2⟩ := there_at hp hnd h9
              have hf := key_there (w := w) (q := q) hd h8 e2
              rw [← e1] at hf
              obtain ⟨hkk, hks⟩ := keySame_val (P := P) (w := w) hsame hk he.key
              have hself : w.heap.setIfInBounds L.blk (.map (mes.modify p.length fun e => { e with key := vk }) ck) = w.heap := by
                have : mes.modify p.length (fun e => { e with key := vk }) = mes := by
                  rw [modify_at e1]
                  apply Array.ext'
                  rw [e1, hkk]
                rw [this]
                apply Array.ext_getElem?
                intro i
                by_cases hi : i = L.blk
                · subst hi; rw [(MapKept.heap_set hheap).1, hheap]
                · exact (MapKept.heap_set hheap).2 i hi
              refine ⟨ρ, w, .tuple #[y.val, .int .i64 (Int.ofNat n)], V.refl, .tup _ _ (.cons _ _ _ _ he.val (.cons _ _ _ _ (.int _ _) .nil)), .inl ?_⟩
              have hb' : y.born = n := he.born n hn
              have hw : ({ w with heap := w.heap } : World) = w := rfl
              simp [Instr.mapEntry, run_underlying hut, MapKept.run_getObj_map hheap, check_ok hok hk, hf, getElem_at e1, hks, MapKept.run_setObj_map _ hheap, hself, hb', goInt]
          · cases h
        · cases h
      · rename_i a b' hfa
        split at h
        · rename_i z hz
          obtain ⟨vz, hzr, hzv⟩ := zeroV_inv hz
          rw [fNat_eq] at h
          obtain ⟨t', ht, h⟩ := setMap_inv h
          cases h
          rcases findA_inv hd hok hk hes hfa with ⟨_, hall⟩ | ⟨_, _, _, _, ho, _⟩
          · have hf := key_absent (w := w) (l := mes.toList) hd fun x hx => hall x (hp.symm.subset hx)
            refine ⟨ρ, _, .tuple #[vz, .int .i64 (Int.ofNat ck)], V.setMap hb hL hheap (hM0.more (e := ⟨k, z, some ck⟩) (y := ⟨vk, vz, ck⟩) ⟨hk, hzv ρ, fun n hn => by cases hn; rfl⟩ rfl) ht, .tup _ _ (.cons _ _ _ _ (hzv ρ) (.cons _ _ _ _ (.int _ _) .nil)), .inl ?_⟩
            simp [Instr.mapEntry, run_underlying hut, MapKept.run_getObj_map hheap, check_ok hok hk, hf, hzr w, MapKept.run_setObj_map _ hheap, goInt]
          · cases ho
        · cases h
      · cases h
    · cases h
  · cases h

theorem bornA_inv {n : Nat} : ∀ {es : List Ent} {l : List MapEntry} (_ : ERs ρ es l) {a : List Ent} {e : Ent} {b : List Ent} (_ : bornA n es = some (a, e, b)),
    ∃ x la lb, l = la ++ x :: lb ∧ ERs ρ a la ∧ ER ρ e x ∧ ERs ρ b lb ∧ x.born = n
  | _, _, .nil, a, e, b, h => by cases h
  | _, _, .cons e0 x es l he hs, a, e, b, h => by
    have deep : (match bornA n es with | some (a, x, b) => some (e0 :: a, x, b) | none => none) = some (a, e, b) → ∃ y la lb, x :: l = la ++ y :: lb ∧ ERs ρ a la ∧ ER ρ e y ∧ ERs ρ b lb ∧ y.born = n := by
      intro h
      split at h
      · rename_i a' e' b' h1
        cases h
        obtain ⟨y, la, lb, h2, h3, h4, h5, h6⟩ := bornA_inv hs h1
        exact ⟨y, x :: la, lb, by rw [h2]; rfl, .cons _ _ _ _ he h3, h4, h5, h6⟩
      · cases h
    simp only [bornA] at h
    split at h
    · rename_i i hi
      rw [bif2_eq] at h
      split at h
      · rename_i hin
        cases h
        exact ⟨x, [], l, rfl, .nil, he, hs, by rw [he.born i hi]; exact Nat.eq_of_beq_eq_true hin⟩
      · exact deep h
    · exact deep h

theorem findIdx_born {n : Nat} {x : MapEntry} {q : List MapEntry} (hx : x.born = n) : ∀ (p : List MapEntry), (∀ y, y ∈ p → y.born ≠ n) → (p ++ x :: q).findIdx? (fun e => (e.born : Int) == (n : Int)) = some p.length
  | [], _ => by simp [List.findIdx?_cons, hx]
  | y :: p, h => by
    have h1 : ¬ ((y.born : Int) = (n : Int)) := fun e => h y (by simp) (by omega)
    simp [List.findIdx?_cons, h1, findIdx_born hx p fun z hz => h z (by simp [hz])]

theorem aEntryStore_run (V : View ρ m w) {t : TypeId} {x s u : AV} {vx vs vu : Value} (hx : VR ρ x vx) (hs : VR ρ s vs) (hu : VR ρ u vu) {v : AV} {m' : AMem} (h : aEntryStore x s u m = .mk v m') :
    Runs P ρ m w v m' (do (Instr.entryStore t vx vs vu); pure .skip) := by
  unfold aEntryStore at h
  split at h
  · rename_i b n
    cases hx with | map _ L hL =>
    cases hs
    obtain ⟨ro, ck, es, hb, h⟩ := mapK_inv h
    obtain ⟨mes, hheap, ⟨l, hp, hes⟩, hold, hnd⟩ := V.mapAt hb hL
    rw [bif2_eq] at h
    split at h
    · cases h
    rename_i hro
    simp only [Bool.not_eq_true] at hro
    subst hro
    split at h
    · rename_i a e b' hbo
      obtain ⟨t', ht, h⟩ := setMap_inv h
      cases h
      obtain ⟨y, la, lb, h4, h5, he, h7, h8⟩ := bornA_inv hes hbo
      subst h4
      have hy : y ∈ mes.toList := hp.subset (by simp)
      obtain ⟨p, q, e1⟩ := List.append_of_mem hy
      have hfi : mes.findIdx? (fun e => (e.born : Int) == (n : Int)) = some p.length := by
        have e2 : mes = (p ++ y :: q).toArray := Array.ext' e1
        rw [e2, List.findIdx?_toArray]
        refine findIdx_born h8 p fun z hz hzn => ?_
        rw [e1] at hnd
        simp only [List.map_append, List.map_cons] at hnd
        exact (List.nodup_append.1 hnd).2.2 z.born (List.mem_map_of_mem hz) y.born (by simp) (hzn.trans h8.symm)
      refine ⟨ρ, _, undef, V.setMap hb hL hheap (MR.turn (e := ⟨e.k, u, e.born⟩) (y := { y with val := vu }) hp hold hnd h5 h7 ⟨he.key, hu, he.born⟩ rfl e1) ht, VR.undef ρ, .inr ⟨?_, rfl⟩⟩
      have hfi' : mes.findIdx? (fun e => (e.born : Int) == Int.ofNat n) = some p.length := hfi
      simp only [Int.ofNat_eq_natCast] at hfi'
      simp [Instr.entryStore, MapKept.run_getObj_map hheap, asInt, asIntOf, hfi', MapKept.run_setObj_map _ hheap, modify_at e1]
    · cases h
  · cases h

theorem aMakeMap_run (V : View ρ m w) {t : TypeId} {r : Option AV} {vr : Option Value} (hr : VO ρ r vr) {v : AV} {m' : AMem} (h : aMakeMap r m = .mk v m') (hf : Fresh ρ m.next m'.next) :
    Runs P ρ m w v m' (do pure (.value (← Instr.makeMap t vr))) := by
  unfold aMakeMap at h
  split at h
  · cases h
  · cases vr with
    | some _ => exact hr.elim
    | none =>
      rcases T.setK_eq (OR.fail 253) (some (.map false 0 [])) m.t m.next (fun t => fNat (Nat.succ m.next) fun nx => OR.mk (.map m.next) ⟨nx, t⟩) with e | ⟨t', ht, e⟩
      · rw [e] at h; cases h
      · rw [e, fNat_eq] at h
        cases h
        refine ⟨ρ.set m.next ⟨w.heap.size, 0, 0, 0⟩, w.alloc (.map #[] 0), .map (some w.heap.size), ?_, .map m.next ⟨w.heap.size, 0, 0, 0⟩ (Ren.set_same _ _ _), .inl (by simp [show (Instr.makeMap t none).run P w = .ok (.map (some w.heap.size)) (w.alloc (.map #[] 0)) from rfl])⟩
        exact GStep.allocB (x := .map false 0 []) V.sim V.wf (hf m.next (Nat.le_refl _) (by show m.next < Nat.succ m.next; omega)) rfl ⟨_, #[], Ren.set_same _ _ _, (MapKept.heap_alloc w _).1, ⟨[], by simp, .nil⟩, by simp, by simp⟩ (MapKept.heap_alloc w _).2 (by simp) rfl rfl rfl ht

end
end Go.Ev
end
section
namespace Go.Ev

section
variable {P : Program} {ρ : Ren} {m : AMem} {w : World}

/-- Is an operand a constant? (as the model asks it of a builtin's) -/
noncomputable def cOf : Operand → Bool := fun | .const _ => true | _ => false

/-- The operands of an operation are as the evaluator has them. -/
noncomputable def OpRel (ρ : Ren) (t : T AV) (ev : Operand → Value) (l : List Operand) : Prop := ∀ x, x ∈ l → VR ρ (evA t x) (ev x)

theorem OpRel.mono {ρ ρ' : Ren} {t : T AV} {ev : Operand → Value} {l : List Operand} (h : OpRel ρ t ev l) (hs : Sub ρ ρ') : OpRel ρ' t ev l := fun x hx => (h x hx).mono hs

theorem OpRel.list {t : T AV} {ev : Operand → Value} : ∀ {l : List Operand}, OpRel ρ t ev l → VRs ρ (l.map (evA t)) (l.map ev)
  | [], _ => .nil
  | x :: l, h => .cons _ _ _ _ (h x (by simp)) (OpRel.list fun y hy => h y (List.mem_cons_of_mem _ hy))

theorem OpRel.parts {t : T AV} {ev : Operand → Value} : ∀ {l : List (Nat × Operand)}, OpRel ρ t ev (l.map (·.2)) → VPs ρ (l.map fun p => (p.1, evA t p.2)) (l.map fun p => (p.1, ev p.2))
  | [], _ => .nil
  | p :: l, h => .cons _ _ _ _ _ (h _ (by simp)) (OpRel.parts fun y hy => h y (by simp at hy ⊢; exact .inr hy))

theorem parts_array (ev : Operand → Value) (ps : Array (Nat × Operand)) : (ps.toList.map fun p => (p.1, ev p.2)).toArray = ps.map fun (i, x) => (i, ev x) := by
  apply Array.ext'; simp

theorem OpRel.opt {t : T AV} {ev : Operand → Value} {x : Option Operand} (h : OpRel ρ t ev x.toList) : VO ρ (x.map (evA t)) (x.map ev) := by
  cases x with
  | none => trivial
  | some x => exact h x (by simp)

theorem val_runs (V : View ρ m w) {v u : AV} {m' : AMem} {uc : Value} {s : Sem Next} (h : OR.mk u m = .mk v m') (hu : VR ρ u uc) (hs : s.run P w = .ok (.value uc) w) : Runs P ρ m w v m' s := by
  cases h; exact ⟨ρ, w, uc, V.refl, hu, .inl hs⟩

theorem shapeAt {w : World} {b : Nat} {cs : Array Value} {elem : TypeId} {fz : Nat × Nat} (h : w.heap[b]? = some (.cells cs elem fz)) : w.shape? b = some (elem, cs.size) := by
  simp [World.shape?, h]

theorem frozenAt {w : World} {a : Addr} {cs : Array Value} {elem : TypeId} {fz : Nat × Nat} (h : w.heap[a.block]? = some (.cells cs elem fz)) (hfz : ∀ i, ¬ (fz.1 ≤ i ∧ i < fz.2)) : w.frozen? a = false := by
  obtain ⟨lo, hi⟩ := fz
  have := hfz a.off
  simp only [World.frozen?, h]
  simp at this ⊢
  exact this

theorem sameAddr_other {a b : Addr} {ca cb : Array Value} {ta tb : TypeId} {fa fb : Nat × Nat} (hbl : a.block ≠ b.block) (ha : w.heap[a.block]? = some (.cells ca ta fa)) (hb : w.heap[b.block]? = some (.cells cb tb fb))
    (ha' : ∀ i, ¬ (fa.1 ≤ i ∧ i < fa.2)) (hb' : ∀ i, ¬ (fb.1 ≤ i ∧ i < fb.2)) : (sameAddr a b).run P w = .ok false w := by
  have f1 := frozenAt ha ha'
  have f2 := frozenAt hb hb'
  have f3 : w.frozen? { block := a.block, off := ca.size } = false := frozenAt (a := { block := a.block, off := ca.size }) ha ha'
  have f4 : w.frozen? { block := b.block, off := cb.size } = false := frozenAt (a := { block := b.block, off := cb.size }) hb hb'
  simp [sameAddr, hbl, f1, f2, f3, f4, noView, viewAt, shapeAt ha, shapeAt hb, mayBeOne, stringish]

theorem ptrEq_in (d : Nat) {t e : TypeId} {i : TypeInfo} (hu : P.underlying t = some (.pointer e)) (hi : P.info? e = some i) (hsz : i.size ≠ 0) {a b : Addr} {r : Bool} (hr : (sameAddr a b).run P w = .ok r w) :
    (Op.equalIn (d + 1) t (.pointer (some a)) (.pointer (some b))).run P w = .ok r w := by
  simp only [Op.equalIn, Sem.run_bind, run_underlying hu, Result.andThen_ok, run_sizeOf hi, Sem.run_ite]
  rw [if_pos hsz]; exact hr

theorem aBin2_val (V : View ρ m w) {op : BinOp} {t : TypeId} {x y : AV} {ox oy : Operand} {vx vy : Value} (hx : VR ρ x vx) (hy : VR ρ y vy) {v : AV} {m' : AMem} (h : aBin2 P op t (isConst ox || isConst oy) x y m = .mk v m') :
    Val P ρ m w v m' (do eqGuard op t ox oy vx vy; binOp op t vx vy) := by
  cases x with
  | ptr b o =>
    cases y with
    | ptr b' o' =>
      have g : aPtrEq P op t b o b' o' m = .mk v m' := h
      clear h
      unfold aPtrEq at g
      split at g
      · rename_i e hu
        split at g
        · rename_i i hi
          rw [bif2_eq] at g
          split at g
          · cases g
          rename_i hsz
          have hsz : i.size ≠ 0 := fun q => hsz (by rw [q]; rfl)
          cases hx with | ptr _ _ L hL => cases hy with | ptr _ _ L' hL' =>
          have fin : ∀ {r : Bool}, flip op r m = .mk v m' → (sameAddr ⟨L.blk, L.base + o, none⟩ ⟨L'.blk, L'.base + o', none⟩).run P w = .ok r w → Val P ρ m w v m' (do eqGuard op t ox oy (.pointer (some ⟨L.blk, L.base + o, none⟩)) (.pointer (some ⟨L'.blk, L'.base + o', none⟩)); binOp op t (.pointer (some ⟨L.blk, L.base + o, none⟩)) (.pointer (some ⟨L'.blk, L'.base + o', none⟩))) := fun {r} h hr => by
            have heq : (Op.equal t (.pointer (some ⟨L.blk, L.base + o, none⟩)) (.pointer (some ⟨L'.blk, L'.base + o', none⟩))).run P w = .ok r w := by
              exact ptrEq_in 9999 hu hi hsz hr
            have hv := flip_val (P := P) (ρ := ρ) (w := w) h (t := t) (x := .pointer (some ⟨L.blk, L.base + o, none⟩)) (y := .pointer (some ⟨L'.blk, L'.base + o', none⟩))
              (by show (do pure (Value.bool (← Op.equal t _ _)) : Sem Value).run P w = _; simp [heq]) (by show (do pure (Value.bool (!(← Op.equal t _ _))) : Sem Value).run P w = _; simp [heq])
            obtain ⟨e1, vc, e2, e3⟩ := hv
            have hg : (eqGuard op t ox oy (.pointer (some ⟨L.blk, L.base + o, none⟩)) (.pointer (some ⟨L'.blk, L'.base + o', none⟩))).run P w = .ok () w := eqGuard_plain (.inl (by simp)) (.inl (by simp))
            exact ⟨e1, vc, e2, by simp [hg, e3]⟩
          rw [bif2_eq] at g
          split at g
          · rename_i hb
            have hb := Nat.eq_of_beq_eq_true hb
            subst hb
            rw [hL] at hL'; cases hL'
            refine fin g ?_
            by_cases ho : o = o'
            · subst ho; simp [sameAddr]
            · have : Nat.beq o o' = false := by rw [Bool.eq_false_iff]; exact fun q => ho (Nat.eq_of_beq_eq_true q)
              rw [this]
              simp [sameAddr, ho]
          · rename_i hb
            have hb : b ≠ b' := fun q => hb (by rw [q]; exact Nat.beq_refl _)
            split at g
            · rename_i ro E N c ro' E' N' c' g1 g2
              rw [bif2_eq] at g
              split at g
              · cases g
              · rename_i hro
                obtain ⟨L1, cs1, el1, fz1, q1, q2, q3, q4, q5, q6, q7, q8⟩ := V.sim.blk b _ g1
                obtain ⟨L2, cs2, el2, fz2, r1, r2, r3, r4, r5, r6, r7, r8⟩ := V.sim.blk b' _ g2
                rw [hL] at q1; cases q1
                rw [hL'] at r1; cases r1
                have hne : L.blk ≠ L'.blk := by
                  cases hr : ro with
                  | false => exact V.sim.sep b b' _ _ L L' g1 g2 hb (by simp [Blk.wr, hr]) hL hL'
                  | true =>
                    have : ro' = false := by cases hr' : ro' with
                      | false => rfl
                      | true => rw [hr, hr'] at hro; simp at hro
                    exact (V.sim.sep b' b _ _ L' L g2 g1 (Ne.symm hb) (by simp [Blk.wr, this]) hL' hL).symm
                exact fin g (sameAddr_other hne q2 r2 (q8 rfl) (r8 rfl))
            · cases g
        · cases g
      · cases g
    | _ => exact aBin_val hx hy h
  | _ => exact aBin_val hx hy h

/-- An operation that is no call of a Go function. -/
theorem op_runs (V : View ρ m w) {call : Call} {o : Oper} {t : T AV} {ev : Operand → Value} (hO : OpRel ρ t ev o.op.operands.toList) (hc : ∀ f args ats, o.op ≠ .call ⟨.value f, args, ats⟩) {v : AV} {m' : AMem}
    (h : opTab o.op P call t m = .mk v m') (hf : Fresh ρ m.next m'.next) : Runs P ρ m w v m' (execOp ev o) := by
  obtain ⟨dst, op, type, pos, after, guard⟩ := o
  simp only at hO hc h
  cases op with
  | move x =>
    have h : evK t x (fun v => OR.mk v m) = .mk v m' := h
    rw [evK_eq] at h
    exact val_runs V h (hO x (by simp [Op.operands])) rfl
  | assign x =>
    have h : evK t x (fun v => OR.mk v m) = .mk v m' := h
    rw [evK_eq] at h
    exact val_runs V h (hO x (by simp [Op.operands])) rfl
  | pick c a b =>
    have h : evK t c (fun v => v.onBool (fun v => bif2 v (evK t a fun v => OR.mk v m) (evK t b fun v => OR.mk v m)) (OR.fail 111)) = .mk v m' := h
    rw [evK_eq] at h
    obtain ⟨q, hq, h1⟩ := onBool_inv _ h fail_ne
    have hcr := hO c (by simp [Op.operands])
    rw [hq] at hcr
    cases hce : ev c with
    | bool q' =>
      rw [hce] at hcr
      cases hcr
      cases q
      · have h1 : evK t b (fun v => OR.mk v m) = .mk v m' := h1
        rw [evK_eq] at h1
        exact val_runs V h1 (hO b (by simp [Op.operands])) (by simp [execOp, hce, asBool])
      · have h1 : evK t a (fun v => OR.mk v m) = .mk v m' := h1
        rw [evK_eq] at h1
        exact val_runs V h1 (hO a (by simp [Op.operands])) (by simp [execOp, hce, asBool])
    | _ => rw [hce] at hcr; cases hcr
  | alloc e => exact aAlloc_run V h hf
  | box e x =>
    have h : evK t x (fun v => bif2 (v.onAgg (fun _ => true) v.plain) (newBlk false 1 v.cells m fun b m => OR.mk (.ptr b 0) m) (OR.fail 112)) = .mk v m' := h
    rw [evK_eq] at h
    exact box_run V (hO x (by simp [Op.operands])) h hf
  | build ty ps =>
    have h : evPs t ps.toList (fun l => aBuild P ty l m) = .mk v m' := h
    rw [evPs_eq] at h
    have hp : OpRel ρ t ev (ps.toList.map (·.2)) := fun x hx => hO x (by simpa [Op.operands] using hx)
    have := (aBuild_run (P := P) (w := w) hp.parts h).runs V
    rw [parts_array] at this
    exact this
  | buildSlice ty n ps =>
    have h : evPs t ps.toList (fun l => aBuildSlice P ty n l m) = .mk v m' := h
    rw [evPs_eq] at h
    have hp : OpRel ρ t ev (ps.toList.map (·.2)) := fun x hx => hO x (by simpa [Op.operands] using hx)
    have := aBuildSlice_run (P := P) V hp.parts h hf
    rw [parts_array] at this
    exact this
  | load ty a =>
    have h : evK t a (fun a => aLoad P ty a m) = .mk v m' := h
    rw [evK_eq] at h
    exact Val.runs V (aLoad_run V (hO a (by simp [Op.operands])) h)
  | store ty a x =>
    have h : evK t a (fun a => evK t x fun v => aStore P ty a v m) = .mk v m' := h
    rw [evK_eq, evK_eq] at h
    exact aStore_run V (hO a (by simp [Op.operands])) (hO x (by simp [Op.operands])) h
  | nilCheck x =>
    have h : evK t x (fun v => v.onPtr (fun b o => OR.mk (.ptr b o) m) (v.onFn (fun f c => OR.mk (.fn f c) m) (OR.fail 113))) = .mk v m' := h
    rw [evK_eq] at h
    have hx := hO x (by simp [Op.operands])
    generalize evA t x = a at *
    cases a with
    | ptr b off =>
      cases hxe : ev x <;> rw [hxe] at hx <;> cases hx
      exact val_runs V h (.ptr b off _ ‹_›) (by simp [execOp, hxe])
    | fn f caps =>
      cases hxe : ev x <;> rw [hxe] at hx <;> cases hx
      exact val_runs V h (.fn f caps _ ‹_›) (by simp [execOp, hxe])
    | _ => cases h
  | binOp op ty x y yt =>
    have h : evK t x (fun a => evK t y fun b => aBin2 P op ty (isConst x || isConst y) a b m) = .mk v m' := h
    rw [evK_eq, evK_eq] at h
    exact Val.runs V (aBin2_val V (hO x (by simp [Op.operands])) (hO y (by simp [Op.operands])) h)
  | unOp op ty x =>
    have h : evK t x (fun v => aUn op v m) = .mk v m' := h
    rw [evK_eq] at h
    exact Val.runs V (aUn_val (hO x (by simp [Op.operands])) h)
  | convert s d x =>
    have h : evK t x (fun v => aConvert P s d v m) = .mk v m' := h
    rw [evK_eq] at h
    exact (aConvert_run V (hO x (by simp [Op.operands])) h hf).runs
  | makeInterface ty x =>
    have h : evK t x (fun v => bif2 (O.ifaceOk P ty) (OR.mk (.iface ty v) m) (OR.fail 114)) = .mk v m' := h
    rw [evK_eq, bif2_eq] at h
    split at h
    · rename_i hok
      refine val_runs V h (.iface ty _ _ (hO x (by simp [Op.operands]))) ?_
      unfold O.ifaceOk at hok
      split at hok
      · cases hok
      · rename_i d hne hu
        have : (Instr.makeInterface ty (ev x)).run P w = .ok (.iface ty (ev x)) w := by
          simp only [Instr.makeInterface, Sem.run_bind, run_underlying hu, Result.andThen_ok]
          cases d <;> first | rfl | (exfalso; exact hne _ hu)
        simp [execOp, this]
      · cases hok
    · cases h
  | makeFunc fn first caps =>
    have h1 : (match fn, first.toList with
      | .func f, [] => evsK t caps.toList fun l => OR.mk (.fn f l) m
      | _, _ => OR.fail 115) = .mk v m' := h
    clear h
    split at h1
    · rename_i f hfirst
      have h := h1
      rw [evsK_eq] at h
      have hfirst : first = #[] := by simpa using hfirst
      subst hfirst
      have hp : OpRel ρ t ev caps.toList := fun x hx => hO x (by simpa [Op.operands] using hx)
      exact val_runs V h (.fn f _ (caps.map ev) (by simpa using hp.list)) (by simp [execOp, Instr.makeFunc])
    · cases h1
  | makeSlice ty l c =>
    have h : evK t l (fun l => evK t c fun c => aMakeSlice P ty l c m) = .mk v m' := h
    rw [evK_eq, evK_eq] at h
    exact aMakeSlice_run V (hO l (by simp [Op.operands])) (hO c (by simp [Op.operands])) h hf
  | slice ty x lo hi mx =>
    have h : evK t x (fun x => evO t lo fun lo => evO t hi fun hi => evO t mx fun mx => aSlice P ty x lo hi mx m) = .mk v m' := h
    rw [evK_eq, evO_eq, evO_eq, evO_eq] at h
    exact Val.runs V (aSlice_val V (hO x (by simp [Op.operands])) (OpRel.opt fun y hy => hO y (by simp [Op.operands] at hy ⊢; exact .inr (.inl hy))) (OpRel.opt fun y hy => hO y (by simp [Op.operands] at hy ⊢; exact .inr (.inr (.inl hy))))
      (OpRel.opt fun y hy => hO y (by simp [Op.operands] at hy ⊢; exact .inr (.inr (.inr hy)))) h)
  | fieldAddr s x f =>
    have h : evK t x (fun x => aFieldAddr P s x f m) = .mk v m' := h
    rw [evK_eq] at h
    exact Val.runs V (aFieldAddr_val (hO x (by simp [Op.operands])) h)
  | field s x f =>
    have h : evK t x (fun x => aField P s x f m) = .mk v m' := h
    rw [evK_eq] at h
    exact Val.runs V (aField_val (hO x (by simp [Op.operands])) h)
  | indexAddr ty x i =>
    have h : evK t x (fun x => evK t i fun i => aIndexAddr P ty x i m) = .mk v m' := h
    rw [evK_eq, evK_eq] at h
    exact Val.runs V (aIndexAddr_val (hO x (by simp [Op.operands])) (hO i (by simp [Op.operands])) h)
  | index ty x i =>
    have h : evK t x (fun x => evK t i fun i => aIndex P ty x i m) = .mk v m' := h
    rw [evK_eq, evK_eq] at h
    exact Val.runs V (aIndex_val (hO x (by simp [Op.operands])) (hO i (by simp [Op.operands])) h)
  | extract x i =>
    have h : evK t x (fun x => x.onTup (fun l => @Option.rec AV (fun _ => OR) (OR.fail 116) (fun v => OR.mk v m) l[i]?) (OR.fail 117)) = .mk v m' := h
    rw [evK_eq] at h
    obtain ⟨l, hl, h1⟩ := onTup_inv _ h fail_ne
    have hx := hO x (by simp [Op.operands])
    rw [hl] at hx
    cases hxe : ev x with
    | tuple cs =>
      rw [hxe] at hx
      cases hx with | tup _ _ hcs =>
      cases hli : l[i]? with
      | none => rw [hli] at h1; cases h1
      | some u =>
        rw [hli] at h1
        obtain ⟨c, hc, hr⟩ := hcs.get _ hli
        have hc : cs[i]? = some c := by rw [← hc]; simp
        exact val_runs V h1 hr (by simp [execOp, hxe, Instr.extract, hc])
    | _ => rw [hxe] at hx; cases hx
  | call c =>
    obtain ⟨callee, args, ats⟩ := c
    cases callee with
    | value f => exact absurd rfl (hc f args ats)
    | invoke r n => cases h
    | builtin b =>
      have h9 : evsK t args.toList (fun vs => bif2 (isDel b) (delA P ats vs m) (builtinA P b ats vs m)) = .mk v m' := h
      rw [evsK_eq, bif2_eq] at h9
      have hp : OpRel ρ t ev args.toList := fun x hx => hO x (by show x ∈ ((#[] : Array Operand) ++ args).toList; simpa using hx)
      have this : Runs P ρ m w v m' (builtin b ats type (args.map cOf) ((args.toList.map ev).toArray)) := by
        split at h9
        · rename_i hd
          have hb : b = .delete := by revert hd; cases b <;> simp [isDel]
          rw [hb]
          exact (delA_run V hp.list type h9).runs
        · exact builtinA_run V hp.list type (args.map cOf) h9 hf
      have e : (args.toList.map ev).toArray = args.map ev := by apply Array.ext'; simp
      rw [e] at this
      obtain ⟨ρ', w', vc, h1, h2, h3⟩ := this
      refine ⟨ρ', w', vc, h1, h2, ?_⟩
      have hr : (execOp ev ⟨dst, .call ⟨.builtin b, args, ats⟩, type, pos, after, guard⟩).run P w = (builtin b ats type (args.map cOf) (args.map ev)).run P w := by
        simp only [execOp, resolve, Sem.run_bind, Sem.run_pure, Result.andThen_ok, invoke]
        rfl
      rw [hr]; exact h3
  | insert ty x k u =>
    have h : evK t x (fun x => evK t k fun k => evK t u fun u => aMapUpdate P ty x k u m) = .mk v m' := h
    rw [evK_eq, evK_eq, evK_eq] at h
    exact aMapUpdate_run V (hO x (by simp [Op.operands])) (hO k (by simp [Op.operands])) (hO u (by simp [Op.operands])) h
  | mapUpdate ty x k u =>
    have h : evK t x (fun x => evK t k fun k => evK t u fun u => aMapUpdate P ty x k u m) = .mk v m' := h
    rw [evK_eq, evK_eq, evK_eq] at h
    exact aMapUpdate_run V (hO x (by simp [Op.operands])) (hO k (by simp [Op.operands])) (hO u (by simp [Op.operands])) h
  | lookup ty x k ok =>
    have h : evK t x (fun x => evK t k fun k => aLookup P ty x k ok m) = .mk v m' := h
    rw [evK_eq, evK_eq] at h
    exact Val.runs V (aLookup_val V (hO x (by simp [Op.operands])) (hO k (by simp [Op.operands])) h)
  | mapEntry ty x k =>
    have h : evK t x (fun x => evK t k fun k => aMapEntry P ty x k m) = .mk v m' := h
    rw [evK_eq, evK_eq] at h
    exact aMapEntry_run V (hO x (by simp [Op.operands])) (hO k (by simp [Op.operands])) h
  | entryStore ty x k u =>
    have h : evK t x (fun x => evK t k fun k => evK t u fun u => aEntryStore x k u m) = .mk v m' := h
    rw [evK_eq, evK_eq, evK_eq] at h
    exact aEntryStore_run V (hO x (by simp [Op.operands])) (hO k (by simp [Op.operands])) (hO u (by simp [Op.operands])) h
  | makeMap ty r =>
    have h : evO t r (fun r => aMakeMap r m) = .mk v m' := h
    rw [evO_eq] at h
    exact aMakeMap_run V (OpRel.opt fun y hy => hO y (by simpa [Op.operands] using hy)) h hf
  | _ => cases h

end
end Go.Ev
end
section
namespace Go.Ev

section
variable {P : Program}

/-- What a call comes to. -/
noncomputable def Post (ρ : Ren) (m : AMem) (w : World) (v : AV) (m' : AMem) : Ending → World → Prop := fun e w' => ∃ vc ρ', e = .returned vc ∧ Step ρ m w ρ' m' w' ∧ VR ρ' v vc

/-- What the evaluator answers of calls holds. -/
noncomputable def CallOK (P : Program) (call : Call) : Prop :=
  ∀ f args m v m', call f args m = .mk v m' → ∀ (ρ : Ren) (w : World) (cs : Array Value), View ρ m w → VRs ρ args cs.toList → Fresh ρ m.next m'.next →
    ((callFunc f cs).run P w = .ok (.enter f cs) w ∧ Calls P f cs w (Post ρ m w v m')) ∨ (∃ ρ' w' vc, (callFunc f cs).run P w = .ok (.value vc) w' ∧ Step ρ m w ρ' m' w' ∧ VR ρ' v vc)

variable {ρ : Ren} {m : AMem} {w : World}

theorem op_wp {call : Call} (hcall : CallOK P call) (V : View ρ m w) {o : Oper} {t : T AV} {a : Act} (hO : OpRel ρ t a.eval o.op.operands.toList) {v : AV} {m' : AMem} (h : opTab o.op P call t m = .mk v m') (hf : Fresh ρ m.next m'.next)
    {K : Act → World → Prop} {Q : Exit → Act → World → Prop} (hK : ∀ ρ' w' vc, Step ρ m w ρ' m' w' → VR ρ' v vc → K (a.put o.dst vc) w') : o.wp P a w K Q := by
  by_cases hc : ∃ f args ats, o.op = .call ⟨.value f, args, ats⟩
  · obtain ⟨f, args, ats, ho⟩ := hc
    obtain ⟨dst, op, type, pos, after, guard⟩ := o
    simp only at ho
    subst ho
    have h : evK t f (fun f => f.onFn (fun g caps => evsK t args.toList fun vs => call g (vs ++ caps) m) (OR.fail 120)) = .mk v m' := h
    rw [evK_eq] at h
    obtain ⟨g, caps, hg, h1⟩ := onFn_inv _ h fail_ne
    rw [evsK_eq] at h1
    have hfr := hO f (by show f ∈ ((#[f] : Array Operand) ++ args).toList; simp)
    rw [hg] at hfr
    cases hfe : a.eval f with
    | func fn first cap =>
      rw [hfe] at hfr
      cases hfr with | fn _ _ _ hcaps =>
      have hp : OpRel ρ t a.eval args.toList := fun x hx => hO x (by show x ∈ ((#[f] : Array Operand) ++ args).toList; simp; exact .inr (by simpa using hx))
      have hargs : VRs ρ (args.toList.map (evA t) ++ caps) ((args.map a.eval ++ cap).toList) := by
        have := hp.list.append hcaps
        simpa using this
      have hrun : (execOp a.eval ⟨dst, .call ⟨.value f, args, ats⟩, type, pos, after, guard⟩).run P w = (callFunc g (args.map a.eval ++ cap)).run P w := by
        simp only [execOp, resolve, hfe, Deferred.ofValue, Sem.run_bind, Sem.run_pure, Result.andThen_ok, invoke]
        simp
      unfold Oper.wp
      rw [hrun]
      rcases hcall g _ _ _ _ h1 ρ w _ V hargs hf with ⟨e1, e2⟩ | ⟨ρ', w', vc, e1, e2, e3⟩
      · rw [e1]
        exact e2.mono fun e w' ⟨vc, ρ', he, hs, hv⟩ => by subst he; exact hK ρ' w' vc hs hv
      · rw [e1]
        exact hK ρ' w' vc e2 e3
    | _ => rw [hfe] at hfr; cases hfr
  · obtain ⟨ρ', w', vc, hs, hv, hr⟩ := op_runs V hO (fun f args ats e => hc ⟨f, args, ats, e⟩) h hf
    unfold Oper.wp
    rcases hr with hr | ⟨hr, hvc⟩
    · rw [hr]; exact hK ρ' w' vc hs hv
    · rw [hr]; subst hvc; exact hK ρ' w' _ hs hv

/-! ### Guards -/

theorem wantedA_inv {ops : Array Oper} {t : T AV} {tmps : Array Value} {j : Nat} {want b : Bool} (h : wantedA ops t j want = some b)
    (hr : ∀ g d, ops[j]? = some g → g.dst = some d → VR ρ ((t.get d).getD .undef) (tmps.getD d undef)) : (yielded ops tmps j == some want) = b := by
  unfold wantedA at h
  unfold yielded
  split at h
  · rename_i hj; cases h; simp [hj]
  · rename_i g hj
    split at h
    · rename_i hd; cases h; simp [hj, hd]
    · rename_i d hd
      have hrel := hr g d hj hd
      simp only [hj, Option.bind_some, hd]
      split at h
      · rename_i v hv
        rw [hv] at hrel
        simp only [Option.getD_some] at hrel
        cases v <;> first
          | (cases h; done)
          | (cases h
             cases htm : tmps[d]? with
             | none => simp
             | some c =>
               have e : tmps.getD d undef = c := by simp [htm]
               rw [e] at hrel
               cases hrel <;> simp)
          | skip
        rename_i q
        have h : some (q == want) = some b := h
        cases h
        cases htm : tmps[d]? with
        | none =>
          have e : tmps.getD d undef = undef := by simp [htm]
          rw [e] at hrel; cases hrel
        | some c =>
          have e : tmps.getD d undef = c := by simp [htm]
          rw [e] at hrel
          cases hrel
          simp
      · rename_i hv
        rw [hv] at hrel
        cases h
        cases htm : tmps[d]? with
        | none => simp
        | some c =>
          have e : tmps.getD d undef = c := by simp [htm]
          rw [e] at hrel
          cases hrel
          simp

/-! ### Regions in their order -/

theorem goOp_inv {call : Call} {nt : Nat} {dst : Option Tmp} {op : Op} {t : T AV} {k : T AV → AMem → Res} {x : X} {t' : T AV} {m' : AMem} (h : goOp P call nt dst op t m k = .mk x t' m') :
    ∃ v m1 t1, opTab op P call t m = .mk v m1 ∧ m.next ≤ m1.next ∧ k t1 m1 = .mk x t' m' ∧ ∀ {ρ : Ren} {a : Act} {vc : Value}, TR ρ nt t a.tmps → VR ρ v vc → TR ρ nt t1 (a.put dst vc).tmps := by
  unfold goOp at h
  cases ho : opTab op P call t m with
  | fail c => rw [ho] at h; cases h
  | mk v m1 =>
    rw [ho] at h
    have h : bif2 (Nat.ble m.next m1.next) (dstK nt dst v t fun t => k t m1) (.fail 124) = .mk x t' m' := h
    rw [bif2_eq] at h
    split at h
    · rename_i hle
      obtain ⟨t1, h1, h2⟩ := dstK_inv h
      exact ⟨v, m1, t1, rfl, by simpa [Nat.ble_eq] using hle, h1, h2⟩
    · cases h

/-- One operation of a region: it is carried out, or it is not wanted. -/
theorem regOp_inv {call : Call} {nt : Nat} {all : Array Oper} {o : Oper} {t : T AV} {k : T AV → AMem → Res} {x : X} {t' : T AV} {m' : AMem} (h : regOp P call nt all o t m k = .mk x t' m') :
    ∃ b v m1 t1, (match o.guard with | none => some true | some g => wantedA all t g.1 g.2) = some b ∧ (b = true → opTab o.op P call t m = .mk v m1) ∧ (b = false → v = .undef ∧ m1 = m) ∧ m.next ≤ m1.next ∧ k t1 m1 = .mk x t' m' ∧
      ∀ {ρ : Ren} {a : Act} {vc : Value}, TR ρ nt t a.tmps → VR ρ v vc → TR ρ nt t1 (a.put o.dst vc).tmps := by
  obtain ⟨dst, op, ty, pos, after, guard⟩ := o
  cases guard with
  | none =>
    obtain ⟨v, m1, t1, h1, h2, h3, h4⟩ := goOp_inv h
    exact ⟨true, v, m1, t1, rfl, fun _ => h1, fun e => (by cases e), h2, h3, h4⟩
  | some g =>
    have h : @Option.rec Bool (fun _ => Res) (.fail 123) (fun w => bif2 w (goOp P call nt dst op t m k) (dstK nt dst .undef t fun t => k t m)) (wantedA all t g.1 g.2) = .mk x t' m' := h
    cases hw : wantedA all t g.1 g.2 with
    | none => rw [hw] at h; cases h
    | some b =>
      rw [hw] at h
      cases b with
      | true =>
        obtain ⟨v, m1, t1, h1, h2, h3, h4⟩ := goOp_inv (show goOp P call nt dst op t m k = .mk x t' m' from h)
        exact ⟨true, v, m1, t1, hw, fun _ => h1, fun e => (by cases e), h2, h3, h4⟩
      | false =>
        obtain ⟨t1, h1, h2⟩ := dstK_inv (show (dstK nt dst .undef t fun t => k t m) = .mk x t' m' from h)
        exact ⟨false, .undef, m, t1, hw, fun e => (by cases e), fun _ => ⟨rfl, rfl⟩, Nat.le_refl _, h1, h2⟩

theorem opsA_next {call : Call} {nt : Nat} {all : Array Oper} : ∀ {l : List Oper} {t : T AV} {m : AMem} {x : X} {t' : T AV} {m' : AMem}, opsA P call nt all l t m = .mk x t' m' → m.next ≤ m'.next
  | [], t, m, x, t', m', h => by cases h; exact Nat.le_refl _
  | o :: l, t, m, x, t', m', h => by
    obtain ⟨b, v, m1, t1, _, _, _, h1, h2, _⟩ := regOp_inv (show regOp P call nt all o t m (opsA P call nt all l) = .mk x t' m' from h)
    exact Nat.le_trans h1 (opsA_next h2)

theorem wanted_eq {all : Array Oper} {t : T AV} {tmps : Array Value} {o : Oper} {b : Bool} (h : (match o.guard with | none => some true | some g => wantedA all t g.1 g.2) = some b)
    (hr : ∀ j want g d, o.guard = some (j, want) → all[j]? = some g → g.dst = some d → VR ρ ((t.get d).getD .undef) (tmps.getD d undef)) : Region.wanted o (yielded all tmps) = b := by
  unfold Region.wanted
  cases hg : o.guard with
  | none => rw [hg] at h; cases h; rfl
  | some g =>
    obtain ⟨j, want⟩ := g
    rw [hg] at h
    exact wantedA_inv h fun g d h1 h2 => hr j want g d hg h1 h2

theorem opsA_wp {call : Call} (hcall : CallOK P call) {nt : Nat} {all : Array Oper} {Q : Exit → Act → World → Prop} : ∀ (l : List Oper) (i : Nat) (_ : ∀ j, l[j]? = all[i + j]?) {t : T AV} {m : AMem} {w : World} {ρ : Ren} {a : Act} {x : X} {t' : T AV} {m' : AMem}
    (_ : opsA P call nt all l t m = .mk x t' m') (_ : View ρ m w) (_ : TR ρ nt t a.tmps) (_ : Fresh ρ m.next m'.next)
    (_ : ∀ ρ' a' w', Step ρ m w ρ' m' w' → TR ρ' nt t' a'.tmps → a'.defers = a.defers → Q .normal a' w'), x = .norm ∧ wpOps P all Q (List.range' i l.length) a w
  | [], i, hl, t, m, w, ρ, a, x, t', m', h, V, hT, hf, hQ => by
    cases h
    exact ⟨rfl, hQ ρ a w V.refl hT rfl⟩
  | o :: l, i, hl, t, m, w, ρ, a, x, t', m', h, V, hT, hf, hQ => by
    obtain ⟨b, v, m1, t1, hw, hyes, hno, hle, hk, hput⟩ := regOp_inv (show regOp P call nt all o t m (opsA P call nt all l) = .mk x t' m' from h)
    have hle2 := opsA_next hk
    have ho : all[i]? = some o := by simpa using (hl 0).symm
    have hl' : ∀ j, l[j]? = all[i + 1 + j]? := fun j => by have := hl (j + 1); simpa [Nat.add_assoc, Nat.add_comm 1 j] using this
    have hwant := wanted_eq (tmps := a.tmps) hw fun _ _ _ d _ _ _ => hT.rel d
    have rest : ∀ ρ1 w1 vc, Step ρ m w ρ1 m1 w1 → VR ρ1 v vc → x = .norm ∧ wpOps P all Q (List.range' (i + 1) l.length) (a.put o.dst vc) w1 := fun ρ1 w1 vc hs hv => by
      have hsub := hs.sub (hf.le hle2)
      exact opsA_wp hcall l (i + 1) hl' hk hs.view (hput (hT.mono hsub) hv) (hs.fresh hf) fun ρ' a' w' hs' hT' hd => hQ ρ' a' w' (hs.trans hs') hT' (hd.trans (by cases o.dst <;> rfl))
    have hx : x = .norm := by
      clear hQ rest hput
      exact opsA_norm h
    refine ⟨hx, ?_⟩
    rw [List.length_cons, List.range'_succ]
    simp only [wpOps, ho]
    rw [hwant]
    cases b with
    | true =>
      rw [if_pos rfl]
      exact .inl (op_wp hcall V (fun y _ => hT.ev y) (hyes rfl) (hf.le hle2) fun ρ1 w1 vc hs hv => (rest ρ1 w1 vc hs hv).2)
    | false =>
      rw [if_neg (by decide)]
      obtain ⟨rfl, rfl⟩ := hno rfl
      exact (rest ρ w undef V.refl (VR.undef _)).2
where
  opsA_norm {call : Call} {nt : Nat} {all : Array Oper} : ∀ {l : List Oper} {t : T AV} {m : AMem} {x : X} {t' : T AV} {m' : AMem}, opsA P call nt all l t m = .mk x t' m' → x = .norm
  | [], t, m, x, t', m', h => by cases h; rfl
  | o :: l, t, m, x, t', m', h => by
    obtain ⟨b, v, m1, t1, _, _, _, h1, h2, _⟩ := regOp_inv (show regOp P call nt all o t m (opsA P call nt all l) = .mk x t' m' from h)
    exact opsA_norm h2

end
end Go.Ev
end
section
namespace Go.Ev

/-- What comes of it leaves memory as it is, where no name is new. -/
noncomputable def Keeps (r : OR) (m : AMem) : Prop := ∀ v m', r = .mk v m' → m'.next = m.next → m' = m

theorem Keeps.mk (v : AV) (m : AMem) : Keeps (.mk v m) m := fun _ _ h _ => by cases h; rfl
theorem Keeps.fail (c : Nat) (m : AMem) : Keeps (.fail c) m := fun _ _ h _ => by cases h
theorem Keeps.bif {b : Bool} {x y : OR} {m : AMem} (h : Keeps x m) (h' : Keeps y m) : Keeps (bif2 b x y) m := by cases b; exact h'; exact h
theorem Keeps.bnd {x : Option AV} {d : Nat} {k : Nat → OR} {m : AMem} (h : ∀ n, Keeps (k n) m) : Keeps (bnd x d k) m := by
  unfold Ev.bnd; split
  · exact h _
  · exact h _
  · exact .fail _ _
theorem Keeps.blk {m0 : AMem} {b : Nat} {k : Bool → Nat → Nat → T AV → OR} {m : AMem} (h : ∀ a b c d, Keeps (k a b c d) m) : Keeps (blkK m0 b k) m := fun v m' e hn => by
  obtain ⟨ro, sg, E, N, c, h1, h2⟩ := blkK_inv e
  exact h _ _ _ _ _ _ h2 hn
theorem Keeps.load {m0 : AMem} {b off n : Nat} {k : List AV → OR} {m : AMem} (h : ∀ l, Keeps (k l) m) : Keeps (loadK m0 b off n k) m := fun v m' e hn => by
  obtain ⟨ro, sg, E, N, c, h1, h2, h3⟩ := loadK_inv e
  exact h _ _ _ h3 hn
theorem Keeps.nat {n : Nat} {k : Nat → OR} {m : AMem} (h : Keeps (k n) m) : Keeps (fNat n k) m := by rw [fNat_eq]; exact h
theorem Keeps.bytes {m : AMem} : ∀ {l : List AV} {k : List Nat → OR}, (∀ l, Keeps (k l) m) → Keeps (bytesK l k) m := fun {l} => by
  induction l with
  | nil => intro k h; exact h []
  | cons x l ih =>
    intro k h
    unfold bytesK
    split
    · rename_i e; exact h []
    · rename_i n l' k' e
      cases e
      exact .bif (ih fun l => h _) (.fail _ _)
    · exact .fail _ _
theorem Keeps.cut {b off size l h M : Nat} {m : AMem} : Keeps (cutAt b off size l h M m) m := by
  unfold cutAt; exact .nat (.nat (.nat (.mk _ _)))
theorem Keeps.new {sg : Bool} {E : Nat} {l : List AV} {m : AMem} {k : Nat → AMem → OR} (hk : ∀ b m1 v m', k b m1 = .mk v m' → m'.next = m1.next) : Keeps (newBlk sg E l m k) m := fun v m' e hn => by
  obtain ⟨m1, c, h1, h2, h3, h4⟩ := newBlk_inv e
  have := hk _ _ _ _ h4
  omega

section
variable {P : Program} {call : Call}

theorem aLoad_keeps (t : TypeId) (a : AV) (m : AMem) : Keeps (aLoad P t a m) m := fun v m' h hn => by
  obtain ⟨b, o, rfl, h⟩ := onPtr_inv _ h fail_ne
  have h : @Option.rec (Bool × Nat) (fun _ => OR) (.fail 37) (loadL m b o) (layout P t) = .mk v m' := h
  cases hl : layout P t with
  | none => rw [hl] at h; cases h
  | some lay =>
    rw [hl] at h
    have h : loadL m b o lay = .mk v m' := h
    unfold loadL at h
    exact Keeps.bif (m := m) (.load fun l => .mk _ _) (by
      unfold load1
      refine .blk fun a b N c => .bif ?_ (.fail _ _)
      cases c.get o <;> exact .mk _ _) v m' h hn

theorem aSlice_keeps (t : TypeId) (x : AV) (lo hi mx : Option AV) (m : AMem) : Keeps (aSlice P t x lo hi mx m) m := by
  unfold aSlice
  split
  · split
    · exact .fail _ _
    · exact .nat (.bnd fun _ => .bnd fun _ => .bif (.mk _ _) (.fail _ _))
  · split
    · split
      · exact .bnd fun _ => .bnd fun _ => .bnd fun _ => .bif .cut (.fail _ _)
      · exact .bnd fun _ => .bnd fun _ => .bif (.bif (.mk _ _) (.bif (.blk fun _ _ _ _ => .bif (.nat (.nat (.mk _ _))) (.fail _ _)) (.mk _ _))) (.blk fun _ _ _ _ => .bif (.nat (.nat (.mk _ _))) (.fail _ _))
      · exact .bnd fun _ => .bnd fun _ => .bnd fun _ => .bif .cut (.fail _ _)
    · exact .fail _ _
  · split
    · exact .bnd fun _ => .bnd fun _ => .bnd fun _ => .bif (.mk _ _) (.fail _ _)
    · exact .fail _ _
  · split
    · exact .bnd fun _ => .bnd fun _ => .bnd fun _ => .bif .cut (.fail _ _)
    · exact .fail _ _
  · exact .fail _ _

theorem aConvert_keeps (s d : TypeId) (x : AV) (m : AMem) : Keeps (aConvert P s d x m) m := by
  unfold aConvert
  split
  · rw [wrapK_eq]; exact .mk _ _
  · exact .mk _ _
  · split
    · split
      · exact .load fun l => .bytes fun l => .mk _ _
      · exact .mk _ _
      · exact .mk _ _
      · exact .fail _ _
    · exact .fail _ _
  · split
    · refine .bif (.new fun b m1 v m' h => ?_) (.fail _ _)
      rw [fNat_eq] at h; cases h; rfl
    · exact .fail _ _
  · exact .fail _ _

theorem found_keeps {ok : Bool} {a : AV} {b : Bool} {m : AMem} : Keeps (found ok a b m) m := .bif (.mk _ _) (.mk _ _)

theorem aLookup_keeps (t : TypeId) (x k : AV) (ok : Bool) (m : AMem) : Keeps (aLookup P t x k ok m) m := by
  unfold aLookup
  split
  · refine .bif ?_ (.fail _ _)
    split
    · exact .fail _ _
    · split
      · exact found_keeps
      · intro v m' h hn
        obtain ⟨ro, ck, es, _, h⟩ := mapK_inv h
        split at h
        · exact found_keeps v m' h hn
        · exact found_keeps v m' h hn
        · cases h
      · exact .fail _ _
  · exact .fail _ _

theorem iBool_keeps {r : Bool} {m : AMem} : Keeps (iBool r m) m := by cases r <;> exact .mk _ _
theorem flip_keeps {op : BinOp} {r : Bool} {m : AMem} : Keeps (flip op r m) m := by
  cases op <;> first | exact iBool_keeps | exact .fail _ _
theorem wrap_keeps {k : IntKind} {n : Int} {m : AMem} : Keeps (wrapK k n fun n => .mk (.int k n) m) m := by rw [wrapK_eq]; exact .mk _ _
theorem fInt_keeps {k : IntKind} {n : Int} {m : AMem} : Keeps (fInt n fun n => .mk (.int k n) m) m := by rw [fInt_eq]; exact .mk _ _
theorem iBits_keeps {f : Nat → Nat → Nat} {k : IntKind} {a b : Int} {m : AMem} : Keeps (iBits f k a b m) m := by
  cases a with
  | negSucc _ => exact .fail _ _
  | ofNat x => cases b with
    | negSucc _ => exact .fail _ _
    | ofNat y => exact .bif wrap_keeps (.fail _ _)
theorem iBin_keeps {op : BinOp} {k k' : IntKind} {a b : Int} {m : AMem} : Keeps (iBin op k a k' b m) m := by
  unfold iBin
  refine .bif ?_ (.bif ?_ (.fail _ _))
  · cases op <;> first | exact .fail _ _ | (cases b <;> first | exact .fail _ _ | exact wrap_keeps | exact fInt_keeps)
  · cases op <;> first
      | exact .fail _ _
      | exact wrap_keeps
      | exact iBool_keeps
      | exact iBits_keeps
      | exact .bif (.fail _ _) wrap_keeps
      | exact .bif (.fail _ _) (.bif (.mk _ _) fInt_keeps)
theorem aStr_keeps {op : BinOp} {a b : List Nat} {m : AMem} : Keeps (aStr op a b m) m := by
  unfold aStr; split <;> first | exact .bif (.mk _ _) (.fail _ _) | exact iBool_keeps | exact .fail _ _
theorem aNil_keeps {op : BinOp} {t : TypeId} {x y : AV} {m : AMem} : Keeps (aNil P op t x y m) m := by
  unfold aNil; split
  · exact .bif flip_keeps (.fail _ _)
  · exact .fail _ _
theorem aAggEq_keeps {op : BinOp} {t : TypeId} {x y : List AV} {m : AMem} : Keeps (aAggEq P op t x y m) m := by
  unfold aAggEq; split
  · refine .bif ?_ (.fail _ _)
    split
    · exact flip_keeps
    · exact .fail _ _
  · exact .fail _ _
theorem aIface_keeps {op : BinOp} {t : TypeId} {l : Bool} {x y : AV} {m : AMem} : Keeps (aIface P op t l x y m) m := by
  unfold aIface; split
  · exact .bif flip_keeps (.fail _ _)
  · exact flip_keeps
  · exact flip_keeps
  · exact .fail _ _
theorem onInt_keeps {x : AV} {f : IntKind → Int → OR} {d : OR} {m : AMem} (h : ∀ k a, Keeps (f k a) m) (h' : Keeps d m) : Keeps (x.onInt f d) m := by cases x <;> first | exact h' | exact h _ _
theorem onStr_keeps {x : AV} {f : List Nat → OR} {d : OR} {m : AMem} (h : ∀ a, Keeps (f a) m) (h' : Keeps d m) : Keeps (x.onStr f d) m := by cases x <;> first | exact h' | exact h _
theorem onBool_keeps {x : AV} {f : Bool → OR} {d : OR} {m : AMem} (h : ∀ a, Keeps (f a) m) (h' : Keeps d m) : Keeps (x.onBool f d) m := by cases x <;> first | exact h' | exact h _
theorem onAgg_keeps {x : AV} {f : List AV → OR} {d : OR} {m : AMem} (h : ∀ a, Keeps (f a) m) (h' : Keeps d m) : Keeps (x.onAgg f d) m := by cases x <;> first | exact h' | exact h _
theorem onPtr_keeps {x : AV} {f : Nat → Nat → OR} {d : OR} {m : AMem} (h : ∀ a b, Keeps (f a b) m) (h' : Keeps d m) : Keeps (x.onPtr f d) m := by cases x <;> first | exact h' | exact h _ _
theorem aBinRest_keeps {op : BinOp} {t : TypeId} {l : Bool} {x y : AV} {m : AMem} : Keeps (aBinRest P op t l x y m) m := by
  unfold aBinRest
  split
  · refine onBool_keeps (fun b => ?_) (.fail _ _)
    split
    · exact flip_keeps
    · exact .fail _ _
  · exact onAgg_keeps (fun _ => aAggEq_keeps) (.fail _ _)
  · exact aIface_keeps
  · exact aIface_keeps
  · exact aNil_keeps
theorem aBin_keeps {op : BinOp} {t : TypeId} {l : Bool} {x y : AV} {m : AMem} : Keeps (aBin P op t l x y m) m := by
  unfold aBin
  exact onInt_keeps (fun _ _ => onInt_keeps (fun _ _ => iBin_keeps) (.fail _ _)) (onStr_keeps (fun _ => onStr_keeps (fun _ => aStr_keeps) (.fail _ _)) aBinRest_keeps)
theorem aPtrEq_keeps {op : BinOp} {t : TypeId} {b o b' o' : Nat} {m : AMem} : Keeps (aPtrEq P op t b o b' o' m) m := by
  unfold aPtrEq; split
  · split
    · refine .bif (.fail _ _) (.bif flip_keeps ?_)
      split
      · exact .bif (.fail _ _) flip_keeps
      · exact .fail _ _
    · exact .fail _ _
  · exact .fail _ _
theorem aBin2_keeps {op : BinOp} {t : TypeId} {l : Bool} {x y : AV} {m : AMem} : Keeps (aBin2 P op t l x y m) m := by
  unfold aBin2
  exact onPtr_keeps (fun _ _ => onPtr_keeps (fun _ _ => aPtrEq_keeps) aBin_keeps) aBin_keeps

theorem evO_keeps {t : T AV} {x : Option Operand} {k : Option AV → OR} {m : AMem} (h : ∀ v, Keeps (k v) m) : Keeps (evO t x k) m := by rw [evO_eq]; exact h _
theorem evK_keeps {t : T AV} {x : Operand} {k : AV → OR} {m : AMem} (h : ∀ v, Keeps (k v) m) : Keeps (evK t x k) m := by rw [evK_eq]; exact h _

theorem reads_keeps {o : Op} (hk : opKind o = 1) (t : T AV) (m : AMem) : Keeps (opTab o P call t m) m := by
  cases o <;> first | (cases hk; done) | skip
  · exact evK_keeps fun a => aLoad_keeps _ _ _
  · exact evK_keeps fun a => evK_keeps fun _ => aBin2_keeps
  · exact evK_keeps fun a => aConvert_keeps _ _ _ _
  · exact evK_keeps fun a => evO_keeps fun _ => evO_keeps fun _ => evO_keeps fun _ => aSlice_keeps _ _ _ _ _ _
  · exact evK_keeps fun a => evK_keeps fun _ => aLookup_keeps _ _ _ _ _
  · rename_i c
    obtain ⟨callee, args, ats⟩ := c
    cases callee <;> first | (cases hk; done) | skip
    rename_i b
    cases b <;> cases hk
end

/-! ### What is the same -/

theorem bif2_and {a b : Bool} (h : bif2 a b false = true) : a = true ∧ b = true := by cases a; cases h; exact ⟨rfl, h⟩

theorem eqV_both : ∀ n : Nat, (∀ a b : AV, eqV n a b = true → a = b) ∧ (∀ l m : List AV, eqV.eqVs n l m = true → l = m)
  | 0 => ⟨fun a b h => (by unfold eqV at h; cases h), fun l m h => (by unfold eqV.eqVs at h; cases h)⟩
  | n + 1 => by
    obtain ⟨ih, ihs⟩ := eqV_both n
    refine ⟨fun a b h => ?_, fun l m h => ?_⟩
    · unfold eqV at h
      split at h
      · rw [eq_of_beq h]
      · obtain ⟨h1, h2⟩ := bif2_and h
        rw [iEq_eq] at h2
        rw [kEq_eq h1, eq_of_beq h2]
      · rw [lEq_eq] at h; rw [eq_of_beq h]
      · obtain ⟨h1, h2⟩ := bif2_and h
        rw [Nat.eq_of_beq_eq_true h1, Nat.eq_of_beq_eq_true h2]
      · rfl
      · obtain ⟨h1, h2⟩ := bif2_and h
        obtain ⟨h2, h3⟩ := bif2_and h2
        rw [Nat.eq_of_beq_eq_true h1, Nat.eq_of_beq_eq_true h2, Nat.eq_of_beq_eq_true h3]
      · obtain ⟨h1, h2⟩ := bif2_and h
        obtain ⟨h2, h3⟩ := bif2_and h2
        obtain ⟨h3, h4⟩ := bif2_and h3
        rw [Nat.eq_of_beq_eq_true h1, Nat.eq_of_beq_eq_true h2, Nat.eq_of_beq_eq_true h3, Nat.eq_of_beq_eq_true h4]
      · rfl
      · rfl
      · rw [Nat.eq_of_beq_eq_true h]
      · rfl
      · rfl
      · obtain ⟨h1, h2⟩ := bif2_and h
        rw [Nat.eq_of_beq_eq_true h1, ihs _ _ h2]
      · obtain ⟨h1, h2⟩ := bif2_and h
        rw [Nat.eq_of_beq_eq_true h1, ih _ _ h2]
      · rfl
      · rw [ihs _ _ h]
      · rw [ihs _ _ h]
      · cases h
    · unfold eqV.eqVs at h
      split at h
      · cases h
      · rfl
      · rename_i e
        cases e
        obtain ⟨h1, h2⟩ := bif2_and h
        rw [ih _ _ h1, ihs _ _ h2]
      · cases h

theorem eqV_eq {n : Nat} {a b : AV} (h : eqV n a b = true) : a = b := (eqV_both n).1 a b h

/-! ### Masks -/

theorem bitA_eq (a i : Nat) : bitA a i = a.testBit i := by
  have e : bitA a i = Nat.beq ((a >>> i) &&& 1) 1 := rfl
  rw [e, Nat.testBit, Nat.and_comm 1]
  rcases Nat.mod_two_eq_zero_or_one (a >>> i) with h | h <;> rw [Nat.and_one_is_mod, h] <;> rfl

theorem subA_spec {a b : Nat} (h : subA a b = true) {i : Nat} (hi : a.testBit i = true) : b.testBit i = true := by
  have e : a &&& b = a := Nat.eq_of_beq_eq_true h
  have := congrArg (fun n => n.testBit i) e
  simp only [Nat.testBit_and, hi, Bool.true_and] at this
  exact this

end Go.Ev
end
section
namespace Go.Ev

section
variable {P : Program} {call : Call} {nt : Nat} {all : Array Oper}

theorem dstK_get {dst : Option Tmp} {v : AV} {t : T AV} {k : T AV → Res} {x : X} {t' : T AV} {m' : AMem} (h : dstK nt dst v t k = .mk x t' m') :
    ∃ t1, k t1 = .mk x t' m' ∧ (∀ d, dst = some d → d < nt) ∧ ∀ u, t1.get u = if dst = some u then some v else t.get u := by
  cases dst with
  | none => exact ⟨t, h, fun d e => (by cases e), fun u => by simp⟩
  | some d =>
    have h : bif2 (Nat.blt d nt) (T.setK (.fail 121) (some v) t d k) (.fail 122) = .mk x t' m' := h
    rw [bif2_eq] at h
    split at h
    · rename_i hd
      have hd : d < nt := by simpa [Nat.blt_eq] using hd
      rcases T.setK_eq (Res.fail 121) (some v) t d k with e | ⟨t1, ht, e⟩
      · rw [e] at h; cases h
      · rw [e] at h
        refine ⟨t1, h, fun d' e => (by cases e; exact hd), fun u => ?_⟩
        rw [ht]
        by_cases hu : u = d
        · subst hu; simp
        · rw [if_neg hu, if_neg (fun e => hu (by cases e; rfl))]
    · cases h

/-- What one operation does. -/
inductive Did (P : Program) (call : Call) (o : Op) (a j : Nat) (t : T AV) (m : AMem) (d : DSt) (v : AV) : Bool → Bool → Option Blk → AMem → DSt → Prop
  | skip (hv : v = .undef) : Did P call o a j t m d v false false none m d
  | pure (h : opTab o P call t ⟨m.next, .leaf⟩ = .mk v ⟨m.next, .leaf⟩) : Did P call o a j t m d v true false none m d
  | alloc (y : Blk) (t2 : T Blk) (tr : T Blk) (h : opTab o P call t ⟨m.next, .leaf⟩ = .mk v ⟨m.next + 1, t2⟩) (hy : t2.get m.next = some y) (ht : ∀ i, tr.get i = if i = m.next then some y else m.t.get i) :
      Did P call o a j t m d v true false (some y) ⟨m.next + 1, tr⟩ ⟨d.als ||| (1 <<< j), d.alc ||| (1 <<< j), d.hv, d.base, d.st, d.pend⟩
  | read (hk : opKind o = 1) (h : opTab o P call t m = .mk v m) (hb : subA d.alc a = true ∨ readsA P call o t d.base v = true) (hc : atCuts P call o t v a d.st = true) :
      Did P call o a j t m d v true false none m ⟨d.als, d.alc, d.hv, d.base, d.st, ⟨j, o, t, v⟩ :: d.pend⟩
  | heavy (m1 : AMem) (pend : List Pend) (h1 : subA d.hv a = true) (h2 : subA d.als a = true) (h : opTab o P call t m = .mk v m1) (hn : m.next ≤ m1.next)
      (hp : ∀ p ∈ d.pend, bitA a p.j = true ∨ (readsA P call p.op p.t m1 p.v = true ∧ p ∈ pend)) :
      Did P call o a j t m d v true true none m1 ⟨d.als, 0, d.hv ||| (1 <<< j), m1, (j, d.base) :: d.st, pend⟩

theorem pendK_inv {a : Nat} {m : AMem} {x : X} {t' : T AV} {m' : AMem} : ∀ {l : List Pend} {k : List Pend → Res}, pendK P call a m l k = .mk x t' m' →
    ∃ l', k l' = .mk x t' m' ∧ ∀ p ∈ l, bitA a p.j = true ∨ (readsA P call p.op p.t m p.v = true ∧ p ∈ l')
  | [], k, h => ⟨[], h, fun p hp => by cases hp⟩
  | q :: l, k, h => by
    have h : bif2 (bitA a q.j) (pendK P call a m l k) (bif2 (readsA P call q.op q.t m q.v) (pendK P call a m l fun l => k (q :: l)) (.fail 131)) = .mk x t' m' := h
    rw [bif2_eq, bif2_eq] at h
    split at h
    · rename_i hb
      obtain ⟨l', h1, h2⟩ := pendK_inv h
      refine ⟨l', h1, fun p hp => ?_⟩
      rcases List.mem_cons.1 hp with rfl | hp
      · exact .inl hb
      · exact h2 p hp
    · split at h
      · rename_i hr
        obtain ⟨l', h1, h2⟩ := pendK_inv h
        refine ⟨q :: l', h1, fun p hp => ?_⟩
        rcases List.mem_cons.1 hp with rfl | hp
        · exact .inr ⟨hr, by simp⟩
        · exact (h2 p hp).imp id fun ⟨a, b⟩ => ⟨a, List.mem_cons_of_mem _ b⟩
      · cases h

theorem isLeaf_eq {t : T Blk} (h : isLeaf t = true) : t = .leaf := by cases t <;> first | rfl | cases h

theorem goD_inv {dst : Option Tmp} {op : Op} {a j : Nat} {t : T AV} {m : AMem} {d : DSt} {k : KD} {x : X} {t' : T AV} {m' : AMem} (h : goD P call nt dst op a j t m d k = .mk x t' m') :
    ∃ v hv y t1 m1 d1, Did P call op a j t m d v true hv y m1 d1 ∧ k t1 m1 d1 = .mk x t' m' ∧ (∀ d, dst = some d → d < nt) ∧ ∀ u, t1.get u = if dst = some u then some v else t.get u := by
  unfold goD at h
  rw [bif2_eq] at h
  split at h
  · -- one that turns memory
    unfold heavyD at h
    rw [bif2_eq, bif2_eq] at h
    split at h
    · rename_i h1
      split at h
      · rename_i h2
        cases ho : opTab op P call t m with
        | fail c => rw [ho] at h; cases h
        | mk v m1 =>
          rw [ho] at h
          have h : bif2 (Nat.ble m.next m1.next) (pendK P call a m1 d.pend fun pend => dstK nt dst v t fun t => fNat (Nat.lor d.hv (Nat.shiftLeft 1 j)) fun hv => k t m1 ⟨d.als, 0, hv, m1, (j, d.base) :: d.st, pend⟩) (.fail 132) = .mk x t' m' := h
          rw [bif2_eq] at h
          split at h
          · rename_i h3
            obtain ⟨pend, h, hp⟩ := pendK_inv h
            obtain ⟨t1, h, h4, h5⟩ := dstK_get h
            rw [fNat_eq] at h
            exact ⟨v, true, none, t1, m1, _, .heavy m1 pend h1 h2 ho (by simpa [Nat.ble_eq] using h3) hp, h, h4, h5⟩
          · cases h
      · cases h
    · cases h
  · cases ho : opTab op P call t ⟨m.next, .leaf⟩ with
    | fail c =>
      rw [ho] at h
      have h : readD P call nt dst op a j t m d k = .mk x t' m' := h
      unfold readD at h
      rw [bif2_eq] at h
      split at h
      · rename_i hk
        have hk : opKind op = 1 := Nat.eq_of_beq_eq_true hk
        cases ho2 : opTab op P call t m with
        | fail c => rw [ho2] at h; cases h
        | mk v m1 =>
          rw [ho2] at h
          have h : bif2 (Nat.beq m1.next m.next) (bif2 (bif2 (subA d.alc a) true (readsA P call op t d.base v)) (bif2 (atCuts P call op t v a d.st)
            (dstK nt dst v t fun t1 => k t1 m ⟨d.als, d.alc, d.hv, d.base, d.st, ⟨j, op, t, v⟩ :: d.pend⟩) (.fail 135)) (.fail 136)) (.fail 137) = .mk x t' m' := h
          rw [bif2_eq, bif2_eq, bif2_eq (atCuts P call op t v a d.st)] at h
          split at h
          · rename_i h1
            have e := reads_keeps hk t m v m1 ho2 (Nat.eq_of_beq_eq_true h1)
            subst e
            split at h
            · rename_i h2
              split at h
              · rename_i h3
                obtain ⟨t1, h, h4, h5⟩ := dstK_get h
                refine ⟨v, false, none, t1, _, _, .read hk ho2 ?_ h3, h, h4, h5⟩
                cases hs : subA d.alc a with
                | true => exact .inl rfl
                | false => rw [hs] at h2; exact .inr h2
              · cases h
            · cases h
          · cases h
      · cases h
    | mk v m1 =>
      rw [ho] at h
      replace h : bif2 (Nat.beq m1.next m.next) (bif2 (isLeaf m1.t) (dstK nt dst v t fun t => k t m d) (.fail 140))
        (bif2 (Nat.beq m1.next (Nat.succ m.next)) (@Option.rec Blk (fun _ => Res) (.fail 141) (newD nt dst v j t m d k) (m1.t.get m.next)) (.fail 142)) = .mk x t' m' := h
      obtain ⟨n1, tr1⟩ := m1
      rw [bif2_eq, bif2_eq, bif2_eq] at h
      split at h
      · rename_i h1
        have h1 : n1 = m.next := Nat.eq_of_beq_eq_true h1
        subst h1
        split at h
        · rename_i h2
          have h2 : tr1 = .leaf := isLeaf_eq h2
          subst h2
          obtain ⟨t1, h, h4, h5⟩ := dstK_get h
          exact ⟨v, false, none, t1, m, d, .pure ho, h, h4, h5⟩
        · cases h
      · split at h
        · rename_i h2
          have h2 : n1 = m.next + 1 := Nat.eq_of_beq_eq_true h2
          subst h2
          cases hg : tr1.get m.next with
          | none => simp only [hg] at h; cases h
          | some y =>
            simp only [hg] at h
            have h : newD nt dst v j t m d k y = .mk x t' m' := h
            unfold newD at h
            rcases T.setK_eq (Res.fail 139) (some y) m.t m.next (fun tr => fNat (Nat.succ m.next) fun nx => dstK nt dst v t fun t => fNat (Nat.lor d.als (Nat.shiftLeft 1 j)) fun als => fNat (Nat.lor d.alc (Nat.shiftLeft 1 j)) fun alc =>
              k t ⟨nx, tr⟩ ⟨als, alc, d.hv, d.base, d.st, d.pend⟩) with e | ⟨tr, htr, e⟩
            · rw [e] at h; cases h
            · rw [e, fNat_eq] at h
              obtain ⟨t1, h, h4, h5⟩ := dstK_get h
              rw [fNat_eq, fNat_eq] at h
              exact ⟨v, false, some y, t1, _, _, .alloc y tr1 tr ho hg htr, h, h4, h5⟩
        · cases h

theorem regD_inv {o : Oper} {a j : Nat} {t : T AV} {m : AMem} {d : DSt} {k : KD} {x : X} {t' : T AV} {m' : AMem} (h : regD P call nt all o a j t m d k = .mk x t' m') :
    ∃ b v hv y t1 m1 d1, (match o.guard with | none => some true | some g => wantedA all t g.1 g.2) = some b ∧ Did P call o.op a j t m d v b hv y m1 d1 ∧ k t1 m1 d1 = .mk x t' m' ∧ (∀ d, o.dst = some d → d < nt) ∧
      ∀ u, t1.get u = if o.dst = some u then some v else t.get u := by
  obtain ⟨dst, op, ty, pos, after, guard⟩ := o
  cases guard with
  | none =>
    obtain ⟨v, hv, y, t1, m1, d1, h1, h2, h3, h4⟩ := goD_inv (show goD P call nt dst op a j t m d k = .mk x t' m' from h)
    exact ⟨true, v, hv, y, t1, m1, d1, rfl, h1, h2, h3, h4⟩
  | some g =>
    have h : @Option.rec Bool (fun _ => Res) (.fail 143) (fun w => bif2 w (goD P call nt dst op a j t m d k) (dstK nt dst .undef t fun t => k t m d)) (wantedA all t g.1 g.2) = .mk x t' m' := h
    cases hw : wantedA all t g.1 g.2 with
    | none => rw [hw] at h; cases h
    | some b =>
      rw [hw] at h
      cases b with
      | true =>
        obtain ⟨v, hv, y, t1, m1, d1, h1, h2, h3, h4⟩ := goD_inv (show goD P call nt dst op a j t m d k = .mk x t' m' from h)
        exact ⟨true, v, hv, y, t1, m1, d1, hw, h1, h2, h3, h4⟩
      | false =>
        obtain ⟨t1, h1, h2, h3⟩ := dstK_get (show (dstK nt dst .undef t fun t => k t m d) = .mk x t' m' from h)
        exact ⟨false, .undef, false, none, t1, m, d, hw, .skip rfl, h1, h2, h3⟩

/-- A run of the region in the order of the text. -/
structure Trace where
  tt : Nat → T AV
  mm : Nat → AMem
  dd : Nat → DSt
  vv : Nat → AV
  bb : Nat → Bool
  hv : Nat → Bool
  al : Nat → Option Blk

noncomputable def Trace.push (R : Trace) (t : T AV) (m : AMem) (d : DSt) (v : AV) (b h : Bool) (y : Option Blk) : Trace where
  tt i := match i with | 0 => t | i + 1 => R.tt i
  mm i := match i with | 0 => m | i + 1 => R.mm i
  dd i := match i with | 0 => d | i + 1 => R.dd i
  vv i := match i with | 0 => v | i + 1 => R.vv i
  bb i := match i with | 0 => b | i + 1 => R.bb i
  hv i := match i with | 0 => h | i + 1 => R.hv i
  al i := match i with | 0 => y | i + 1 => R.al i

/-- What holds at each place of a run that begins at the place j. -/
noncomputable def Trace.At (P : Program) (call : Call) (nt : Nat) (all : Array Oper) (R : Trace) (j i : Nat) (o : Oper) (a : Nat) : Prop :=
  (match o.guard with | none => some true | some g => wantedA all (R.tt i) g.1 g.2) = some (R.bb i) ∧ Did P call o.op a (j + i) (R.tt i) (R.mm i) (R.dd i) (R.vv i) (R.bb i) (R.hv i) (R.al i) (R.mm (i + 1)) (R.dd (i + 1)) ∧
    (∀ d, o.dst = some d → d < nt) ∧ ∀ u, (R.tt (i + 1)).get u = if o.dst = some u then some (R.vv i) else (R.tt i).get u

theorem opsD_trace : ∀ {l : List Oper} {ms : List Nat} {j : Nat} {t : T AV} {m : AMem} {d : DSt} {x : X} {t' : T AV} {m' : AMem}, opsD P call nt all l ms j t m d = .mk x t' m' →
    x = .norm ∧ ∃ R : Trace, R.tt 0 = t ∧ R.mm 0 = m ∧ R.dd 0 = d ∧ R.tt l.length = t' ∧ R.mm l.length = m' ∧ (∀ i, l.length ≤ i → R.hv i = false ∧ R.al i = none) ∧ ∀ i o, l[i]? = some o → ∃ a, ms[i]? = some a ∧ R.At P call nt all j i o a
  | [], ms, j, t, m, d, x, t', m', h => by
    cases h
    exact ⟨rfl, ⟨fun _ => t, fun _ => m, fun _ => d, fun _ => .undef, fun _ => false, fun _ => false, fun _ => none⟩, rfl, rfl, rfl, rfl, rfl, fun i _ => ⟨rfl, rfl⟩, fun i o e => by cases e⟩
  | o :: l, [], j, t, m, d, x, t', m', h => by cases h
  | o :: l, a :: ms, j, t, m, d, x, t', m', h => by
    have h : regD P call nt all o a j t m d (fun t m d => fNat (Nat.succ j) fun j => opsD P call nt all l ms j t m d) = .mk x t' m' := h
    obtain ⟨b, v, hv, y, t1, m1, d1, h1, h2, h3, h4, h5⟩ := regD_inv h
    rw [fNat_eq] at h3
    obtain ⟨hx, R, e1, e2, e3, e4, e5, e7, e6⟩ := opsD_trace h3
    refine ⟨hx, R.push t m d v b hv y, rfl, rfl, rfl, e4, e5, fun i hi => ?_, fun i q e => ?_⟩
    · cases i with
      | zero => simp at hi
      | succ i => exact e7 i (by simpa using hi)
    cases i with
    | zero =>
      cases e
      refine ⟨a, rfl, h1, ?_, h4, fun u => ?_⟩
      · show Did P call o.op a (j + 0) t m d v b hv y (R.mm 0) (R.dd 0)
        rw [e2, e3]; exact h2
      · show (R.tt 0).get u = _
        rw [e1]; exact h5 u
    | succ i =>
      obtain ⟨a', ha, q1, q2, q3, q4⟩ := e6 i q (by simpa using e)
      refine ⟨a', by simpa using ha, q1, ?_, q3, q4⟩
      have e : j + (i + 1) = j + 1 + i := by omega
      show Did P call q.op a' (j + (i + 1)) (R.tt i) (R.mm i) (R.dd i) (R.vv i) (R.bb i) (R.hv i) (R.al i) (R.mm (i + 1)) (R.dd (i + 1))
      rw [e]; exact q2

end
end Go.Ev
end
section
namespace Go.Ev

section
variable {all : Array Oper}

theorem bindsA_eq (e : Edge) : bindsA e = Region.binds .any e := by
  unfold bindsA Region.binds
  cases e.ground <;> rfl

theorem one_shl (n i : Nat) : (1 <<< n : Nat).testBit i = true ↔ i = n := by
  rw [Nat.one_shiftLeft, Nat.testBit_two_pow]
  simp [eq_comm]

theorem ancOf_bit (A : T Nat) (i : Nat) : ∀ l : List Edge, (ancOf A l).testBit i = true ↔ ∃ e, e ∈ l ∧ bindsA e = true ∧ (i = e.on ∨ (natAt A e.on).testBit i = true)
  | [] => by
    have : ancOf A [] = 0 := rfl
    simp [this]
  | e :: l => by
    have h : ancOf A (e :: l) = bif2 (bindsA e) (((1 <<< e.on) ||| natAt A e.on) ||| ancOf A l) (ancOf A l) := rfl
    rw [h, bif2_eq]
    have ih := ancOf_bit A i l
    split
    · rename_i hb
      rw [Nat.testBit_or, Nat.testBit_or, Bool.or_eq_true, Bool.or_eq_true, ih, one_shl]
      constructor
      · rintro (h | ⟨e', h1, h2⟩)
        · exact ⟨e, by simp, hb, h⟩
        · exact ⟨e', by simp [h1], h2⟩
      · rintro ⟨e', h1, h2, h3⟩
        rcases List.mem_cons.1 h1 with rfl | h1
        · exact .inl h3
        · exact .inr ⟨e', h1, h2, h3⟩
    · rename_i hb
      rw [ih]
      constructor
      · rintro ⟨e', h1, h2⟩
        exact ⟨e', by simp [h1], h2⟩
      · rintro ⟨e', h1, h2, h3⟩
        rcases List.mem_cons.1 h1 with rfl | h1
        · exact absurd h2 hb
        · exact ⟨e', h1, h2, h3⟩

theorem lowA_spec {j : Nat} : ∀ {l : List Edge}, lowA j l = true → ∀ e ∈ l, bindsA e = true → e.on < j
  | e :: l, h, e', he, hb => by
    have h : bif2 (bindsA e) (bif2 (Nat.blt e.on j) (lowA j l) false) (lowA j l) = true := h
    rcases List.mem_cons.1 he with rfl | he
    · rw [hb] at h
      have h := (bif2_and h).1
      simpa [Nat.blt_eq] using h
    · rw [bif2_eq] at h
      split at h
      · exact lowA_spec (bif2_and h).2 e' he hb
      · exact lowA_spec h e' he hb

theorem namesA_spec {a : Nat} {W : T Nat} : ∀ {l : List Tmp}, namesA a W l = true → ∀ u ∈ l, subA (natAt W u) a = true
  | u :: l, h, u', hu => by
    have h : bif2 (subA (natAt W u) a) (namesA a W l) false = true := h
    rcases List.mem_cons.1 hu with rfl | hu
    · exact (bif2_and h).1
    · exact namesA_spec (bif2_and h).2 u' hu

theorem natAt_set {t t' : T Nat} {i n : Nat} (h : ∀ j, t'.get j = if j = i then some n else t.get j) (j : Nat) : natAt t' j = if j = i then n else natAt t j := by
  unfold natAt
  rw [h]
  split <;> rfl

theorem addNames_inv {j : Nat} {r : List Nat} : ∀ {l : List Tmp} {N : T Nat} {k : T Nat → Option (List Nat)}, addNames j l N k = some r →
    ∃ N', k N' = some r ∧ ∀ u i, (natAt N' u).testBit i = true ↔ ((natAt N u).testBit i = true ∨ (u ∈ l ∧ i = j))
  | [], N, k, h => ⟨N, h, fun u i => by simp⟩
  | q :: l, N, k, h => by
    have h : fNat (Nat.lor (natAt N q) (Nat.shiftLeft 1 j)) (fun n => T.setK none (some n) N q fun N => addNames j l N k) = some r := h
    rw [fNat_eq] at h
    rcases T.setK_eq (none : Option (List Nat)) (some (Nat.lor (natAt N q) (Nat.shiftLeft 1 j))) N q (fun N => addNames j l N k) with e | ⟨N1, h1, e⟩
    · rw [e] at h; cases h
    · rw [e] at h
      obtain ⟨N', h2, h3⟩ := addNames_inv h
      refine ⟨N', h2, fun u i => ?_⟩
      rw [h3, natAt_set h1]
      by_cases hu : u = q
      · subst hu
        have : Nat.lor (natAt N u) (Nat.shiftLeft 1 j) = natAt N u ||| (1 <<< j) := rfl
        rw [if_pos rfl, this, Nat.testBit_or, Bool.or_eq_true, one_shl]
        constructor
        · rintro ((h | h) | h)
          · exact .inl h
          · exact .inr ⟨by simp, h⟩
          · exact .inr ⟨by simp, h.2⟩
        · rintro (h | h)
          · exact .inl (.inl h)
          · exact .inl (.inr h.2)
      · rw [if_neg hu]
        simp [hu]

/-- What is asked at one place. -/
structure MaskAt (all : Array Oper) (o : Oper) (j : Nat) (A W N : T Nat) (a : Nat) (A' W' N' : T Nat) : Prop where
  eq : a = ancOf A o.after.toList
  low : ∀ e ∈ o.after, bindsA e = true → e.on < j
  names : ∀ u ∈ o.looksAt all, ∀ i, (natAt W u).testBit i = true → a.testBit i = true
  hA : ∀ u, natAt A' u = if u = j then a else natAt A u
  hN : ∀ u i, (natAt N' u).testBit i = true ↔ ((natAt N u).testBit i = true ∨ (u ∈ o.looksAt all ∧ i = j))
  hW : ∀ u, natAt W' u = if o.dst = some u then 1 <<< j else natAt W u
  free : ∀ d, o.dst = some d → natAt W d = 0 ∧ ∀ i, (natAt N' d).testBit i = true → a.testBit i = true

theorem consO_inv {a : Nat} {x : Option (List Nat)} {r : List Nat} (h : consO a x = some r) : ∃ r', x = some r' ∧ r = a :: r' := by
  cases x with
  | none => cases h
  | some l => cases h; exact ⟨l, rfl, rfl⟩

theorem maskOne_inv {o : Oper} {j : Nat} {A W N : T Nat} {k : T Nat → T Nat → T Nat → Option (List Nat)} {r : List Nat} (h : maskOne all o j A W N k = some r) :
    ∃ a A' W' N' r', MaskAt all o j A W N a A' W' N' ∧ k A' W' N' = some r' ∧ r = a :: r' := by
  unfold maskOne at h
  rw [fNat_eq, bif2_eq, bif2_eq] at h
  split at h
  · rename_i h1
    split at h
    · rename_i h2
      obtain ⟨N', h, hN⟩ := addNames_inv h
      rcases T.setK_eq (none : Option (List Nat)) (some (ancOf A o.after.toList)) A j (fun A' => @Option.rec Nat (fun _ => Option (List Nat)) (consO (ancOf A o.after.toList) (k A' W N')) (fun d =>
        bif2 (Nat.beq (natAt W d) 0) (bif2 (subA (natAt N' d) (ancOf A o.after.toList)) (fNat (Nat.shiftLeft 1 j) fun n => T.setK none (some n) W d fun W => consO (ancOf A o.after.toList) (k A' W N')) none) none) o.dst) with e | ⟨A', hA, e⟩
      · rw [e] at h; cases h
      · rw [e] at h
        have hl : ∀ e ∈ o.after, bindsA e = true → e.on < j := fun e he hb => lowA_spec h1 e (by simpa using he) hb
        have hn : ∀ u ∈ o.looksAt all, ∀ i, (natAt W u).testBit i = true → (ancOf A o.after.toList).testBit i = true := fun u hu i hi => subA_spec (namesA_spec h2 u hu) hi
        cases hd : o.dst with
        | none =>
          rw [hd] at h
          obtain ⟨r', h3, h4⟩ := consO_inv h
          exact ⟨_, A', W, N', r', ⟨rfl, hl, hn, natAt_set hA, hN, fun u => by rw [hd]; simp, fun d e => by rw [hd] at e; cases e⟩, h3, h4⟩
        | some d =>
          rw [hd] at h
          have h : bif2 (Nat.beq (natAt W d) 0) (bif2 (subA (natAt N' d) (ancOf A o.after.toList)) (fNat (Nat.shiftLeft 1 j) fun n => T.setK none (some n) W d fun W => consO (ancOf A o.after.toList) (k A' W N')) none) none = some r := h
          rw [bif2_eq, bif2_eq, fNat_eq] at h
          split at h
          · rename_i h5
            split at h
            · rename_i h6
              rcases T.setK_eq (none : Option (List Nat)) (some (Nat.shiftLeft 1 j)) W d (fun W => consO (ancOf A o.after.toList) (k A' W N')) with e | ⟨W', hW, e⟩
              · rw [e] at h; cases h
              · rw [e] at h
                obtain ⟨r', h3, h4⟩ := consO_inv h
                refine ⟨_, A', W', N', r', ⟨rfl, hl, hn, natAt_set hA, hN, fun u => ?_, fun d' e => ?_⟩, h3, h4⟩
                · rw [natAt_set hW, hd]
                  by_cases hu : u = d
                  · subst hu; simp
                  · rw [if_neg hu, if_neg fun e => hu (by cases e; rfl)]
                · rw [hd] at e; cases e
                  exact ⟨Nat.eq_of_beq_eq_true h5, fun i hi => subA_spec h6 hi⟩
            · cases h
          · cases h
    · cases h
  · cases h

theorem masksFrom_inv : ∀ {l : List Oper} {j : Nat} {A W N : T Nat} {r : List Nat}, masksFrom all l j A W N = some r →
    ∃ (AA WW NN : Nat → T Nat), AA 0 = A ∧ WW 0 = W ∧ NN 0 = N ∧ r.length = l.length ∧ ∀ i o, l[i]? = some o → ∃ a, r[i]? = some a ∧ MaskAt all o (j + i) (AA i) (WW i) (NN i) a (AA (i + 1)) (WW (i + 1)) (NN (i + 1))
  | [], j, A, W, N, r, h => by
    cases h
    exact ⟨fun _ => A, fun _ => W, fun _ => N, rfl, rfl, rfl, rfl, fun i o e => by cases e⟩
  | o :: l, j, A, W, N, r, h => by
    have h : maskOne all o j A W N (fun A W N => fNat (Nat.succ j) fun j => masksFrom all l j A W N) = some r := h
    obtain ⟨a, A', W', N', r', h1, h2, rfl⟩ := maskOne_inv h
    rw [fNat_eq] at h2
    obtain ⟨AA, WW, NN, e1, e2, e3, e4, e5⟩ := masksFrom_inv h2
    refine ⟨fun i => match i with | 0 => A | i + 1 => AA i, fun i => match i with | 0 => W | i + 1 => WW i, fun i => match i with | 0 => N | i + 1 => NN i, rfl, rfl, rfl, by simp [e4], fun i q e => ?_⟩
    cases i with
    | zero =>
      cases e
      exact ⟨a, rfl, by simpa [e1, e2, e3] using h1⟩
    | succ i =>
      obtain ⟨a', ha, hm⟩ := e5 i q (by simpa using e)
      refine ⟨a', by simpa using ha, ?_⟩
      have e : j + (i + 1) = j.succ + i := by omega
      simpa [e] using hm

/-- What the masks say. -/
structure MasksOK (all : Array Oper) (anc : Nat → Nat → Prop) : Prop where
  low : ∀ j i, anc j i → i < j
  edge : ∀ (j : Nat) (o : Oper) (e : Edge), all[j]? = some o → e ∈ o.after → Region.binds .any e = true → anc j e.on
  clo : ∀ (j i : Nat) (o : Oper), all[j]? = some o → anc j i → ∃ e, e ∈ o.after ∧ Region.binds .any e = true ∧ (i = e.on ∨ anc e.on i)
  dst : ∀ (i j : Nat) (oi oj : Oper) d, all[i]? = some oi → all[j]? = some oj → oi.dst = some d → oj.dst = some d → i = j
  race : ∀ (i j : Nat) (oi oj : Oper) u, all[i]? = some oi → all[j]? = some oj → u ∈ oj.looksAt all → oi.dst = some u → anc j i ∨ anc i j

theorem masks_ok {ms : List Nat} (h : masks all = some ms) : ms.length = all.size ∧ MasksOK all fun j i => ∃ a, ms[j]? = some a ∧ Nat.testBit a i = true := by
  obtain ⟨AA, WW, NN, e1, e2, e3, e4, e5⟩ := masksFrom_inv (show masksFrom all all.toList 0 .leaf .leaf .leaf = some ms from h)
  have step : ∀ (i : Nat) (o : Oper), all[i]? = some o → ∃ a, ms[i]? = some a ∧ MaskAt all o i (AA i) (WW i) (NN i) a (AA (i + 1)) (WW (i + 1)) (NN (i + 1)) := fun i o ho => by
    obtain ⟨a, h1, h2⟩ := e5 i o (by simpa using ho)
    rw [Nat.zero_add] at h2
    exact ⟨a, h1, h2⟩
  have sz : ∀ {i}, i < all.size → ∃ o, all[i]? = some o := fun {i} hi => ⟨all[i], by simp [hi]⟩
  have hA : ∀ j, j ≤ all.size → ∀ i a, i < j → ms[i]? = some a → natAt (AA j) i = a := by
    intro j
    induction j with
    | zero => intro _ i a hi; omega
    | succ j ih =>
      intro hj i a hi ha
      obtain ⟨o, ho⟩ := sz (show j < all.size by omega)
      obtain ⟨a', h1, h2⟩ := step j o ho
      rw [h2.hA]
      by_cases e : i = j
      · subst e; rw [ha] at h1; cases h1; simp
      · rw [if_neg e]; exact ih (by omega) i a (by omega) ha
  have hW : ∀ j, j ≤ all.size → ∀ u i, (natAt (WW j) u).testBit i = true ↔ i < j ∧ ∃ o, all[i]? = some o ∧ o.dst = some u := by
    intro j
    induction j with
    | zero =>
      intro _ u i
      have : natAt (T.leaf : T Nat) u = 0 := rfl
      rw [e2, this]; simp
    | succ j ih =>
      intro hj u i
      obtain ⟨o, ho⟩ := sz (show j < all.size by omega)
      obtain ⟨a', h1, h2⟩ := step j o ho
      rw [h2.hW]
      by_cases hd : o.dst = some u
      · rw [if_pos hd, one_shl]
        have h0 := (h2.free u hd).1
        constructor
        · rintro rfl; exact ⟨by omega, o, ho, hd⟩
        · rintro ⟨hi, o', ho', hd'⟩
          by_cases e : i = j
          · exact e
          · have := (ih (by omega) u i).2 ⟨by omega, o', ho', hd'⟩
            rw [h0] at this; simp at this
      · rw [if_neg hd, ih (by omega)]
        constructor
        · rintro ⟨a, b⟩; exact ⟨by omega, b⟩
        · rintro ⟨a, o', ho', hd'⟩
          refine ⟨?_, o', ho', hd'⟩
          by_cases e : i = j
          · subst e; rw [ho] at ho'; cases ho'; exact absurd hd' hd
          · omega
  have hN : ∀ j, j ≤ all.size → ∀ u i, (natAt (NN j) u).testBit i = true ↔ i < j ∧ ∃ o, all[i]? = some o ∧ u ∈ o.looksAt all := by
    intro j
    induction j with
    | zero =>
      intro _ u i
      have : natAt (T.leaf : T Nat) u = 0 := rfl
      rw [e3, this]; simp
    | succ j ih =>
      intro hj u i
      obtain ⟨o, ho⟩ := sz (show j < all.size by omega)
      obtain ⟨a', h1, h2⟩ := step j o ho
      rw [h2.hN, ih (by omega)]
      constructor
      · rintro (⟨a, b⟩ | ⟨a, rfl⟩)
        · exact ⟨by omega, b⟩
        · exact ⟨by omega, o, ho, a⟩
      · rintro ⟨a, o', ho', hd'⟩
        by_cases e : i = j
        · subst e; rw [ho] at ho'; cases ho'; exact .inr ⟨hd', rfl⟩
        · exact .inl ⟨by omega, o', ho', hd'⟩
  have bit : ∀ (j : Nat) (o : Oper) (i : Nat), all[j]? = some o → ((∃ a, ms[j]? = some a ∧ Nat.testBit a i = true) ↔ ∃ e, e ∈ o.after ∧ Region.binds .any e = true ∧ (i = e.on ∨ ∃ a, ms[e.on]? = some a ∧ Nat.testBit a i = true)) := by
    intro j o i ho
    have hj : j < all.size := (Array.getElem?_eq_some_iff.1 ho).1
    obtain ⟨a, h1, h2⟩ := step j o ho
    have nat : ∀ e ∈ o.after, bindsA e = true → ∃ a', ms[e.on]? = some a' ∧ natAt (AA j) e.on = a' := fun e he hb => by
      have hlt := h2.low e he hb
      obtain ⟨o', ho'⟩ := sz (show e.on < all.size by omega)
      obtain ⟨a', h1', _⟩ := step e.on o' ho'
      exact ⟨a', h1', hA j (by omega) _ _ hlt h1'⟩
    constructor
    · rintro ⟨a', ha', hb⟩
      rw [h1] at ha'; cases ha'
      rw [h2.eq, ancOf_bit] at hb
      obtain ⟨e, q1, q2, q3⟩ := hb
      have q1 : e ∈ o.after := by simpa using q1
      obtain ⟨a', w1, w2⟩ := nat e q1 q2
      exact ⟨e, q1, by rw [← bindsA_eq]; exact q2, q3.imp id fun q => ⟨a', w1, by rw [← w2]; exact q⟩⟩
    · rintro ⟨e, q1, q2, q3⟩
      rw [← bindsA_eq] at q2
      refine ⟨a, h1, ?_⟩
      rw [h2.eq, ancOf_bit]
      obtain ⟨a', w1, w2⟩ := nat e q1 q2
      refine ⟨e, by simpa using q1, q2, q3.imp id ?_⟩
      rintro ⟨a2, w3, w4⟩
      rw [w1] at w3; cases w3
      rw [w2]; exact w4
  have low : ∀ (j i : Nat), (∃ a, ms[j]? = some a ∧ Nat.testBit a i = true) → i < j := by
    intro j
    induction j using Nat.strongRecOn with
    | _ j ih =>
      intro i hh
      have hj : j < all.size := by
        obtain ⟨a, ha, _⟩ := hh
        have := (List.getElem?_eq_some_iff.1 ha).1
        simpa [e4] using this
      obtain ⟨o, ho⟩ := sz hj
      obtain ⟨a, h1, h2⟩ := step j o ho
      obtain ⟨e, q1, q2, q3⟩ := (bit j o i ho).1 hh
      have hlt := h2.low e q1 (by rw [bindsA_eq]; exact q2)
      rcases q3 with rfl | q3
      · exact hlt
      · have := ih e.on hlt i q3; omega
  refine ⟨by simpa using e4, low, fun j o e ho he hb => (bit j o _ ho).2 ⟨e, he, hb, .inl rfl⟩, fun j i o ho hh => (bit j o i ho).1 hh, ?_, ?_⟩
  · have main : ∀ (i j : Nat) (oi oj : Oper) d, i < j → all[i]? = some oi → all[j]? = some oj → oi.dst = some d → oj.dst = some d → False := fun i j oi oj d hij hi hj h1 h2 => by
      have hjs : j < all.size := (Array.getElem?_eq_some_iff.1 hj).1
      obtain ⟨a, _, hm⟩ := step j oj hj
      have h0 := (hm.free d h2).1
      have := (hW j (by omega) d i).2 ⟨hij, oi, hi, h1⟩
      rw [h0] at this; simp at this
    intro i j oi oj d hi hj h1 h2
    rcases Nat.lt_trichotomy i j with h | h | h
    · exact (main i j oi oj d h hi hj h1 h2).elim
    · exact h
    · exact (main j i oj oi d h hj hi h2 h1).elim
  · intro i j oi oj u hi hj hu hd
    have his : i < all.size := (Array.getElem?_eq_some_iff.1 hi).1
    have hjs : j < all.size := (Array.getElem?_eq_some_iff.1 hj).1
    rcases Nat.lt_or_ge i j with h | h
    · obtain ⟨a, h1, hm⟩ := step j oj hj
      exact .inl ⟨a, h1, hm.names u hu i ((hW j (by omega) u i).2 ⟨h, oi, hi, hd⟩)⟩
    · obtain ⟨a, h1, hm⟩ := step i oi hi
      exact .inr ⟨a, h1, (hm.free u hd).2 j ((hN (i + 1) (by omega) u j).2 ⟨by omega, oj, hj, hu⟩)⟩

end
end Go.Ev
end
section
namespace Go.Ev

section
variable {P : Program} {call : Call} {nt : Nat} {all : Array Oper}

/-- Where memory stands: ahead of all, or behind one that turns it. -/
noncomputable def Cut (hv : Nat → Bool) (s : Nat) : Prop := s = 0 ∨ ∃ h, hv h = true ∧ s = h + 1

/-- What one operation does, wherever it comes. -/
inductive Kind (P : Program) (call : Call) (R : Trace) (anc : Nat → Nat → Prop) (j : Nat) (o : Op) : Prop
  | skip (hb : R.bb j = false) (hv : R.vv j = .undef) (hm : R.mm (j + 1) = R.mm j) (hh : R.hv j = false) (ha : R.al j = none)
  | pure (hb : R.bb j = true) (hm : R.mm (j + 1) = R.mm j) (hh : R.hv j = false) (ha : R.al j = none) (h : opTab o P call (R.tt j) ⟨(R.mm j).next, .leaf⟩ = .mk (R.vv j) ⟨(R.mm j).next, .leaf⟩)
  | alloc (hb : R.bb j = true) (hh : R.hv j = false) (y : Blk) (t2 : T Blk) (ha : R.al j = some y) (h : opTab o P call (R.tt j) ⟨(R.mm j).next, .leaf⟩ = .mk (R.vv j) ⟨(R.mm j).next + 1, t2⟩) (hy : t2.get (R.mm j).next = some y)
      (hn : (R.mm (j + 1)).next = (R.mm j).next + 1) (ht : ∀ i, (R.mm (j + 1)).t.get i = if i = (R.mm j).next then some y else (R.mm j).t.get i)
  | read (hb : R.bb j = true) (hm : R.mm (j + 1) = R.mm j) (hh : R.hv j = false) (ha : R.al j = none)
      (h : ∀ s, Cut R.hv s → (∀ h, R.hv h = true → h < s → ¬ anc h j) → (∀ h, R.hv h = true → s ≤ h → ¬ anc j h) → ∃ μ, opTab o P call (R.tt j) μ = .mk (R.vv j) μ ∧
        (μ = R.mm s ∨ (s ≤ j ∧ μ = R.mm j ∧ (∀ h, R.hv h = true → s ≤ h → j ≤ h) ∧ ∀ i y, s ≤ i → i < j → R.al i = some y → anc j i)))
  | heavy (hb : R.bb j = true) (hh : R.hv j = true) (ha : R.al j = none) (h : opTab o P call (R.tt j) (R.mm j) = .mk (R.vv j) (R.mm (j + 1))) (hn : (R.mm j).next ≤ (R.mm (j + 1)).next)

structure Facts (P : Program) (call : Call) (nt : Nat) (all : Array Oper) (R : Trace) (anc : Nat → Nat → Prop) : Prop where
  masks : MasksOK all anc
  dlt : ∀ (j : Nat) (o : Oper) d, all[j]? = some o → o.dst = some d → d < nt
  tset : ∀ (j : Nat) (o : Oper) u, all[j]? = some o → (R.tt (j + 1)).get u = if o.dst = some u then some (R.vv j) else (R.tt j).get u
  want : ∀ (j : Nat) (o : Oper), all[j]? = some o → (match o.guard with | none => some true | some g => wantedA all (R.tt j) g.1 g.2) = some (R.bb j)
  kind : ∀ (j : Nat) (o : Oper), all[j]? = some o → Kind P call R anc j o.op
  size : ∀ h, R.hv h = true → h < all.size
  asize : ∀ i y, R.al i = some y → i < all.size
  heav : ∀ h h', R.hv h = true → R.hv h' = true → h < h' → anc h' h
  hal : ∀ h i y, R.hv h = true → i < h → R.al i = some y → anc h i

theorem readsA_eq {o : Op} (hk : opKind o = 1) {t : T AV} {m : AMem} {v : AV} (h : readsA P call o t m v = true) : opTab o P call t m = .mk v m := by
  unfold readsA at h
  cases ho : opTab o P call t m with
  | fail c => rw [ho] at h; cases h
  | mk u m1 =>
    rw [ho] at h
    have h : bif2 (Nat.beq m1.next m.next) (eqV 40 u v) false = true := h
    obtain ⟨h1, h2⟩ := bif2_and h
    rw [reads_keeps hk t m u m1 ho (Nat.eq_of_beq_eq_true h1), eqV_eq h2]

theorem atCuts_app {o : Op} {t : T AV} {v : AV} {a : Nat} {c : Nat × AMem} {l2 : List (Nat × AMem)} : ∀ {l1 : List (Nat × AMem)}, atCuts P call o t v a (l1 ++ c :: l2) = true →
    (∀ q ∈ l1, bitA a q.1 = false) → bitA a c.1 = false → readsA P call o t c.2 v = true
  | [], h, _, hc => by
    have h : bif2 (bitA a c.1) true (bif2 (readsA P call o t c.2 v) (atCuts P call o t v a l2) false) = true := h
    rw [hc] at h
    exact (bif2_and h).1
  | q :: l1, h, hl, hc => by
    have h : bif2 (bitA a q.1) true (bif2 (readsA P call o t q.2 v) (atCuts P call o t v a (l1 ++ c :: l2)) false) = true := h
    rw [hl q (by simp)] at h
    exact atCuts_app (bif2_and h).2 (fun q hq => hl q (by simp [hq])) hc

/-- What the run knows at each place of what was ahead of it. -/
structure Known (all : Array Oper) (R : Trace) (anc : Nat → Nat → Prop) (j : Nat) (d : DSt) : Prop where
  als : ∀ i y, i < j → R.al i = some y → d.als.testBit i = true
  alc : ∀ i y, i < j → R.al i = some y → (∀ h, R.hv h = true → i ≤ h → j ≤ h) → d.alc.testBit i = true
  hv : ∀ h, h < j → R.hv h = true → d.hv.testBit h = true
  base : ∀ s, Cut R.hv s → s ≤ j → (∀ h, R.hv h = true → s ≤ h → j ≤ h) → d.base = R.mm s
  st : ∀ s h, Cut R.hv s → R.hv h = true → s ≤ h → h < j → (∀ h', R.hv h' = true → s ≤ h' → h ≤ h') → ∃ l1 l2, d.st = l1 ++ (h, R.mm s) :: l2 ∧ ∀ c ∈ l1, R.hv c.1 = true ∧ h < c.1

variable {R : Trace} {ms : List Nat}

theorem facts_of (hms : masks all = some ms) (hout : ∀ i, all.size ≤ i → R.hv i = false ∧ R.al i = none)
    (h0 : R.dd 0 = ⟨0, 0, 0, R.mm 0, [], []⟩)
    (HT : ∀ (i : Nat) (o : Oper), all[i]? = some o → ∃ a, ms[i]? = some a ∧ R.At P call nt all 0 i o a) :
    Facts P call nt all R fun j i => ∃ a, ms[j]? = some a ∧ Nat.testBit a i = true := by
  obtain ⟨hlen, hM⟩ := masks_ok hms
  have hsz : ∀ h, R.hv h = true → h < all.size := fun h hh => by
    rcases Nat.lt_or_ge h all.size with q | q
    · exact q
    · rw [(hout h q).1] at hh; cases hh
  have hasz : ∀ i y, R.al i = some y → i < all.size := fun i y hh => by
    rcases Nat.lt_or_ge i all.size with q | q
    · exact q
    · rw [(hout i q).2] at hh; cases hh
  have sz : ∀ {i}, i < all.size → ∃ o, all[i]? = some o := fun {i} hi => ⟨all[i], by simp [hi]⟩
  have did : ∀ (i : Nat) (o : Oper), all[i]? = some o → ∃ a, ms[i]? = some a ∧ Did P call o.op a i (R.tt i) (R.mm i) (R.dd i) (R.vv i) (R.bb i) (R.hv i) (R.al i) (R.mm (i + 1)) (R.dd (i + 1)) := fun i o ho => by
    obtain ⟨a, h1, _, h2, _⟩ := HT i o ho
    rw [Nat.zero_add] at h2
    exact ⟨a, h1, h2⟩
  have known : ∀ j, j ≤ all.size → Known all R (fun j i => ∃ a, ms[j]? = some a ∧ Nat.testBit a i = true) j (R.dd j) := by
    intro j
    induction j with
    | zero =>
      intro _
      rw [h0]
      refine ⟨fun i y hi => by omega, fun i y hi => by omega, fun h hi => by omega, fun s hc hs _ => ?_, fun s h _ _ _ hh => by omega⟩
      have : s = 0 := by omega
      subst this; rfl
    | succ j ih =>
      intro hj
      obtain ⟨o, ho⟩ := sz (show j < all.size by omega)
      obtain ⟨a, ha, hd⟩ := did j o ho
      have K := ih (by omega)
      generalize hD : R.dd (j + 1) = D' at hd
      generalize hMm : R.mm (j + 1) = M' at hd
      generalize hH : R.hv j = H at hd
      generalize hY : R.al j = Y at hd
      generalize hB : R.bb j = B at hd
      -- where nothing is new
      have keep : H = false → D'.als = (R.dd j).als → D'.alc = (R.dd j).alc → Y = none → D'.hv = (R.dd j).hv → D'.base = (R.dd j).base → D'.st = (R.dd j).st → Known all R (fun j i => ∃ a, ms[j]? = some a ∧ Nat.testBit a i = true) (j + 1) D' := by
        intro q1 q2 q3 q4 q5 q6 q7
        subst q1 q4
        have ne : ∀ h, R.hv h = true → h ≠ j := fun h hh e => by rw [e, hH] at hh; cases hh
        have nea : ∀ i y, R.al i = some y → i ≠ j := fun i y hh e => by rw [e, hY] at hh; cases hh
        refine ⟨fun i y hi hy => ?_, fun i y hi hy hn => ?_, fun h hi hh => ?_, fun s hc hs hn => ?_, fun s h hc hh hs hi hl => ?_⟩
        · rw [q2]; exact K.als i y (by have := nea i y hy; omega) hy
        · rw [q3]; exact K.alc i y (by have := nea i y hy; omega) hy fun h hh hl => by have := hn h hh hl; omega
        · rw [q5]; exact K.hv h (by have := ne h hh; omega) hh
        · rw [q6]
          have : s ≠ j + 1 := by
            rintro rfl
            rcases hc with hc | ⟨h, hh, e⟩
            · omega
            · exact ne h hh (by omega)
          exact K.base s hc (by omega) fun h hh hl => by have := hn h hh hl; omega
        · rw [q7]; exact K.st s h hc hh hs (by have := ne h hh; omega) hl
      cases hd with
      | skip hv => exact keep rfl rfl rfl rfl rfl rfl rfl
      | pure h => exact keep rfl rfl rfl rfl rfl rfl rfl
      | read hk h hb hc => exact keep rfl rfl rfl rfl rfl rfl rfl
      | alloc y t2 tr h hy ht =>
        have ne : ∀ h, R.hv h = true → h ≠ j := fun h hh e => by rw [e, hH] at hh; cases hh
        refine ⟨fun i y hi hy => ?_, fun i y hi hy hn => ?_, fun h hi hh => K.hv h (by have := ne h hh; omega) hh, fun s hc hs hn => ?_, fun s h hc hh hs hi hl => K.st s h hc hh hs (by have := ne h hh; omega) hl⟩
        · simp only [Nat.testBit_or, Bool.or_eq_true, one_shl]
          by_cases e : i = j
          · exact .inr e
          · exact .inl (K.als i y (by omega) hy)
        · simp only [Nat.testBit_or, Bool.or_eq_true, one_shl]
          by_cases e : i = j
          · exact .inr e
          · exact .inl (K.alc i y (by omega) hy fun h hh hl => by have := hn h hh hl; omega)
        · have : s ≠ j + 1 := by
            rintro rfl
            rcases hc with hc | ⟨h, hh, e⟩
            · omega
            · exact ne h hh (by omega)
          exact K.base s hc (by omega) fun h hh hl => by have := hn h hh hl; omega
      | heavy m1 pend h1 h2 hop hn hp =>
        have nea : ∀ i y, R.al i = some y → i ≠ j := fun i y hh e => by rw [e, hY] at hh; cases hh
        refine ⟨fun i y hi hy => K.als i y (by have := nea i y hy; omega) hy, fun i y hi hy hn => ?_, fun h hi hh => ?_, fun s hc hs hn => ?_, fun s h hc hh hs hi hl => ?_⟩
        · have e1 := nea i y hy
          have := hn j hH (by omega)
          omega
        · simp only [Nat.testBit_or, Bool.or_eq_true, one_shl]
          by_cases e : h = j
          · exact .inr e
          · exact .inl (K.hv h (by omega) hh)
        · have : s = j + 1 := by
            rcases Nat.lt_or_ge j s with q | q
            · omega
            · have := hn j hH q; omega
          subst this
          exact hMm.symm
        · by_cases e : h = j
          · subst e
            refine ⟨[], (R.dd h).st, ?_, fun c hc => by cases hc⟩
            rw [K.base s hc hs hl]; rfl
          · obtain ⟨l1, l2, e1, e2⟩ := K.st s h hc hh hs (by omega) hl
            refine ⟨(j, (R.dd j).base) :: l1, l2, by simp only [e1]; rfl, fun c hc => ?_⟩
            rcases List.mem_cons.1 hc with rfl | hc
            · exact ⟨hH, by show h < j; omega⟩
            · exact e2 c hc
  have pends : ∀ i p, p ∈ (R.dd i).pend → ∀ k, i + k ≤ all.size → (∃ h, i ≤ h ∧ h < i + k ∧ R.hv h = true ∧ ∃ a, ms[h]? = some a ∧ Nat.testBit a p.j = true) ∨ p ∈ (R.dd (i + k)).pend := by
    intro i p hp k
    induction k with
    | zero => intro _; exact .inr hp
    | succ k ih =>
      intro hk
      rcases ih (by omega) with ⟨h, q1, q2, q3⟩ | hp'
      · exact .inl ⟨h, q1, by omega, q3⟩
      · obtain ⟨o, ho⟩ := sz (show i + k < all.size by omega)
        obtain ⟨a, ha, hd⟩ := did (i + k) o ho
        have e : i + (k + 1) = i + k + 1 := by omega
        rw [e]
        generalize hD : R.dd (i + k + 1) = D' at hd
        generalize hMm : R.mm (i + k + 1) = M' at hd
        generalize hH : R.hv (i + k) = H at hd
        generalize hY : R.al (i + k) = Y at hd
        generalize hB : R.bb (i + k) = B at hd
        cases hd with
        | skip hv => exact .inr hp'
        | pure h => exact .inr hp'
        | read hk h hb hc => exact .inr (List.mem_cons_of_mem _ hp')
        | alloc y t2 tr h hy ht => exact .inr hp'
        | heavy m1 pend h1 h2 h hn hp2 =>
          rcases hp2 p hp' with q | q
          · exact .inl ⟨i + k, by omega, by omega, hH, a, ha, by rw [← bitA_eq]; exact q⟩
          · exact .inr q.2
  have heav : ∀ h h', R.hv h = true → R.hv h' = true → h < h' → ∃ a, ms[h']? = some a ∧ Nat.testBit a h = true := fun h h' hh hh' hlt => by
    obtain ⟨o, ho⟩ := sz (hsz h' hh')
    obtain ⟨a, ha, hd⟩ := did h' o ho
    have K := known h' (Nat.le_of_lt (hsz h' hh'))
    generalize R.dd (h' + 1) = D' at hd
    generalize R.mm (h' + 1) = M' at hd
    rw [hh'] at hd
    generalize R.al h' = Y at hd
    generalize R.bb h' = B at hd
    cases hd with
    | heavy m1 pend h1 h2 h hn hp => exact ⟨a, ha, subA_spec h1 (K.hv _ hlt hh)⟩
  refine ⟨hM, fun j o d ho hd => ?_, fun j o u ho => ?_, fun j o ho => ?_, fun j o ho => ?_, hsz, hasz, heav, fun h i y hh hi hy => ?_⟩
  · obtain ⟨a, _, _, _, h3, _⟩ := HT j o ho; exact h3 d hd
  · obtain ⟨a, _, _, _, _, h4⟩ := HT j o ho; exact h4 u
  · obtain ⟨a, _, h1, _⟩ := HT j o ho; exact h1
  · have hj : j < all.size := (Array.getElem?_eq_some_iff.1 ho).1
    obtain ⟨a, ha, hd⟩ := did j o ho
    have K := known j (by omega)
    generalize hD : R.dd (j + 1) = D' at hd
    generalize hMm : R.mm (j + 1) = M' at hd
    generalize hH : R.hv j = H at hd
    generalize hY : R.al j = Y at hd
    generalize hB : R.bb j = B at hd
    cases hd with
    | skip hv => exact .skip hB hv hMm hH hY
    | pure h => exact .pure hB hMm hH hY h
    | alloc y t2 tr h hy ht => exact .alloc hB hH y t2 hY h hy (by rw [hMm]) (by rw [hMm]; exact ht)
    | heavy m1 pend h1 h2 h hn hp => exact .heavy hB hH hY (by rw [hMm]; exact h) (by rw [hMm]; exact hn)
    | read hk h hb hc =>
      refine .read hB hMm hH hY fun s hcut hbef hbeh => ?_
      have abit : ∀ i, (¬ ∃ a, ms[j]? = some a ∧ Nat.testBit a i = true) → bitA a i = false := fun i hi => by
        rw [bitA_eq]
        cases hb : Nat.testBit a i with
        | false => rfl
        | true => exact absurd ⟨a, ha, hb⟩ hi
      rcases Nat.lt_or_ge j s with hlt | hge
      · -- behind one that comes later
        rcases hcut with rfl | ⟨h1, hh1, rfl⟩
        · omega
        · have hne : h1 ≠ j := fun e => by rw [e, hH] at hh1; cases hh1
          have h1s := hsz h1 hh1
          have hp0 : (⟨j, o.op, R.tt j, R.vv j⟩ : Pend) ∈ (R.dd (j + 1)).pend := by rw [hD]; simp
          rcases pends (j + 1) _ hp0 (h1 - (j + 1)) (by omega) with ⟨h2, q1, q2, q3, q4⟩ | hp1
          · exact absurd q4 (hbef h2 q3 (by omega))
          · rw [show j + 1 + (h1 - (j + 1)) = h1 by omega] at hp1
            obtain ⟨o1, ho1⟩ := sz h1s
            obtain ⟨a1, ha1, hd1⟩ := did h1 o1 ho1
            have hna := hbef h1 hh1 (by omega)
            clear hD
            generalize R.dd (h1 + 1) = D2 at hd1
            generalize hM2 : R.mm (h1 + 1) = M2 at hd1
            rw [hh1] at hd1
            generalize R.al h1 = Y1 at hd1
            generalize R.bb h1 = B1 at hd1
            cases hd1 with
            | heavy m1 pend g1 g2 g3 gn gp =>
              rcases gp _ hp1 with q | q
              · exact absurd ⟨a1, ha1, by rw [← bitA_eq]; exact q⟩ hna
              · exact ⟨M2, readsA_eq hk q.1, .inl rfl⟩
      · by_cases hmid : ∃ h, R.hv h = true ∧ s ≤ h ∧ h < j
        · -- ahead of one that comes earlier
          obtain ⟨h2, q1, q2, q3, q4⟩ : ∃ h, R.hv h = true ∧ s ≤ h ∧ h < j ∧ ∀ h', R.hv h' = true → s ≤ h' → h ≤ h' := by
            obtain ⟨h, hh, hs, hlt⟩ := hmid
            induction h using Nat.strongRecOn with
            | _ h ih =>
              by_cases hm : ∃ h', R.hv h' = true ∧ s ≤ h' ∧ h' < h
              · obtain ⟨h', e1, e2, e3⟩ := hm
                exact ih h' e3 e1 e2 (by omega)
              · exact ⟨h, hh, hs, hlt, fun h' e1 e2 => by
                  rcases Nat.lt_or_ge h' h with q | q
                  · exact absurd ⟨h', e1, e2, q⟩ hm
                  · exact q⟩
          obtain ⟨l1, l2, e1, e2⟩ := K.st s h2 hcut q1 q2 q3 q4
          rw [e1] at hc
          exact ⟨R.mm s, readsA_eq hk (atCuts_app hc (fun q hq => abit _ (hbeh _ (e2 q hq).1 (by have := (e2 q hq).2; omega))) (abit _ (hbeh _ q1 q2))), .inl rfl⟩
        · have hno : ∀ h, R.hv h = true → s ≤ h → j ≤ h := fun h hh hs => by
            rcases Nat.lt_or_ge h j with q | q
            · exact absurd ⟨h, hh, hs, q⟩ hmid
            · exact q
          rcases hb with hb | hb
          · refine ⟨R.mm j, h, .inr ⟨hge, rfl, hno, fun i y hi1 hi2 hy => ⟨a, ha, subA_spec hb (K.alc i y hi2 hy fun h hh hl => hno h hh (by omega))⟩⟩⟩
          · rw [K.base s hcut hge hno] at hb
            exact ⟨R.mm s, readsA_eq hk hb, .inl rfl⟩
  · obtain ⟨o, ho⟩ := sz (hsz h hh)
    obtain ⟨a, ha, hd⟩ := did h o ho
    have K := known h (Nat.le_of_lt (hsz h hh))
    generalize R.dd (h + 1) = D' at hd
    generalize R.mm (h + 1) = M' at hd
    rw [hh] at hd
    generalize R.al h = Y at hd
    generalize R.bb h = B at hd
    cases hd with
    | heavy m1 pend h1 h2 h hn hp => exact ⟨a, ha, subA_spec h2 (K.als _ _ hi hy)⟩

end
end Go.Ev
end
section
namespace Go.Ev

section
variable {P : Program} {call : Call} {nt : Nat} {all : Array Oper} {R : Trace} {anc : Nat → Nat → Prop}

theorem Facts.next (F : Facts P call nt all R anc) {j : Nat} (hj : j < all.size) : (R.mm j).next ≤ (R.mm (j + 1)).next := by
  cases F.kind j all[j] (by simp [hj]) with
  | skip hb hv hm hh ha => rw [hm]; exact Nat.le_refl _
  | pure hb hm hh ha h => rw [hm]; exact Nat.le_refl _
  | read hb hm hh ha h => rw [hm]; exact Nat.le_refl _
  | alloc hb hh y t2 ha h hy hn ht => omega
  | heavy hb hh ha h hn => exact hn

theorem Facts.mono (F : Facts P call nt all R anc) {i j : Nat} (hij : i ≤ j) (hj : j ≤ all.size) : (R.mm i).next ≤ (R.mm j).next := by
  induction j with
  | zero => have : i = 0 := by omega
            subst this; exact Nat.le_refl _
  | succ j ih =>
    by_cases e : i = j + 1
    · subst e; exact Nat.le_refl _
    · exact Nat.le_trans (ih (by omega) (by omega)) (F.next (by omega))

theorem Facts.anext (F : Facts P call nt all R anc) {i : Nat} {y : Blk} (h : R.al i = some y) : (R.mm (i + 1)).next = (R.mm i).next + 1 := by
  have hi := F.asize i y h
  cases F.kind i all[i] (by simp [hi]) with
  | skip hb hv hm hh ha => rw [ha] at h; cases h
  | pure hb hm hh ha h' => rw [ha] at h; cases h
  | read hb hm hh ha h' => rw [ha] at h; cases h
  | alloc hb hh y t2 ha h hy hn ht => exact hn
  | heavy hb hh ha h' hn => rw [ha] at h; cases h

/-- Between operations that turn memory. -/
theorem Facts.between (F : Facts P call nt all R anc) {s : Nat} : ∀ j, s ≤ j → j ≤ all.size → (∀ h, R.hv h = true → s ≤ h → j ≤ h) → ∀ b x, (R.mm j).t.get b = some x →
    (R.mm s).t.get b = some x ∨ ∃ i, s ≤ i ∧ i < j ∧ R.al i = some x ∧ b = (R.mm i).next := by
  intro j
  induction j with
  | zero => intro h1 _ _ b x h; have : s = 0 := by omega
            subst this; exact .inl h
  | succ j ih =>
    intro h1 h2 h3 b x h
    by_cases e : s = j + 1
    · subst e; exact .inl h
    · have hno : ∀ h, R.hv h = true → s ≤ h → j ≤ h := fun h hh hs => by have := h3 h hh hs; omega
      have same : R.mm (j + 1) = R.mm j → (R.mm s).t.get b = some x ∨ ∃ i, s ≤ i ∧ i < j + 1 ∧ R.al i = some x ∧ b = (R.mm i).next := fun q => by
        rw [q] at h
        exact (ih (by omega) (by omega) hno b x h).imp id fun ⟨i, a, b, c, d⟩ => ⟨i, a, by omega, c, d⟩
      cases F.kind j all[j] (by simp [show j < all.size by omega]) with
      | skip hb hv hm hh ha => exact same hm
      | pure hb hm hh ha h' => exact same hm
      | read hb hm hh ha h' => exact same hm
      | alloc hb hh y t2 ha h' hy hn ht =>
        rw [ht] at h
        split at h
        · rename_i hbj; cases h; exact .inr ⟨j, by omega, by omega, ha, hbj⟩
        · exact (ih (by omega) (by omega) hno b x h).imp id fun ⟨i, a, b, c, d⟩ => ⟨i, a, by omega, c, d⟩
      | heavy hb hh ha h' hn => have := h3 j hh (by omega); omega

/-- What is carried out so far: with each what is ahead of it. -/
noncomputable def Closed (all : Array Oper) (D : Nat → Prop) : Prop := ∀ (j : Nat) (o : Oper), D j → all[j]? = some o → ∀ e ∈ o.after, Region.binds .any e = true → D e.on

theorem anc_in (M : MasksOK all anc) {D : Nat → Prop} (hD : Closed all D) : ∀ (j : Nat) (o : Oper), all[j]? = some o → (∀ e ∈ o.after, Region.binds .any e = true → D e.on) → ∀ i, anc j i → D i := by
  intro j
  induction j using Nat.strongRecOn with
  | _ j ih =>
    intro o ho he i hi
    obtain ⟨e, h1, h2, h3⟩ := M.clo j i o ho hi
    have hlt := M.low j e.on (M.edge j o e ho h1 h2)
    have hj : j < all.size := (Array.getElem?_eq_some_iff.1 ho).1
    rcases h3 with rfl | h3
    · exact he e h1 h2
    · have ho' : all[e.on]? = some all[e.on] := by simp [show e.on < all.size by omega]
      exact ih e.on hlt _ ho' (hD e.on _ (he e h1 h2) ho') i h3

theorem done_in (M : MasksOK all anc) {D : Nat → Prop} (hD : Closed all D) {h : Nat} (hlt : h < all.size) (hd : D h) {i : Nat} (hi : anc h i) : D i := by
  have ho : all[h]? = some all[h] := by simp [hlt]
  exact anc_in M hD h _ ho (hD h _ hd ho) i hi

structure Inv (P : Program) (call : Call) (nt : Nat) (all : Array Oper) (R : Trace) (ρ0 : Ren) (g0 : Nat → Option Blk) (w0 : World) (dfs : List Deferred) (D : Nat → Prop) (ρ : Ren) (s : Nat) (G : Nat → Option Blk) (a : Act) (w : World) : Prop where
  step : GStep ρ0 g0 (R.mm 0).next w0 ρ G (R.mm all.size).next w
  cut : Cut R.hv s
  cutD : ∀ h, R.hv h = true → (D h ↔ h < s)
  sn : s ≤ all.size
  wf : ∀ b x, (R.mm s).t.get b = some x → b < (R.mm s).next
  mem : ∀ b x, (R.mm s).t.get b = some x → G b = some x
  als : ∀ i y, D i → s ≤ i → R.al i = some y → G (R.mm i).next = some y
  fresh : ∀ i, i < all.size → ¬ D i → ∀ b, (R.mm i).next ≤ b → b < (R.mm (i + 1)).next → ρ b = none
  size : a.tmps.size = nt
  val : ∀ u (i : Nat) (o : Oper), D i → all[i]? = some o → o.dst = some u → VR ρ (R.vv i) (a.tmps.getD u undef)
  old : ∀ u, (∀ (i : Nat) (o : Oper), D i → all[i]? = some o → o.dst ≠ some u) → VR ρ (((R.tt 0).get u).getD .undef) (a.tmps.getD u undef)
  dfs : a.defers = dfs

theorem put_same {a : Act} {u : Tmp} {v : Value} (h : u < a.tmps.size) : (a.put (some u) v).tmps.getD u undef = v := by
  simp [Act.put, Array.getElem?_setIfInBounds_self_of_lt h]

theorem put_other {a : Act} {dst : Option Tmp} {u : Tmp} {v : Value} (h : dst ≠ some u) : (a.put dst v).tmps.getD u undef = a.tmps.getD u undef := by
  cases dst with
  | none => rfl
  | some d =>
    have : d ≠ u := fun e => h (by rw [e])
    simp [Act.put, Array.getElem?_setIfInBounds_ne this]

variable {ρ0 : Ren} {g0 : Nat → Option Blk} {w0 : World} {dfs : List Deferred} {D : Nat → Prop} {ρ : Ren} {s : Nat} {G : Nat → Option Blk} {a : Act} {w : World}

theorem Inv.go (F : Facts P call nt all R anc) (I : Inv P call nt all R ρ0 g0 w0 dfs D ρ s G a w) {j : Nat} {o : Oper} (hj : all[j]? = some o) {ρ' : Ren} {w' : World} {G' : Nat → Option Blk} {s' : Nat} {vc : Value}
    (B' : GStep ρ0 g0 (R.mm 0).next w0 ρ' G' (R.mm all.size).next w') (hsub : Sub ρ ρ') (hren : ∀ b, ¬ ((R.mm j).next ≤ b ∧ b < (R.mm (j + 1)).next) → ρ' b = ρ b) (hv : VR ρ' (R.vv j) vc)
    (cut' : Cut R.hv s') (cutD' : ∀ h, R.hv h = true → ((D h ∨ h = j) ↔ h < s')) (sn' : s' ≤ all.size) (wf' : ∀ b x, (R.mm s').t.get b = some x → b < (R.mm s').next) (mem' : ∀ b x, (R.mm s').t.get b = some x → G' b = some x)
    (als' : ∀ i y, (D i ∨ i = j) → s' ≤ i → R.al i = some y → G' (R.mm i).next = some y) : Inv P call nt all R ρ0 g0 w0 dfs (fun i => D i ∨ i = j) ρ' s' G' (a.put o.dst vc) w' where
  step := B'
  cut := cut'
  cutD := cutD'
  sn := sn'
  wf := wf'
  mem := mem'
  als := als'
  fresh i hi hn b h1 h2 := by
    have hij : i ≠ j := fun e => hn (.inr e)
    rw [hren b, I.fresh i hi (fun h => hn (.inl h)) b h1 h2]
    rintro ⟨h3, h4⟩
    have hjs : j < all.size := (Array.getElem?_eq_some_iff.1 hj).1
    rcases Nat.lt_or_ge i j with q | q
    · have := F.mono (show i + 1 ≤ j by omega) (by omega); omega
    · have := F.mono (show j + 1 ≤ i by omega) (by omega); omega
  size := by cases o.dst <;> simp [Act.put, I.size]
  val u i oi hd hi hu := by
    by_cases e : o.dst = some u
    · have : i = j := F.masks.dst i j oi o u hi hj hu e
      subst this
      rw [e, put_same (by rw [I.size]; exact F.dlt i o u hj e)]
      exact hv
    · rw [put_other e]
      rcases hd with hd | rfl
      · exact (I.val u i oi hd hi hu).mono hsub
      · rw [hj] at hi; cases hi; exact absurd hu e
  old u hu := by
    rw [put_other (hu j o (.inr rfl) hj)]
    exact (I.old u fun i oi hd => hu i oi (.inl hd)).mono hsub
  dfs := by rw [← I.dfs]; cases o.dst <;> rfl

theorem Facts.tt_set (F : Facts P call nt all R anc) {i : Nat} {oi : Oper} {u : Tmp} (hi : all[i]? = some oi) (hu : oi.dst = some u) : ∀ j, i < j → j ≤ all.size → (R.tt j).get u = some (R.vv i) := by
  intro j
  induction j with
  | zero => intro h; omega
  | succ j ih =>
    intro h1 h2
    have hj : all[j]? = some all[j] := by simp [show j < all.size by omega]
    rw [F.tset j _ u hj]
    by_cases e : i = j
    · subst e; rw [hj] at hi; cases hi; rw [if_pos hu]
    · rw [if_neg fun q => e (F.masks.dst i j _ _ u hi hj hu q)]
      exact ih (by omega) (by omega)

theorem Facts.tt_old (F : Facts P call nt all R anc) {u : Tmp} : ∀ j, j ≤ all.size → (∀ (i : Nat) (o : Oper), i < j → all[i]? = some o → o.dst ≠ some u) → (R.tt j).get u = (R.tt 0).get u := by
  intro j
  induction j with
  | zero => intro _ _; rfl
  | succ j ih =>
    intro h1 h2
    have hj : all[j]? = some all[j] := by simp [show j < all.size by omega]
    rw [F.tset j _ u hj, if_neg (h2 j _ (by omega) hj)]
    exact ih (by omega) fun i o hi => h2 i o (by omega)

theorem Inv.vals (F : Facts P call nt all R anc) (I : Inv P call nt all R ρ0 g0 w0 dfs D ρ s G a w) (hD : Closed all D) {j : Nat} {o : Oper} (hj : all[j]? = some o) (hn : ¬ D j) (he : ∀ e ∈ o.after, Region.binds .any e = true → D e.on)
    {u : Tmp} (hu : u ∈ o.looksAt all) : VR ρ (((R.tt j).get u).getD .undef) (a.tmps.getD u undef) := by
  have hjs : j < all.size := (Array.getElem?_eq_some_iff.1 hj).1
  by_cases h : ∃ (i : Nat) (oi : Oper), i < j ∧ all[i]? = some oi ∧ oi.dst = some u
  · obtain ⟨i, oi, h1, h2, h3⟩ := h
    rw [F.tt_set h2 h3 j h1 (by omega)]
    refine I.val u i oi ?_ h2 h3
    rcases F.masks.race i j oi o u h2 hj hu h3 with q | q
    · exact anc_in F.masks hD j o hj he i q
    · have := F.masks.low i j q; omega
  · have hno : ∀ (i : Nat) (oi : Oper), i < j → all[i]? = some oi → oi.dst ≠ some u := fun i oi h1 h2 h3 => h ⟨i, oi, h1, h2, h3⟩
    rw [F.tt_old j (by omega) hno]
    refine I.old u fun i oi hi h2 h3 => ?_
    rcases F.masks.race i j oi o u h2 hj hu h3 with q | q
    · exact hno i oi (F.masks.low j i q) h2 h3
    · exact hn (anc_in F.masks hD i oi h2 (hD i oi hi h2) j q)

theorem Inv.rel (F : Facts P call nt all R anc) (I : Inv P call nt all R ρ0 g0 w0 dfs D ρ s G a w) (hD : Closed all D) {j : Nat} {o : Oper} (hj : all[j]? = some o) (hn : ¬ D j) (he : ∀ e ∈ o.after, Region.binds .any e = true → D e.on) :
    OpRel ρ (R.tt j) a.eval o.op.operands.toList := fun x hx => by
  cases x with
  | tmp u =>
    refine I.vals F hD hj hn he (u := u) ?_
    unfold Oper.looksAt
    exact List.mem_append_left _ (List.mem_filterMap.2 ⟨.tmp u, hx, rfl⟩)
  | const v => exact cstA_rel ρ v
  | global g => exact .any _
  | func f => exact .fn f [] #[] .nil

theorem Inv.wanted (F : Facts P call nt all R anc) (I : Inv P call nt all R ρ0 g0 w0 dfs D ρ s G a w) (hD : Closed all D) {j : Nat} {o : Oper} (hj : all[j]? = some o) (hn : ¬ D j) (he : ∀ e ∈ o.after, Region.binds .any e = true → D e.on) :
    Region.wanted o (yielded all a.tmps) = R.bb j :=
  wanted_eq (F.want j o hj) fun j' want g d h1 h2 h3 => I.vals F hD hj hn he (u := d) (by
    unfold Oper.looksAt
    refine List.mem_append_right _ ?_
    rw [h1]
    simp [h2, h3])

theorem View.leaf (ρ : Ren) (n : Nat) (w : World) : View ρ ⟨n, .leaf⟩ w := ⟨⟨fun b x h => (by cases h), fun b b' x x' L L' h => (by cases h)⟩, fun b x h => (by cases h)⟩

/-- One operation, whichever comes next. -/
theorem Inv.one (hcall : CallOK P call) (F : Facts P call nt all R anc) (I : Inv P call nt all R ρ0 g0 w0 dfs D ρ s G a w) (hD : Closed all D) {j : Nat} {o : Oper} (hj : all[j]? = some o) (hn : ¬ D j)
    (he : ∀ e ∈ o.after, Region.binds .any e = true → D e.on) {Q : Exit → Act → World → Prop} {K : Act → World → Prop}
    (hK : ∀ ρ' s' G' a' w', Inv P call nt all R ρ0 g0 w0 dfs (fun i => D i ∨ i = j) ρ' s' G' a' w' → K a' w') : wpOp P all Q j K a w := by
  have hjs : j < all.size := (Array.getElem?_eq_some_iff.1 hj).1
  have hO := I.rel F hD hj hn he
  have hin := anc_in F.masks hD j o hj he
  have h0j : (R.mm 0).next ≤ (R.mm j).next := F.mono (Nat.zero_le _) (by omega)
  have hjn : (R.mm j).next ≤ (R.mm all.size).next := F.mono (by omega) (Nat.le_refl _)
  have hsj : s ≤ j ∨ j < s := by omega
  -- where nothing turns memory
  have quiet : R.hv j = false → ∀ h, R.hv h = true → ((D h ∨ h = j) ↔ h < s) := fun hh h hvh => by
    have : h ≠ j := fun e => by rw [e, hh] at hvh; cases hvh
    rw [← I.cutD h hvh]
    constructor
    · rintro (q | q)
      · exact q
      · exact absurd q this
    · exact .inl
  have fj : ∀ b, (R.mm j).next ≤ b → b < (R.mm (j + 1)).next → ρ b = none := I.fresh j hjs hn
  unfold wpOp
  rw [hj]
  simp only []
  rw [I.wanted F hD hj hn he]
  cases F.kind j o hj with
  | skip hb hv hm hh ha =>
    rw [hb, if_neg (by decide)]
    refine hK ρ s G _ w (I.go F hj I.step (fun _ _ e => e) (fun _ _ => rfl) (by rw [hv]; exact VR.undef _) I.cut (quiet hh) I.sn I.wf I.mem fun i y hi hs hy => ?_)
    rcases hi with hi | rfl
    · exact I.als i y hi hs hy
    · rw [ha] at hy; cases hy
  | pure hb hm hh ha h =>
    rw [hb, if_pos rfl]
    have hfr : Fresh ρ (R.mm j).next (R.mm j).next := fun b h1 h2 => by omega
    refine .inl (op_wp hcall (View.leaf ρ (R.mm j).next w) hO h hfr fun ρ' w' vc S hv => hK ρ' s _ _ w' (I.go F hj (I.step.extend S (fun b x h => by cases h) h0j hjn hfr) (S.sub hfr) (fun b _ => S.ren b (by omega)) hv I.cut (quiet hh) I.sn I.wf
      (fun b x h => (over_old rfl rfl).trans (I.mem b x h)) fun i y hi hs hy => ?_))
    rcases hi with hi | rfl
    · exact (over_old rfl rfl).trans (I.als i y hi hs hy)
    · rw [ha] at hy; cases hy
  | alloc hb hh y t2 ha h hy hnx ht =>
    rw [hb, if_pos rfl]
    have hfr : Fresh ρ (R.mm j).next ((R.mm j).next + 1) := fun b h1 h2 => fj b h1 (by omega)
    refine .inl (op_wp hcall (View.leaf ρ (R.mm j).next w) hO h hfr fun ρ' w' vc S hv => ?_)
    have S' : GStep ρ (T.leaf : T Blk).get (R.mm j).next w ρ' (fun b => if b = (R.mm j).next then some y else none) ((R.mm j).next + 1) w' :=
      GStep.less S (fun b x q => by
        split at q
        · rename_i e; cases q; rw [e]; exact hy
        · cases q) (fun b x q => by
        split at q
        · omega
        · cases q) rfl
    have hjn' : (R.mm j).next + 1 ≤ (R.mm all.size).next := by rw [← hnx]; exact F.mono (by omega) (Nat.le_refl _)
    have old : ∀ b, b ≠ (R.mm j).next → over G (T.leaf : T Blk).get (fun b => if b = (R.mm j).next then some y else none) b = G b := fun b hb => over_old (by rw [if_neg hb]) rfl
    have hsj : s ≤ j := by
      rcases Nat.lt_or_ge j s with q | q
      · exfalso
        rcases I.cut with rfl | ⟨h, hvh, rfl⟩
        · omega
        · have hne : h ≠ j := fun e => by rw [e, hh] at hvh; cases hvh
          exact hn (done_in F.masks hD (F.size h hvh) ((I.cutD h hvh).2 (by omega)) (F.hal h j y hvh (by omega) ha))
      · exact q
    refine hK ρ' s _ _ w' (I.go F hj (I.step.extend S' (fun b x h => by cases h) h0j hjn' hfr) (S'.sub hfr) (fun b q => S'.ren b (by omega)) hv I.cut (quiet hh) I.sn I.wf (fun b x q => ?_) fun i z hi hs hz => ?_)
    · rw [old b]
      · exact I.mem b x q
      · have := I.wf b x q
        have := F.mono hsj (by omega)
        omega
    · by_cases e : i = j
      · subst e; rw [ha] at hz; cases hz
        exact over_new (by rw [if_pos rfl])
      · have hi : D i := hi.resolve_right e
        rw [old]
        · exact I.als i z hi hs hz
        · have h1 := F.anext hz
          have h2 := F.asize i z hz
          rcases Nat.lt_or_ge i j with q | q
          · have := F.mono (show i + 1 ≤ j by omega) (by omega); omega
          · have := F.mono (show j + 1 ≤ i by omega) (by omega); omega
  | read hb hm hh ha h =>
    rw [hb, if_pos rfl]
    obtain ⟨μ, h, hμ⟩ := h s I.cut (fun h hvh hlt q => hn (done_in F.masks hD (F.size h hvh) ((I.cutD h hvh).2 hlt) q))
      (fun h hvh hge q => by have := (I.cutD h hvh).1 (hin h q); omega)
    have hw : (∀ b x, μ.t.get b = some x → G b = some x) ∧ (∀ b x, μ.t.get b = some x → b < μ.next) ∧ (R.mm 0).next ≤ μ.next ∧ μ.next ≤ (R.mm all.size).next := by
      rcases hμ with rfl | ⟨q1, rfl, q2, q3⟩
      · exact ⟨I.mem, I.wf, F.mono (Nat.zero_le _) I.sn, F.mono I.sn (Nat.le_refl _)⟩
      · refine ⟨fun b x hx => ?_, fun b x hx => ?_, h0j, hjn⟩
        · rcases F.between j q1 (by omega) q2 b x hx with q | ⟨i, r1, r2, r3, rfl⟩
          · exact I.mem b x q
          · exact I.als i x (hin i (q3 i x r1 r2 r3)) r1 r3
        · rcases F.between j q1 (by omega) q2 b x hx with q | ⟨i, r1, r2, r3, rfl⟩
          · have := I.wf b x q; have := F.mono q1 (show j ≤ all.size by omega); omega
          · have := F.anext r3; have := F.mono (show i + 1 ≤ j by omega) (by omega); omega
    obtain ⟨w1, w2, w3, w4⟩ := hw
    have hfr : Fresh ρ μ.next μ.next := fun b h1 h2 => by omega
    have V : View ρ μ w := ⟨I.step.sim.less w1, w2⟩
    have oe : ∀ b, over G μ.t.get μ.t.get b = G b := fun b => by
      cases hb : μ.t.get b with
      | some x => rw [over_new hb, w1 b x hb]
      | none => exact over_old hb hb
    refine .inl (op_wp hcall V hO h hfr fun ρ' w' vc S hv => hK ρ' s _ _ w' (I.go F hj (I.step.extend S w1 w3 w4 hfr) (S.sub hfr) (fun b _ => S.ren b (by omega)) hv I.cut (quiet hh) I.sn I.wf
      (fun b x h => (oe b).trans (I.mem b x h)) fun i y hi hs hy => ?_))
    rcases hi with hi | rfl
    · exact (oe _).trans (I.als i y hi hs hy)
    · rw [ha] at hy; cases hy
  | heavy hb hh ha h hnx =>
    rw [hb, if_pos rfl]
    have hsj : s ≤ j := by
      rcases Nat.lt_or_ge j s with q | q
      · exact absurd ((I.cutD j hh).2 q) hn
      · exact q
    have hno : ∀ h, R.hv h = true → s ≤ h → j ≤ h := fun h hvh hs => by
      rcases Nat.lt_or_ge h j with q | q
      · have := (I.cutD h hvh).1 (hin h (F.heav h j hvh hh q)); omega
      · exact q
    have w1 : ∀ b x, (R.mm j).t.get b = some x → G b = some x := fun b x hx => by
      rcases F.between j hsj (by omega) hno b x hx with q | ⟨i, r1, r2, r3, rfl⟩
      · exact I.mem b x q
      · exact I.als i x (hin i (F.hal j i x hh r2 r3)) r1 r3
    have w2 : ∀ b x, (R.mm j).t.get b = some x → b < (R.mm j).next := fun b x hx => by
      rcases F.between j hsj (by omega) hno b x hx with q | ⟨i, r1, r2, r3, rfl⟩
      · have := I.wf b x q; have := F.mono hsj (show j ≤ all.size by omega); omega
      · have := F.anext r3; have := F.mono (show i + 1 ≤ j by omega) (by omega); omega
    have hjn' : (R.mm (j + 1)).next ≤ (R.mm all.size).next := F.mono (by omega) (Nat.le_refl _)
    refine .inl (op_wp hcall ⟨I.step.sim.less w1, w2⟩ hO h fj fun ρ' w' vc S hv => hK ρ' (j + 1) _ _ w' (I.go F hj (I.step.extend S w1 h0j hjn' fj) (S.sub fj) (fun b q => S.ren b q) hv (.inr ⟨j, hh, rfl⟩) (fun h' hvh => ?_) (by omega) S.wf
      (fun b x q => over_new q) fun i y hi hs hy => ?_))
    · constructor
      · rintro (q | q)
        · have := (I.cutD h' hvh).1 q; omega
        · omega
      · intro q
        rcases Nat.lt_or_ge h' j with r | r
        · exact .inl (hin h' (F.heav h' j hvh hh r))
        · exact .inr (by omega)
    · have hij : i ≠ j := by omega
      have hi : D i := hi.resolve_right hij
      have g1 := F.mono hs (Nat.le_of_lt (F.asize i y hy))
      rw [over_old]
      · exact I.als i y hi (by omega) hy
      · cases hg : (R.mm (j + 1)).t.get (R.mm i).next with
        | none => rfl
        | some x => have := S.wf _ _ hg; omega
      · cases hg : (R.mm j).t.get (R.mm i).next with
        | none => rfl
        | some x => have := w2 _ _ hg; omega

end
end Go.Ev
end
section
namespace Go.Ev

section
variable {P : Program} {call : Call} {nt : Nat} {all : Array Oper} {R : Trace} {anc : Nat → Nat → Prop}
variable {ρ0 : Ren} {g0 : Nat → Option Blk} {w0 : World} {dfs : List Deferred}

theorem listed_false {l : Array Bool} {i : Nat} (hi : i < l.size) (h : l.getD i false ≠ true) : l[i]? = some false := by
  have e : l[i]? = some l[i] := by simp [hi]
  have : l.getD i false = l[i] := by simp [hi]
  rw [this] at h
  rw [e]
  cases hh : l[i] with
  | false => rfl
  | true => exact absurd hh h

theorem all_listed (M : MasksOK all anc) {l : Array Bool} (hs : l.size = all.size) (h : Region.ready .any all l = []) : ∀ i, i < all.size → l.getD i false = true := by
  intro i
  induction i using Nat.strongRecOn with
  | _ i ih =>
    intro hi
    by_cases hl : l.getD i false = true
    · exact hl
    · exfalso
      have hf := listed_false (by omega) hl
      have ho : all[i]? = some all[i] := by simp [hi]
      have : i ∈ Region.ready .any all l := mem_ready.2 ⟨by simp [hf], all[i], ho, fun e he hb => ih e.on (M.low i e.on (M.edge i _ e ho he hb)) (by have := M.low i e.on (M.edge i _ e ho he hb); omega)⟩
      rw [h] at this
      cases this

theorem rep_false (n i : Nat) : ¬ (Array.replicate n false).getD i false = true := by
  by_cases h : i < n <;> simp [h]

theorem any_wp (hcall : CallOK P call) (F : Facts P call nt all R anc) {Q : Exit → Act → World → Prop}
    (hQ : ∀ ρ s G a w, Inv P call nt all R ρ0 g0 w0 dfs (fun i => i < all.size) ρ s G a w → Q .normal a w) : ∀ (fuel : Nat) (l : Array Bool) (a : Act) (w : World) (ρ : Ren) (s : Nat) (G : Nat → Option Blk),
    l.size = all.size → Closed all (fun i => l.getD i false = true) → l.toList.count false ≤ fuel → Inv P call nt all R ρ0 g0 w0 dfs (fun i => l.getD i false = true) ρ s G a w → wpAny P .any all Q fuel l a w := by
  intro fuel
  have done : ∀ (l : Array Bool) (a : Act) (w : World) (ρ : Ren) (s : Nat) (G : Nat → Option Blk), l.size = all.size → (∀ i, i < all.size → l.getD i false = true) → Inv P call nt all R ρ0 g0 w0 dfs (fun i => l.getD i false = true) ρ s G a w → Q .normal a w := by
    intro l a w ρ s G hs h I
    have e : (fun i => l.getD i false = true) = (fun i => i < all.size) := by
      funext i
      apply propext
      constructor
      · intro q
        rcases Nat.lt_or_ge i all.size with r | r
        · exact r
        · rw [← hs] at r; simp [Array.getElem?_eq_none r] at q
      · exact h i
    rw [e] at I
    exact hQ ρ s G a w I
  induction fuel with
  | zero =>
    intro l a w ρ s G hs hc hn I
    have h0 : l.toList.count false = 0 := by omega
    rw [List.count_eq_zero] at h0
    have full : ∀ i, i < all.size → l.getD i false = true := fun i hi => by
      by_cases q : l.getD i false = true
      · exact q
      · have := listed_false (by omega) q
        exact absurd (by simpa using Array.mem_of_getElem? this) h0
    refine ⟨?_, done l a w ρ s G hs full I⟩
    cases hr : Region.ready .any all l with
    | nil => rfl
    | cons i r =>
      have hi : i ∈ Region.ready .any all l := by rw [hr]; simp
      obtain ⟨h1, o, h2, h3⟩ := mem_ready.1 hi
      have hi : i < all.size := (Array.getElem?_eq_some_iff.1 h2).1
      have := full i hi
      simp [show i < l.size by omega] at h1 this
      rw [h1] at this; cases this
  | succ fuel ih =>
    intro l a w ρ s G hs hc hn I
    refine ⟨fun h => done l a w ρ s G hs (all_listed F.masks hs h) I, fun i hi => ?_⟩
    obtain ⟨h1, o, h2, h3⟩ := mem_ready.1 hi
    have hia : i < all.size := (Array.getElem?_eq_some_iff.1 h2).1
    have hil : i < l.size := by omega
    have hf : l[i]? = some false := by
      simp [hil] at h1
      simp [hil, h1]
    have hnD : ¬ l.getD i false = true := by simp [hf]
    refine Inv.one hcall F I hc h2 hnD h3 fun ρ' s' G' a' w' I' => ?_
    have e : (fun k => (l.setIfInBounds i true).getD k false = true) = fun k => l.getD k false = true ∨ k = i := by
      funext k
      apply propext
      by_cases hk : k = i
      · subst hk; simp [hil]
      · rw [getD_set_ne false (Ne.symm hk)]; simp [hk]
    refine ih (l.setIfInBounds i true) a' w' ρ' s' G' (by simpa using hs) ?_ ?_ (by rw [e]; exact I')
    · rw [e]
      intro j oj hj hoj ed he hb
      rcases hj with hj | rfl
      · exact .inl (hc j oj hj hoj ed he hb)
      · rw [h2] at hoj; cases hoj
        exact .inl (h3 ed he hb)
    · have hl : i < l.toList.length := by simpa using hil
      have el : l.toList[i] = false := by
        have := (Array.getElem?_eq_some_iff.1 hf).2
        simpa using this
      rw [Array.toList_setIfInBounds, List.count_set hl, el]
      simp
      simp at hn
      omega

theorem drawn_wp (hm : P.follows .mixedOrders = true) (hcall : CallOK P call) {id : Nat} {Q : Exit → Act → World → Prop} {t : T AV} {m : AMem} {w : World} {ρ : Ren} {a : Act} {x : X} {t' : T AV} {m' : AMem}
    (h : drawnA P call nt all t m = .mk x t' m') (V : View ρ m w) (hT : TR ρ nt t a.tmps) (hf : Fresh ρ m.next m'.next)
    (hQ : ∀ ρ' a' w', Step ρ m w ρ' m' w' → TR ρ' nt t' a'.tmps → a'.defers = a.defers → Q .normal a' w') : x = .norm ∧ m.next ≤ m'.next ∧ (Code.region id all true).wp P Q a w := by
  unfold drawnA at h
  cases hms : masks all with
  | none => rw [hms] at h; cases h
  | some ms =>
    rw [hms] at h
    obtain ⟨hx, R, e1, e2, e3, e4, e5, e6, e7⟩ := opsD_trace (show opsD P call nt all all.toList ms 0 t m ⟨0, 0, 0, m, [], []⟩ = .mk x t' m' from h)
    have hlen : all.toList.length = all.size := by simp
    rw [hlen] at e4 e5 e6
    have F : Facts P call nt all R _ := facts_of hms e6 (by rw [e3, e2]) fun i o ho => e7 i o (by simpa using ho)
    refine ⟨hx, ?_, ?_⟩
    · rw [← e2, ← e5]; exact F.mono (Nat.zero_le _) (Nat.le_refl _)
    · have hle : m.next ≤ m'.next := by rw [← e2, ← e5]; exact F.mono (Nat.zero_le _) (Nat.le_refl _)
      refine wp_region_any hm (any_wp (ρ0 := ρ) (g0 := m.t.get) (w0 := w) (dfs := a.defers) hcall F (fun ρ' s G a' w' I => ?_) all.size _ a _ ρ 0 m.t.get (by simp) ?_ (by simp) ?_)
      · -- all is done
        have hno : ∀ h, R.hv h = true → s ≤ h → all.size ≤ h := fun h hh hs => by
          have := F.size h hh
          have := (I.cutD h hh).1 this
          omega
        have hlt := F.between all.size I.sn (Nat.le_refl _) hno
        refine hQ ρ' a' w' ?_ ⟨I.size, fun u => ?_⟩ I.dfs
        · show GStep ρ m.t.get m.next w ρ' m'.t.get m'.next w'
          have := I.step
          rw [e2, e5] at this
          refine this.less (fun b y hb => ?_) (fun b y hb => ?_) rfl
          · rw [← e5] at hb
            rcases hlt b y hb with q | ⟨i, q1, q2, q3, rfl⟩
            · exact I.mem b y q
            · exact I.als i y q2 q1 q3
          · rw [← e5] at hb ⊢
            rcases hlt b y hb with q | ⟨i, q1, q2, q3, rfl⟩
            · have := I.wf b y q; have := F.mono I.sn (Nat.le_refl _); omega
            · have := F.anext q3; have := F.mono (show i + 1 ≤ all.size by omega) (Nat.le_refl _); omega
        · rw [← e4]
          by_cases hu : ∃ (i : Nat) (o : Oper), i < all.size ∧ all[i]? = some o ∧ o.dst = some u
          · obtain ⟨i, o, h1, h2, h3⟩ := hu
            rw [F.tt_set h2 h3 all.size h1 (Nat.le_refl _)]
            exact I.val u i o h1 h2 h3
          · have hno : ∀ (i : Nat) (o : Oper), i < all.size → all[i]? = some o → o.dst ≠ some u := fun i o h1 h2 h3 => hu ⟨i, o, h1, h2, h3⟩
            rw [F.tt_old all.size (Nat.le_refl _) hno]
            exact I.old u hno
      · intro j o hj
        exact absurd hj (rep_false _ _)
      · have S : GStep ρ m.t.get m.next w ρ m.t.get m.next { w with drawn := w.drawn + 1 } := GStep.drew V.sim V.wf _
        refine ⟨?_, .inl rfl, fun h hh => ?_, Nat.zero_le _, fun b y hb => ?_, fun b y hb => ?_, fun i y hi => ?_, fun i hi _ b h1 h2 => ?_, hT.size, fun u i o hi => ?_, fun u _ => ?_, rfl⟩
        · rw [e2, e5]
          exact ⟨fun b _ => rfl, hle, S.sim, fun b y hb => by have := V.wf b y hb; omega, S.img, S.imgR, S.keeps, S.size, S.os, S.tape, S.output⟩
        · constructor
          · intro q; exact absurd q (rep_false _ _)
          · intro q; omega
        · rw [e2] at hb ⊢; exact V.wf b y hb
        · rw [e2] at hb; exact hb
        · exact absurd hi (rep_false _ _)
        · refine hf b ?_ ?_
          · rw [← e2]; have := F.mono (Nat.zero_le i) (by omega); omega
          · rw [← e5]; have := F.mono (show i + 1 ≤ all.size by omega) (Nat.le_refl _); omega
        · exact absurd hi (rep_false _ _)
        · rw [e1]; exact hT.rel u

end
end Go.Ev
end
section
namespace Go.Ev

section
variable {P : Program} {S : Sums}

theorem drawn_next {call : Call} {nt : Nat} {all : Array Oper} {t : T AV} {m : AMem} {x : X} {t' : T AV} {m' : AMem} (h : drawnA P call nt all t m = .mk x t' m') : m.next ≤ m'.next := by
  unfold drawnA at h
  cases hms : masks all with
  | none => rw [hms] at h; cases h
  | some ms =>
    rw [hms] at h
    obtain ⟨hx, R, e1, e2, e3, e4, e5, e6, e7⟩ := opsD_trace (show opsD P call nt all all.toList ms 0 t m ⟨0, 0, 0, m, [], []⟩ = .mk x t' m' from h)
    have hlen : all.toList.length = all.size := by simp
    rw [hlen] at e4 e5 e6
    have F : Facts P call nt all R _ := facts_of hms e6 (by rw [e3, e2]) fun i o ho => e7 i o (by simpa using ho)
    rw [← e2, ← e5]; exact F.mono (Nat.zero_le _) (Nat.le_refl _)

theorem thenK_inv {r : Res} {k : T AV → AMem → Res} {x : X} {t' : T AV} {m' : AMem} (h : C.thenK r k = .mk x t' m') :
    (∃ t1 m1, r = .mk .norm t1 m1 ∧ k t1 m1 = .mk x t' m') ∨ (r = .mk x t' m' ∧ x ≠ .norm) := by
  cases r with
  | fail c => cases h
  | mk y t1 m1 =>
    cases y with
    | norm => exact .inl ⟨t1, m1, rfl, h⟩
    | exit i => cases h; exact .inr ⟨rfl, fun e => by cases e⟩
    | ret => cases h; exact .inr ⟨rfl, fun e => by cases e⟩

theorem exec_succ (n nt : Nat) (c : Code) (t : T AV) (m : AMem) : exec P S (n + 1) nt c t m = codeTab c P S (exec P S n) nt t m := rfl

theorem exec_next : ∀ (n nt : Nat) (c : Code) {t : T AV} {m : AMem} {x : X} {t' : T AV} {m' : AMem}, exec P S n nt c t m = .mk x t' m' → m.next ≤ m'.next
  | 0, nt, c, t, m, x, t', m', h => by cases h
  | n + 1, nt, c, t, m, x, t', m', h => by
    rw [exec_succ] at h
    have two : ∀ {k : T AV → AMem → Res} {r : Res}, (∀ y t1 m1, r = .mk y t1 m1 → m.next ≤ m1.next) → (∀ t1 m1, k t1 m1 = .mk x t' m' → m1.next ≤ m'.next) → C.thenK r k = .mk x t' m' → m.next ≤ m'.next := fun {k r} h1 h2 h => by
      rcases thenK_inv h with ⟨t1, m1, e1, e2⟩ | ⟨e, _⟩
      · exact Nat.le_trans (h1 _ _ _ e1) (h2 _ _ e2)
      · exact h1 _ _ _ e
    cases c with
    | skip => cases h; exact Nat.le_refl _
    | region id ops drawn =>
      cases drawn with
      | true => exact drawn_next (show drawnA P (callF P S (exec P S n)) nt ops t m = .mk x t' m' from h)
      | false => exact opsA_next (show opsA P (callF P S (exec P S n)) nt ops ops.toList t m = .mk x t' m' from h)
    | seq a b => exact two (fun y t1 m1 e => exec_next n nt a e) (fun t1 m1 e => exec_next n nt b e) h
    | cond v a b =>
      have h : evK t v (fun v => v.onBool (fun v => bif2 v (exec P S n nt a t m) (exec P S n nt b t m)) (.fail 1010)) = .mk x t' m' := h
      rw [evK_eq] at h
      obtain ⟨q, _, h⟩ := onBool_inv _ h (fun e => by cases e)
      rw [bif2_eq] at h
      split at h
      · exact exec_next n nt a h
      · exact exec_next n nt b h
    | block id b =>
      have h : @Res.rec (fun _ => Res) Res.fail (fun x t m => @X.rec (fun _ => Res) (.mk .norm t m) (fun i => bif2 (Nat.beq i id) (.mk .norm t m) (.mk (.exit i) t m)) (.mk .ret t m) x) (exec P S n nt b t m) = .mk x t' m' := h
      cases hr : exec P S n nt b t m with
      | fail c => rw [hr] at h; cases h
      | mk y t1 m1 =>
        rw [hr] at h
        have := exec_next n nt b hr
        cases y with
        | norm => cases h; exact this
        | ret => cases h; exact this
        | exit i =>
          have h : bif2 (Nat.beq i id) (Res.mk .norm t1 m1) (.mk (.exit i) t1 m1) = .mk x t' m' := h
          rw [bif2_eq] at h
          split at h <;> (cases h; exact this)
    | loop b => exact two (fun y t1 m1 e => exec_next n nt b e) (fun t1 m1 e => exec_next n nt (.loop b) e) h
    | exit id => cases h; exact Nat.le_refl _
    | scope b => exact exec_next n nt b h
    | label l => cases h; exact Nat.le_refl _
    | ret => cases h; exact Nat.le_refl _
    | _ => cases h

/-! ### Calls -/

/-- One result. -/
noncomputable def resV (tmps : Array Value) : ResultVar → Sem Value
  | .tmp t => pure (tmps.getD t undef)
  | .cell a t => do loadVar t (← asAddr (tmps.getD a undef))

theorem resultsA_inv {t : T AV} {m : AMem} {ρ : Ren} {w : World} (V : View ρ m w) {nt : Nat} {tmps : Array Value} (hT : TR ρ nt t tmps) {v : AV} {m' : AMem} : ∀ {rs : List ResultVar} {k : List AV → OR}, resultsA P rs t m k = .mk v m' →
    ∃ l cs, k l = .mk v m' ∧ VRs ρ l cs ∧ (rs.mapM (resV tmps)).run P w = .ok cs w
  | [], k, h => ⟨[], [], h, .nil, by simp⟩
  | .tmp i :: l, k, h => by
    have h : evK t (.tmp i) (fun v => resultsA P l t m fun vs => k (v :: vs)) = .mk v m' := h
    rw [evK_eq] at h
    obtain ⟨l1, cs, h1, h2, h3⟩ := resultsA_inv V hT h
    refine ⟨_ :: l1, tmps.getD i undef :: cs, h1, .cons _ _ _ _ (hT.rel i) h2, ?_⟩
    rw [List.mapM_cons, Sem.run_bind, show (resV tmps (.tmp i)).run P w = .ok (tmps.getD i undef) w from rfl]
    simp only [Sem.run_bind, Result.andThen_ok]
    rw [h3]; simp
  | .cell a ty :: l, k, h => by
    have h : evK t (.tmp a) (fun a => match aLoad P ty a m with
      | .mk v _ => resultsA P l t m fun vs => k (v :: vs)
      | .fail c => .fail c) = .mk v m' := h
    rw [evK_eq] at h
    cases hl : aLoad P ty (evA t (.tmp a)) m with
    | fail c => rw [hl] at h; cases h
    | mk u m1 =>
      rw [hl] at h
      obtain ⟨l1, cs, h1, h2, h3⟩ := resultsA_inv V hT (show (resultsA P l t m fun vs => k (u :: vs)) = .mk v m' from h)
      have ha : VR ρ (evA t (.tmp a)) (tmps.getD a undef) := hT.rel a
      obtain ⟨e1, vc, e2, e3⟩ := aLoad_run (P := P) V ha hl
      obtain ⟨b, off, e4, _⟩ := onPtr_inv _ hl fail_ne
      rw [e4] at ha
      refine ⟨u :: l1, vc :: cs, h1, .cons _ _ _ _ e2 h2, ?_⟩
      have hr : (resV tmps (.cell a ty)).run P w = .ok vc w := by
        show (do loadVar ty (← asAddr (tmps.getD a undef)) : Sem Value).run P w = _
        generalize tmps.getD a undef = va at *
        cases ha with
        | ptr _ _ L hL => simpa [Instr.loadAt, Instr.sureAddr, asAddr] using e3
      rw [List.mapM_cons, Sem.run_bind, hr]
      simp only [Sem.run_bind, Result.andThen_ok]
      rw [h3]; simp

theorem results_run {fn : Func} {t : T AV} {m : AMem} {ρ : Ren} {w : World} (V : View ρ m w) {nt : Nat} {tmps : Array Value} (hT : TR ρ nt t tmps) {v : AV} {m' : AMem} (h : resultsA P fn.results.toList t m (fun l => one l m) = .mk v m') :
    m' = m ∧ ∃ vc, VR ρ v vc ∧ (results fn tmps).run P w = .ok vc w := by
  obtain ⟨l, cs, h1, h2, h3⟩ := resultsA_inv (P := P) V hT h
  have hr : (results fn tmps).run P w = .ok (if h : cs.toArray.size = 1 then cs.toArray[0] else .tuple cs.toArray) w := by
    show (do let vs ← fn.results.mapM (resV tmps); pure (if h : vs.size = 1 then vs[0] else .tuple vs) : Sem Value).run P w = _
    rw [Array.mapM_eq_mapM_toList, map_eq_pure_bind]
    simp only [Sem.run_bind]
    rw [h3]
    simp
  unfold one at h1
  split at h1
  · rename_i u
    cases h1
    obtain ⟨x, rfl, hx⟩ := VRs.one' h2
    exact ⟨rfl, x, hx, hr⟩
  · rename_i hl
    cases h1
    refine ⟨rfl, .tuple cs.toArray, .tup _ _ (by simpa using h2), ?_⟩
    rw [hr]
    have : cs.toArray.size ≠ 1 := by
      intro e
      have e : cs.length = 1 := by simpa using e
      rw [← h2.length] at e
      obtain ⟨u, rfl⟩ := List.length_eq_one_iff.1 e
      exact hl u rfl
    rw [dif_neg this]

/-- The summaries hold. -/
noncomputable def SumsOK (P : Program) (S : Sums) : Prop := ∀ f s, S f = some s → ∀ args m v m', s args m = .mk v m' → ∀ (ρ : Ren) (w : World) (cs : Array Value), View ρ m w → VRs ρ args cs.toList → Fresh ρ m.next m'.next →
  ((callFunc f cs).run P w = .ok (.enter f cs) w ∧ Calls P f cs w (Post ρ m w v m')) ∨ (∃ ρ' w' vc, (callFunc f cs).run P w = .ok (.value vc) w' ∧ Step ρ m w ρ' m' w' ∧ VR ρ' v vc)

noncomputable def xOf : X → Exit
  | .norm => .normal
  | .exit i => .exit i
  | .ret => .ret

/-- What a run of the evaluator says of code. -/
noncomputable def CodeOK (P : Program) (S : Sums) (n : Nat) : Prop := ∀ (nt : Nat) (c : Code) (t : T AV) (m : AMem) (x : X) (t' : T AV) (m' : AMem), exec P S n nt c t m = .mk x t' m' → ∀ (ρ : Ren) (a : Act) (w : World), View ρ m w → TR ρ nt t a.tmps → Fresh ρ m.next m'.next →
  ∀ Q : Exit → Act → World → Prop, (∀ ρ' a' w', Step ρ m w ρ' m' w' → TR ρ' nt t' a'.tmps → a'.defers = a.defers → Q (xOf x) a' w') → c.wp P Q a w

theorem codeOf_inv {f : FuncId} {fn : Func} {c : Code} (h : codeOf P f = some (fn, c)) : P.funcs[f]? = some fn ∧ fn.body = some c ∧ (fn.name == "runtime.NumGoroutine") = false := by
  unfold codeOf at h
  split at h
  · rename_i fn' hf
    split at h
    · rename_i c' hb
      rw [bif2_eq] at h
      split at h
      · cases h
      · rename_i hn
        cases h
        exact ⟨hf, hb, by simpa using hn⟩
    · cases h
  · cases h

theorem call_ok (hS : SumsOK P S) {n : Nat} (hC : CodeOK P S n) : CallOK P (callF P S (exec P S n)) := by
  intro f args m v m' h ρ w cs V hv hf
  unfold callF at h
  cases hs : S f with
  | some s => rw [hs] at h; exact hS f s hs args m v m' h ρ w cs V hv hf
  | none =>
    rw [hs] at h
    cases hc : codeOf P f with
    | none => simp only [hc] at h; cases h
    | some fc =>
      obtain ⟨fn, c⟩ := fc
      simp only [hc] at h
      obtain ⟨h1, h2, h3⟩ := codeOf_inv hc
      rcases putK_eq (OR.fail 1001) args 0 .leaf (fun t => leaveA P fn (exec P S n (nTmps fn args.length) c t m)) with e | ⟨t, ht, e⟩
      · rw [e] at h; cases h
      · rw [e] at h
        refine .inl ⟨by have := beq_eq_false_iff_ne.1 h3; simp [callFunc, h1, h2, this], calls_of_wp h1 h2 ?_⟩
        cases hx : exec P S n (nTmps fn args.length) c t m with
        | fail q => rw [hx] at h; cases h
        | mk x t' m1 =>
          rw [hx] at h
          have hl : args.length = cs.size := by simpa using hv.length
          have hT : TR ρ (nTmps fn args.length) t (cs ++ Array.replicate (fn.ntmps - cs.size) undef) := by
            refine ⟨?_, fun i => ?_⟩
            · unfold nTmps
              rw [bif2_eq]
              split
              · rename_i q; have q : args.length < fn.ntmps := by simpa [Nat.blt_eq] using q
                simp; omega
              · rename_i q; have q : ¬ args.length < fn.ntmps := by simpa [Nat.blt_eq] using q
                simp; omega
            · rw [ht]
              by_cases hi : i < args.length
              · rw [if_pos (by omega)]
                have : args[i - 0]? = some args[i] := by simp [hi]
                obtain ⟨y, hy, hr⟩ := hv.get (i - 0) this
                rw [this]
                have hic : i < cs.size := by omega
                have hy : cs[i]? = some y := by simpa using hy
                simp [Array.getElem?_append_left hic, hy]
                exact hr
              · rw [if_neg (by omega), T.get_leaf]
                have hic : cs.size ≤ i := by omega
                have : (cs ++ Array.replicate (fn.ntmps - cs.size) undef).getD i undef = undef := by
                  simp only [Array.getD_eq_getD_getElem?, Array.getElem?_append_right hic, Array.getElem?_replicate]
                  split <;> rfl
                rw [this]
                exact VR.undef _
          have leave : ∀ (y : X), (y = .norm ∨ y = .ret) → exec P S n (nTmps fn args.length) c t m = .mk y t' m1 → resultsA P fn.results.toList t' m1 (fun l => one l m1) = .mk v m' →
              c.wp P (bodyPost P fn (Post ρ m w v m')) { tmps := cs ++ Array.replicate (fn.ntmps - cs.size) undef, defers := [] } w := fun y hy hx h => by
            have hm : m' = m1 := by
              obtain ⟨l, _, h, _, _⟩ : ∃ l, (l : List AV) = l ∧ one l m1 = .mk v m' ∧ True ∧ True := by
                clear hx
                generalize fn.results.toList = rs at h
                have : ∀ (rs : List ResultVar) (k : List AV → OR), resultsA P rs t' m1 k = .mk v m' → ∃ l, k l = .mk v m' := by
                  intro rs
                  induction rs with
                  | nil => intro k h; exact ⟨[], h⟩
                  | cons r rs ih =>
                    intro k h
                    cases r with
                    | tmp i =>
                      have h : evK t' (.tmp i) (fun v => resultsA P rs t' m1 fun vs => k (v :: vs)) = .mk v m' := h
                      rw [evK_eq] at h
                      obtain ⟨l, hl⟩ := ih _ h
                      exact ⟨_, hl⟩
                    | cell a ty =>
                      have h : evK t' (.tmp a) (fun a => match aLoad P ty a m1 with
                        | .mk v _ => resultsA P rs t' m1 fun vs => k (v :: vs)
                        | .fail c => .fail c) = .mk v m' := h
                      rw [evK_eq] at h
                      split at h
                      · obtain ⟨l, hl⟩ := ih _ h
                        exact ⟨_, hl⟩
                      · cases h
                obtain ⟨l, hl⟩ := this rs _ h
                exact ⟨l, rfl, hl, trivial, trivial⟩
              unfold one at h
              split at h <;> (cases h; rfl)
            subst hm
            refine hC _ c t m y t' m' hx ρ _ w V hT hf _ fun ρ' a' w' st hT' hd => ?_
            obtain ⟨_, vc, e1, e2⟩ := results_run (P := P) st.view hT' h
            rcases hy with rfl | rfl
            · exact ⟨hd, vc, e2, vc, ρ', rfl, st, e1⟩
            · exact ⟨hd, vc, e2, vc, ρ', rfl, st, e1⟩
          cases x with
          | norm => exact leave .norm (.inl rfl) hx h
          | exit i => cases h
          | ret => exact leave .ret (.inr rfl) hx h

theorem code_ok (hm : P.follows .mixedOrders = true) (hS : SumsOK P S) : ∀ n, CodeOK P S n ∧
    ∀ (nt : Nat) (b : Code) (t : T AV) (m : AMem) (x : X) (t' : T AV) (m' : AMem), exec P S n nt (.loop b) t m = .mk x t' m' → ∀ (ρ : Ren) (a : Act) (w : World), View ρ m w → TR ρ nt t a.tmps → Fresh ρ m.next m'.next →
      ∀ Q : Exit → Act → World → Prop, (∀ ρ' a' w', Step ρ m w ρ' m' w' → TR ρ' nt t' a'.tmps → a'.defers = a.defers → Q (xOf x) a' w') → Code.rounds P b Q n a w := by
  intro n
  induction n with
  | zero => exact ⟨fun nt c t m x t' m' h => (by cases h), fun nt c t m x t' m' h => (by cases h)⟩
  | succ n ih =>
    obtain ⟨A, B⟩ := ih
    have hcall := call_ok hS A
    have L : ∀ (nt : Nat) (b : Code) (t : T AV) (m : AMem) (x : X) (t' : T AV) (m' : AMem), exec P S (n + 1) nt (.loop b) t m = .mk x t' m' → ∀ (ρ : Ren) (a : Act) (w : World), View ρ m w → TR ρ nt t a.tmps → Fresh ρ m.next m'.next →
        ∀ Q : Exit → Act → World → Prop, (∀ ρ' a' w', Step ρ m w ρ' m' w' → TR ρ' nt t' a'.tmps → a'.defers = a.defers → Q (xOf x) a' w') → Code.rounds P b Q (n + 1) a w := by
      intro nt b t m x t' m' h ρ a w V hT hf Q hQ
      rw [exec_succ] at h
      have h : C.thenK (exec P S n nt b t m) (fun t m => exec P S n nt (.loop b) t m) = .mk x t' m' := h
      rw [rounds_succ]
      rcases thenK_inv h with ⟨t1, m1, e1, e2⟩ | ⟨e, hx⟩
      · have hl := exec_next n nt (.loop b) e2
        refine A nt b t m .norm t1 m1 e1 ρ a w V hT (hf.le hl) _ fun ρ1 a1 w1 s1 hT1 hd1 => ?_
        exact B nt b t1 m1 x t' m' e2 ρ1 a1 w1 s1.view hT1 (s1.fresh hf) Q fun ρ' a' w' s hT' hd => hQ ρ' a' w' (s1.trans s) hT' (hd.trans hd1)
      · refine A nt b t m x t' m' e ρ a w V hT hf _ fun ρ1 a1 w1 s1 hT1 hd1 => ?_
        have := hQ ρ1 a1 w1 s1 hT1 hd1
        cases x with
        | norm => exact absurd rfl hx
        | exit i => exact this
        | ret => exact this
    refine ⟨?_, L⟩
    intro nt c t m x t' m' h ρ a w V hT hf Q hQ
    cases c with
    | skip => cases h; exact wp_skip (hQ ρ a w V.refl hT rfl)
    | region id ops drawn =>
      cases drawn with
      | true =>
        have h : drawnA P (callF P S (exec P S n)) nt ops t m = .mk x t' m' := h
        obtain ⟨rfl, _, hw⟩ := drawn_wp (id := id) (Q := Q) hm hcall h V hT hf fun ρ' a' w' s hT' hd => by
          have := hQ ρ' a' w' s hT' hd
          have hx := (drawn_norm h)
          subst hx; exact this
        exact hw
      | false =>
        have h : opsA P (callF P S (exec P S n)) nt ops ops.toList t m = .mk x t' m' := h
        have hx := opsA_wp.opsA_norm h
        subst hx
        obtain ⟨_, hw⟩ := opsA_wp (Q := Q) hcall ops.toList 0 (fun j => by simp) h V hT hf fun ρ' a' w' s hT' hd => hQ ρ' a' w' s hT' hd
        refine wp_region ?_
        rw [List.range_eq_range']
        simpa using hw
    | seq c1 c2 =>
      have h : C.thenK (exec P S n nt c1 t m) (fun t m => exec P S n nt c2 t m) = .mk x t' m' := h
      refine wp_seq ?_
      rcases thenK_inv h with ⟨t1, m1, e1, e2⟩ | ⟨e, hx⟩
      · have hl := exec_next n nt c2 e2
        refine A nt c1 t m .norm t1 m1 e1 ρ a w V hT (hf.le hl) _ fun ρ1 a1 w1 s1 hT1 hd1 => ?_
        exact A nt c2 t1 m1 x t' m' e2 ρ1 a1 w1 s1.view hT1 (s1.fresh hf) Q fun ρ' a' w' s hT' hd => hQ ρ' a' w' (s1.trans s) hT' (hd.trans hd1)
      · refine A nt c1 t m x t' m' e ρ a w V hT hf _ fun ρ1 a1 w1 s1 hT1 hd1 => ?_
        have := hQ ρ1 a1 w1 s1 hT1 hd1
        cases x with
        | norm => exact absurd rfl hx
        | exit i => exact this
        | ret => exact this
    | cond v c1 c2 =>
      have h : evK t v (fun v => v.onBool (fun v => bif2 v (exec P S n nt c1 t m) (exec P S n nt c2 t m)) (.fail 1010)) = .mk x t' m' := h
      rw [evK_eq] at h
      obtain ⟨q, hq, h⟩ := onBool_inv _ h (fun e => by cases e)
      have hv := hT.ev v
      rw [hq] at hv
      cases he : a.eval v with
      | bool q' =>
        rw [he] at hv
        cases hv
        refine wp_cond he ?_
        cases q with
        | true => exact A nt c1 t m x t' m' h ρ a w V hT hf Q hQ
        | false => exact A nt c2 t m x t' m' h ρ a w V hT hf Q hQ
      | _ => rw [he] at hv; cases hv
    | block id b =>
      have h : @Res.rec (fun _ => Res) Res.fail (fun x t m => @X.rec (fun _ => Res) (.mk .norm t m) (fun i => bif2 (Nat.beq i id) (.mk .norm t m) (.mk (.exit i) t m)) (.mk .ret t m) x) (exec P S n nt b t m) = .mk x t' m' := h
      refine wp_block ?_
      cases hr : exec P S n nt b t m with
      | fail c => rw [hr] at h; cases h
      | mk y t1 m1 =>
        rw [hr] at h
        cases y with
        | norm => cases h; exact A nt b t m .norm t' m' hr ρ a w V hT hf _ fun ρ' a' w' s hT' hd => hQ ρ' a' w' s hT' hd
        | ret => cases h; exact A nt b t m .ret t' m' hr ρ a w V hT hf _ fun ρ' a' w' s hT' hd => hQ ρ' a' w' s hT' hd
        | exit i =>
          have h : bif2 (Nat.beq i id) (Res.mk .norm t1 m1) (.mk (.exit i) t1 m1) = .mk x t' m' := h
          rw [bif2_eq] at h
          split at h
          · rename_i hi
            have hi : i = id := Nat.eq_of_beq_eq_true hi
            cases h
            refine A nt b t m (.exit i) t' m' hr ρ a w V hT hf _ fun ρ' a' w' s hT' hd => ?_
            show (if i = id then Q .normal a' w' else Q (.exit i) a' w')
            rw [if_pos hi]; exact hQ ρ' a' w' s hT' hd
          · rename_i hi
            have hi : ¬ i = id := fun e => hi (by rw [e]; exact Nat.beq_refl id)
            cases h
            refine A nt b t m (.exit i) t' m' hr ρ a w V hT hf _ fun ρ' a' w' s hT' hd => ?_
            show (if i = id then Q .normal a' w' else Q (.exit i) a' w')
            rw [if_neg hi]; exact hQ ρ' a' w' s hT' hd
    | loop b => exact wp_loop_rounds (n + 1) (L nt b t m x t' m' h ρ a w V hT hf Q hQ)
    | exit id => cases h; exact wp_exit (hQ ρ a w V.refl hT rfl)
    | scope b =>
      refine wp_scope_straight (A nt b t m x t' m' h ρ a w V hT hf _ fun ρ' a' w' s hT' hd => ?_)
      have := hQ ρ' a' w' s hT' hd
      cases x <;> exact this
    | label l => cases h; exact wp_label (hQ ρ a w V.refl hT rfl)
    | ret => cases h; exact wp_ret (hQ ρ a w V.refl hT rfl)
    | _ => cases h
where
  drawn_norm {call : Call} {nt : Nat} {all : Array Oper} {t : T AV} {m : AMem} {x : X} {t' : T AV} {m' : AMem} (h : drawnA P call nt all t m = .mk x t' m') : x = .norm := by
    unfold drawnA at h
    cases hms : masks all with
    | none => rw [hms] at h; cases h
    | some ms =>
      rw [hms] at h
      exact (opsD_trace (show opsD P call nt all all.toList ms 0 t m ⟨0, 0, 0, m, [], []⟩ = .mk x t' m' from h)).1

/-- What the evaluator answers of a call holds of the program. -/
theorem call_sound (hm : P.follows .mixedOrders = true) (hS : SumsOK P S) (n : Nat) : CallOK P (call P S n) := call_ok hS (code_ok hm hS n).1

end
end Go.Ev
end
