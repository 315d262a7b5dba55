/- Operations, on: the builtins, conversions; all operations that call no function. -/
import Derived.Test.YtkobbfimabpfeaaGreatDoorEvI
namespace Go.Ev

section
variable {P : Program} {ρ : Ren} {m : AMem} {w : World}

/-- As 'Runs', of what yields a value. -/
noncomputable def RunsV (P : Program) (ρ : Ren) (m : AMem) (w : World) (v : AV) (m' : AMem) (s : Sem Value) : Prop := ∃ ρ' w' vc, Step ρ m w ρ' m' w' ∧ VR ρ' v vc ∧ s.run P w = .ok vc w'

theorem RunsV.runs {v : AV} {m' : AMem} {s : Sem Value} (h : RunsV P ρ m w v m' s) : Runs P ρ m w v m' (do pure (.value (← s))) := by
  obtain ⟨ρ', w', vc, h1, h2, h3⟩ := h
  exact ⟨ρ', w', vc, h1, h2, .inl (Sem.value_run h3)⟩
theorem Val.runsV (V : View ρ m w) {v : AV} {m' : AMem} {s : Sem Value} (h : Val P ρ m w v m' s) : RunsV P ρ m w v m' s := by
  obtain ⟨rfl, vc, hv, hr⟩ := h
  exact ⟨ρ, w, vc, V.refl, hv, hr⟩

theorem intT_inv {xt : Option TypeId} (h : intT P xt = true) : ∃ t k, xt = some t ∧ P.underlying t = some (.int k) := by
  unfold intT at h
  split at h
  · rename_i t
    split at h
    · rename_i k hu; exact ⟨t, k, rfl, hu⟩
    · cases h
  · cases h

theorem run_append_zeros {ats : Array TypeId} {st xt e : TypeId} {kn kq : IntKind} {i : TypeInfo} {z : Value} (h0 : ats[0]? = some st) (h1 : ats[1]? = some xt) (hu : P.underlying st = some (.slice e)) (hx : P.underlying xt = some (.int kn)) (hi : P.info? e = some i) (hz : i.zero = some z)
    (hby : i.bytes ≤ 4096) (hpos : 0 < i.size) (ty : TypeId) {base : Option Addr} {sLen sCap k : Nat} (hk : 0 < k) (hgt : sCap < sLen + k) (hs : sLen + k ≤ 1048576) {old : List Value}
    (ho : ∀ w1 : World, w1.heap = w.heap → (Builtin.firstCells i.size sLen (.slice base sLen sCap)).run P w1 = .ok old.toArray w1) :
    ∃ cap, sLen + k ≤ cap ∧ (Builtin.append_ ats ty #[.slice base sLen sCap, .int kq (Int.ofNat k)]).run P w =
      .ok (.slice (some ⟨w.heap.size, 0, none⟩) (sLen + k) cap) (({ w with drawn := w.drawn + 1 } : World).alloc (.cells ((old ++ (Builtin.zeroCells z.cells k).toList) ++ (Builtin.zeroCells z.cells (cap - (sLen + k))).toList).toArray e)) := by
  refine ⟨(Question.appendCap (sLen + k) sCap e).cut (w.tape w.drawn (.appendCap (sLen + k) sCap e)), by show sLen + k ≤ (sLen + k) + _; omega, ?_⟩
  have hfit : Builtin.nextslicecap (sLen + k) sCap * i.bytes ≤ 281474976710656 := growslice_fits hgt (by
    have : (sLen + k) * i.bytes ≤ 1048576 * 4096 := Nat.mul_le_mul hs hby
    omega)
  have h48 : k * i.bytes ≤ 281474976710656 := by
    have : k * i.bytes ≤ 1048576 * 4096 := Nat.mul_le_mul (by omega) hby
    omega
  have ho' := ho w.drew rfl
  have hkz : k ≠ 0 := by omega
  have hw : IntKind.i64.wrap (k : Int) = k := by rw [IntKind.wrap_i64]; omega
  have hn : ¬ (sLen + k ≤ sCap) := by omega
  have h63' : ¬ (9223372036854775807 < ((sLen : Int) + (k : Int))) := by omega
  have h48' : ¬ (281474976710656 < Builtin.nextslicecap (sLen + k) sCap * i.bytes) := by omega
  have h48i : ¬ (281474976710656 < (k : Int) * (i.bytes : Int)) := by
    rw [← Int.natCast_mul]
    omega
  have hneg : ¬ ((k : Int) < 0) := by omega
  have hns : ¬ (k * i.size = 0) := Nat.mul_ne_zero hkz (by omega)
  simp [Builtin.append_, h0, h1, run_underlying hu, run_underlying hx, sizeOf, typeInfo, zeroValue, hi, hz, asInt, asIntOf, hw, hn, hneg, hns, h63', h48', h48i, Question.forced, ho', newRow]
  congr 2
  apply Array.ext'
  simp

theorem aAppendZ_run (V : View ρ m w) {ats : Array TypeId} {st e : TypeId} (h0 : ats[0]? = some st) (ty : TypeId) {s x : AV} {vs vx : Value} (hs : VR ρ s vs) (hx : VR ρ x vx) {i : TypeInfo} {z : List AV} {zv : Value} (hu : P.underlying st = some (.slice e)) (hi : P.info? e = some i)
    (hz : i.zero = some zv) (hzr : VRs ρ z zv.cells.toList) (hzl : z.length = i.size) (hpos : 0 < i.size) (hby : i.bytes ≤ 4096) (hzs : zv.cells.size = i.size) {v : AV} {m' : AMem} (h : aAppendZ P i z ats[1]? s x m = .mk v m') (hf : Fresh ρ m.next m'.next) :
    RunsV P ρ m w v m' (Builtin.append_ ats ty #[vs, vx]) := by
  unfold aAppendZ at h
  split at h
  · rename_i b off len c kq k
    rw [bif2_eq] at h
    split at h
    · rename_i hc
      simp only [Bool.and_eq_true, Nat.blt_eq, Nat.ble_eq] at hc
      obtain ⟨⟨⟨hc1, hc2⟩, hc3⟩, hc4⟩ := hc
      have hc3 : c < len + k := hc3
      have hc4 : len + k ≤ 1048576 := hc4
      obtain ⟨xt, kn, h1, hxt⟩ := intT_inv hc1
      obtain ⟨old, co, h2, ho, hol, hro, _⟩ := elemsK_inv (P := P) V hs h
      rw [fNat_eq] at h2
      cases hs with | sliceE _ _ _ _ L hL hle =>
      cases hx
      obtain ⟨cap, hcap, hrun⟩ := run_append_zeros (kq := kq) h0 h1 hu hxt hi hz hby hpos ty hc2 hc3 hc4 hro
      have hzc : VRs ρ (repA z k) (Builtin.zeroCells zv.cells k).toList := by
        have := repA_rel hzr (by omega) k
        exact this
      obtain ⟨ρ', hst, hv⟩ := growA_run V (rest := (Builtin.zeroCells zv.cells (cap - (len + k))).toList) (ho.append hzc) h2 hf hcap (by
        simp only [List.length_append, Array.length_toList, zeroCells_size, hol, hzs]
        rw [← Nat.add_mul, ← Nat.add_mul]; congr 1; omega) e
      exact ⟨ρ', _, _, hst, hv, hrun⟩
    · cases h
  · cases h

theorem aAppend_run (V : View ρ m w) {ats : Array TypeId} {st : TypeId} (h0 : ats[0]? = some st) (ty : TypeId) {s x : AV} {vs vx : Value} (hs : VR ρ s vs) (hx : VR ρ x vx) {v : AV} {m' : AMem} (h : aAppend P st ats[1]? s x m = .mk v m') (hf : Fresh ρ m.next m'.next) :
    RunsV P ρ m w v m' (Builtin.append_ ats ty #[vs, vx]) := by
  unfold aAppend at h
  split at h
  · rename_i i z he
    obtain ⟨e, zv, hu, hi, hz, hzr, hzl, hpos, hby, hzs⟩ := elemInfo_inv (ρ := ρ) he
    rw [bif2_eq] at h
    split at h
    · exact aAppendZ_run V h0 ty hs hx hu hi hz hzr hzl hpos hby hzs h hf
    · rename_i hap
      obtain ⟨xt, d, g1, g2, g3⟩ := appendable_inv (P := P) (by simpa using hap)
      have A : ApT P ats st e i zv := ⟨h0, ⟨xt, d, g1, g2, g3⟩, hu, hi, hz, hby⟩
      split at h
      · cases h
      · rename_i n hn
        rw [fNat_eq, bif2_eq] at h
        split at h
        · cases h
        · rename_i hbig
          have hbig : n ≤ 1048576 := by simpa [Nat.blt_eq] using hbig
          have hl := lenA_run (P := P) hx hn w
          split at h
          · -- nil
            cases hs
            rw [bif2_eq] at h
            split at h
            · rename_i h00
              obtain rfl : n = 0 := Nat.eq_of_beq_eq_true h00
              cases h
              exact ⟨ρ, w, _, V.refl, .nils, append_none A ty hl (Nat.le_refl _)⟩
            · rename_i h00
              have h00 : n ≠ 0 := fun q => h00 (by rw [q]; rfl)
              obtain ⟨new, cn, h2, hn2, hnl, hrn, _⟩ := elemsK_inv (P := P) V hx h
              obtain ⟨cp, hcp, hrun⟩ := run_append_new (base := none) (sLen := 0) (sCap := 0) A ty hl (by omega) (by omega) (old := []) (fun w1 _ => by simp [Builtin.firstCells]) hrn
              simp only [Nat.zero_add] at hcp hrun
              obtain ⟨ρ', hst, hv⟩ := growA_run V (rest := (Builtin.zeroCells zv.cells (cp - n)).toList) hn2 h2 hf hcp (by
                simp only [Array.length_toList, zeroCells_size, hnl, hzs]
                rw [← Nat.add_mul]; congr 1; omega) e
              exact ⟨ρ', _, _, hst, hv, by simpa using hrun⟩
          · cases hs
            rw [bif2_eq] at h
            split at h
            · rename_i h00
              obtain rfl : n = 0 := Nat.eq_of_beq_eq_true h00
              cases h
              exact ⟨ρ, w, _, V.refl, .emp _ _, append_none A ty hl (Nat.zero_le _)⟩
            · cases h
          · rename_i b off len cap
            rw [bif2_eq] at h
            split at h
            · rename_i h00
              obtain rfl : n = 0 := Nat.eq_of_beq_eq_true h00
              cases h
              refine ⟨ρ, w, vs, V.refl, hs, ?_⟩
              cases hs with
              | sliceE _ _ _ _ L hL hle => exact append_none A ty hl hle
              | sliceO _ _ _ _ L hL hle => exact append_none A ty hl hle
            · rw [bif2_eq] at h
              split at h
              · cases h
              · rename_i hb2
                exact appendTo_run V A hzs hpos ty hs hx hn hbig (by simpa [Nat.blt_eq] using hb2) h hf
          · cases h
  · cases h

theorem aCopy_run (V : View ρ m w) {ats : Array TypeId} {dt : TypeId} (h0 : ats[0]? = some dt) (ty : TypeId) {d x : AV} {vd vx : Value} (hd : VR ρ d vd) (hx : VR ρ x vx) {v : AV} {m' : AMem} (h : aCopy P dt d x m = .mk v m') :
    RunsV P ρ m w v m' (Builtin.copy_ ats ty #[vd, vx]) := by
  unfold aCopy at h
  split at h
  · rename_i i z he
    obtain ⟨e, zv, hu, hi, hz, hzr, hzl, hpos, hby, hzs⟩ := elemInfo_inv (ρ := ρ) he
    split at h
    · rename_i n b off len cap hn
      have hl := lenA_run (P := P) hx hn w
      rw [fNat_eq] at h
      have hmin : (bif2 (Nat.ble n len) n len) = Nat.min n len := by
        rw [bif2_eq]; split
        · rename_i q; exact (Nat.min_eq_left (by simpa [Nat.ble_eq] using q)).symm
        · rename_i q; exact (Nat.min_eq_right (by simp [Nat.ble_eq] at q; omega)).symm
      rw [hmin] at h
      obtain ⟨new, cn, h2, hn2, hnl, hrn, _⟩ := elemsK_inv (P := P) V hx h
      obtain ⟨_, _, _, _, hb, _⟩ := storeK_inv h2
      obtain ⟨L, hL⟩ : ∃ L, ρ b = some L := by obtain ⟨L, hL, _⟩ := (V.sim.blk b _ hb).loc; exact ⟨L, hL⟩
      obtain ⟨m1, w1, hk1, hrun1, hst⟩ := V.store (P := P) hL hn2 h2
      cases hk1
      have go : ∀ cc, RunsV P ρ m w (.int .i64 (Int.ofNat (Nat.min n len))) _ (Builtin.copy_ ats ty #[.slice (some ⟨L.blk, L.base + off, none⟩) len cc, vx]) := fun cc => by
        refine ⟨ρ, w1, .int .i64 (Int.ofNat (Nat.min n len)), hst, .int _ _, ?_⟩
        simp [Builtin.copy_, h0, run_underlying hu, hl, run_sizeOf hi, hrn w rfl, hrun1, goInt]
      cases hd with
      | sliceE _ _ _ _ L' hL' => rw [hL] at hL'; cases hL'; exact go _
      | sliceO _ _ _ _ L' hL' => rw [hL] at hL'; cases hL'; exact go _
    · rename_i n hn
      have hl := lenA_run (P := P) hx hn w
      cases h; cases hd
      have hz0 : (Builtin.firstCells i.size 0 vx).run P w = .ok #[] w := by
        cases hx <;> simp [lenA] at hn <;> simp [Builtin.firstCells, loadCells, loadCellsFrom]
      exact ⟨ρ, w, .int .i64 0, V.refl, .int _ _, by simp [Builtin.copy_, h0, run_underlying hu, hl, run_sizeOf hi, hz0, goInt]⟩
    · rename_i n hn
      have hl := lenA_run (P := P) hx hn w
      cases h; cases hd
      have hz0 : (Builtin.firstCells i.size 0 vx).run P w = .ok #[] w := by
        cases hx <;> simp [lenA] at hn <;> simp [Builtin.firstCells, loadCells, loadCellsFrom]
      exact ⟨ρ, w, .int .i64 0, V.refl, .int _ _, by simp [Builtin.copy_, h0, run_underlying hu, hl, run_sizeOf hi, hz0, goInt, storeCells]⟩
    · cases h
  · cases h

theorem aClear_run (V : View ρ m w) {ats : Array TypeId} {t : TypeId} (h0 : ats[0]? = some t) (ty : TypeId) {x : AV} {vx : Value} (hx : VR ρ x vx) {v : AV} {m' : AMem}
    (h : aClear P t x m (fun b off l => storeK m b off l fun m => .mk .undef m) = .mk v m') : RunsV P ρ m w v m' (Builtin.clear_ ats ty #[vx]) := by
  unfold aClear at h
  split at h
  · rename_i q he
    obtain ⟨i, z⟩ := q
    obtain ⟨e, zv, hu, hi, hz, hzr, hzl, hpos, hby, hzs⟩ := elemInfo_inv (ρ := ρ) he
    cases h; cases hx
    exact ⟨ρ, w, undef, V.refl, VR.undef _, by simp [Builtin.clear_, h0, run_underlying hu, undef]⟩
  · rename_i q he
    obtain ⟨i, z⟩ := q
    obtain ⟨e, zv, hu, hi, hz, hzr, hzl, hpos, hby, hzs⟩ := elemInfo_inv (ρ := ρ) he
    cases h; cases hx
    exact ⟨ρ, w, undef, V.refl, VR.undef _, by simp [Builtin.clear_, h0, run_underlying hu, undef]⟩
  · rename_i i z b off len cap he
    obtain ⟨e, zv, hu, hi, hz, hzr, hzl, hpos, hby, hzs⟩ := elemInfo_inv (ρ := ρ) he
    have go : ∀ (L : Loc) cc, ρ b = some L → RunsV P ρ m w v m' (Builtin.clear_ ats ty #[.slice (some ⟨L.blk, L.base + off, none⟩) len cc]) := fun L cc hL => by
      rw [bif2_eq] at h
      split at h
      · rename_i h00
        obtain rfl : len = 0 := Nat.eq_of_beq_eq_true h00
        cases h
        exact ⟨ρ, w, undef, V.refl, VR.undef _, by simp [Builtin.clear_, h0, run_underlying hu, undef]⟩
      · rename_i h00
        have h00 : len ≠ 0 := fun q => h00 (by rw [q]; rfl)
        obtain ⟨m1, w1, hk1, hrun1, hst⟩ := V.store (P := P) hL (repA_rel hzr (by omega) len) h
        cases hk1
        refine ⟨ρ, w1, undef, hst, VR.undef _, ?_⟩
        have hzc : Builtin.zeroCells zv.cells len = madeCells zv.cells (len * zv.cells.size) := rfl
        obtain ⟨n, rfl⟩ : ∃ n, len = n + 1 := ⟨len - 1, by omega⟩
        simp [Builtin.clear_, h0, run_underlying hu, run_zero hi hz, hzc, hrun1, undef]
    cases hx with
    | sliceE _ _ _ _ L hL => exact go L _ hL
    | sliceO _ _ _ _ L hL => exact go L _ hL
  · cases h

theorem aLen_val {ats : Array TypeId} {t : TypeId} (h0 : ats[0]? = some t) (ty : TypeId) {x : AV} {vx : Value} (hx : VR ρ x vx) {v : AV} {m' : AMem} (h : aLen P t x m = .mk v m') : Val P ρ m w v m' (Builtin.len_ ats ty #[vx]) := by
  unfold aLen at h
  split at h
  · rename_i s hu
    obtain ⟨z, rfl, hz⟩ := str_inv hx
    rw [fNat_eq, str_len hz] at h
    exact Val.mk h (by simp [Builtin.len_, h0, run_underlying hu]; rfl) (.int _ _)
  · rename_i e b off n c hu
    cases hx <;> exact Val.mk h (by simp [Builtin.len_, h0, run_underlying hu]; rfl) (.int _ _)
  · rename_i e hu
    cases hx; exact Val.mk h (by simp [Builtin.len_, h0, run_underlying hu]; rfl) (.int _ _)
  · rename_i e hu
    cases hx; exact Val.mk h (by simp [Builtin.len_, h0, run_underlying hu]; rfl) (.int _ _)
  · rename_i n e hu
    exact Val.mk h (by simp [Builtin.len_, h0, run_underlying hu]; rfl) (.int _ _)
  · rename_i a hu
    split at h
    · rename_i n e hu2
      exact Val.mk h (by simp [Builtin.len_, h0, run_underlying hu, run_underlying hu2]; rfl) (.int _ _)
    · cases h
  · cases h

theorem aCap_val {ats : Array TypeId} {t : TypeId} (h0 : ats[0]? = some t) (ty : TypeId) {x : AV} {vx : Value} (hx : VR ρ x vx) {v : AV} {m' : AMem} (h : aCap P t x m = .mk v m') : Val P ρ m w v m' (Builtin.cap_ ats ty #[vx]) := by
  unfold aCap at h
  split at h
  · rename_i e b off n c hu
    cases hx; exact Val.mk h (by simp [Builtin.cap_, h0, run_underlying hu]; rfl) (.int _ _)
  · rename_i e hu
    cases hx; exact Val.mk h (by simp [Builtin.cap_, h0, run_underlying hu]; rfl) (.int _ _)
  · rename_i n e hu
    exact Val.mk h (by simp [Builtin.cap_, h0, run_underlying hu]; rfl) (.int _ _)
  · cases h

theorem aMax_val : ∀ {l : List AV} {cs : List Value} (_ : VRs ρ l cs) {x : AV} {vx : Value} (_ : VR ρ x vx) {v : AV} {m' : AMem} (_ : aMM true x l m = .mk v m'), Val P ρ m w v m' (cs.foldlM Builtin.max2 vx)
  | _, _, .nil, x, vx, hx, v, m', h => by
    have h : OR.mk x m = .mk v m' := by cases x <;> exact h
    exact Val.mk h (by simp) hx
  | _, _, .cons y c l cs hy hl, x, vx, hx, v, m', h => by
    cases x <;> cases y <;> first | (cases h; done) | skip
    rename_i k a k' b
    simp only [aMM, bif2_eq, if_true] at h
    cases hx; cases hy
    split at h
    · rename_i hk
      obtain rfl := kEq_eq hk
      have hm : (Builtin.max2 (.int k a) (.int k b)) = pure (.int k (if b > a then b else a)) := rfl
      rw [iLt_eq] at h
      split at h
      · rename_i hab
        obtain ⟨e, vc, hv, hr⟩ := aMax_val hl (.int k b) h
        exact ⟨e, vc, hv, by simp only [List.foldlM_cons, hm, Sem.run_bind, Sem.run_pure, Result.andThen_ok]; rw [if_pos (by simpa using hab)]; exact hr⟩
      · rename_i hab
        obtain ⟨e, vc, hv, hr⟩ := aMax_val hl (.int k a) h
        exact ⟨e, vc, hv, by simp only [List.foldlM_cons, hm, Sem.run_bind, Sem.run_pure, Result.andThen_ok]; rw [if_neg (by simpa using hab)]; exact hr⟩
    · cases h

theorem aMin_val : ∀ {l : List AV} {cs : List Value} (_ : VRs ρ l cs) {x : AV} {vx : Value} (_ : VR ρ x vx) {v : AV} {m' : AMem} (_ : aMM false x l m = .mk v m'), Val P ρ m w v m' (cs.foldlM Builtin.min2 vx)
  | _, _, .nil, x, vx, hx, v, m', h => by
    have h : OR.mk x m = .mk v m' := by cases x <;> exact h
    exact Val.mk h (by simp) hx
  | _, _, .cons y c l cs hy hl, x, vx, hx, v, m', h => by
    cases x <;> cases y <;> first | (cases h; done) | skip
    rename_i k a k' b
    simp only [aMM, bif2_eq, Bool.false_eq_true, if_false] at h
    cases hx; cases hy
    split at h
    · rename_i hk
      obtain rfl := kEq_eq hk
      have hm : (Builtin.min2 (.int k a) (.int k b)) = pure (.int k (if b < a then b else a)) := rfl
      rw [iLt_eq] at h
      split at h
      · rename_i hab
        obtain ⟨e, vc, hv, hr⟩ := aMin_val hl (.int k b) h
        exact ⟨e, vc, hv, by simp only [List.foldlM_cons, hm, Sem.run_bind, Sem.run_pure, Result.andThen_ok]; rw [if_pos (by simpa using hab)]; exact hr⟩
      · rename_i hab
        obtain ⟨e, vc, hv, hr⟩ := aMin_val hl (.int k a) h
        exact ⟨e, vc, hv, by simp only [List.foldlM_cons, hm, Sem.run_bind, Sem.run_pure, Result.andThen_ok]; rw [if_neg (by simpa using hab)]; exact hr⟩
    · cases h

/-! ### Conversions -/

theorem bytesK_inv {v : AV} {m' : AMem} : ∀ {l : List AV} {cs : List Value} (_ : VRs ρ l cs) {k : List Nat → OR} (_ : bytesK l k = .mk v m'),
    ∃ bs : List UInt8, k (bs.map UInt8.toNat) = .mk v m' ∧ cs = bs.map fun b => Value.int .u8 (b.toNat : Int)
  | _, _, .nil, k, h => ⟨[], h, rfl⟩
  | _, _, .cons a c l cs ha hl, k, h => by
    cases a <;> first | (cases h; done) | skip
    rename_i kk n
    cases kk <;> cases n <;> first | (cases h; done) | skip
    rename_i n
    simp only [bytesK, bif2_eq] at h
    split at h
    · rename_i hn
      have hn : n < 256 := by simpa [Nat.blt_eq] using hn
      obtain ⟨bs, h1, h2⟩ := bytesK_inv hl h
      cases ha
      have e : (UInt8.ofNat n).toNat = n := by simp [UInt8.toNat_ofNat', Nat.mod_eq_of_lt hn]
      exact ⟨UInt8.ofNat n :: bs, by simpa [e] using h1, by rw [h2]; simp [e]⟩
    · cases h

theorem foldl_push (bs : List UInt8) : ∀ acc : ByteArray, (bs.map fun b => (b.toNat : Int)).foldl (fun r n => r.push (UInt8.ofNat n.toNat)) acc = ⟨(acc.data.toList ++ bs).toArray⟩ := by
  induction bs with
  | nil => intro acc; simp
  | cons b bs ih =>
    intro acc
    simp only [List.map_cons, List.foldl_cons]
    rw [ih]
    simp

theorem aConvert_run (V : View ρ m w) {src dst : TypeId} {x : AV} {vx : Value} (hx : VR ρ x vx) {v : AV} {m' : AMem} (h : aConvert P src dst x m = .mk v m') (hf : Fresh ρ m.next m'.next) : RunsV P ρ m w v m' (convert src dst vx) := by
  unfold aConvert at h
  split at h
  · rename_i d0 k k' n hs hd
    cases hx
    rw [wrapK_eq] at h
    exact (Val.mk h (by simp [convert, run_underlying hs, run_underlying hd, Conv.intToInt]) (.int _ _)).runsV V
  · rename_i d0 s hs hd
    obtain ⟨z, rfl, hz⟩ := str_inv hx
    exact (Val.mk h (by simp [convert, run_underlying hs, run_underlying hd]) (.str _ _ hz)).runsV V
  · rename_i x' e hs hd hne
    split at h
    · rename_i hu8
      have conv : ∀ (a : Option Addr) (l c : Nat), (convert src dst (.slice a l c)).run P w = (Conv.bytesToString (.slice a l c)).run P w := fun a l c => by
        simp [convert, run_underlying hs, run_underlying hd, run_underlying hu8]
      split at h
      · rename_i b off len cap
        obtain ⟨ro, sg, E, N, c, h1, h2, h3⟩ := loadK_inv h
        have go : ∀ (L : Loc) cc, ρ b = some L → RunsV P ρ m w v m' (convert src dst (.slice (some ⟨L.blk, L.base + off, none⟩) len cc)) := fun L cc hL => by
          obtain ⟨vs, hl, hrun, hr⟩ := V.load (P := P) h1 hL h2
          obtain ⟨bs, hk, hcs⟩ := bytesK_inv hr h3
          cases hk
          have hrun0 := hrun w rfl
          rw [hcs] at hrun0
          have := run_bytesToString (P := P) w ⟨L.blk, L.base + off, none⟩ len cc (bs.map fun b => (b.toNat : Int)) (by rw [hrun0]; simp only [List.map_map]; rfl)
          rw [foldl_push] at this
          exact ⟨ρ, w, .string ⟨(ByteArray.empty.data.toList ++ bs).toArray⟩, V.refl, .str _ _ (by simp), by rw [conv, this]⟩
        cases hx with
        | sliceE _ _ _ _ L hL => exact go L _ hL
        | sliceO _ _ _ _ L hL => exact go L _ hL
      · cases hx
        exact (Val.mk h (uc := .string .empty) (by rw [conv]; simp [Conv.bytesToString]) (.str _ _ (by simp))).runsV V
      · cases hx
        exact (Val.mk h (uc := .string .empty) (by rw [conv, run_bytesToString (P := P) w _ 0 _ [] (by simp [loadCells, loadCellsFrom])]; rfl) (.str _ _ (by simp))).runsV V
      · cases h
    · cases h
  · rename_i d0 e s hs hd
    obtain ⟨z, rfl, hz⟩ := str_inv hx
    split at h
    · rename_i i hu8 hi
      rw [bif2_eq] at h
      split at h
      · rename_i hc
        simp only [Bool.and_eq_true, Nat.ble_eq] at hc
        have hlen := str_len hz
        obtain ⟨m1, c, hn, hg, hcc, hk⟩ := newBlk_inv h
        rw [fNat_eq] at hk
        cases hk
        have hcap : ∃ cap, z.size ≤ cap ∧ (Conv.stringToBytes e z).run P w = .ok (.slice (some ⟨w.heap.size, 0, none⟩) z.size cap)
            (({ w with drawn := w.drawn + 1 } : World).alloc (.cells (((z.data.toList.map fun (b : UInt8) => Value.int .u8 (b.toNat : Int)) ++ List.replicate (cap - z.size) (Value.int .u8 0)).toArray) e (cap, cap + 1))) := by
          refine ⟨(Question.appendCap z.size 0 e).cut (w.tape w.drawn (.appendCap z.size 0 e)), by show z.size ≤ z.size + _; omega, ?_⟩
          have hle : z.size ≤ (Question.appendCap z.size 0 e).cut (w.tape w.drawn (.appendCap z.size 0 e)) := by show z.size ≤ z.size + _; omega
          generalize hq : (Question.appendCap z.size 0 e).cut (w.tape w.drawn (.appendCap z.size 0 e)) = cap at *
          have hsz : (((z.data.toList.map fun (b : UInt8) => Value.int .u8 (b.toNat : Int)) ++ List.replicate (cap - z.size) (Value.int .u8 0)).toArray).size = cap := by simp; omega
          have hA : (Array.map (fun b : UInt8 => Value.int .u8 (b.toNat : Int)) z.data) ++ Array.replicate (cap - z.size) (Value.int .u8 0) = ((z.data.toList.map fun (b : UInt8) => Value.int .u8 (b.toNat : Int)) ++ List.replicate (cap - z.size) (Value.int .u8 0)).toArray := by
            apply Array.ext'; simp
          have hfz : (w.drew.alloc (.cells (((z.data.toList.map fun (b : UInt8) => Value.int .u8 (b.toNat : Int)) ++ List.replicate (cap - z.size) (Value.int .u8 0)).toArray) e)).freeze ⟨w.heap.size, cap, none⟩ 1 =
              w.drew.alloc (.cells (((z.data.toList.map fun (b : UInt8) => Value.int .u8 (b.toNat : Int)) ++ List.replicate (cap - z.size) (Value.int .u8 0)).toArray) e (cap, cap + 1)) := by
            rw [World.freeze, if_neg (by decide)]
            simp only [World.alloc, World.drew]
            congr 1
            apply Array.ext_getElem?
            intro i
            simp only [Array.getElem?_modify, Array.getElem?_push]
            by_cases hi : i = w.heap.size
            · subst hi; simp
            · simp [hi, Ne.symm hi]
          have hshape : (w.drew.alloc (.cells (((z.data.toList.map fun (b : UInt8) => Value.int .u8 (b.toNat : Int)) ++ List.replicate (cap - z.size) (Value.int .u8 0)).toArray) e)).shape? w.heap.size = some (e, cap) := by
            simp only [World.shape?]
            rw [show (w.drew.alloc (.cells (((z.data.toList.map fun (b : UInt8) => Value.int .u8 (b.toNat : Int)) ++ List.replicate (cap - z.size) (Value.int .u8 0)).toArray) e)).heap[w.heap.size]? = _ from heap_alloc_new w.drew _]
            simp only [hsz]
          simp only [Conv.stringToBytes, Sem.run_bind, run_choose, Question.forced, Bool.false_eq_true, if_false, Result.andThen_ok, hq, newRow, run_newObj, Sem.run_pure, hA, World.drew_eq, World.alloc_eq, markStringish, run_shape, World.size_drew, hshape, run_freeze]
          rw [hfz]
        obtain ⟨cap, hle, hrun⟩ := hcap
        have V1 : View ρ m { w with drawn := w.drawn + 1 } := V.world rfl
        have hl : VRs ρ (s.map fun c => AV.int .u8 (.ofNat c)) (z.data.toList.map fun (b : UInt8) => Value.int .u8 (b.toNat : Int)) := by
          rw [← hz, List.map_map]
          generalize z.data.toList = q
          induction q with
          | nil => exact .nil
          | cons a q ih => exact .cons _ _ _ _ (.int _ _) ih
        have hst := V1.new (rest := List.replicate (cap - z.size) (Value.int .u8 0)) hl hn hg hcc (hf _ (Nat.le_refl _) (by omega)) (A := ((z.data.toList.map fun (b : UInt8) => Value.int .u8 (b.toNat : Int)) ++ List.replicate (cap - z.size) (Value.int .u8 0)).toArray) rfl (elem := e) (fz := (cap, cap + 1)) (fun i hi => by simp at hi ⊢; omega) (fun q => by cases q) (E := 1)
        refine ⟨_, _, .slice (some ⟨w.heap.size, 0 + 0, none⟩) z.size cap, (GStep.drew V.sim V.wf _).trans hst, ?_, ?_⟩
        · rw [hlen]
          refine .sliceO _ _ _ _ ⟨w.heap.size, 0, _, 1⟩ (Ren.set_same _ _ _) hle ?_
          simp; omega
        · rw [show (convert src dst (.string z)).run P w = (Conv.stringToBytes e z).run P w from by simp [convert, run_underlying hs, run_underlying hd, run_underlying hu8]]
          exact hrun
      · cases h
    · cases h
  · cases h

/-! ### The builtins -/

theorem VRs.two {a b : AV} {cs : List Value} (h : VRs ρ [a, b] cs) : ∃ x y, cs = [x, y] ∧ VR ρ a x ∧ VR ρ b y := by
  cases h with | cons _ x _ _ h1 h2 => cases h2 with | cons _ y _ _ h3 h4 => cases h4; exact ⟨x, y, rfl, h1, h3⟩
theorem VRs.one' {a : AV} {cs : List Value} (h : VRs ρ [a] cs) : ∃ x, cs = [x] ∧ VR ρ a x := by
  cases h with | cons _ x _ _ h1 h2 => cases h2; exact ⟨x, rfl, h1⟩

theorem builtinA_run (V : View ρ m w) {b : Builtin} {ats : Array TypeId} {vs : List AV} {cs : List Value} (hv : VRs ρ vs cs) (ty : TypeId) (consts : Array Bool) {v : AV} {m' : AMem} (h : builtinA P b ats vs m = .mk v m') (hf : Fresh ρ m.next m'.next) :
    Runs P ρ m w v m' (builtin b ats ty consts cs.toArray) := by
  unfold builtinA at h
  split at h
  · rename_i t x h0
    obtain ⟨c, rfl, hc⟩ := hv.one'
    exact ((aLen_val h0 ty hc h).runsV V).runs
  · rename_i t x h0
    obtain ⟨c, rfl, hc⟩ := hv.one'
    exact ((aCap_val h0 ty hc h).runsV V).runs
  · rename_i t s x h0
    obtain ⟨c, d, rfl, hc, hd⟩ := hv.two
    exact (aAppend_run V h0 ty hc hd h hf).runs
  · rename_i t s x h0
    obtain ⟨c, d, rfl, hc, hd⟩ := hv.two
    exact (aCopy_run V h0 ty hc hd h).runs
  · rename_i t x h0
    obtain ⟨c, rfl, hc⟩ := hv.one'
    exact (aClear_run V h0 ty hc h).runs
  · rename_i x l
    cases hv with | cons _ c _ cs h1 h2 => exact ((aMax_val h2 h1 h).runsV V).runs
  · rename_i x l
    cases hv with | cons _ c _ cs h1 h2 => exact ((aMin_val h2 h1 h).runsV V).runs
  · cases h

end
end Go.Ev
