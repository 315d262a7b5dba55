/- Operations, on: the builtins, conversions; all operations that call no function. Operations on maps: lookup, update, entries, new ones. One operation, whatever it is, a call too. Calls, regions in their order, code: whatever the evaluator answers the model comes to. Reads leave memory as it is; the small laws of masks; what is the same. -/
import Derived.Test.YtehbmncbojngnaaGreatDoorEvGb
import Derived.MapKept
import Derived.WideKeyRuns
import Derived.Scope
section
namespace Go.Ev
set_option linter.all false
section
variable {P : Program} {ρ : Ren} {m : AMem} {w : World}
/-- As 'Runs', of what yields a value. -/
noncomputable def RunsV (P : Program) (ρ : Ren) (m : AMem) (w : World) (v : AV) (m' : AMem) (s : Sem Value) : Prop := ∃ ρ' w' vc, Step ρ m w ρ' m' w' ∧ VR ρ' v vc ∧ s.run P w = .ok vc w'
theorem RunsV.runs {v : AV} {m' : AMem} {s : Sem Value} (h : RunsV P ρ m w v m' s) : Runs P ρ m w v m' (do pure (.value (← s))) := by
  obtain ⟨ρ', w', vc, h1, h2, h3⟩ := h
  exact ⟨ρ', w', vc, h1, h2, .inl (Sem.value_run h3)⟩
theorem Val.runsV (V : View ρ m w) {v : AV} {m' : AMem} {s : Sem Value} (h : Val P ρ m w v m' s) : RunsV P ρ m w v m' s := by
  obtain ⟨rfl, vc, hv, hr⟩ := h
  exact ⟨ρ, w, vc, V.refl, hv, hr⟩
theorem intT_inv {xt : Option TypeId} (h : intT P xt = true) : ∃ t k, xt = some t ∧ P.underlying t = some (.int k) := by
  unfold intT at h
  split at h
  · rename_i t
    split at h
    · rename_i k hu; exact ⟨t, k, rfl, hu⟩
    · cases h
  · cases h
theorem run_append_zeros {ats : Array TypeId} {st xt e : TypeId} {kn kq : IntKind} {i : TypeInfo} {z : Value} (h0 : ats[0]? = some st) (h1 : ats[1]? = some xt) (hu : P.underlying st = some (.slice e)) (hx : P.underlying xt = some (.int kn)) (hi : P.info? e = some i) (hz : i.zero = some z)
    (hby : i.bytes ≤ 4096) (hpos : 0 < i.size) (ty : TypeId) {base : Option Addr} {sLen sCap k : Nat} (hk : 0 < k) (hgt : sCap < sLen + k) (hs : sLen + k ≤ 1048576) {old : List Value}
    (ho : ∀ w1 : World, w1.heap = w.heap → (Builtin.firstCells i.size sLen (.slice base sLen sCap)).run P w1 = .ok old.toArray w1) :
    ∃ cap, sLen + k ≤ cap ∧ (Builtin.append_ ats ty #[.slice base sLen sCap, .int kq (Int.ofNat k)]).run P w =
      .ok (.slice (some ⟨w.heap.size, 0, none⟩) (sLen + k) cap) (({ w with drawn := w.drawn + 1 } : World).alloc (.cells ((old ++ (Builtin.zeroCells z.cells k).toList) ++ (Builtin.zeroCells z.cells (cap - (sLen + k))).toList).toArray e)) := by
  refine ⟨(Question.appendCap (sLen + k) sCap e).cut (w.tape w.drawn (.appendCap (sLen + k) sCap e)), by show sLen + k ≤ (sLen + k) + _; omega, ?_⟩
  have hfit : Builtin.nextslicecap (sLen + k) sCap * i.bytes ≤ 281474976710656 := growslice_fits hgt (by
    have : (sLen + k) * i.bytes ≤ 1048576 * 4096 := Nat.mul_le_mul hs hby
    omega)
  have h48 : k * i.bytes ≤ 281474976710656 := by
    have : k * i.bytes ≤ 1048576 * 4096 := Nat.mul_le_mul (by omega) hby
    omega
  have ho' := ho w.drew rfl
  have hkz : k ≠ 0 := by omega
  have hw : IntKind.i64.wrap (k : Int) = k := by rw [IntKind.wrap_i64]; omega
  have hn : ¬ (sLen + k ≤ sCap) := by omega
  have h63' : ¬ (9223372036854775807 < ((sLen : Int) + (k : Int))) := by omega
  have h48' : ¬ (281474976710656 < Builtin.nextslicecap (sLen + k) sCap * i.bytes) := by omega
  have h48i : ¬ (281474976710656 < (k : Int) * (i.bytes : Int)) := by
    rw [← Int.natCast_mul]
    omega
  have hneg : ¬ ((k : Int) < 0) := by omega
  have hns : ¬ (k * i.size = 0) := Nat.mul_ne_zero hkz (by omega)
  simp [Builtin.append_, h0, h1, run_underlying hu, run_underlying hx, sizeOf, typeInfo, zeroValue, hi, hz, asInt, asIntOf, hw, hn, hneg, hns, h63', h48', h48i, Question.forced, ho', newRow]
  congr 2
  apply Array.ext'
  simp
theorem aAppendZ_run (V : View ρ m w) {ats : Array TypeId} {st e : TypeId} (h0 : ats[0]? = some st) (ty : TypeId) {s x : AV} {vs vx : Value} (hs : VR ρ s vs) (hx : VR ρ x vx) {i : TypeInfo} {z : List AV} {zv : Value} (hu : P.underlying st = some (.slice e)) (hi : P.info? e = some i)
    (hz : i.zero = some zv) (hzr : VRs ρ z zv.cells.toList) (hzl : z.length = i.size) (hpos : 0 < i.size) (hby : i.bytes ≤ 4096) (hzs : zv.cells.size = i.size) {v : AV} {m' : AMem} (h : aAppendZ P i z ats[1]? s x m = .mk v m') (hf : Fresh ρ m.next m'.next) :
    RunsV P ρ m w v m' (Builtin.append_ ats ty #[vs, vx]) := by
  unfold aAppendZ at h
  split at h
  · rename_i b off len c kq k
    rw [bif2_eq] at h
    split at h
    · rename_i hc
      simp only [Bool.and_eq_true, Nat.blt_eq, Nat.ble_eq] at hc
      obtain ⟨⟨⟨hc1, hc2⟩, hc3⟩, hc4⟩ := hc
      have hc3 : c < len + k := hc3
      have hc4 : len + k ≤ 1048576 := hc4
      obtain ⟨xt, kn, h1, hxt⟩ := intT_inv hc1
      obtain ⟨old, co, h2, ho, hol, hro, _⟩ := elemsK_inv (P := P) V hs h
      rw [fNat_eq] at h2
      cases hs with | sliceE _ _ _ _ L hL hle =>
      cases hx
      obtain ⟨cap, hcap, hrun⟩ := run_append_zeros (kq := kq) h0 h1 hu hxt hi hz hby hpos ty hc2 hc3 hc4 hro
      have hzc : VRs ρ (repA z k) (Builtin.zeroCells zv.cells k).toList := by
        have := repA_rel hzr (by omega) k
        exact this
      obtain ⟨ρ', hst, hv⟩ := growA_run V (rest := (Builtin.zeroCells zv.cells (cap - (len + k))).toList) (ho.append hzc) h2 hf hcap (by
        simp only [List.length_append, Array.length_toList, zeroCells_size, hol, hzs]
        rw [← Nat.add_mul, ← Nat.add_mul]; congr 1; omega) e
      exact ⟨ρ', _, _, hst, hv, hrun⟩
    · cases h
  · cases h
theorem aAppend_run (V : View ρ m w) {ats : Array TypeId} {st : TypeId} (h0 : ats[0]? = some st) (ty : TypeId) {s x : AV} {vs vx : Value} (hs : VR ρ s vs) (hx : VR ρ x vx) {v : AV} {m' : AMem} (h : aAppend P st ats[1]? s x m = .mk v m') (hf : Fresh ρ m.next m'.next) :
    RunsV P ρ m w v m' (Builtin.append_ ats ty #[vs, vx]) := by
  unfold aAppend at h
  split at h
  · rename_i i z he
    obtain ⟨e, zv, hu, hi, hz, hzr, hzl, hpos, hby, hzs⟩ := elemInfo_inv (ρ := ρ) he
    rw [bif2_eq] at h
    split at h
    · exact aAppendZ_run V h0 ty hs hx hu hi hz hzr hzl hpos hby hzs h hf
    · rename_i hap
      obtain ⟨xt, d, g1, g2, g3⟩ := appendable_inv (P := P) (by simpa using hap)
      have A : ApT P ats st e i zv := ⟨h0, ⟨xt, d, g1, g2, g3⟩, hu, hi, hz, hby⟩
      split at h
      · cases h
      · rename_i n hn
        rw [fNat_eq, bif2_eq] at h
        split at h
        · cases h
        · rename_i hbig
          have hbig : n ≤ 1048576 := by simpa [Nat.blt_eq] using hbig
          have hl := lenA_run (P := P) hx hn w
          split at h
          · -- nil
            cases hs
            rw [bif2_eq] at h
            split at h
            · rename_i h00
              obtain rfl : n = 0 := Nat.eq_of_beq_eq_true h00
              cases h
              exact ⟨ρ, w, _, V.refl, .nils, append_none A ty hl (Nat.le_refl _)⟩
            · rename_i h00
              have h00 : n ≠ 0 := fun q => h00 (by rw [q]; rfl)
              obtain ⟨new, cn, h2, hn2, hnl, hrn, _⟩ := elemsK_inv (P := P) V hx h
              obtain ⟨cp, hcp, hrun⟩ := run_append_new (base := none) (sLen := 0) (sCap := 0) A ty hl (by omega) (by omega) (old := []) (fun w1 _ => by simp [Builtin.firstCells]) hrn
              simp only [Nat.zero_add] at hcp hrun
              obtain ⟨ρ', hst, hv⟩ := growA_run V (rest := (Builtin.zeroCells zv.cells (cp - n)).toList) hn2 h2 hf hcp (by
                simp only [Array.length_toList, zeroCells_size, hnl, hzs]
                rw [← Nat.add_mul]; congr 1; omega) e
              exact ⟨ρ', _, _, hst, hv, by simpa using hrun⟩
          · cases hs
            rw [bif2_eq] at h
            split at h
            · rename_i h00
              obtain rfl : n = 0 := Nat.eq_of_beq_eq_true h00
              cases h
              exact ⟨ρ, w, _, V.refl, .emp _ _, append_none A ty hl (Nat.zero_le _)⟩
            · cases h
          · rename_i b off len cap
            rw [bif2_eq] at h
            split at h
            · rename_i h00
              obtain rfl : n = 0 := Nat.eq_of_beq_eq_true h00
              cases h
              refine ⟨ρ, w, vs, V.refl, hs, ?_⟩
              cases hs with
              | sliceE _ _ _ _ L hL hle => exact append_none A ty hl hle
              | sliceO _ _ _ _ L hL hle => exact append_none A ty hl hle
            · rw [bif2_eq] at h
              split at h
              · cases h
              · rename_i hb2
                exact appendTo_run V A hzs hpos ty hs hx hn hbig (by simpa [Nat.blt_eq] using hb2) h hf
          · cases h
  · cases h
theorem aCopy_run (V : View ρ m w) {ats : Array TypeId} {dt : TypeId} (h0 : ats[0]? = some dt) (ty : TypeId) {d x : AV} {vd vx : Value} (hd : VR ρ d vd) (hx : VR ρ x vx) {v : AV} {m' : AMem} (h : aCopy P dt d x m = .mk v m') :
    RunsV P ρ m w v m' (Builtin.copy_ ats ty #[vd, vx]) := by
  unfold aCopy at h
  split at h
  · rename_i i z he
    obtain ⟨e, zv, hu, hi, hz, hzr, hzl, hpos, hby, hzs⟩ := elemInfo_inv (ρ := ρ) he
    split at h
    · rename_i n b off len cap hn
      have hl := lenA_run (P := P) hx hn w
      rw [fNat_eq] at h
      have hmin : (bif2 (Nat.ble n len) n len) = Nat.min n len := by
        rw [bif2_eq]; split
        · rename_i q; exact (Nat.min_eq_left (by simpa [Nat.ble_eq] using q)).symm
        · rename_i q; exact (Nat.min_eq_right (by simp [Nat.ble_eq] at q; omega)).symm
      rw [hmin] at h
      obtain ⟨new, cn, h2, hn2, hnl, hrn, _⟩ := elemsK_inv (P := P) V hx h
      obtain ⟨_, _, _, _, hb, _⟩ := storeK_inv h2
      obtain ⟨L, hL⟩ : ∃ L, ρ b = some L := by obtain ⟨L, hL, _⟩ := (V.sim.blk b _ hb).loc; exact ⟨L, hL⟩
      obtain ⟨m1, w1, hk1, hrun1, hst⟩ := V.store (P := P) hL hn2 h2
      cases hk1
      have go : ∀ cc, RunsV P ρ m w (.int .i64 (Int.ofNat (Nat.min n len))) _ (Builtin.copy_ ats ty #[.slice (some ⟨L.blk, L.base + off, none⟩) len cc, vx]) := fun cc => by
        refine ⟨ρ, w1, .int .i64 (Int.ofNat (Nat.min n len)), hst, .int _ _, ?_⟩
        simp [Builtin.copy_, h0, run_underlying hu, hl, run_sizeOf hi, hrn w rfl, hrun1, goInt]
      cases hd with
      | sliceE _ _ _ _ L' hL' => rw [hL] at hL'; cases hL'; exact go _
      | sliceO _ _ _ _ L' hL' => rw [hL] at hL'; cases hL'; exact go _
    · rename_i n hn
      have hl := lenA_run (P := P) hx hn w
      cases h; cases hd
      have hz0 : (Builtin.firstCells i.size 0 vx).run P w = .ok #[] w := by
        cases hx <;> simp [lenA] at hn <;> simp [Builtin.firstCells, loadCells, loadCellsFrom]
      exact ⟨ρ, w, .int .i64 0, V.refl, .int _ _, by simp [Builtin.copy_, h0, run_underlying hu, hl, run_sizeOf hi, hz0, goInt]⟩
    · rename_i n hn
      have hl := lenA_run (P := P) hx hn w
      cases h; cases hd
      have hz0 : (Builtin.firstCells i.size 0 vx).run P w = .ok #[] w := by
        cases hx <;> simp [lenA] at hn <;> simp [Builtin.firstCells, loadCells, loadCellsFrom]
      exact ⟨ρ, w, .int .i64 0, V.refl, .int _ _, by simp [Builtin.copy_, h0, run_underlying hu, hl, run_sizeOf hi, hz0, goInt, storeCells]⟩
    · cases h
  · cases h
theorem aClear_run (V : View ρ m w) {ats : Array TypeId} {t : TypeId} (h0 : ats[0]? = some t) (ty : TypeId) {x : AV} {vx : Value} (hx : VR ρ x vx) {v : AV} {m' : AMem}
    (h : aClear P t x m (fun b off l => storeK m b off l fun m => .mk .undef m) = .mk v m') : RunsV P ρ m w v m' (Builtin.clear_ ats ty #[vx]) := by
  unfold aClear at h
  split at h
  · rename_i q he
    obtain ⟨i, z⟩ := q
    obtain ⟨e, zv, hu, hi, hz, hzr, hzl, hpos, hby, hzs⟩ := elemInfo_inv (ρ := ρ) he
    cases h; cases hx
    exact ⟨ρ, w, undef, V.refl, VR.undef _, by simp [Builtin.clear_, h0, run_underlying hu, undef]⟩
  · rename_i q he
    obtain ⟨i, z⟩ := q
    obtain ⟨e, zv, hu, hi, hz, hzr, hzl, hpos, hby, hzs⟩ := elemInfo_inv (ρ := ρ) he
    cases h; cases hx
    exact ⟨ρ, w, undef, V.refl, VR.undef _, by simp [Builtin.clear_, h0, run_underlying hu, undef]⟩
  · rename_i i z b off len cap he
    obtain ⟨e, zv, hu, hi, hz, hzr, hzl, hpos, hby, hzs⟩ := elemInfo_inv (ρ := ρ) he
    have go : ∀ (L : Loc) cc, ρ b = some L → RunsV P ρ m w v m' (Builtin.clear_ ats ty #[.slice (some ⟨L.blk, L.base + off, none⟩) len cc]) := fun L cc hL => by
      rw [bif2_eq] at h
      split at h
      · rename_i h00
        obtain rfl : len = 0 := Nat.eq_of_beq_eq_true h00
        cases h
        exact ⟨ρ, w, undef, V.refl, VR.undef _, by simp [Builtin.clear_, h0, run_underlying hu, undef]⟩
      · rename_i h00
        have h00 : len ≠ 0 := fun q => h00 (by rw [q]; rfl)
        obtain ⟨m1, w1, hk1, hrun1, hst⟩ := V.store (P := P) hL (repA_rel hzr (by omega) len) h
        cases hk1
        refine ⟨ρ, w1, undef, hst, VR.undef _, ?_⟩
        have hzc : Builtin.zeroCells zv.cells len = madeCells zv.cells (len * zv.cells.size) := rfl
        obtain ⟨n, rfl⟩ : ∃ n, len = n + 1 := ⟨len - 1, by omega⟩
        simp [Builtin.clear_, h0, run_underlying hu, run_zero hi hz, hzc, hrun1, undef]
    cases hx with
    | sliceE _ _ _ _ L hL => exact go L _ hL
    | sliceO _ _ _ _ L hL => exact go L _ hL
  · cases h
theorem aLen_val {ats : Array TypeId} {t : TypeId} (h0 : ats[0]? = some t) (ty : TypeId) {x : AV} {vx : Value} (hx : VR ρ x vx) {v : AV} {m' : AMem} (h : aLen P t x m = .mk v m') : Val P ρ m w v m' (Builtin.len_ ats ty #[vx]) := by
  unfold aLen at h
  split at h
  · rename_i s hu
    obtain ⟨z, rfl, hz⟩ := str_inv hx
    rw [fNat_eq, str_len hz] at h
    exact Val.mk h (by simp [Builtin.len_, h0, run_underlying hu]; rfl) (.int _ _)
  · rename_i e b off n c hu
    cases hx <;> exact Val.mk h (by simp [Builtin.len_, h0, run_underlying hu]; rfl) (.int _ _)
  · rename_i e hu
    cases hx; exact Val.mk h (by simp [Builtin.len_, h0, run_underlying hu]; rfl) (.int _ _)
  · rename_i e hu
    cases hx; exact Val.mk h (by simp [Builtin.len_, h0, run_underlying hu]; rfl) (.int _ _)
  · rename_i n e hu
    exact Val.mk h (by simp [Builtin.len_, h0, run_underlying hu]; rfl) (.int _ _)
  · rename_i a hu
    split at h
    · rename_i n e hu2
      exact Val.mk h (by simp [Builtin.len_, h0, run_underlying hu, run_underlying hu2]; rfl) (.int _ _)
    · cases h
  · cases h
theorem aCap_val {ats : Array TypeId} {t : TypeId} (h0 : ats[0]? = some t) (ty : TypeId) {x : AV} {vx : Value} (hx : VR ρ x vx) {v : AV} {m' : AMem} (h : aCap P t x m = .mk v m') : Val P ρ m w v m' (Builtin.cap_ ats ty #[vx]) := by
  unfold aCap at h
  split at h
  · rename_i e b off n c hu
    cases hx; exact Val.mk h (by simp [Builtin.cap_, h0, run_underlying hu]; rfl) (.int _ _)
  · rename_i e hu
    cases hx; exact Val.mk h (by simp [Builtin.cap_, h0, run_underlying hu]; rfl) (.int _ _)
  · rename_i n e hu
    exact Val.mk h (by simp [Builtin.cap_, h0, run_underlying hu]; rfl) (.int _ _)
  · cases h
theorem aMax_val : ∀ {l : List AV} {cs : List Value} (_ : VRs ρ l cs) {x : AV} {vx : Value} (_ : VR ρ x vx) {v : AV} {m' : AMem} (_ : aMM true x l m = .mk v m'), Val P ρ m w v m' (cs.foldlM Builtin.max2 vx)
  | _, _, .nil, x, vx, hx, v, m', h => by
    have h : OR.mk x m = .mk v m' := by cases x <;> exact h
    exact Val.mk h (by simp) hx
  | _, _, .cons y c l cs hy hl, x, vx, hx, v, m', h => by
    cases x <;> cases y <;> first | (cases h; done) | skip
    rename_i k a k' b
    simp only [aMM, bif2_eq, if_true] at h
    cases hx; cases hy
    split at h
    · rename_i hk
      obtain rfl := kEq_eq hk
      have hm : (Builtin.max2 (.int k a) (.int k b)) = pure (.int k (if b > a then b else a)) := rfl
      rw [iLt_eq] at h
      split at h
      · rename_i hab
        obtain ⟨e, vc, hv, hr⟩ := aMax_val hl (.int k b) h
        exact ⟨e, vc, hv, by simp only [List.foldlM_cons, hm, Sem.run_bind, Sem.run_pure, Result.andThen_ok]; rw [if_pos (by simpa using hab)]; exact hr⟩
      · rename_i hab
        obtain ⟨e, vc, hv, hr⟩ := aMax_val hl (.int k a) h
        exact ⟨e, vc, hv, by simp only [List.foldlM_cons, hm, Sem.run_bind, Sem.run_pure, Result.andThen_ok]; rw [if_neg (by simpa using hab)]; exact hr⟩
    · cases h
theorem aMin_val : ∀ {l : List AV} {cs : List Value} (_ : VRs ρ l cs) {x : AV} {vx : Value} (_ : VR ρ x vx) {v : AV} {m' : AMem} (_ : aMM false x l m = .mk v m'), Val P ρ m w v m' (cs.foldlM Builtin.min2 vx)
  | _, _, .nil, x, vx, hx, v, m', h => by
    have h : OR.mk x m = .mk v m' := by cases x <;> exact h
    exact Val.mk h (by simp) hx
  | _, _, .cons y c l cs hy hl, x, vx, hx, v, m', h => by
    cases x <;> cases y <;> first | (cases h; done) | skip
    rename_i k a k' b
    simp only [aMM, bif2_eq, Bool.false_eq_true, if_false] at h
    cases hx; cases hy
    split at h
    · rename_i hk
      obtain rfl := kEq_eq hk
      have hm : (Builtin.min2 (.int k a) (.int k b)) = pure (.int k (if b < a then b else a)) := rfl
      rw [iLt_eq] at h
      split at h
      · rename_i hab
        obtain ⟨e, vc, hv, hr⟩ := aMin_val hl (.int k b) h
        exact ⟨e, vc, hv, by simp only [List.foldlM_cons, hm, Sem.run_bind, Sem.run_pure, Result.andThen_ok]; rw [if_pos (by simpa using hab)]; exact hr⟩
      · rename_i hab
        obtain ⟨e, vc, hv, hr⟩ := aMin_val hl (.int k a) h
        exact ⟨e, vc, hv, by simp only [List.foldlM_cons, hm, Sem.run_bind, Sem.run_pure, Result.andThen_ok]; rw [if_neg (by simpa using hab)]; exact hr⟩
    · cases h
/-! ### Conversions -/
theorem bytesK_inv {v : AV} {m' : AMem} : ∀ {l : List AV} {cs : List Value} (_ : VRs ρ l cs) {k : List Nat → OR} (_ : bytesK l k = .mk v m'),
    ∃ bs : List UInt8, k (bs.map UInt8.toNat) = .mk v m' ∧ cs = bs.map fun b => Value.int .u8 (b.toNat : Int)
  | _, _, .nil, k, h => ⟨[], h, rfl⟩
  | _, _, .cons a c l cs ha hl, k, h => by
    cases a <;> first | (cases h; done) | skip
    rename_i kk n
    cases kk <;> cases n <;> first | (cases h; done) | skip
    rename_i n
    simp only [bytesK, bif2_eq] at h
    split at h
    · rename_i hn
      have hn : n < 256 := by simpa [Nat.blt_eq] using hn
      obtain ⟨bs, h1, h2⟩ := bytesK_inv hl h
      cases ha
      have e : (UInt8.ofNat n).toNat = n := by simp [UInt8.toNat_ofNat', Nat.mod_eq_of_lt hn]
      exact ⟨UInt8.ofNat n :: bs, by simpa [e] using h1, by rw [h2]; simp [e]⟩
    · cases h
theorem foldl_push (bs : List UInt8) : ∀ acc : ByteArray, (bs.map fun b => (b.toNat : Int)).foldl (fun r n => r.push (UInt8.ofNat n.toNat)) acc = ⟨(acc.data.toList ++ bs).toArray⟩ := by
  induction bs with
  | nil => intro acc; simp
  | cons b bs ih =>
    intro acc
    simp only [List.map_cons, List.foldl_cons]
    rw [ih]
    simp
theorem aConvert_run (V : View ρ m w) {src dst : TypeId} {x : AV} {vx : Value} (hx : VR ρ x vx) {v : AV} {m' : AMem} (h : aConvert P src dst x m = .mk v m') (hf : Fresh ρ m.next m'.next) : RunsV P ρ m w v m' (convert src dst vx) := by
  unfold aConvert at h
  split at h
  · rename_i d0 k k' n hs hd
    cases hx
    rw [wrapK_eq] at h
    exact (Val.mk h (by simp [convert, run_underlying hs, run_underlying hd, Conv.intToInt]) (.int _ _)).runsV V
  · rename_i d0 s hs hd
    obtain ⟨z, rfl, hz⟩ := str_inv hx
    exact (Val.mk h (by simp [convert, run_underlying hs, run_underlying hd]) (.str _ _ hz)).runsV V
  · rename_i x' e hs hd hne
    split at h
    · rename_i hu8
      have conv : ∀ (a : Option Addr) (l c : Nat), (convert src dst (.slice a l c)).run P w = (Conv.bytesToString (.slice a l c)).run P w := fun a l c => by
        simp [convert, run_underlying hs, run_underlying hd, run_underlying hu8]
      split at h
      · rename_i b off len cap
        obtain ⟨ro, sg, E, N, c, h1, h2, h3⟩ := loadK_inv h
        have go : ∀ (L : Loc) cc, ρ b = some L → RunsV P ρ m w v m' (convert src dst (.slice (some ⟨L.blk, L.base + off, none⟩) len cc)) := fun L cc hL => by
          obtain ⟨vs, hl, hrun, hr⟩ := V.load (P := P) h1 hL h2
          obtain ⟨bs, hk, hcs⟩ := bytesK_inv hr h3
          cases hk
          have hrun0 := hrun w rfl
          rw [hcs] at hrun0
          have := run_bytesToString (P := P) w ⟨L.blk, L.base + off, none⟩ len cc (bs.map fun b => (b.toNat : Int)) (by rw [hrun0]; simp only [List.map_map]; rfl)
          rw [foldl_push] at this
          exact ⟨ρ, w, .string ⟨(ByteArray.empty.data.toList ++ bs).toArray⟩, V.refl, .str _ _ (by simp), by rw [conv, this]⟩
        cases hx with
        | sliceE _ _ _ _ L hL => exact go L _ hL
        | sliceO _ _ _ _ L hL => exact go L _ hL
      · cases hx
        exact (Val.mk h (uc := .string .empty) (by rw [conv]; simp [Conv.bytesToString]) (.str _ _ (by simp))).runsV V
      · cases hx
        exact (Val.mk h (uc := .string .empty) (by rw [conv, run_bytesToString (P := P) w _ 0 _ [] (by simp [loadCells, loadCellsFrom])]; rfl) (.str _ _ (by simp))).runsV V
      · cases h
    · cases h
  · rename_i d0 e s hs hd
    obtain ⟨z, rfl, hz⟩ := str_inv hx
    split at h
    · rename_i i hu8 hi
      rw [bif2_eq] at h
      split at h
      · rename_i hc
        simp only [Bool.and_eq_true, Nat.ble_eq] at hc
        have hlen := str_len hz
        obtain ⟨m1, c, hn, hg, hcc, hk⟩ := newBlk_inv h
        rw [fNat_eq] at hk
        cases hk
        have hcap : ∃ cap, z.size ≤ cap ∧ (Conv.stringToBytes e z).run P w = .ok (.slice (some ⟨w.heap.size, 0, none⟩) z.size cap)
            (({ w with drawn := w.drawn + 1 } : World).alloc (.cells (((z.data.toList.map fun (b : UInt8) => Value.int .u8 (b.toNat : Int)) ++ List.replicate (cap - z.size) (Value.int .u8 0)).toArray) e (cap, cap + 1))) := by
          refine ⟨(Question.appendCap z.size 0 e).cut (w.tape w.drawn (.appendCap z.size 0 e)), by show z.size ≤ z.size + _; omega, ?_⟩
          have hle : z.size ≤ (Question.appendCap z.size 0 e).cut (w.tape w.drawn (.appendCap z.size 0 e)) := by show z.size ≤ z.size + _; omega
          generalize hq : (Question.appendCap z.size 0 e).cut (w.tape w.drawn (.appendCap z.size 0 e)) = cap at *
          have hsz : (((z.data.toList.map fun (b : UInt8) => Value.int .u8 (b.toNat : Int)) ++ List.replicate (cap - z.size) (Value.int .u8 0)).toArray).size = cap := by simp; omega
          have hA : (Array.map (fun b : UInt8 => Value.int .u8 (b.toNat : Int)) z.data) ++ Array.replicate (cap - z.size) (Value.int .u8 0) = ((z.data.toList.map fun (b : UInt8) => Value.int .u8 (b.toNat : Int)) ++ List.replicate (cap - z.size) (Value.int .u8 0)).toArray := by
            apply Array.ext'; simp
          have hfz : (w.drew.alloc (.cells (((z.data.toList.map fun (b : UInt8) => Value.int .u8 (b.toNat : Int)) ++ List.replicate (cap - z.size) (Value.int .u8 0)).toArray) e)).freeze ⟨w.heap.size, cap, none⟩ 1 =
              w.drew.alloc (.cells (((z.data.toList.map fun (b : UInt8) => Value.int .u8 (b.toNat : Int)) ++ List.replicate (cap - z.size) (Value.int .u8 0)).toArray) e (cap, cap + 1)) := by
            rw [World.freeze, if_neg (by decide)]
            simp only [World.alloc, World.drew]
            congr 1
            apply Array.ext_getElem?
            intro i
            simp only [Array.getElem?_modify, Array.getElem?_push]
            by_cases hi : i = w.heap.size
            · subst hi; simp
            · simp [hi, Ne.symm hi]
          have hshape : (w.drew.alloc (.cells (((z.data.toList.map fun (b : UInt8) => Value.int .u8 (b.toNat : Int)) ++ List.replicate (cap - z.size) (Value.int .u8 0)).toArray) e)).shape? w.heap.size = some (e, cap) := by
            simp only [World.shape?]
            rw [show (w.drew.alloc (.cells (((z.data.toList.map fun (b : UInt8) => Value.int .u8 (b.toNat : Int)) ++ List.replicate (cap - z.size) (Value.int .u8 0)).toArray) e)).heap[w.heap.size]? = _ from heap_alloc_new w.drew _]
            simp only [hsz]
          simp only [Conv.stringToBytes, Sem.run_bind, run_choose, Question.forced, Bool.false_eq_true, if_false, Result.andThen_ok, hq, newRow, run_newObj, Sem.run_pure, hA, World.drew_eq, World.alloc_eq, markStringish, run_shape, World.size_drew, hshape, run_freeze]
          rw [hfz]
        obtain ⟨cap, hle, hrun⟩ := hcap
        have V1 : View ρ m { w with drawn := w.drawn + 1 } := V.world rfl
        have hl : VRs ρ (s.map fun c => AV.int .u8 (.ofNat c)) (z.data.toList.map fun (b : UInt8) => Value.int .u8 (b.toNat : Int)) := by
          rw [← hz, List.map_map]
          generalize z.data.toList = q
          induction q with
          | nil => exact .nil
          | cons a q ih => exact .cons _ _ _ _ (.int _ _) ih
        have hst := V1.new (rest := List.replicate (cap - z.size) (Value.int .u8 0)) hl hn hg hcc (hf _ (Nat.le_refl _) (by omega)) (A := ((z.data.toList.map fun (b : UInt8) => Value.int .u8 (b.toNat : Int)) ++ List.replicate (cap - z.size) (Value.int .u8 0)).toArray) rfl (elem := e) (fz := (cap, cap + 1)) (fun i hi => by simp at hi ⊢; omega) (fun q => by cases q) (E := 1)
        refine ⟨_, _, .slice (some ⟨w.heap.size, 0 + 0, none⟩) z.size cap, (GStep.drew V.sim V.wf _).trans hst, ?_, ?_⟩
        · rw [hlen]
          refine .sliceO _ _ _ _ ⟨w.heap.size, 0, _, 1⟩ (Ren.set_same _ _ _) hle ?_
          simp; omega
        · rw [show (convert src dst (.string z)).run P w = (Conv.stringToBytes e z).run P w from by simp [convert, run_underlying hs, run_underlying hd, run_underlying hu8]]
          exact hrun
      · cases h
    · cases h
  · cases h
/-! ### The builtins -/
theorem VRs.two {a b : AV} {cs : List Value} (h : VRs ρ [a, b] cs) : ∃ x y, cs = [x, y] ∧ VR ρ a x ∧ VR ρ b y := by
  cases h with | cons _ x _ _ h1 h2 => cases h2 with | cons _ y _ _ h3 h4 => cases h4; exact ⟨x, y, rfl, h1, h3⟩
theorem VRs.one' {a : AV} {cs : List Value} (h : VRs ρ [a] cs) : ∃ x, cs = [x] ∧ VR ρ a x := by
  cases h with | cons _ x _ _ h1 h2 => cases h2; exact ⟨x, rfl, h1⟩
theorem builtinA_run (V : View ρ m w) {b : Builtin} {ats : Array TypeId} {vs : List AV} {cs : List Value} (hv : VRs ρ vs cs) (ty : TypeId) (consts : Array Bool) {v : AV} {m' : AMem} (h : builtinA P b ats vs m = .mk v m') (hf : Fresh ρ m.next m'.next) :
    Runs P ρ m w v m' (builtin b ats ty consts cs.toArray) := by
  unfold builtinA at h
  split at h
  · rename_i t x h0
    obtain ⟨c, rfl, hc⟩ := hv.one'
    exact ((aLen_val h0 ty hc h).runsV V).runs
  · rename_i t x h0
    obtain ⟨c, rfl, hc⟩ := hv.one'
    exact ((aCap_val h0 ty hc h).runsV V).runs
  · rename_i t s x h0
    obtain ⟨c, d, rfl, hc, hd⟩ := hv.two
    exact (aAppend_run V h0 ty hc hd h hf).runs
  · rename_i t s x h0
    obtain ⟨c, d, rfl, hc, hd⟩ := hv.two
    exact (aCopy_run V h0 ty hc hd h).runs
  · rename_i t x h0
    obtain ⟨c, rfl, hc⟩ := hv.one'
    exact (aClear_run V h0 ty hc h).runs
  · rename_i x l
    cases hv with | cons _ c _ cs h1 h2 => exact ((aMax_val h2 h1 h).runsV V).runs
  · rename_i x l
    cases hv with | cons _ c _ cs h1 h2 => exact ((aMin_val h2 h1 h).runsV V).runs
  · cases h
end
end Go.Ev
end
section
namespace Go.Ev
set_option linter.all false
section
variable {P : Program} {ρ : Ren} {m : AMem} {w : World}
/-! ### Keys -/
theorem flatT_inv {t : TypeId} (h : flatT P t = true) : ∃ d, P.underlying t = some d ∧ (d = .bool ∨ (∃ k, d = .int k) ∨ d = .string) := by
  unfold flatT at h
  split at h
  · rename_i hu; exact ⟨_, hu, .inl rfl⟩
  · rename_i k hu; exact ⟨_, hu, .inr (.inl ⟨k, rfl⟩)⟩
  · rename_i hu; exact ⟨_, hu, .inr (.inr rfl)⟩
  · cases h
theorem check_flat {t : TypeId} (h : flatT P t = true) (em : Bool) (n : Nat) (v : Value) : (Instr.checkKey em (n + 1) t v).run P w = .ok () w := by
  obtain ⟨d, hu, hd⟩ := flatT_inv h
  unfold Instr.checkKey
  simp only [Sem.run_bind, run_underlying hu, Result.andThen_ok]
  rcases hd with rfl | ⟨k, rfl⟩ | rfl <;> cases v <;> rfl
theorem part_flat {t : TypeId} (h : flatT P t = true) {cs : Array Value} {off : Nat} {v : Value} (hc : cs[off]? = some v) : (part t cs off).run P w = .ok v w := by
  obtain ⟨d, hu, hd⟩ := flatT_inv h
  have : (isAgg t).run P w = .ok false w := by rcases hd with rfl | ⟨k, rfl⟩ | rfl <;> simp [isAgg, run_underlying hu]
  simp [part, this, hc]
theorem check_fields (em : Bool) (n : Nat) {cs : Array Value} : ∀ (fs : List Field) (_ : ∀ f, f ∈ fs → f.offset < cs.size ∧ flatT P f.type = true),
    (forIn fs PUnit.unit (fun f (_ : PUnit) => do
      if f.name ≠ "_" then
        let a ← part f.type cs f.offset
        Instr.checkKey em (n + 1) f.type a
      pure (ForInStep.yield PUnit.unit)) : Sem PUnit).run P w = .ok PUnit.unit w
  | [], _ => by simp
  | f :: fs, h => by
    obtain ⟨h1, h2⟩ := h f (by simp)
    have ih := check_fields em n fs fun g hg => h g (by simp [hg])
    have hp := part_flat (w := w) h2 (cs := cs) (off := f.offset) (v := cs[f.offset]) (by simp [h1])
    have hk := check_flat (w := w) h2 em n cs[f.offset]
    simp only [List.forIn_cons, Sem.run_bind, Sem.run_ite]
    by_cases hn : f.name = "_"
    · simp only [hn, ne_eq, not_true_eq_false, if_false, Sem.run_pure, Result.andThen_ok]
      exact ih
    · simp only [hn, ne_eq, not_false_eq_true, if_true, hp, hk, Sem.run_pure, Result.andThen_ok]
      exact ih
theorem check_ok {kt : TypeId} {k : AV} {vk : Value} (h : keyOk P kt k = true) (hv : VR ρ k vk) (em : Bool) : (Instr.checkKey em 10000 kt vk).run P w = .ok () w := by
  unfold keyOk at h
  split at h
  · rename_i fs hu
    simp only [Bool.and_eq_true] at h
    obtain ⟨_, h⟩ := h
    obtain ⟨cs, rfl, h⟩ := onAgg_inv _ h (by simp)
    cases hv with | agg _ vs hvs =>
    have hl := hvs.length
    show (Instr.checkKey em (9998 + 1 + 1) kt (.agg vs)).run P w = .ok () w
    unfold Instr.checkKey
    simp only [Sem.run_bind, run_underlying hu, Result.andThen_ok]
    rw [← Array.forIn_toList]
    have := check_fields (P := P) (w := w) em 9998 (cs := vs) fs.toList fun f hf => by
      have := List.all_eq_true.1 h f hf
      simp only [Bool.and_eq_true, Nat.blt_eq] at this
      exact ⟨by have := this.1; simp at hl; omega, this.2⟩
    simp at this
    simp [this]
  · exact check_flat h em 9999 vk
/-! ### A key among entries -/
/-- Are a key and another one the same? as the model sees it. -/
structure EqAt (P : Program) (kt : TypeId) (d : TypeDesc) (vk yk : Value) (r : Bool) : Prop where
  now : Instr.sameNow d vk yk = some r ∨ Instr.sameNow d vk yk = none
  ask : ∀ w : World, (Op.equal kt vk yk).run P w = .ok r w
theorem keyEq_at {kt : TypeId} {d : TypeDesc} {x y : AV} {vx vy : Value} {r : Bool} (hu : P.underlying kt = some d) (hok : keyOk P kt x = true) (h : keyEq P kt x y = some r) (hx : VR ρ x vx) (hy : VR ρ y vy) : EqAt P kt d vx vy r := by
  unfold keyEq at h
  unfold keyOk at hok
  split at h
  · rename_i fs hu'
    rw [hu'] at hu; cases hu
    rw [hu'] at hok
    simp only [Bool.and_eq_true, Bool.not_eq_true'] at hok
    obtain ⟨cs, rfl, h⟩ := onAgg_inv _ h (by simp)
    have h : y.onAgg (fun ys => aggEq P fs.toList cs ys) none = some r := h
    obtain ⟨cs', rfl, h⟩ := onAgg_inv _ h (by simp)
    cases hx with | agg _ cx hcx => cases hy with | agg _ cy hcy =>
    refine ⟨.inr (by simp [Instr.sameNow]), fun w => ?_⟩
    have hf : P.fieldsOf kt = fs := by simp [Program.fieldsOf, hu']
    show (Op.equalIn (9999 + 1) kt (.agg cx) (.agg cy)).run P w = .ok r w
    rw [run_equalIn_struct w 9999 kt cx cy (by rw [hf]; exact hu') hok.1, hf]
    exact aggEq_run (d := 9998) fs.toList hcx hcy h
  · refine ⟨.inl ?_, fun w => (sEq_run (d := 9999) (w := w) hx hy h).2⟩
    rw [hu] at h
    unfold sEq at h
    split at h
    · rename_i e; cases e; cases h; cases hx; cases hy; rfl
    · rename_i e
      cases e
      rw [bif2_eq] at h
      split at h
      · rename_i hk
        cases h; cases hx; cases hy
        obtain rfl := kEq_eq hk
        simp [Instr.sameNow, iEq_eq]
      · cases h
    · rename_i e
      cases e; cases h
      obtain ⟨s, rfl, hs⟩ := str_inv hx
      obtain ⟨s', rfl, hs'⟩ := str_inv hy
      simp only [Instr.sameNow]
      rw [lEq_eq, ← hs, ← hs', toNat_inj]
      simp [beq_toListBytes, ByteArray.toList_eq]
    · cases h
theorem now_absent {kt : TypeId} {d : TypeDesc} {vk : Value} : ∀ (l : List MapEntry) (i : Nat), (∀ x, x ∈ l → EqAt P kt d vk x.key false) → Instr.findNow d vk l i = some none ∨ Instr.findNow d vk l i = none
  | [], _, _ => .inl rfl
  | x :: l, i, h => by
    rcases (h x (by simp)).now with e | e
    · simp only [Instr.findNow, e]; exact now_absent l (i + 1) fun y hy => h y (by simp [hy])
    · exact .inr (by simp only [Instr.findNow, e])
theorem ask_absent {kt : TypeId} {d : TypeDesc} {vk : Value} : ∀ (l : List MapEntry) (i : Nat), (∀ x, x ∈ l → EqAt P kt d vk x.key false) → (Instr.findAsking kt vk l i).run P w = .ok none w
  | [], _, _ => rfl
  | x :: l, i, h => by
    simp only [Instr.findAsking, Sem.run_bind, (h x (by simp)).ask w, Result.andThen_ok, Bool.false_eq_true, if_false]
    exact ask_absent l (i + 1) fun y hy => h y (by simp [hy])
theorem now_there {kt : TypeId} {d : TypeDesc} {vk : Value} {x : MapEntry} {q : List MapEntry} (hx : EqAt P kt d vk x.key true) : ∀ (p : List MapEntry) (i : Nat), (∀ y, y ∈ p → EqAt P kt d vk y.key false) →
    Instr.findNow d vk (p ++ x :: q) i = some (some (i + p.length, x.val)) ∨ Instr.findNow d vk (p ++ x :: q) i = none
  | [], i, _ => by
    rcases hx.now with e | e
    · exact .inl (by simp [Instr.findNow, e])
    · exact .inr (by simp [Instr.findNow, e])
  | y :: p, i, h => by
    rcases (h y (by simp)).now with e | e
    · have := now_there (q := q) hx p (i + 1) fun z hz => h z (by simp [hz])
      simp only [List.cons_append, Instr.findNow, e, List.length_cons]
      rw [show i + (p.length + 1) = i + 1 + p.length from by omega]; exact this
    · exact .inr (by simp only [List.cons_append, Instr.findNow, e])
theorem ask_there {kt : TypeId} {d : TypeDesc} {vk : Value} {x : MapEntry} {q : List MapEntry} (hx : EqAt P kt d vk x.key true) : ∀ (p : List MapEntry) (i : Nat), (∀ y, y ∈ p → EqAt P kt d vk y.key false) →
    (Instr.findAsking kt vk (p ++ x :: q) i).run P w = .ok (some (i + p.length, x.val)) w
  | [], i, _ => by simp [Instr.findAsking, hx.ask w]
  | y :: p, i, h => by
    simp only [List.cons_append, Instr.findAsking, Sem.run_bind, (h y (by simp)).ask w, Result.andThen_ok, Bool.false_eq_true, if_false, List.length_cons]
    rw [ask_there hx p (i + 1) fun z hz => h z (by simp [hz]), show i + (p.length + 1) = i + 1 + p.length from by omega]
theorem key_absent {kt : TypeId} {d : TypeDesc} {vk : Value} {l : List MapEntry} (hu : P.underlying kt = some d) (h : ∀ x, x ∈ l → EqAt P kt d vk x.key false) : (Instr.findKey kt vk l).run P w = .ok none w := by
  simp only [Instr.findKey, Sem.run_bind, run_underlying hu, Result.andThen_ok]
  rcases now_absent l 0 h with e | e
  · rw [e]; rfl
  · rw [e]; exact ask_absent l 0 h
theorem key_there {kt : TypeId} {d : TypeDesc} {vk : Value} {p q : List MapEntry} {x : MapEntry} (hu : P.underlying kt = some d) (hx : EqAt P kt d vk x.key true) (h : ∀ y, y ∈ p → EqAt P kt d vk y.key false) :
    (Instr.findKey kt vk (p ++ x :: q)).run P w = .ok (some (p.length, x.val)) w := by
  simp only [Instr.findKey, Sem.run_bind, run_underlying hu, Result.andThen_ok]
  rcases now_there (q := q) hx p 0 h with e | e
  · rw [e]; simp
  · rw [e]; have := ask_there (w := w) (q := q) hx p 0 h; simpa using this
/-- What 'findA' says of the entries. -/
theorem findA_inv {kt : TypeId} {d : TypeDesc} {k : AV} {vk : Value} (hu : P.underlying kt = some d) (hok : keyOk P kt k = true) (hk : VR ρ k vk) : ∀ {es : List Ent} {l : List MapEntry} (_ : ERs ρ es l) {a : List Ent} {o : Option Ent} {b : List Ent} (_ : findA P kt k es = some (a, o, b)),
    (o = none ∧ ∀ x, x ∈ l → EqAt P kt d vk x.key false) ∨
    ∃ e x la lb, o = some e ∧ es = a ++ e :: b ∧ l = la ++ x :: lb ∧ ERs ρ a la ∧ ER ρ e x ∧ ERs ρ b lb ∧ EqAt P kt d vk x.key true ∧ ∀ y, y ∈ la ++ lb → EqAt P kt d vk y.key false
  | _, _, .nil, a, o, b, h => by
    simp only [findA, Option.some.injEq, Prod.mk.injEq] at h
    exact .inl ⟨h.2.1.symm, fun x hx => by simp at hx⟩
  | _, _, .cons e x es l he hs, a, o, b, h => by
    simp only [findA] at h
    split at h
    · rename_i a' o' b' h1 h2
      cases h
      have hf := keyEq_at hu hok h1 hk he.key
      rcases findA_inv hu hok hk hs h2 with ⟨ho, hall⟩ | ⟨e', x', la, lb, ho, h3, h4, h5, h6, h7, h8, h9⟩
      · refine .inl ⟨ho, fun y hy => ?_⟩
        rcases List.mem_cons.1 hy with rfl | hy
        · exact hf
        · exact hall y hy
      · refine .inr ⟨e', x', x :: la, lb, ho, by rw [h3]; rfl, by rw [h4]; rfl, .cons _ _ _ _ he h5, h6, h7, h8, fun y hy => ?_⟩
        simp only [List.cons_append, List.mem_cons] at hy
        rcases hy with rfl | hy
        · exact hf
        · exact h9 y hy
    · rename_i a' b' h1 h2
      cases h
      rcases findA_inv hu hok hk hs h2 with ⟨_, hall⟩ | ⟨e', x', la, lb, ho, _⟩
      · exact .inr ⟨e, x, [], l, rfl, rfl, rfl, .nil, he, hs, keyEq_at hu hok h1 hk he.key, fun y hy => hall y (by simpa using hy)⟩
      · cases ho
    · cases h
theorem perm_at {α : Type} {la lb p q : List α} {x y : α} (h : (la ++ x :: lb).Perm (p ++ x :: q)) : (la ++ y :: lb).Perm (p ++ y :: q) :=
  List.perm_middle.trans ((((List.perm_middle.symm.trans (h.trans List.perm_middle)).cons_inv).cons y).trans List.perm_middle.symm)
/-- A key that is there: where it stands in the model's row. -/
theorem there_at {kt : TypeId} {d : TypeDesc} {vk : Value} {mes : Array MapEntry} {la lb : List MapEntry} {x : MapEntry} (hp : (la ++ x :: lb).Perm mes.toList) (hn : (mes.toList.map (·.born)).Nodup)
    (h : ∀ y, y ∈ la ++ lb → EqAt P kt d vk y.key false) : ∃ p q, mes.toList = p ++ x :: q ∧ ∀ y, y ∈ p → EqAt P kt d vk y.key false := by
  have hx : x ∈ mes.toList := hp.subset (by simp)
  obtain ⟨p, q, e⟩ := List.append_of_mem hx
  refine ⟨p, q, e, fun y hy => ?_⟩
  have hy' : y ∈ la ++ x :: lb := hp.symm.subset (by rw [e]; simp [hy])
  simp only [List.mem_append, List.mem_cons] at hy'
  rcases hy' with h1 | rfl | h1
  · exact h y (by simp [h1])
  · exfalso
    rw [e] at hn
    simp only [List.map_append, List.map_cons] at hn
    have := (List.nodup_append.1 hn).2.2 y.born (List.mem_map_of_mem hy) y.born (by simp)
    exact this rfl
  · exact h y (by simp [h1])
/-! ### Known keys -/
theorem scEq_val {x y : AV} {vx vy : Value} (h : scEq x y = true) (hx : VR ρ x vx) (hy : VR ρ y vy) : vx = vy ∧ ∀ n, Instr.sameBits n vx vy = true := by
  unfold scEq at h
  split at h
  · cases hx; cases hy
    have := eq_of_beq h; subst this
    exact ⟨rfl, fun n => by simp [Instr.sameBits]⟩
  · simp only [Bool.and_eq_true] at h
    cases hx; cases hy
    obtain rfl := kEq_eq h.1
    have h2 := h.2
    rw [iEq_eq] at h2
    have := eq_of_beq h2; subst this
    exact ⟨rfl, fun n => by simp [Instr.sameBits]⟩
  · obtain ⟨s, rfl, hs⟩ := str_inv hx
    obtain ⟨s', rfl, hs'⟩ := str_inv hy
    rw [lEq_eq, ← hs, ← hs', toNat_inj] at h
    have h : s.data.toList = s'.data.toList := eq_of_beq h
    have : s = s' := by
      obtain ⟨a⟩ := s; obtain ⟨b⟩ := s'
      have : a = b := Array.ext' h
      rw [this]
    subst this
    exact ⟨rfl, fun n => by simp [Instr.sameBits, MapKept.bytes_beq]⟩
  · cases h
theorem scEqs_val : ∀ {x y : List AV} {vx vy : List Value} (_ : scEqs x y = true) (_ : VRs ρ x vx) (_ : VRs ρ y vy), vx = vy ∧ ∀ n, (vx.zip vy).all (fun (a, b) => Instr.sameBits n a b) = true
  | [], [], _, _, _, .nil, .nil => ⟨rfl, fun _ => rfl⟩
  | a :: x, b :: y, _, _, h, .cons _ c _ cs hc hcs, .cons _ c' _ cs' hc' hcs' => by
    simp only [scEqs, Bool.and_eq_true] at h
    obtain ⟨rfl, h1⟩ := scEq_val h.1 hc hc'
    obtain ⟨rfl, h2⟩ := scEqs_val h.2 hcs hcs'
    exact ⟨rfl, fun n => by simp only [List.zip_cons_cons, List.all_cons, h1 n, Bool.true_and]; exact h2 n⟩
theorem keySame_val {x y : AV} {vx vy : Value} (h : keySame x y = true) (hx : VR ρ x vx) (hy : VR ρ y vy) : vx = vy ∧ (Instr.keyThatStays vy vx).run P w = .ok vx w := by
  have : vx = vy ∧ Instr.sameBits 10000 vy vx = true := by
    unfold keySame at h
    split at h
    · cases hx with | agg _ cx hcx => cases hy with | agg _ cy hcy =>
      obtain ⟨e, h2⟩ := scEqs_val h hcx hcy
      have e : cx = cy := Array.ext' e
      subst e
      exact ⟨rfl, by simp only [Instr.sameBits, beq_self_eq_true, Bool.true_and]; exact h2 9999⟩
    · obtain ⟨e, h2⟩ := scEq_val h hx hy
      subst e
      exact ⟨rfl, h2 _⟩
  obtain ⟨rfl, h2⟩ := this
  exact ⟨rfl, by simp [Instr.keyThatStays, h2]⟩
/-! ### Zero -/
theorem zeroV_inv {t : TypeId} {z : AV} (h : zeroV P t = some z) : ∃ vz, (∀ w : World, (zeroValue t).run P w = .ok vz w) ∧ ∀ ρ : Ren, VR ρ z vz := by
  unfold zeroV at h
  split at h
  · rename_i i hi
    split at h
    · rename_i cs hz; cases h; exact ⟨_, run_zero hi hz, fun ρ => .agg _ _ (scals_rel ρ _)⟩
    · rename_i v hne hz; cases h; exact ⟨_, run_zero hi hz, fun ρ => scal_rel ρ v⟩
    · cases h
  · cases h
/-! ### Reading -/
theorem mapK_inv {m m' : AMem} {b : Nat} {k : Bool → Nat → List Ent → OR} {v : AV} (h : mapK m b k = .mk v m') : ∃ ro ck es, m.t.get b = some (.map ro ck es) ∧ k ro ck es = .mk v m' := by
  unfold mapK at h
  cases hg : m.t.get b with
  | none => rw [hg] at h; cases h
  | some x => cases x with
    | cells ro sg E N c => rw [hg] at h; cases h
    | map ro ck es => rw [hg] at h; exact ⟨ro, ck, es, rfl, h⟩
theorem View.mapAt (V : View ρ m w) {b : Nat} {ro : Bool} {ck : Nat} {es : List Ent} (hb : m.t.get b = some (.map ro ck es)) {L : Loc} (hL : ρ b = some L) : ∃ mes, w.heap[L.blk]? = some (.map mes ck) ∧ MR ρ ck es mes := by
  obtain ⟨L0, mes, h1, h2, h3⟩ := V.sim.blk b _ hb
  rw [hL] at h1; cases h1
  exact ⟨mes, h2, h3⟩
theorem found_val {ok : Bool} {a : AV} {va : Value} {b : Bool} {v : AV} {m' : AMem} (h : found ok a b m = .mk v m') (ha : VR ρ a va) : m' = m ∧ VR ρ v (if ok then .tuple #[va, .bool b] else va) := by
  unfold found at h
  rw [bif2_eq] at h
  split at h
  · rename_i e; subst e; cases h; exact ⟨rfl, .tup _ _ (.cons _ _ _ _ ha (.cons _ _ _ _ (.bool _) .nil))⟩
  · rename_i e; simp only [Bool.not_eq_true] at e; subst e; cases h; exact ⟨rfl, ha⟩
theorem aLookup_val (V : View ρ m w) {t : TypeId} {x k : AV} {vx vk : Value} {ok : Bool} (hx : VR ρ x vx) (hk : VR ρ k vk) {v : AV} {m' : AMem} (h : aLookup P t x k ok m = .mk v m') : Val P ρ m w v m' (Instr.lookup t vx vk ok) := by
  unfold aLookup at h
  split at h
  · rename_i kt et hu
    rw [bif2_eq] at h
    split at h
    · rename_i hok
      have hd : ∃ d, P.underlying kt = some d := by
        unfold keyOk at hok
        split at hok
        · exact ⟨_, ‹_›⟩
        · obtain ⟨d, hd, _⟩ := flatT_inv hok; exact ⟨d, hd⟩
      obtain ⟨d, hd⟩ := hd
      split at h
      · cases h
      · rename_i z hz
        obtain ⟨vz, hzr, hzv⟩ := zeroV_inv hz
        split at h
        · cases hx
          obtain ⟨rfl, hv⟩ := found_val h (hzv ρ)
          refine ⟨rfl, _, hv, ?_⟩
          simp [Instr.lookup, run_underlying hu, check_ok hok hk, key_absent (w := w) (l := []) hd (fun x hx => by simp at hx), hzr w]
        · rename_i b
          cases hx with | map _ L hL =>
          obtain ⟨ro, ck, es, hb, h⟩ := mapK_inv h
          obtain ⟨mes, hheap, ⟨l, hp, hes⟩, hold, hnd⟩ := V.mapAt hb hL
          split at h
          · rename_i a e b' hfa
            rcases findA_inv hd hok hk hes hfa with ⟨ho, _⟩ | ⟨e', y, la, lb, ho, h3, h4, h5, he, h7, h8, h9⟩
            · cases ho
            · cases ho
              obtain ⟨rfl, hv⟩ := found_val h he.val
              subst h4
              obtain ⟨p, q, e1, e2⟩ := there_at hp hnd h9
              refine ⟨rfl, _, hv, ?_⟩
              have hf := key_there (w := w) (q := q) hd h8 e2
              rw [← e1] at hf
              simp [Instr.lookup, run_underlying hu, MapKept.run_getObj_map hheap, check_ok hok hk, hf]
          · rename_i a b' hfa
            obtain ⟨rfl, hv⟩ := found_val h (hzv ρ)
            refine ⟨rfl, _, hv, ?_⟩
            rcases findA_inv hd hok hk hes hfa with ⟨_, hall⟩ | ⟨_, _, _, _, ho, _⟩
            · have hf := key_absent (w := w) (l := mes.toList) hd fun x hx => hall x (hp.symm.subset hx)
              simp [Instr.lookup, run_underlying hu, MapKept.run_getObj_map hheap, check_ok hok hk, hf, hzr w]
            · cases ho
          · cases h
        · cases h
    · cases h
  · cases h
/-! ### Writing -/
theorem setMap_inv {m m' : AMem} {b ck : Nat} {es : List Ent} {k : AMem → OR} {v : AV} (h : setMap b ck es m k = .mk v m') : ∃ t', (∀ j, t'.get j = if j = b then some (.map false ck es) else m.t.get j) ∧ k ⟨m.next, t'⟩ = .mk v m' := by
  unfold setMap at h
  rcases T.setK_eq (OR.fail 231) (some (.map false ck es)) m.t b fun t => k ⟨m.next, t⟩ with e | ⟨t', ht, e⟩
  · rw [e] at h; cases h
  · rw [e] at h; exact ⟨t', ht, h⟩
theorem View.setMap (V : View ρ m w) {b ck ck' : Nat} {es es' : List Ent} {mes mes' : Array MapEntry} (hb : m.t.get b = some (.map false ck es)) {L : Loc} (hL : ρ b = some L) (hheap : w.heap[L.blk]? = some (.map mes ck))
    (hM : MR ρ ck' es' mes') {t' : T Blk} (ht : ∀ j, t'.get j = if j = b then some (.map false ck' es') else m.t.get j) :
    Step ρ m w ρ ⟨m.next, t'⟩ { w with heap := w.heap.setIfInBounds L.blk (.map mes' ck') } := by
  obtain ⟨h1, h2⟩ := MapKept.heap_set (w := w) (o' := .map mes' ck') hheap
  exact GStep.writeB (y := .map false ck' es') V.sim V.wf hb rfl hL ⟨L, mes', hL, h1, hM⟩ h2 (by simp) rfl rfl rfl ht
theorem ERs.append {l l' : List Ent} {xs xs' : List MapEntry} (h : ERs ρ l xs) (h' : ERs ρ l' xs') : ERs ρ (l ++ l') (xs ++ xs') := by
  induction h with
  | nil => exact h'
  | cons e x l xs h _ ih => exact .cons _ _ _ _ h ih
/-- An entry turned, its stamp as it was. -/
theorem MR.turn {ck : Nat} {a b : List Ent} {e : Ent} {mes : Array MapEntry} {la lb p q : List MapEntry} {x y : MapEntry} (hp : (la ++ x :: lb).Perm mes.toList) (hold : ∀ x, x ∈ mes.toList → x.born < ck)
    (hnd : (mes.toList.map (·.born)).Nodup) (ha : ERs ρ a la) (hb : ERs ρ b lb) (he : ER ρ e y) (hy : y.born = x.born) (e1 : mes.toList = p ++ x :: q) :
    MR ρ ck (a ++ e :: b) (p ++ y :: q).toArray := by
  refine ⟨⟨la ++ y :: lb, ?_, ha.append (.cons _ _ _ _ he hb)⟩, fun z hz => ?_, ?_⟩
  · rw [e1] at hp; exact perm_at hp
  · simp only [List.mem_append, List.mem_cons] at hz
    rcases hz with h | rfl | h
    · exact hold z (by rw [e1]; simp [h])
    · rw [hy]; exact hold x (by rw [e1]; simp)
    · exact hold z (by rw [e1]; simp [h])
  · rw [e1] at hnd
    simp only [List.map_append, List.map_cons] at hnd ⊢
    rw [hy]; exact hnd
/-- One entry more. -/
theorem MR.more {ck : Nat} {es : List Ent} {mes : Array MapEntry} (h : MR ρ ck es mes) {e : Ent} {y : MapEntry} (he : ER ρ e y) (hy : y.born = ck) : MR ρ (ck + 1) (es ++ [e]) (mes.push y) := by
  obtain ⟨⟨l, hp, hes⟩, hold, hnd⟩ := h
  refine ⟨⟨l ++ [y], by rw [Array.toList_push]; exact hp.append_right _, hes.append (.cons _ _ _ _ he .nil)⟩, fun z hz => ?_, ?_⟩
  · simp only [Array.toList_push, List.mem_append, List.mem_singleton] at hz
    rcases hz with h | rfl
    · have := hold z h; omega
    · omega
  · simp only [Array.toList_push, List.map_append, List.map_cons, List.map_nil]
    refine List.nodup_append.2 ⟨hnd, by simp, fun a ha b hb => ?_⟩
    obtain ⟨z, hz, rfl⟩ := List.mem_map.1 ha
    simp at hb
    have := hold z hz
    omega
theorem list_modify_at {α : Type} (x : α) (q : List α) (f : α → α) : ∀ p : List α, (p ++ x :: q).modify p.length f = p ++ f x :: q
  | [] => by simp
  | y :: p => by simp [list_modify_at x q f p]
theorem modify_at {mes : Array MapEntry} {p q : List MapEntry} {x : MapEntry} (e : mes.toList = p ++ x :: q) (f : MapEntry → MapEntry) : mes.modify p.length f = (p ++ f x :: q).toArray := by
  apply Array.ext'
  have : mes = (p ++ x :: q).toArray := Array.ext' e
  subst this
  simp [list_modify_at]
theorem getElem_at {mes : Array MapEntry} {p q : List MapEntry} {x : MapEntry} (e : mes.toList = p ++ x :: q) : mes[p.length]? = some x := by
  have : mes = (p ++ x :: q).toArray := Array.ext' e
  subst this
  simp
theorem keyOk_type {kt : TypeId} {k : AV} (h : keyOk P kt k = true) : ∃ d, P.underlying kt = some d := by
  unfold keyOk at h
  split at h
  · exact ⟨_, ‹_›⟩
  · obtain ⟨d, hd, _⟩ := flatT_inv h; exact ⟨d, hd⟩
theorem aMapUpdate_run (V : View ρ m w) {t : TypeId} {x k u : AV} {vx vk vu : Value} (hx : VR ρ x vx) (hk : VR ρ k vk) (hu : VR ρ u vu) {v : AV} {m' : AMem} (h : aMapUpdate P t x k u m = .mk v m') :
    Runs P ρ m w v m' (do (Instr.mapUpdate t vx vk vu); pure .skip) := by
  unfold aMapUpdate at h
  split at h
  · rename_i kt et b hut
    rw [bif2_eq] at h
    split at h
    · rename_i hok
      obtain ⟨d, hd⟩ := keyOk_type hok
      cases hx with | map _ L hL =>
      obtain ⟨ro, ck, es, hb, h⟩ := mapK_inv h
      obtain ⟨mes, hheap, hM⟩ := V.mapAt hb hL
      rw [bif2_eq] at h
      split at h
      · cases h
      rename_i hro
      simp only [Bool.not_eq_true] at hro
      subst hro
      have hM0 := hM
      obtain ⟨⟨l, hp, hes⟩, hold, hnd⟩ := hM
      split at h
      · rename_i a e b' hfa
        rw [bif2_eq] at h
        split at h
        · rename_i hsame
          obtain ⟨t', ht, h⟩ := setMap_inv h
          cases h
          rcases findA_inv hd hok hk hes hfa with ⟨ho, _⟩ | ⟨e', y, la, lb, ho, h3, h4, h5, he, h7, h8, h9⟩
          · cases ho
          · cases ho
            subst h4
            obtain ⟨p, q, e1, e2⟩ := there_at hp hnd h9
            have hf := key_there (w := w) (q := q) hd h8 e2
            rw [← e1] at hf
            obtain ⟨hkk, hks⟩ := keySame_val (P := P) (w := w) hsame hk he.key
            refine ⟨ρ, _, undef, V.setMap hb hL hheap (MR.turn (e := ⟨k, u, e.born⟩) (y := { y with key := vk, val := vu }) hp hold hnd h5 h7 ⟨hk, hu, he.born⟩ rfl e1) ht, VR.undef ρ, .inr ⟨?_, rfl⟩⟩
            simp [Instr.mapUpdate, run_underlying hut, MapKept.run_getObj_map hheap, check_ok hok hk, hf, getElem_at e1, hks, MapKept.run_setObj_map _ hheap, modify_at e1]
        · cases h
      · rename_i a b' hfa
        rw [fNat_eq] at h
        obtain ⟨t', ht, h⟩ := setMap_inv h
        cases h
        rcases findA_inv hd hok hk hes hfa with ⟨_, hall⟩ | ⟨_, _, _, _, ho, _⟩
        · have hf := key_absent (w := w) (l := mes.toList) hd fun x hx => hall x (hp.symm.subset hx)
          refine ⟨ρ, _, undef, V.setMap hb hL hheap (hM0.more (e := ⟨k, u, some ck⟩) (y := ⟨vk, vu, ck⟩) ⟨hk, hu, fun n hn => by cases hn; rfl⟩ rfl) ht, VR.undef ρ, .inr ⟨?_, rfl⟩⟩
          simp [Instr.mapUpdate, run_underlying hut, MapKept.run_getObj_map hheap, check_ok hok hk, hf, MapKept.run_setObj_map _ hheap]
        · cases ho
      · cases h
    · cases h
  · cases h
theorem MR.drop {ck : Nat} {a b : List Ent} {mes : Array MapEntry} {la lb p q : List MapEntry} {x : MapEntry} (hp : (la ++ x :: lb).Perm mes.toList) (hold : ∀ x, x ∈ mes.toList → x.born < ck)
    (hnd : (mes.toList.map (·.born)).Nodup) (ha : ERs ρ a la) (hb : ERs ρ b lb) (e1 : mes.toList = p ++ x :: q) : MR ρ ck (a ++ b) (p ++ q).toArray := by
  refine ⟨⟨la ++ lb, ?_, ha.append hb⟩, fun z hz => ?_, ?_⟩
  · rw [e1] at hp
    have h1 : (x :: (la ++ lb)).Perm (x :: (p ++ q)) := List.perm_middle.symm.trans (hp.trans List.perm_middle)
    exact h1.cons_inv
  · simp only [List.mem_append] at hz
    exact hold z (by rw [e1]; rcases hz with h | h <;> simp [h])
  · rw [e1] at hnd
    show ((p ++ q).map (·.born)).Nodup
    refine hnd.sublist ?_
    exact List.Sublist.map _ (List.Sublist.append (List.Sublist.refl p) (List.sublist_cons_self x q))
theorem erase_at {mes : Array MapEntry} {p q : List MapEntry} {x : MapEntry} (e : mes.toList = p ++ x :: q) : mes.eraseIdxIfInBounds p.length = (p ++ q).toArray := by
  have : mes = (p ++ x :: q).toArray := Array.ext' e
  subst this
  apply Array.ext'
  rw [Array.eraseIdxIfInBounds_eq]
  split
  · simp [List.eraseIdx_append_of_length_le]
  · rename_i h; simp at h
theorem aDelete_run (V : View ρ m w) {ats : Array TypeId} {t : TypeId} (h0 : ats[0]? = some t) (ty : TypeId) {x k : AV} {vx vk : Value} (hx : VR ρ x vx) (hk : VR ρ k vk) {v : AV} {m' : AMem} (h : aDelete P t x k m = .mk v m') :
    RunsV P ρ m w v m' (Builtin.delete_ ats ty #[vx, vk]) := by
  unfold aDelete at h
  split at h
  · rename_i kt et b hut
    rw [bif2_eq] at h
    split at h
    · rename_i hok
      obtain ⟨d, hd⟩ := keyOk_type hok
      cases hx with | map _ L hL =>
      obtain ⟨ro, ck, es, hb, h⟩ := mapK_inv h
      obtain ⟨mes, hheap, hM⟩ := V.mapAt hb hL
      rw [bif2_eq] at h
      split at h
      · cases h
      rename_i hro
      simp only [Bool.not_eq_true] at hro
      subst hro
      have hM0 := hM
      obtain ⟨⟨l, hp, hes⟩, hold, hnd⟩ := hM
      split at h
      · rename_i a e b' hfa
        obtain ⟨t', ht, h⟩ := setMap_inv h
        cases h
        rcases findA_inv hd hok hk hes hfa with ⟨ho, _⟩ | ⟨e', y, la, lb, ho, h3, h4, h5, he, h7, h8, h9⟩
        · cases ho
        · cases ho
          subst h4
          obtain ⟨p, q, e1, e2⟩ := there_at hp hnd h9
          have hf := key_there (w := w) (q := q) hd h8 e2
          rw [← e1] at hf
          refine ⟨ρ, _, undef, V.setMap hb hL hheap (MR.drop hp hold hnd h5 h7 e1) ht, VR.undef ρ, ?_⟩
          simp [Builtin.delete_, h0, run_underlying hut, MapKept.run_getObj_map hheap, check_ok hok hk, hf, MapKept.run_setObj_map _ hheap, erase_at e1, undef]
      · rename_i a b' hfa
        obtain ⟨t', ht, h⟩ := setMap_inv h
        cases h
        rcases findA_inv hd hok hk hes hfa with ⟨_, hall⟩ | ⟨_, _, _, _, ho, _⟩
        · have hf := key_absent (w := w) (l := mes.toList) hd fun x hx => hall x (hp.symm.subset hx)
          refine ⟨ρ, _, undef, V.setMap hb hL hheap hM0 ht, VR.undef ρ, ?_⟩
          simp [Builtin.delete_, h0, run_underlying hut, MapKept.run_getObj_map hheap, check_ok hok hk, hf, MapKept.run_setObj_map _ hheap, undef]
        · cases ho
      · cases h
    · cases h
  · cases h
theorem delA_run (V : View ρ m w) {ats : Array TypeId} {vs : List AV} {cs : List Value} (hv : VRs ρ vs cs) (ty : TypeId) {v : AV} {m' : AMem} (h : delA P ats vs m = .mk v m') : RunsV P ρ m w v m' (Builtin.delete_ ats ty cs.toArray) := by
  unfold delA at h
  split at h
  · rename_i t x k h0
    match hv with
    | .cons _ _ _ _ h1 (.cons _ _ _ _ h2 .nil) => exact aDelete_run V h0 ty h1 h2 h
  · cases h
theorem aMapEntry_run (V : View ρ m w) {t : TypeId} {x k : AV} {vx vk : Value} (hx : VR ρ x vx) (hk : VR ρ k vk) {v : AV} {m' : AMem} (h : aMapEntry P t x k m = .mk v m') :
    Runs P ρ m w v m' (do pure (.value (← Instr.mapEntry t vx vk))) := by
  unfold aMapEntry at h
  split at h
  · rename_i kt et b hut
    rw [bif2_eq] at h
    split at h
    · rename_i hok
      obtain ⟨d, hd⟩ := keyOk_type hok
      cases hx with | map _ L hL =>
      obtain ⟨ro, ck, es, hb, h⟩ := mapK_inv h
      obtain ⟨mes, hheap, hM⟩ := V.mapAt hb hL
      rw [bif2_eq] at h
      split at h
      · cases h
      rename_i hro
      simp only [Bool.not_eq_true] at hro
      subst hro
      have hM0 := hM
      obtain ⟨⟨l, hp, hes⟩, hold, hnd⟩ := hM
      split at h
      · rename_i a e b' hfa
        rw [bif2_eq] at h
        split at h
        · rename_i hsame
          split at h
          · rename_i n hn
            cases h
            rcases findA_inv hd hok hk hes hfa with ⟨ho, _⟩ | ⟨e', y, la, lb, ho, h3, h4, h5, he, h7, h8, h9⟩
            · cases ho
            · cases ho
              subst h4
              obtain ⟨p, q, e1, e2⟩ := there_at hp hnd h9
              have hf := key_there (w := w) (q := q) hd h8 e2
              rw [← e1] at hf
              obtain ⟨hkk, hks⟩ := keySame_val (P := P) (w := w) hsame hk he.key
              have hself : w.heap.setIfInBounds L.blk (.map (mes.modify p.length fun e => { e with key := vk }) ck) = w.heap := by
                have : mes.modify p.length (fun e => { e with key := vk }) = mes := by
                  rw [modify_at e1]
                  apply Array.ext'
                  rw [e1, hkk]
                rw [this]
                apply Array.ext_getElem?
                intro i
                by_cases hi : i = L.blk
                · subst hi; rw [(MapKept.heap_set hheap).1, hheap]
                · exact (MapKept.heap_set hheap).2 i hi
              refine ⟨ρ, w, .tuple #[y.val, .int .i64 (Int.ofNat n)], V.refl, .tup _ _ (.cons _ _ _ _ he.val (.cons _ _ _ _ (.int _ _) .nil)), .inl ?_⟩
              have hb' : y.born = n := he.born n hn
              have hw : ({ w with heap := w.heap } : World) = w := rfl
              simp [Instr.mapEntry, run_underlying hut, MapKept.run_getObj_map hheap, check_ok hok hk, hf, getElem_at e1, hks, MapKept.run_setObj_map _ hheap, hself, hb', goInt]
          · cases h
        · cases h
      · rename_i a b' hfa
        split at h
        · rename_i z hz
          obtain ⟨vz, hzr, hzv⟩ := zeroV_inv hz
          rw [fNat_eq] at h
          obtain ⟨t', ht, h⟩ := setMap_inv h
          cases h
          rcases findA_inv hd hok hk hes hfa with ⟨_, hall⟩ | ⟨_, _, _, _, ho, _⟩
          · have hf := key_absent (w := w) (l := mes.toList) hd fun x hx => hall x (hp.symm.subset hx)
            refine ⟨ρ, _, .tuple #[vz, .int .i64 (Int.ofNat ck)], V.setMap hb hL hheap (hM0.more (e := ⟨k, z, some ck⟩) (y := ⟨vk, vz, ck⟩) ⟨hk, hzv ρ, fun n hn => by cases hn; rfl⟩ rfl) ht, .tup _ _ (.cons _ _ _ _ (hzv ρ) (.cons _ _ _ _ (.int _ _) .nil)), .inl ?_⟩
            simp [Instr.mapEntry, run_underlying hut, MapKept.run_getObj_map hheap, check_ok hok hk, hf, hzr w, MapKept.run_setObj_map _ hheap, goInt]
          · cases ho
        · cases h
      · cases h
    · cases h
  · cases h
theorem bornA_inv {n : Nat} : ∀ {es : List Ent} {l : List MapEntry} (_ : ERs ρ es l) {a : List Ent} {e : Ent} {b : List Ent} (_ : bornA n es = some (a, e, b)),
    ∃ x la lb, l = la ++ x :: lb ∧ ERs ρ a la ∧ ER ρ e x ∧ ERs ρ b lb ∧ x.born = n
  | _, _, .nil, a, e, b, h => by cases h
  | _, _, .cons e0 x es l he hs, a, e, b, h => by
    have deep : (match bornA n es with | some (a, x, b) => some (e0 :: a, x, b) | none => none) = some (a, e, b) → ∃ y la lb, x :: l = la ++ y :: lb ∧ ERs ρ a la ∧ ER ρ e y ∧ ERs ρ b lb ∧ y.born = n := by
      intro h
      split at h
      · rename_i a' e' b' h1
        cases h
        obtain ⟨y, la, lb, h2, h3, h4, h5, h6⟩ := bornA_inv hs h1
        exact ⟨y, x :: la, lb, by rw [h2]; rfl, .cons _ _ _ _ he h3, h4, h5, h6⟩
      · cases h
    simp only [bornA] at h
    split at h
    · rename_i i hi
      rw [bif2_eq] at h
      split at h
      · rename_i hin
        cases h
        exact ⟨x, [], l, rfl, .nil, he, hs, by rw [he.born i hi]; exact Nat.eq_of_beq_eq_true hin⟩
      · exact deep h
    · exact deep h
theorem findIdx_born {n : Nat} {x : MapEntry} {q : List MapEntry} (hx : x.born = n) : ∀ (p : List MapEntry), (∀ y, y ∈ p → y.born ≠ n) → (p ++ x :: q).findIdx? (fun e => (e.born : Int) == (n : Int)) = some p.length
  | [], _ => by simp [List.findIdx?_cons, hx]
  | y :: p, h => by
    have h1 : ¬ ((y.born : Int) = (n : Int)) := fun e => h y (by simp) (by omega)
    simp [List.findIdx?_cons, h1, findIdx_born hx p fun z hz => h z (by simp [hz])]
theorem aEntryStore_run (V : View ρ m w) {t : TypeId} {x s u : AV} {vx vs vu : Value} (hx : VR ρ x vx) (hs : VR ρ s vs) (hu : VR ρ u vu) {v : AV} {m' : AMem} (h : aEntryStore x s u m = .mk v m') :
    Runs P ρ m w v m' (do (Instr.entryStore t vx vs vu); pure .skip) := by
  unfold aEntryStore at h
  split at h
  · rename_i b n
    cases hx with | map _ L hL =>
    cases hs
    obtain ⟨ro, ck, es, hb, h⟩ := mapK_inv h
    obtain ⟨mes, hheap, ⟨l, hp, hes⟩, hold, hnd⟩ := V.mapAt hb hL
    rw [bif2_eq] at h
    split at h
    · cases h
    rename_i hro
    simp only [Bool.not_eq_true] at hro
    subst hro
    split at h
    · rename_i a e b' hbo
      obtain ⟨t', ht, h⟩ := setMap_inv h
      cases h
      obtain ⟨y, la, lb, h4, h5, he, h7, h8⟩ := bornA_inv hes hbo
      subst h4
      have hy : y ∈ mes.toList := hp.subset (by simp)
      obtain ⟨p, q, e1⟩ := List.append_of_mem hy
      have hfi : mes.findIdx? (fun e => (e.born : Int) == (n : Int)) = some p.length := by
        have e2 : mes = (p ++ y :: q).toArray := Array.ext' e1
        rw [e2, List.findIdx?_toArray]
        refine findIdx_born h8 p fun z hz hzn => ?_
        rw [e1] at hnd
        simp only [List.map_append, List.map_cons] at hnd
        exact (List.nodup_append.1 hnd).2.2 z.born (List.mem_map_of_mem hz) y.born (by simp) (hzn.trans h8.symm)
      refine ⟨ρ, _, undef, V.setMap hb hL hheap (MR.turn (e := ⟨e.k, u, e.born⟩) (y := { y with val := vu }) hp hold hnd h5 h7 ⟨he.key, hu, he.born⟩ rfl e1) ht, VR.undef ρ, .inr ⟨?_, rfl⟩⟩
      have hfi' : mes.findIdx? (fun e => (e.born : Int) == Int.ofNat n) = some p.length := hfi
      simp only [Int.ofNat_eq_natCast] at hfi'
      simp [Instr.entryStore, MapKept.run_getObj_map hheap, asInt, asIntOf, hfi', MapKept.run_setObj_map _ hheap, modify_at e1]
    · cases h
  · cases h
theorem aMakeMap_run (V : View ρ m w) {t : TypeId} {r : Option AV} {vr : Option Value} (hr : VO ρ r vr) {v : AV} {m' : AMem} (h : aMakeMap r m = .mk v m') (hf : Fresh ρ m.next m'.next) :
    Runs P ρ m w v m' (do pure (.value (← Instr.makeMap t vr))) := by
  unfold aMakeMap at h
  split at h
  · cases h
  · cases vr with
    | some _ => exact hr.elim
    | none =>
      rcases T.setK_eq (OR.fail 253) (some (.map false 0 [])) m.t m.next (fun t => fNat (Nat.succ m.next) fun nx => OR.mk (.map m.next) ⟨nx, t⟩) with e | ⟨t', ht, e⟩
      · rw [e] at h; cases h
      · rw [e, fNat_eq] at h
        cases h
        refine ⟨ρ.set m.next ⟨w.heap.size, 0, 0, 0⟩, w.alloc (.map #[] 0), .map (some w.heap.size), ?_, .map m.next ⟨w.heap.size, 0, 0, 0⟩ (Ren.set_same _ _ _), .inl (by simp [show (Instr.makeMap t none).run P w = .ok (.map (some w.heap.size)) (w.alloc (.map #[] 0)) from rfl])⟩
        exact GStep.allocB (x := .map false 0 []) V.sim V.wf (hf m.next (Nat.le_refl _) (by show m.next < Nat.succ m.next; omega)) rfl ⟨_, #[], Ren.set_same _ _ _, (MapKept.heap_alloc w _).1, ⟨[], by simp, .nil⟩, by simp, by simp⟩ (MapKept.heap_alloc w _).2 (by simp) rfl rfl rfl ht
end
end Go.Ev
end
section
namespace Go.Ev
set_option linter.all false
section
variable {P : Program} {ρ : Ren} {m : AMem} {w : World}
/-- Is an operand a constant? (as the model asks it of a builtin's) -/
noncomputable def cOf : Operand → Bool := fun | .const _ => true | _ => false
/-- The operands of an operation are as the evaluator has them. -/
noncomputable def OpRel (ρ : Ren) (t : T AV) (ev : Operand → Value) (l : List Operand) : Prop := ∀ x, x ∈ l → VR ρ (evA t x) (ev x)
theorem OpRel.list {t : T AV} {ev : Operand → Value} : ∀ {l : List Operand}, OpRel ρ t ev l → VRs ρ (l.map (evA t)) (l.map ev)
  | [], _ => .nil
  | x :: l, h => .cons _ _ _ _ (h x (by simp)) (OpRel.list fun y hy => h y (List.mem_cons_of_mem _ hy))
theorem OpRel.parts {t : T AV} {ev : Operand → Value} : ∀ {l : List (Nat × Operand)}, OpRel ρ t ev (l.map (·.2)) → VPs ρ (l.map fun p => (p.1, evA t p.2)) (l.map fun p => (p.1, ev p.2))
  | [], _ => .nil
  | p :: l, h => .cons _ _ _ _ _ (h _ (by simp)) (OpRel.parts fun y hy => h y (by simp at hy ⊢; exact .inr hy))
theorem parts_array (ev : Operand → Value) (ps : Array (Nat × Operand)) : (ps.toList.map fun p => (p.1, ev p.2)).toArray = ps.map fun (i, x) => (i, ev x) := by
  apply Array.ext'; simp
theorem OpRel.opt {t : T AV} {ev : Operand → Value} {x : Option Operand} (h : OpRel ρ t ev x.toList) : VO ρ (x.map (evA t)) (x.map ev) := by
  cases x with
  | none => trivial
  | some x => exact h x (by simp)
theorem val_runs (V : View ρ m w) {v u : AV} {m' : AMem} {uc : Value} {s : Sem Next} (h : OR.mk u m = .mk v m') (hu : VR ρ u uc) (hs : s.run P w = .ok (.value uc) w) : Runs P ρ m w v m' s := by
  cases h; exact ⟨ρ, w, uc, V.refl, hu, .inl hs⟩
theorem shapeAt {w : World} {b : Nat} {cs : Array Value} {elem : TypeId} {fz : Nat × Nat} (h : w.heap[b]? = some (.cells cs elem fz)) : w.shape? b = some (elem, cs.size) := by
  simp [World.shape?, h]
theorem frozenAt {w : World} {a : Addr} {cs : Array Value} {elem : TypeId} {fz : Nat × Nat} (h : w.heap[a.block]? = some (.cells cs elem fz)) (hfz : ∀ i, ¬ (fz.1 ≤ i ∧ i < fz.2)) : w.frozen? a = false := by
  obtain ⟨lo, hi⟩ := fz
  have := hfz a.off
  simp only [World.frozen?, h]
  simp at this ⊢
  exact this
theorem sameAddr_other {a b : Addr} {ca cb : Array Value} {ta tb : TypeId} {fa fb : Nat × Nat} (hbl : a.block ≠ b.block) (ha : w.heap[a.block]? = some (.cells ca ta fa)) (hb : w.heap[b.block]? = some (.cells cb tb fb))
    (ha' : ∀ i, ¬ (fa.1 ≤ i ∧ i < fa.2)) (hb' : ∀ i, ¬ (fb.1 ≤ i ∧ i < fb.2)) : (sameAddr a b).run P w = .ok false w := by
  have f1 := frozenAt ha ha'
  have f2 := frozenAt hb hb'
  have f3 : w.frozen? { block := a.block, off := ca.size } = false := frozenAt (a := { block := a.block, off := ca.size }) ha ha'
  have f4 : w.frozen? { block := b.block, off := cb.size } = false := frozenAt (a := { block := b.block, off := cb.size }) hb hb'
  simp [sameAddr, hbl, f1, f2, f3, f4, noView, viewAt, shapeAt ha, shapeAt hb, mayBeOne, stringish]
theorem ptrEq_in (d : Nat) {t e : TypeId} {i : TypeInfo} (hu : P.underlying t = some (.pointer e)) (hi : P.info? e = some i) (hsz : i.size ≠ 0) {a b : Addr} {r : Bool} (hr : (sameAddr a b).run P w = .ok r w) :
    (Op.equalIn (d + 1) t (.pointer (some a)) (.pointer (some b))).run P w = .ok r w := by
  simp only [Op.equalIn, Sem.run_bind, run_underlying hu, Result.andThen_ok, run_sizeOf hi, Sem.run_ite]
  rw [if_pos hsz]; exact hr
theorem aBin2_val (V : View ρ m w) {op : BinOp} {t : TypeId} {x y : AV} {ox oy : Operand} {vx vy : Value} (hx : VR ρ x vx) (hy : VR ρ y vy) {v : AV} {m' : AMem} (h : aBin2 P op t (isConst ox || isConst oy) x y m = .mk v m') :
    Val P ρ m w v m' (do eqGuard op t ox oy vx vy; binOp op t vx vy) := by
  cases x with
  | ptr b o =>
    cases y with
    | ptr b' o' =>
      have g : aPtrEq P op t b o b' o' m = .mk v m' := h
      clear h
      unfold aPtrEq at g
      split at g
      · rename_i e hu
        split at g
        · rename_i i hi
          rw [bif2_eq] at g
          split at g
          · cases g
          rename_i hsz
          have hsz : i.size ≠ 0 := fun q => hsz (by rw [q]; rfl)
          cases hx with | ptr _ _ L hL => cases hy with | ptr _ _ L' hL' =>
          have fin : ∀ {r : Bool}, flip op r m = .mk v m' → (sameAddr ⟨L.blk, L.base + o, none⟩ ⟨L'.blk, L'.base + o', none⟩).run P w = .ok r w → Val P ρ m w v m' (do eqGuard op t ox oy (.pointer (some ⟨L.blk, L.base + o, none⟩)) (.pointer (some ⟨L'.blk, L'.base + o', none⟩)); binOp op t (.pointer (some ⟨L.blk, L.base + o, none⟩)) (.pointer (some ⟨L'.blk, L'.base + o', none⟩))) := fun {r} h hr => by
            have heq : (Op.equal t (.pointer (some ⟨L.blk, L.base + o, none⟩)) (.pointer (some ⟨L'.blk, L'.base + o', none⟩))).run P w = .ok r w := by
              exact ptrEq_in 9999 hu hi hsz hr
            have hv := flip_val (P := P) (ρ := ρ) (w := w) h (t := t) (x := .pointer (some ⟨L.blk, L.base + o, none⟩)) (y := .pointer (some ⟨L'.blk, L'.base + o', none⟩))
              (by show (do pure (Value.bool (← Op.equal t _ _)) : Sem Value).run P w = _; simp [heq]) (by show (do pure (Value.bool (!(← Op.equal t _ _))) : Sem Value).run P w = _; simp [heq])
            obtain ⟨e1, vc, e2, e3⟩ := hv
            have hg : (eqGuard op t ox oy (.pointer (some ⟨L.blk, L.base + o, none⟩)) (.pointer (some ⟨L'.blk, L'.base + o', none⟩))).run P w = .ok () w := eqGuard_plain (.inl (by simp)) (.inl (by simp))
            exact ⟨e1, vc, e2, by simp [hg, e3]⟩
          rw [bif2_eq] at g
          split at g
          · rename_i hb
            have hb := Nat.eq_of_beq_eq_true hb
            subst hb
            rw [hL] at hL'; cases hL'
            refine fin g ?_
            by_cases ho : o = o'
            · subst ho; simp [sameAddr]
            · have : Nat.beq o o' = false := by rw [Bool.eq_false_iff]; exact fun q => ho (Nat.eq_of_beq_eq_true q)
              rw [this]
              simp [sameAddr, ho]
          · rename_i hb
            have hb : b ≠ b' := fun q => hb (by rw [q]; exact Nat.beq_refl _)
            split at g
            · rename_i ro E N c ro' E' N' c' g1 g2
              rw [bif2_eq] at g
              split at g
              · cases g
              · rename_i hro
                obtain ⟨L1, cs1, el1, fz1, q1, q2, q3, q4, q5, q6, q7, q8⟩ := V.sim.blk b _ g1
                obtain ⟨L2, cs2, el2, fz2, r1, r2, r3, r4, r5, r6, r7, r8⟩ := V.sim.blk b' _ g2
                rw [hL] at q1; cases q1
                rw [hL'] at r1; cases r1
                have hne : L.blk ≠ L'.blk := by
                  cases hr : ro with
                  | false => exact V.sim.sep b b' _ _ L L' g1 g2 hb (by simp [Blk.wr, hr]) hL hL'
                  | true =>
                    have : ro' = false := by cases hr' : ro' with
                      | false => rfl
                      | true => rw [hr, hr'] at hro; simp at hro
                    exact (V.sim.sep b' b _ _ L' L g2 g1 (Ne.symm hb) (by simp [Blk.wr, this]) hL' hL).symm
                exact fin g (sameAddr_other hne q2 r2 (q8 rfl) (r8 rfl))
            · cases g
        · cases g
      · cases g
    | _ => exact aBin_val hx hy h
  | _ => exact aBin_val hx hy h
/-- An operation that is no call of a Go function. -/
theorem op_runs (V : View ρ m w) {call : Call} {o : Oper} {t : T AV} {ev : Operand → Value} (hO : OpRel ρ t ev o.op.operands.toList) (hc : ∀ f args ats, o.op ≠ .call ⟨.value f, args, ats⟩) {v : AV} {m' : AMem}
    (h : opTab o.op P call t m = .mk v m') (hf : Fresh ρ m.next m'.next) : Runs P ρ m w v m' (execOp ev o) := by
  obtain ⟨dst, op, type, pos, after, guard⟩ := o
  simp only at hO hc h
  cases op with
  | move x =>
    have h : evK t x (fun v => OR.mk v m) = .mk v m' := h
    rw [evK_eq] at h
    exact val_runs V h (hO x (by simp [Op.operands])) rfl
  | assign x =>
    have h : evK t x (fun v => OR.mk v m) = .mk v m' := h
    rw [evK_eq] at h
    exact val_runs V h (hO x (by simp [Op.operands])) rfl
  | pick c a b =>
    have h : evK t c (fun v => v.onBool (fun v => bif2 v (evK t a fun v => OR.mk v m) (evK t b fun v => OR.mk v m)) (OR.fail 111)) = .mk v m' := h
    rw [evK_eq] at h
    obtain ⟨q, hq, h1⟩ := onBool_inv _ h fail_ne
    have hcr := hO c (by simp [Op.operands])
    rw [hq] at hcr
    cases hce : ev c with
    | bool q' =>
      rw [hce] at hcr
      cases hcr
      cases q
      · have h1 : evK t b (fun v => OR.mk v m) = .mk v m' := h1
        rw [evK_eq] at h1
        exact val_runs V h1 (hO b (by simp [Op.operands])) (by simp [execOp, hce, asBool])
      · have h1 : evK t a (fun v => OR.mk v m) = .mk v m' := h1
        rw [evK_eq] at h1
        exact val_runs V h1 (hO a (by simp [Op.operands])) (by simp [execOp, hce, asBool])
    | _ => rw [hce] at hcr; cases hcr
  | alloc e => exact aAlloc_run V h hf
  | box e x =>
    have h : evK t x (fun v => bif2 (v.onAgg (fun _ => true) v.plain) (newBlk false 1 v.cells m fun b m => OR.mk (.ptr b 0) m) (OR.fail 112)) = .mk v m' := h
    rw [evK_eq] at h
    exact box_run V (hO x (by simp [Op.operands])) h hf
  | build ty ps =>
    have h : evPs t ps.toList (fun l => aBuild P ty l m) = .mk v m' := h
    rw [evPs_eq] at h
    have hp : OpRel ρ t ev (ps.toList.map (·.2)) := fun x hx => hO x (by simpa [Op.operands] using hx)
    have := (aBuild_run (P := P) (w := w) hp.parts h).runs V
    rw [parts_array] at this
    exact this
  | buildSlice ty n ps =>
    have h : evPs t ps.toList (fun l => aBuildSlice P ty n l m) = .mk v m' := h
    rw [evPs_eq] at h
    have hp : OpRel ρ t ev (ps.toList.map (·.2)) := fun x hx => hO x (by simpa [Op.operands] using hx)
    have := aBuildSlice_run (P := P) V hp.parts h hf
    rw [parts_array] at this
    exact this
  | load ty a =>
    have h : evK t a (fun a => aLoad P ty a m) = .mk v m' := h
    rw [evK_eq] at h
    exact Val.runs V (aLoad_run V (hO a (by simp [Op.operands])) h)
  | store ty a x =>
    have h : evK t a (fun a => evK t x fun v => aStore P ty a v m) = .mk v m' := h
    rw [evK_eq, evK_eq] at h
    exact aStore_run V (hO a (by simp [Op.operands])) (hO x (by simp [Op.operands])) h
  | nilCheck x =>
    have h : evK t x (fun v => v.onPtr (fun b o => OR.mk (.ptr b o) m) (v.onFn (fun f c => OR.mk (.fn f c) m) (OR.fail 113))) = .mk v m' := h
    rw [evK_eq] at h
    have hx := hO x (by simp [Op.operands])
    generalize evA t x = a at *
    cases a with
    | ptr b off =>
      cases hxe : ev x <;> rw [hxe] at hx <;> cases hx
      exact val_runs V h (.ptr b off _ ‹_›) (by simp [execOp, hxe])
    | fn f caps =>
      cases hxe : ev x <;> rw [hxe] at hx <;> cases hx
      exact val_runs V h (.fn f caps _ ‹_›) (by simp [execOp, hxe])
    | _ => cases h
  | binOp op ty x y yt =>
    have h : evK t x (fun a => evK t y fun b => aBin2 P op ty (isConst x || isConst y) a b m) = .mk v m' := h
    rw [evK_eq, evK_eq] at h
    exact Val.runs V (aBin2_val V (hO x (by simp [Op.operands])) (hO y (by simp [Op.operands])) h)
  | unOp op ty x =>
    have h : evK t x (fun v => aUn op v m) = .mk v m' := h
    rw [evK_eq] at h
    exact Val.runs V (aUn_val (hO x (by simp [Op.operands])) h)
  | convert s d x =>
    have h : evK t x (fun v => aConvert P s d v m) = .mk v m' := h
    rw [evK_eq] at h
    exact (aConvert_run V (hO x (by simp [Op.operands])) h hf).runs
  | makeInterface ty x =>
    have h : evK t x (fun v => bif2 (O.ifaceOk P ty) (OR.mk (.iface ty v) m) (OR.fail 114)) = .mk v m' := h
    rw [evK_eq, bif2_eq] at h
    split at h
    · rename_i hok
      refine val_runs V h (.iface ty _ _ (hO x (by simp [Op.operands]))) ?_
      unfold O.ifaceOk at hok
      split at hok
      · cases hok
      · rename_i d hne hu
        have : (Instr.makeInterface ty (ev x)).run P w = .ok (.iface ty (ev x)) w := by
          simp only [Instr.makeInterface, Sem.run_bind, run_underlying hu, Result.andThen_ok]
          cases d <;> first | rfl | (exfalso; exact hne _ hu)
        simp [execOp, this]
      · cases hok
    · cases h
  | makeFunc fn first caps =>
    have h1 : (match fn, first.toList with
      | .func f, [] => evsK t caps.toList fun l => OR.mk (.fn f l) m
      | _, _ => OR.fail 115) = .mk v m' := h
    clear h
    split at h1
    · rename_i f hfirst
      have h := h1
      rw [evsK_eq] at h
      have hfirst : first = #[] := by simpa using hfirst
      subst hfirst
      have hp : OpRel ρ t ev caps.toList := fun x hx => hO x (by simpa [Op.operands] using hx)
      exact val_runs V h (.fn f _ (caps.map ev) (by simpa using hp.list)) (by simp [execOp, Instr.makeFunc])
    · cases h1
  | makeSlice ty l c =>
    have h : evK t l (fun l => evK t c fun c => aMakeSlice P ty l c m) = .mk v m' := h
    rw [evK_eq, evK_eq] at h
    exact aMakeSlice_run V (hO l (by simp [Op.operands])) (hO c (by simp [Op.operands])) h hf
  | slice ty x lo hi mx =>
    have h : evK t x (fun x => evO t lo fun lo => evO t hi fun hi => evO t mx fun mx => aSlice P ty x lo hi mx m) = .mk v m' := h
    rw [evK_eq, evO_eq, evO_eq, evO_eq] at h
    exact Val.runs V (aSlice_val V (hO x (by simp [Op.operands])) (OpRel.opt fun y hy => hO y (by simp [Op.operands] at hy ⊢; exact .inr (.inl hy))) (OpRel.opt fun y hy => hO y (by simp [Op.operands] at hy ⊢; exact .inr (.inr (.inl hy))))
      (OpRel.opt fun y hy => hO y (by simp [Op.operands] at hy ⊢; exact .inr (.inr (.inr hy)))) h)
  | fieldAddr s x f =>
    have h : evK t x (fun x => aFieldAddr P s x f m) = .mk v m' := h
    rw [evK_eq] at h
    exact Val.runs V (aFieldAddr_val (hO x (by simp [Op.operands])) h)
  | field s x f =>
    have h : evK t x (fun x => aField P s x f m) = .mk v m' := h
    rw [evK_eq] at h
    exact Val.runs V (aField_val (hO x (by simp [Op.operands])) h)
  | indexAddr ty x i =>
    have h : evK t x (fun x => evK t i fun i => aIndexAddr P ty x i m) = .mk v m' := h
    rw [evK_eq, evK_eq] at h
    exact Val.runs V (aIndexAddr_val (hO x (by simp [Op.operands])) (hO i (by simp [Op.operands])) h)
  | index ty x i =>
    have h : evK t x (fun x => evK t i fun i => aIndex P ty x i m) = .mk v m' := h
    rw [evK_eq, evK_eq] at h
    exact Val.runs V (aIndex_val (hO x (by simp [Op.operands])) (hO i (by simp [Op.operands])) h)
  | extract x i =>
    have h : evK t x (fun x => x.onTup (fun l => @Option.rec AV (fun _ => OR) (OR.fail 116) (fun v => OR.mk v m) l[i]?) (OR.fail 117)) = .mk v m' := h
    rw [evK_eq] at h
    obtain ⟨l, hl, h1⟩ := onTup_inv _ h fail_ne
    have hx := hO x (by simp [Op.operands])
    rw [hl] at hx
    cases hxe : ev x with
    | tuple cs =>
      rw [hxe] at hx
      cases hx with | tup _ _ hcs =>
      cases hli : l[i]? with
      | none => rw [hli] at h1; cases h1
      | some u =>
        rw [hli] at h1
        obtain ⟨c, hc, hr⟩ := hcs.get _ hli
        have hc : cs[i]? = some c := by rw [← hc]; simp
        exact val_runs V h1 hr (by simp [execOp, hxe, Instr.extract, hc])
    | _ => rw [hxe] at hx; cases hx
  | call c =>
    obtain ⟨callee, args, ats⟩ := c
    cases callee with
    | value f => exact absurd rfl (hc f args ats)
    | invoke r n => cases h
    | builtin b =>
      have h9 : evsK t args.toList (fun vs => bif2 (isDel b) (delA P ats vs m) (builtinA P b ats vs m)) = .mk v m' := h
      rw [evsK_eq, bif2_eq] at h9
      have hp : OpRel ρ t ev args.toList := fun x hx => hO x (by show x ∈ ((#[] : Array Operand) ++ args).toList; simpa using hx)
      have this : Runs P ρ m w v m' (builtin b ats type (args.map cOf) ((args.toList.map ev).toArray)) := by
        split at h9
        · rename_i hd
          have hb : b = .delete := by revert hd; cases b <;> simp [isDel]
          rw [hb]
          exact (delA_run V hp.list type h9).runs
        · exact builtinA_run V hp.list type (args.map cOf) h9 hf
      have e : (args.toList.map ev).toArray = args.map ev := by apply Array.ext'; simp
      rw [e] at this
      obtain ⟨ρ', w', vc, h1, h2, h3⟩ := this
      refine ⟨ρ', w', vc, h1, h2, ?_⟩
      have hr : (execOp ev ⟨dst, .call ⟨.builtin b, args, ats⟩, type, pos, after, guard⟩).run P w = (builtin b ats type (args.map cOf) (args.map ev)).run P w := by
        simp only [execOp, resolve, Sem.run_bind, Sem.run_pure, Result.andThen_ok, invoke]
        rfl
      rw [hr]; exact h3
  | insert ty x k u =>
    have h : evK t x (fun x => evK t k fun k => evK t u fun u => aMapUpdate P ty x k u m) = .mk v m' := h
    rw [evK_eq, evK_eq, evK_eq] at h
    exact aMapUpdate_run V (hO x (by simp [Op.operands])) (hO k (by simp [Op.operands])) (hO u (by simp [Op.operands])) h
  | mapUpdate ty x k u =>
    have h : evK t x (fun x => evK t k fun k => evK t u fun u => aMapUpdate P ty x k u m) = .mk v m' := h
    rw [evK_eq, evK_eq, evK_eq] at h
    exact aMapUpdate_run V (hO x (by simp [Op.operands])) (hO k (by simp [Op.operands])) (hO u (by simp [Op.operands])) h
  | lookup ty x k ok =>
    have h : evK t x (fun x => evK t k fun k => aLookup P ty x k ok m) = .mk v m' := h
    rw [evK_eq, evK_eq] at h
    exact Val.runs V (aLookup_val V (hO x (by simp [Op.operands])) (hO k (by simp [Op.operands])) h)
  | mapEntry ty x k =>
    have h : evK t x (fun x => evK t k fun k => aMapEntry P ty x k m) = .mk v m' := h
    rw [evK_eq, evK_eq] at h
    exact aMapEntry_run V (hO x (by simp [Op.operands])) (hO k (by simp [Op.operands])) h
  | entryStore ty x k u =>
    have h : evK t x (fun x => evK t k fun k => evK t u fun u => aEntryStore x k u m) = .mk v m' := h
    rw [evK_eq, evK_eq, evK_eq] at h
    exact aEntryStore_run V (hO x (by simp [Op.operands])) (hO k (by simp [Op.operands])) (hO u (by simp [Op.operands])) h
  | makeMap ty r =>
    have h : evO t r (fun r => aMakeMap r m) = .mk v m' := h
    rw [evO_eq] at h
    exact aMakeMap_run V (OpRel.opt fun y hy => hO y (by simpa [Op.operands] using hy)) h hf
  | _ => cases h
end
end Go.Ev
end
section
namespace Go.Ev
set_option linter.all false
section
variable {P : Program}
/-- What a call comes to. -/
noncomputable def Post (ρ : Ren) (m : AMem) (w : World) (v : AV) (m' : AMem) : Ending → World → Prop := fun e w' => ∃ vc ρ', e = .returned vc ∧ Step ρ m w ρ' m' w' ∧ VR ρ' v vc
/-- What the evaluator answers of calls holds. -/
noncomputable def CallOK (P : Program) (call : Call) : Prop :=
  ∀ f args m v m', call f args m = .mk v m' → ∀ (ρ : Ren) (w : World) (cs : Array Value), View ρ m w → VRs ρ args cs.toList → Fresh ρ m.next m'.next →
    ((callFunc f cs).run P w = .ok (.enter f cs) w ∧ Calls P f cs w (Post ρ m w v m')) ∨ (∃ ρ' w' vc, (callFunc f cs).run P w = .ok (.value vc) w' ∧ Step ρ m w ρ' m' w' ∧ VR ρ' v vc)
variable {ρ : Ren} {m : AMem} {w : World}
theorem op_wp {call : Call} (hcall : CallOK P call) (V : View ρ m w) {o : Oper} {t : T AV} {a : Act} (hO : OpRel ρ t a.eval o.op.operands.toList) {v : AV} {m' : AMem} (h : opTab o.op P call t m = .mk v m') (hf : Fresh ρ m.next m'.next)
    {K : Act → World → Prop} {Q : Exit → Act → World → Prop} (hK : ∀ ρ' w' vc, Step ρ m w ρ' m' w' → VR ρ' v vc → K (a.put o.dst vc) w') : o.wp P a w K Q := by
  by_cases hc : ∃ f args ats, o.op = .call ⟨.value f, args, ats⟩
  · obtain ⟨f, args, ats, ho⟩ := hc
    obtain ⟨dst, op, type, pos, after, guard⟩ := o
    simp only at ho
    subst ho
    have h : evK t f (fun f => f.onFn (fun g caps => evsK t args.toList fun vs => call g (vs ++ caps) m) (OR.fail 120)) = .mk v m' := h
    rw [evK_eq] at h
    obtain ⟨g, caps, hg, h1⟩ := onFn_inv _ h fail_ne
    rw [evsK_eq] at h1
    have hfr := hO f (by show f ∈ ((#[f] : Array Operand) ++ args).toList; simp)
    rw [hg] at hfr
    cases hfe : a.eval f with
    | func fn first cap =>
      rw [hfe] at hfr
      cases hfr with | fn _ _ _ hcaps =>
      have hp : OpRel ρ t a.eval args.toList := fun x hx => hO x (by show x ∈ ((#[f] : Array Operand) ++ args).toList; simp; exact .inr (by simpa using hx))
      have hargs : VRs ρ (args.toList.map (evA t) ++ caps) ((args.map a.eval ++ cap).toList) := by
        have := hp.list.append hcaps
        simpa using this
      have hrun : (execOp a.eval ⟨dst, .call ⟨.value f, args, ats⟩, type, pos, after, guard⟩).run P w = (callFunc g (args.map a.eval ++ cap)).run P w := by
        simp only [execOp, resolve, hfe, Deferred.ofValue, Sem.run_bind, Sem.run_pure, Result.andThen_ok, invoke]
        simp
      unfold Oper.wp
      rw [hrun]
      rcases hcall g _ _ _ _ h1 ρ w _ V hargs hf with ⟨e1, e2⟩ | ⟨ρ', w', vc, e1, e2, e3⟩
      · rw [e1]
        exact e2.mono fun e w' ⟨vc, ρ', he, hs, hv⟩ => by subst he; exact hK ρ' w' vc hs hv
      · rw [e1]
        exact hK ρ' w' vc e2 e3
    | _ => rw [hfe] at hfr; cases hfr
  · obtain ⟨ρ', w', vc, hs, hv, hr⟩ := op_runs V hO (fun f args ats e => hc ⟨f, args, ats, e⟩) h hf
    unfold Oper.wp
    rcases hr with hr | ⟨hr, hvc⟩
    · rw [hr]; exact hK ρ' w' vc hs hv
    · rw [hr]; subst hvc; exact hK ρ' w' _ hs hv
/-! ### Guards -/
theorem wantedA_inv {ops : Array Oper} {t : T AV} {tmps : Array Value} {j : Nat} {want b : Bool} (h : wantedA ops t j want = some b)
    (hr : ∀ g d, ops[j]? = some g → g.dst = some d → VR ρ ((t.get d).getD .undef) (tmps.getD d undef)) : (yielded ops tmps j == some want) = b := by
  unfold wantedA at h
  unfold yielded
  split at h
  · rename_i hj; cases h; simp [hj]
  · rename_i g hj
    split at h
    · rename_i hd; cases h; simp [hj, hd]
    · rename_i d hd
      have hrel := hr g d hj hd
      simp only [hj, Option.bind_some, hd]
      split at h
      · rename_i v hv
        rw [hv] at hrel
        simp only [Option.getD_some] at hrel
        cases v <;> first
          | (cases h; done)
          | (cases h
             cases htm : tmps[d]? with
             | none => simp
             | some c =>
               have e : tmps.getD d undef = c := by simp [htm]
               rw [e] at hrel
               cases hrel <;> simp)
          | skip
        rename_i q
        have h : some (q == want) = some b := h
        cases h
        cases htm : tmps[d]? with
        | none =>
          have e : tmps.getD d undef = undef := by simp [htm]
          rw [e] at hrel; cases hrel
        | some c =>
          have e : tmps.getD d undef = c := by simp [htm]
          rw [e] at hrel
          cases hrel
          simp
      · rename_i hv
        rw [hv] at hrel
        cases h
        cases htm : tmps[d]? with
        | none => simp
        | some c =>
          have e : tmps.getD d undef = c := by simp [htm]
          rw [e] at hrel
          cases hrel
          simp
/-! ### Regions in their order -/
theorem goOp_inv {call : Call} {nt : Nat} {dst : Option Tmp} {op : Op} {t : T AV} {k : T AV → AMem → Res} {x : X} {t' : T AV} {m' : AMem} (h : goOp P call nt dst op t m k = .mk x t' m') :
    ∃ v m1 t1, opTab op P call t m = .mk v m1 ∧ m.next ≤ m1.next ∧ k t1 m1 = .mk x t' m' ∧ ∀ {ρ : Ren} {a : Act} {vc : Value}, TR ρ nt t a.tmps → VR ρ v vc → TR ρ nt t1 (a.put dst vc).tmps := by
  unfold goOp at h
  cases ho : opTab op P call t m with
  | fail c => rw [ho] at h; cases h
  | mk v m1 =>
    rw [ho] at h
    have h : bif2 (Nat.ble m.next m1.next) (dstK nt dst v t fun t => k t m1) (.fail 124) = .mk x t' m' := h
    rw [bif2_eq] at h
    split at h
    · rename_i hle
      obtain ⟨t1, h1, h2⟩ := dstK_inv h
      exact ⟨v, m1, t1, rfl, by simpa [Nat.ble_eq] using hle, h1, h2⟩
    · cases h
/-- One operation of a region: it is carried out, or it is not wanted. -/
theorem regOp_inv {call : Call} {nt : Nat} {all : Array Oper} {o : Oper} {t : T AV} {k : T AV → AMem → Res} {x : X} {t' : T AV} {m' : AMem} (h : regOp P call nt all o t m k = .mk x t' m') :
    ∃ b v m1 t1, (match o.guard with | none => some true | some g => wantedA all t g.1 g.2) = some b ∧ (b = true → opTab o.op P call t m = .mk v m1) ∧ (b = false → v = .undef ∧ m1 = m) ∧ m.next ≤ m1.next ∧ k t1 m1 = .mk x t' m' ∧
      ∀ {ρ : Ren} {a : Act} {vc : Value}, TR ρ nt t a.tmps → VR ρ v vc → TR ρ nt t1 (a.put o.dst vc).tmps := by
  obtain ⟨dst, op, ty, pos, after, guard⟩ := o
  cases guard with
  | none =>
    obtain ⟨v, m1, t1, h1, h2, h3, h4⟩ := goOp_inv h
    exact ⟨true, v, m1, t1, rfl, fun _ => h1, fun e => (by cases e), h2, h3, h4⟩
  | some g =>
    have h : @Option.rec Bool (fun _ => Res) (.fail 123) (fun w => bif2 w (goOp P call nt dst op t m k) (dstK nt dst .undef t fun t => k t m)) (wantedA all t g.1 g.2) = .mk x t' m' := h
    cases hw : wantedA all t g.1 g.2 with
    | none => rw [hw] at h; cases h
    | some b =>
      rw [hw] at h
      cases b with
      | true =>
        obtain ⟨v, m1, t1, h1, h2, h3, h4⟩ := goOp_inv (show goOp P call nt dst op t m k = .mk x t' m' from h)
        exact ⟨true, v, m1, t1, hw, fun _ => h1, fun e => (by cases e), h2, h3, h4⟩
      | false =>
        obtain ⟨t1, h1, h2⟩ := dstK_inv (show (dstK nt dst .undef t fun t => k t m) = .mk x t' m' from h)
        exact ⟨false, .undef, m, t1, hw, fun e => (by cases e), fun _ => ⟨rfl, rfl⟩, Nat.le_refl _, h1, h2⟩
theorem opsA_next {call : Call} {nt : Nat} {all : Array Oper} : ∀ {l : List Oper} {t : T AV} {m : AMem} {x : X} {t' : T AV} {m' : AMem}, opsA P call nt all l t m = .mk x t' m' → m.next ≤ m'.next
  | [], t, m, x, t', m', h => by cases h; exact Nat.le_refl _
  | o :: l, t, m, x, t', m', h => by
    obtain ⟨b, v, m1, t1, _, _, _, h1, h2, _⟩ := regOp_inv (show regOp P call nt all o t m (opsA P call nt all l) = .mk x t' m' from h)
    exact Nat.le_trans h1 (opsA_next h2)
theorem wanted_eq {all : Array Oper} {t : T AV} {tmps : Array Value} {o : Oper} {b : Bool} (h : (match o.guard with | none => some true | some g => wantedA all t g.1 g.2) = some b)
    (hr : ∀ j want g d, o.guard = some (j, want) → all[j]? = some g → g.dst = some d → VR ρ ((t.get d).getD .undef) (tmps.getD d undef)) : Region.wanted o (yielded all tmps) = b := by
  unfold Region.wanted
  cases hg : o.guard with
  | none => rw [hg] at h; cases h; rfl
  | some g =>
    obtain ⟨j, want⟩ := g
    rw [hg] at h
    exact wantedA_inv h fun g d h1 h2 => hr j want g d hg h1 h2
theorem opsA_wp {call : Call} (hcall : CallOK P call) {nt : Nat} {all : Array Oper} {Q : Exit → Act → World → Prop} : ∀ (l : List Oper) (i : Nat) (_ : ∀ j, l[j]? = all[i + j]?) {t : T AV} {m : AMem} {w : World} {ρ : Ren} {a : Act} {x : X} {t' : T AV} {m' : AMem}
    (_ : opsA P call nt all l t m = .mk x t' m') (_ : View ρ m w) (_ : TR ρ nt t a.tmps) (_ : Fresh ρ m.next m'.next)
    (_ : ∀ ρ' a' w', Step ρ m w ρ' m' w' → TR ρ' nt t' a'.tmps → a'.defers = a.defers → Q .normal a' w'), x = .norm ∧ wpOps P all Q (List.range' i l.length) a w
  | [], i, hl, t, m, w, ρ, a, x, t', m', h, V, hT, hf, hQ => by
    cases h
    exact ⟨rfl, hQ ρ a w V.refl hT rfl⟩
  | o :: l, i, hl, t, m, w, ρ, a, x, t', m', h, V, hT, hf, hQ => by
    obtain ⟨b, v, m1, t1, hw, hyes, hno, hle, hk, hput⟩ := regOp_inv (show regOp P call nt all o t m (opsA P call nt all l) = .mk x t' m' from h)
    have hle2 := opsA_next hk
    have ho : all[i]? = some o := by simpa using (hl 0).symm
    have hl' : ∀ j, l[j]? = all[i + 1 + j]? := fun j => by have := hl (j + 1); simpa [Nat.add_assoc, Nat.add_comm 1 j] using this
    have hwant := wanted_eq (tmps := a.tmps) hw fun _ _ _ d _ _ _ => hT.rel d
    have rest : ∀ ρ1 w1 vc, Step ρ m w ρ1 m1 w1 → VR ρ1 v vc → x = .norm ∧ wpOps P all Q (List.range' (i + 1) l.length) (a.put o.dst vc) w1 := fun ρ1 w1 vc hs hv => by
      have hsub := hs.sub (hf.le hle2)
      exact opsA_wp hcall l (i + 1) hl' hk hs.view (hput (hT.mono hsub) hv) (hs.fresh hf) fun ρ' a' w' hs' hT' hd => hQ ρ' a' w' (hs.trans hs') hT' (hd.trans (by cases o.dst <;> rfl))
    have hx : x = .norm := by
      clear hQ rest hput
      exact opsA_norm h
    refine ⟨hx, ?_⟩
    rw [List.length_cons, List.range'_succ]
    simp only [wpOps, ho]
    rw [hwant]
    cases b with
    | true =>
      rw [if_pos rfl]
      exact .inl (op_wp hcall V (fun y _ => hT.ev y) (hyes rfl) (hf.le hle2) fun ρ1 w1 vc hs hv => (rest ρ1 w1 vc hs hv).2)
    | false =>
      rw [if_neg (by decide)]
      obtain ⟨rfl, rfl⟩ := hno rfl
      exact (rest ρ w undef V.refl (VR.undef _)).2
where
  opsA_norm {call : Call} {nt : Nat} {all : Array Oper} : ∀ {l : List Oper} {t : T AV} {m : AMem} {x : X} {t' : T AV} {m' : AMem}, opsA P call nt all l t m = .mk x t' m' → x = .norm
  | [], t, m, x, t', m', h => by cases h; rfl
  | o :: l, t, m, x, t', m', h => by
    obtain ⟨b, v, m1, t1, _, _, _, h1, h2, _⟩ := regOp_inv (show regOp P call nt all o t m (opsA P call nt all l) = .mk x t' m' from h)
    exact opsA_norm h2
end
end Go.Ev
end
section
namespace Go.Ev
set_option linter.all false
/-- What comes of it leaves memory as it is, where no name is new. -/
noncomputable def Keeps (r : OR) (m : AMem) : Prop := ∀ v m', r = .mk v m' → m'.next = m.next → m' = m
theorem Keeps.mk (v : AV) (m : AMem) : Keeps (.mk v m) m := fun _ _ h _ => by cases h; rfl
theorem Keeps.fail (c : Nat) (m : AMem) : Keeps (.fail c) m := fun _ _ h _ => by cases h
theorem Keeps.bif {b : Bool} {x y : OR} {m : AMem} (h : Keeps x m) (h' : Keeps y m) : Keeps (bif2 b x y) m := by cases b; exact h'; exact h
theorem Keeps.bnd {x : Option AV} {d : Nat} {k : Nat → OR} {m : AMem} (h : ∀ n, Keeps (k n) m) : Keeps (bnd x d k) m := by
  unfold Ev.bnd; split
  · exact h _
  · exact h _
  · exact .fail _ _
theorem Keeps.blk {m0 : AMem} {b : Nat} {k : Bool → Nat → Nat → T AV → OR} {m : AMem} (h : ∀ a b c d, Keeps (k a b c d) m) : Keeps (blkK m0 b k) m := fun v m' e hn => by
  obtain ⟨ro, sg, E, N, c, h1, h2⟩ := blkK_inv e
  exact h _ _ _ _ _ _ h2 hn
theorem Keeps.load {m0 : AMem} {b off n : Nat} {k : List AV → OR} {m : AMem} (h : ∀ l, Keeps (k l) m) : Keeps (loadK m0 b off n k) m := fun v m' e hn => by
  obtain ⟨ro, sg, E, N, c, h1, h2, h3⟩ := loadK_inv e
  exact h _ _ _ h3 hn
theorem Keeps.nat {n : Nat} {k : Nat → OR} {m : AMem} (h : Keeps (k n) m) : Keeps (fNat n k) m := by rw [fNat_eq]; exact h
theorem Keeps.bytes {m : AMem} : ∀ {l : List AV} {k : List Nat → OR}, (∀ l, Keeps (k l) m) → Keeps (bytesK l k) m := fun {l} => by
  induction l with
  | nil => intro k h; exact h []
  | cons x l ih =>
    intro k h
    unfold bytesK
    split
    · rename_i e; exact h []
    · rename_i n l' k' e
      cases e
      exact .bif (ih fun l => h _) (.fail _ _)
    · exact .fail _ _
theorem Keeps.cut {b off size l h M : Nat} {m : AMem} : Keeps (cutAt b off size l h M m) m := by
  unfold cutAt; exact .nat (.nat (.nat (.mk _ _)))
theorem Keeps.new {sg : Bool} {E : Nat} {l : List AV} {m : AMem} {k : Nat → AMem → OR} (hk : ∀ b m1 v m', k b m1 = .mk v m' → m'.next = m1.next) : Keeps (newBlk sg E l m k) m := fun v m' e hn => by
  obtain ⟨m1, c, h1, h2, h3, h4⟩ := newBlk_inv e
  have := hk _ _ _ _ h4
  omega
section
variable {P : Program} {call : Call}
theorem aLoad_keeps (t : TypeId) (a : AV) (m : AMem) : Keeps (aLoad P t a m) m := fun v m' h hn => by
  obtain ⟨b, o, rfl, h⟩ := onPtr_inv _ h fail_ne
  have h : @Option.rec (Bool × Nat) (fun _ => OR) (.fail 37) (loadL m b o) (layout P t) = .mk v m' := h
  cases hl : layout P t with
  | none => rw [hl] at h; cases h
  | some lay =>
    rw [hl] at h
    have h : loadL m b o lay = .mk v m' := h
    unfold loadL at h
    exact Keeps.bif (m := m) (.load fun l => .mk _ _) (by
      unfold load1
      refine .blk fun a b N c => .bif ?_ (.fail _ _)
      cases c.get o <;> exact .mk _ _) v m' h hn
theorem aSlice_keeps (t : TypeId) (x : AV) (lo hi mx : Option AV) (m : AMem) : Keeps (aSlice P t x lo hi mx m) m := by
  unfold aSlice
  split
  · split
    · exact .fail _ _
    · exact .nat (.bnd fun _ => .bnd fun _ => .bif (.mk _ _) (.fail _ _))
  · split
    · split
      · exact .bnd fun _ => .bnd fun _ => .bnd fun _ => .bif .cut (.fail _ _)
      · exact .bnd fun _ => .bnd fun _ => .bif (.bif (.mk _ _) (.bif (.blk fun _ _ _ _ => .bif (.nat (.nat (.mk _ _))) (.fail _ _)) (.mk _ _))) (.blk fun _ _ _ _ => .bif (.nat (.nat (.mk _ _))) (.fail _ _))
      · exact .bnd fun _ => .bnd fun _ => .bnd fun _ => .bif .cut (.fail _ _)
    · exact .fail _ _
  · split
    · exact .bnd fun _ => .bnd fun _ => .bnd fun _ => .bif (.mk _ _) (.fail _ _)
    · exact .fail _ _
  · split
    · exact .bnd fun _ => .bnd fun _ => .bnd fun _ => .bif .cut (.fail _ _)
    · exact .fail _ _
  · exact .fail _ _
theorem aConvert_keeps (s d : TypeId) (x : AV) (m : AMem) : Keeps (aConvert P s d x m) m := by
  unfold aConvert
  split
  · rw [wrapK_eq]; exact .mk _ _
  · exact .mk _ _
  · split
    · split
      · exact .load fun l => .bytes fun l => .mk _ _
      · exact .mk _ _
      · exact .mk _ _
      · exact .fail _ _
    · exact .fail _ _
  · split
    · refine .bif (.new fun b m1 v m' h => ?_) (.fail _ _)
      rw [fNat_eq] at h; cases h; rfl
    · exact .fail _ _
  · exact .fail _ _
theorem found_keeps {ok : Bool} {a : AV} {b : Bool} {m : AMem} : Keeps (found ok a b m) m := .bif (.mk _ _) (.mk _ _)
theorem aLookup_keeps (t : TypeId) (x k : AV) (ok : Bool) (m : AMem) : Keeps (aLookup P t x k ok m) m := by
  unfold aLookup
  split
  · refine .bif ?_ (.fail _ _)
    split
    · exact .fail _ _
    · split
      · exact found_keeps
      · intro v m' h hn
        obtain ⟨ro, ck, es, _, h⟩ := mapK_inv h
        split at h
        · exact found_keeps v m' h hn
        · exact found_keeps v m' h hn
        · cases h
      · exact .fail _ _
  · exact .fail _ _
theorem iBool_keeps {r : Bool} {m : AMem} : Keeps (iBool r m) m := by cases r <;> exact .mk _ _
theorem flip_keeps {op : BinOp} {r : Bool} {m : AMem} : Keeps (flip op r m) m := by
  cases op <;> first | exact iBool_keeps | exact .fail _ _
theorem wrap_keeps {k : IntKind} {n : Int} {m : AMem} : Keeps (wrapK k n fun n => .mk (.int k n) m) m := by rw [wrapK_eq]; exact .mk _ _
theorem fInt_keeps {k : IntKind} {n : Int} {m : AMem} : Keeps (fInt n fun n => .mk (.int k n) m) m := by rw [fInt_eq]; exact .mk _ _
theorem iBits_keeps {f : Nat → Nat → Nat} {k : IntKind} {a b : Int} {m : AMem} : Keeps (iBits f k a b m) m := by
  cases a with
  | negSucc _ => exact .fail _ _
  | ofNat x => cases b with
    | negSucc _ => exact .fail _ _
    | ofNat y => exact .bif wrap_keeps (.fail _ _)
theorem iBin_keeps {op : BinOp} {k k' : IntKind} {a b : Int} {m : AMem} : Keeps (iBin op k a k' b m) m := by
  unfold iBin
  refine .bif ?_ (.bif ?_ (.fail _ _))
  · cases op <;> first | exact .fail _ _ | (cases b <;> first | exact .fail _ _ | exact wrap_keeps | exact fInt_keeps)
  · cases op <;> first
      | exact .fail _ _
      | exact wrap_keeps
      | exact iBool_keeps
      | exact iBits_keeps
      | exact .bif (.fail _ _) wrap_keeps
      | exact .bif (.fail _ _) (.bif (.mk _ _) fInt_keeps)
theorem aStr_keeps {op : BinOp} {a b : List Nat} {m : AMem} : Keeps (aStr op a b m) m := by
  unfold aStr; split <;> first | exact .bif (.mk _ _) (.fail _ _) | exact iBool_keeps | exact .fail _ _
theorem aNil_keeps {op : BinOp} {t : TypeId} {x y : AV} {m : AMem} : Keeps (aNil P op t x y m) m := by
  unfold aNil; split
  · exact .bif flip_keeps (.fail _ _)
  · exact .fail _ _
theorem aAggEq_keeps {op : BinOp} {t : TypeId} {x y : List AV} {m : AMem} : Keeps (aAggEq P op t x y m) m := by
  unfold aAggEq; split
  · refine .bif ?_ (.fail _ _)
    split
    · exact flip_keeps
    · exact .fail _ _
  · exact .fail _ _
theorem aIface_keeps {op : BinOp} {t : TypeId} {l : Bool} {x y : AV} {m : AMem} : Keeps (aIface P op t l x y m) m := by
  unfold aIface; split
  · exact .bif flip_keeps (.fail _ _)
  · exact flip_keeps
  · exact flip_keeps
  · exact .fail _ _
theorem onInt_keeps {x : AV} {f : IntKind → Int → OR} {d : OR} {m : AMem} (h : ∀ k a, Keeps (f k a) m) (h' : Keeps d m) : Keeps (x.onInt f d) m := by cases x <;> first | exact h' | exact h _ _
theorem onStr_keeps {x : AV} {f : List Nat → OR} {d : OR} {m : AMem} (h : ∀ a, Keeps (f a) m) (h' : Keeps d m) : Keeps (x.onStr f d) m := by cases x <;> first | exact h' | exact h _
theorem onBool_keeps {x : AV} {f : Bool → OR} {d : OR} {m : AMem} (h : ∀ a, Keeps (f a) m) (h' : Keeps d m) : Keeps (x.onBool f d) m := by cases x <;> first | exact h' | exact h _
theorem onAgg_keeps {x : AV} {f : List AV → OR} {d : OR} {m : AMem} (h : ∀ a, Keeps (f a) m) (h' : Keeps d m) : Keeps (x.onAgg f d) m := by cases x <;> first | exact h' | exact h _
theorem onPtr_keeps {x : AV} {f : Nat → Nat → OR} {d : OR} {m : AMem} (h : ∀ a b, Keeps (f a b) m) (h' : Keeps d m) : Keeps (x.onPtr f d) m := by cases x <;> first | exact h' | exact h _ _
theorem aBinRest_keeps {op : BinOp} {t : TypeId} {l : Bool} {x y : AV} {m : AMem} : Keeps (aBinRest P op t l x y m) m := by
  unfold aBinRest
  split
  · refine onBool_keeps (fun b => ?_) (.fail _ _)
    split
    · exact flip_keeps
    · exact .fail _ _
  · exact onAgg_keeps (fun _ => aAggEq_keeps) (.fail _ _)
  · exact aIface_keeps
  · exact aIface_keeps
  · exact aNil_keeps
theorem aBin_keeps {op : BinOp} {t : TypeId} {l : Bool} {x y : AV} {m : AMem} : Keeps (aBin P op t l x y m) m := by
  unfold aBin
  exact onInt_keeps (fun _ _ => onInt_keeps (fun _ _ => iBin_keeps) (.fail _ _)) (onStr_keeps (fun _ => onStr_keeps (fun _ => aStr_keeps) (.fail _ _)) aBinRest_keeps)
theorem aPtrEq_keeps {op : BinOp} {t : TypeId} {b o b' o' : Nat} {m : AMem} : Keeps (aPtrEq P op t b o b' o' m) m := by
  unfold aPtrEq; split
  · split
    · refine .bif (.fail _ _) (.bif flip_keeps ?_)
      split
      · exact .bif (.fail _ _) flip_keeps
      · exact .fail _ _
    · exact .fail _ _
  · exact .fail _ _
theorem aBin2_keeps {op : BinOp} {t : TypeId} {l : Bool} {x y : AV} {m : AMem} : Keeps (aBin2 P op t l x y m) m := by
  unfold aBin2
  exact onPtr_keeps (fun _ _ => onPtr_keeps (fun _ _ => aPtrEq_keeps) aBin_keeps) aBin_keeps
theorem evO_keeps {t : T AV} {x : Option Operand} {k : Option AV → OR} {m : AMem} (h : ∀ v, Keeps (k v) m) : Keeps (evO t x k) m := by rw [evO_eq]; exact h _
theorem evK_keeps {t : T AV} {x : Operand} {k : AV → OR} {m : AMem} (h : ∀ v, Keeps (k v) m) : Keeps (evK t x k) m := by rw [evK_eq]; exact h _
theorem reads_keeps {o : Op} (hk : opKind o = 1) (t : T AV) (m : AMem) : Keeps (opTab o P call t m) m := by
  cases o <;> first | (cases hk; done) | skip
  · exact evK_keeps fun a => aLoad_keeps _ _ _
  · exact evK_keeps fun a => evK_keeps fun _ => aBin2_keeps
  · exact evK_keeps fun a => aConvert_keeps _ _ _ _
  · exact evK_keeps fun a => evO_keeps fun _ => evO_keeps fun _ => evO_keeps fun _ => aSlice_keeps _ _ _ _ _ _
  · exact evK_keeps fun a => evK_keeps fun _ => aLookup_keeps _ _ _ _ _
  · rename_i c
    obtain ⟨callee, args, ats⟩ := c
    cases callee <;> first | (cases hk; done) | skip
    rename_i b
    cases b <;> cases hk
end
/-! ### What is the same -/
theorem bif2_and {a b : Bool} (h : bif2 a b false = true) : a = true ∧ b = true := by cases a; cases h; exact ⟨rfl, h⟩
theorem eqV_both : ∀ n : Nat, (∀ a b : AV, eqV n a b = true → a = b) ∧ (∀ l m : List AV, eqV.eqVs n l m = true → l = m)
  | 0 => ⟨fun a b h => (by unfold eqV at h; cases h), fun l m h => (by unfold eqV.eqVs at h; cases h)⟩
  | n + 1 => by
    obtain ⟨ih, ihs⟩ := eqV_both n
    refine ⟨fun a b h => ?_, fun l m h => ?_⟩
    · unfold eqV at h
      split at h
      · rw [eq_of_beq h]
      · obtain ⟨h1, h2⟩ := bif2_and h
        rw [iEq_eq] at h2
        rw [kEq_eq h1, eq_of_beq h2]
      · rw [lEq_eq] at h; rw [eq_of_beq h]
      · obtain ⟨h1, h2⟩ := bif2_and h
        rw [Nat.eq_of_beq_eq_true h1, Nat.eq_of_beq_eq_true h2]
      · rfl
      · obtain ⟨h1, h2⟩ := bif2_and h
        obtain ⟨h2, h3⟩ := bif2_and h2
        rw [Nat.eq_of_beq_eq_true h1, Nat.eq_of_beq_eq_true h2, Nat.eq_of_beq_eq_true h3]
      · obtain ⟨h1, h2⟩ := bif2_and h
        obtain ⟨h2, h3⟩ := bif2_and h2
        obtain ⟨h3, h4⟩ := bif2_and h3
        rw [Nat.eq_of_beq_eq_true h1, Nat.eq_of_beq_eq_true h2, Nat.eq_of_beq_eq_true h3, Nat.eq_of_beq_eq_true h4]
      · rfl
      · rfl
      · rw [Nat.eq_of_beq_eq_true h]
      · rfl
      · rfl
      · obtain ⟨h1, h2⟩ := bif2_and h
        rw [Nat.eq_of_beq_eq_true h1, ihs _ _ h2]
      · obtain ⟨h1, h2⟩ := bif2_and h
        rw [Nat.eq_of_beq_eq_true h1, ih _ _ h2]
      · rfl
      · rw [ihs _ _ h]
      · rw [ihs _ _ h]
      · cases h
    · unfold eqV.eqVs at h
      split at h
      · cases h
      · rfl
      · rename_i e
        cases e
        obtain ⟨h1, h2⟩ := bif2_and h
        rw [ih _ _ h1, ihs _ _ h2]
      · cases h
theorem eqV_eq {n : Nat} {a b : AV} (h : eqV n a b = true) : a = b := (eqV_both n).1 a b h
/-! ### Masks -/
theorem bitA_eq (a i : Nat) : bitA a i = a.testBit i := by
  have e : bitA a i = Nat.beq ((a >>> i) &&& 1) 1 := rfl
  rw [e, Nat.testBit, Nat.and_comm 1]
  rcases Nat.mod_two_eq_zero_or_one (a >>> i) with h | h <;> rw [Nat.and_one_is_mod, h] <;> rfl
theorem subA_spec {a b : Nat} (h : subA a b = true) {i : Nat} (hi : a.testBit i = true) : b.testBit i = true := by
  have e : a &&& b = a := Nat.eq_of_beq_eq_true h
  have := congrArg (fun n => n.testBit i) e
  simp only [Nat.testBit_and, hi, Bool.true_and] at this
  exact this
end Go.Ev
end
