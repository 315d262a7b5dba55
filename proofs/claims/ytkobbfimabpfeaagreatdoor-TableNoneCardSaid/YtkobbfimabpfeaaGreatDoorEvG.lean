/- Operations, on: unary ones, conversions, fields, elements, parts, lengths. -/
import Derived.Test.YtkobbfimabpfeaaGreatDoorEvF
import Derived.Laws.BytesString
import Derived.Laws.Slices
namespace Go.Ev

section
variable {P : Program} {ρ : Ren} {m : AMem} {w : World}

/-! ### Unary -/

theorem xor_ones (n a : Nat) (h : a < 2 ^ n) : (BitVec.ofInt n (2 ^ n - 1 : Int) ^^^ BitVec.ofInt n (Int.ofNat a)).toNat = 2 ^ n - 1 - a := by
  have e : BitVec.ofInt n (2 ^ n - 1 : Int) = BitVec.allOnes n := by
    apply BitVec.eq_of_toNat_eq
    have h1 : 0 < 2 ^ n := Nat.two_pow_pos n
    have h2 : ((2 : Int) ^ n - 1) = ((2 ^ n - 1 : Nat) : Int) := by rw [Int.natCast_sub (by omega)]; simp
    rw [h2, BitVec.ofInt_natCast, BitVec.toNat_ofNat, BitVec.toNat_allOnes]
    exact Nat.mod_eq_of_lt (by omega)
  rw [e, BitVec.allOnes_xor, BitVec.toNat_not]
  simp [Nat.mod_eq_of_lt h]

theorem aUn_val {op : UnOp} {x : AV} {vx : Value} (hx : VR ρ x vx) {v : AV} {m' : AMem} (h : aUn op x m = .mk v m') : Val P ρ m w v m' (Op.unary op vx) := by
  cases op with
  | neg =>
    have h : x.onInt (fun k n => wrapK k (Int.sub 0 n) fun n => OR.mk (.int k n) m) (OR.fail 109) = .mk v m' := h
    obtain ⟨k, n, rfl, h1⟩ := onInt_inv _ h fail_ne
    cases hx
    rw [wrapK_eq] at h1
    exact Val.mk h1 (by simp only [Op.unary, Op.intArith]; rfl) (.int _ _)
  | not =>
    have h : x.onBool (fun b => iBool (!b) m) (.fail 109) = .mk v m' := h
    obtain ⟨b, rfl, h1⟩ := onBool_inv _ h fail_ne
    cases hx
    exact iBool_val (b := !b) h1 (by simp [Op.unary])
  | xor =>
    have g : x.onInt (fun k n => match k.signed, n with
      | false, .ofNat a => bif2 (Nat.blt a (2 ^ k.bits)) (fInt (.ofNat (Nat.sub (2 ^ k.bits - 1) a)) fun n => OR.mk (.int k n) m) (OR.fail 108)
      | _, _ => OR.fail 108) (OR.fail 109) = .mk v m' := h
    clear h
    obtain ⟨k, n, rfl, h1⟩ := onInt_inv _ g fail_ne
    clear g
    cases hx
    split at h1
    · rename_i a hs
      rw [bif2_eq] at h1
      split at h1
      · rename_i hlt
        have hlt : a < 2 ^ k.bits := by simpa [Nat.blt_eq] using hlt
        rw [fInt_eq] at h1
        refine Val.mk h1 (uc := .int k (Int.ofNat (2 ^ k.bits - 1 - a))) ?_ (.int _ _)
        have hm : k.max = (2 ^ k.bits - 1 : Int) := by simp [IntKind.max, hs]
        have hx := xor_ones k.bits a hlt
        simp only [Op.unary, hs, Bool.false_eq_true, if_false, Op.intBits, hm, hx, Sem.run_pure]
        have : k.wrap (Int.ofNat (2 ^ k.bits - 1 - a)) = Int.ofNat (2 ^ k.bits - 1 - a) := by
          apply wrap_small
          have ht : topOf k = 2 ^ k.bits := by cases k <;> first | rfl | (simp [IntKind.signed] at hs)
          rw [ht]; have := Nat.two_pow_pos k.bits; omega
        rw [show ((2 ^ k.bits - 1 - a : Nat) : Int) = Int.ofNat (2 ^ k.bits - 1 - a) from rfl, this]
      · cases h1
    · cases h1
  | plus => cases h

/-! ### Fields, elements -/

theorem run_info {t : TypeId} {i : TypeInfo} (h : P.info? t = some i) (w : World) : (typeInfo t).run P w = .ok i w := by simp [typeInfo, h]

theorem aFieldAddr_val {s : TypeId} {x : AV} {vx : Value} (hx : VR ρ x vx) {f : Nat} {v : AV} {m' : AMem} (h : aFieldAddr P s x f m = .mk v m') : Val P ρ m w v m' (Instr.fieldAt s vx f) := by
  obtain ⟨b, off, rfl, h1⟩ := onPtr_inv _ h fail_ne
  cases hx with | ptr _ _ L hL =>
  cases hf : fieldAt P s f with
  | none => rw [hf] at h1; cases h1
  | some d =>
    rw [hf] at h1
    have h1 : (fNat (Nat.add off d) fun o => OR.mk (.ptr b o) m) = .mk v m' := h1
    rw [fNat_eq] at h1
    unfold fieldAt at hf
    split at hf
    · rename_i fs hu
      split at hf
      · rename_i fd hfd
        split at hf
        · rename_i i hi
          rw [bif2_eq] at hf
          split at hf
          · cases hf
          · rename_i hz
            cases hf
            have hz : ¬ i.size = 0 := fun e => hz (by rw [e]; rfl)
            refine Val.mk h1 (uc := .pointer (some ⟨L.blk, L.base + (off + fd.offset), none⟩)) ?_ (.ptr _ _ L hL)
            simp [Instr.fieldAt, run_underlying hu, hfd, Instr.sureAddr, fieldPlace, run_sizeOf hi, hz, addr_add, Nat.add_assoc]
        · cases hf
      · cases hf
    · cases hf

theorem partA_val {t : TypeId} {l : List AV} {cs : Array Value} (hl : VRs ρ l cs.toList) {off : Nat} {v : AV} {m' : AMem} (h : partA P t l off m = .mk v m') : Val P ρ m w v m' (part t cs off) := by
  unfold partA at h
  split at h
  · cases h
  · rename_i n hlay
    obtain ⟨d, i, hu, hi, rfl, hagg⟩ := layout_inv (w := w) hlay
    refine Val.mk h (uc := .agg (cs.extract off (off + i.size))) (by simp [part, hagg, run_sizeOf hi]) (.agg _ _ ?_)
    have := (hl.drop off).take i.size
    simpa [List.take_drop, Nat.add_comm] using this
  · rename_i n hlay
    obtain ⟨d, i, hu, hi, rfl, hagg⟩ := layout_inv (w := w) hlay
    split at h
    · rename_i u hu'
      obtain ⟨c, hc, hr⟩ := hl.get _ hu'
      have hc : cs[off]? = some c := by rw [← hc]; simp
      exact Val.mk h (by simp [part, hagg, hc]) hr
    · cases h

theorem aField_val {s : TypeId} {x : AV} {vx : Value} (hx : VR ρ x vx) {f : Nat} {v : AV} {m' : AMem} (h : aField P s x f m = .mk v m') : Val P ρ m w v m' (Instr.field s vx f) := by
  obtain ⟨l, rfl, h1⟩ := onAgg_inv _ h fail_ne
  cases hx with | agg _ cs hcs =>
  split at h1
  · rename_i fs hu
    split at h1
    · rename_i fd hfd
      obtain ⟨e, vc, hv, hr⟩ := partA_val (w := w) hcs h1
      exact ⟨e, vc, hv, by simp [Instr.field, run_underlying hu, hfd, asAgg, hr]⟩
    · cases h1
  · cases h1

theorem ixOf_arr {t : TypeId} {n size : Nat} (h : ixOf P t = .arr n size) : ∃ e i, P.underlying t = some (.array n e) ∧ P.info? e = some i ∧ size = i.size := by
  unfold ixOf at h
  split at h
  · rename_i n' e hu
    split at h
    · rename_i i hi; cases h; exact ⟨e, i, hu, hi, rfl⟩
    · cases h
  · split at h <;> cases h
  · cases h
theorem ixOf_sl {t : TypeId} {size : Nat} (h : ixOf P t = .sl size) : ∃ e i, P.underlying t = some (.slice e) ∧ P.info? e = some i ∧ size = i.size := by
  unfold ixOf at h
  split at h
  · split at h <;> cases h
  · rename_i e hu
    split at h
    · rename_i i hi; cases h; exact ⟨e, i, hu, hi, rfl⟩
    · cases h
  · cases h

theorem aIndexAddr_val {t : TypeId} {x ix : AV} {vx vi : Value} (hx : VR ρ x vx) (hi : VR ρ ix vi) {v : AV} {m' : AMem} (h : aIndexAddr P t x ix m = .mk v m') : Val P ρ m w v m' (Instr.indexAt t vx vi) := by
  obtain ⟨k, n, rfl, h1⟩ := onInt_inv _ h fail_ne
  cases hi
  cases n with
  | negSucc n => cases h1
  | ofNat i =>
    cases hix : ixOf P t with
    | bad => simp only [hix] at h1; cases h1
    | arr n size =>
      simp only [hix] at h1
      obtain ⟨b, off, rfl, h2⟩ := onPtr_inv _ h1 fail_ne
      cases hx with | ptr _ _ L hL =>
      rw [bif2_eq] at h2
      split at h2
      · rename_i hlt
        have hlt : i < n := by simpa [Nat.blt_eq] using hlt
        rw [fNat_eq] at h2
        obtain ⟨e, j, hu, hj, rfl⟩ := ixOf_arr hix
        refine Val.mk h2 (uc := .pointer (some ⟨L.blk, L.base + (off + i * j.size), none⟩)) ?_ (.ptr _ _ L hL)
        simp [Instr.indexAt, asIntOf, run_underlying hu, Instr.sureAddr, hlt, run_sizeOf hj, addr_add, Nat.add_assoc]
      · cases h2
    | sl size =>
      simp only [hix] at h1
      obtain ⟨b, off, len, cap, rfl, h2⟩ := onSlice_inv _ h1 fail_ne
      rw [bif2_eq] at h2
      split at h2
      · rename_i hlt
        have hlt : i < len := by simpa [Nat.blt_eq] using hlt
        rw [fNat_eq] at h2
        obtain ⟨e, j, hu, hj, rfl⟩ := ixOf_sl hix
        have go : ∀ (L : Loc) (c : Nat), ρ b = some L → Val P ρ m w v m' (Instr.indexAt t (.slice (some ⟨L.blk, L.base + off, none⟩) len c) (.int k (Int.ofNat i))) := fun L c hL => by
          refine Val.mk h2 (uc := .pointer (some ⟨L.blk, L.base + (off + i * j.size), none⟩)) ?_ (.ptr _ _ L hL)
          simp [Instr.indexAt, asIntOf, run_underlying hu, hlt, run_sizeOf hj, addr_add, Nat.add_assoc]
        cases hx with
        | sliceE _ _ _ _ L hL => exact go L _ hL
        | sliceO _ _ _ _ L hL => exact go L _ hL
      · cases h2

theorem aIndex_val {t : TypeId} {x ix : AV} {vx vi : Value} (hx : VR ρ x vx) (hi : VR ρ ix vi) {v : AV} {m' : AMem} (h : aIndex P t x ix m = .mk v m') : Val P ρ m w v m' (Instr.index t vx vi) := by
  unfold aIndex at h
  split at h
  · rename_i k i
    cases hi
    split at h
    · rename_i s hu
      obtain ⟨z, rfl, hz⟩ := str_inv hx
      split at h
      · rename_i b hb
        rw [← hz] at hb
        simp only [List.getElem?_map, Option.map_eq_some_iff] at hb
        obtain ⟨c, hc, rfl⟩ := hb
        have hc' : z[i]? = some c := by
          have hlt := (List.getElem?_eq_some_iff.1 hc)
          obtain ⟨q1, q2⟩ := hlt
          have q1' : i < z.size := by simpa using q1
          rw [getElem?_pos z i q1']
          congr 1
        refine Val.mk h (uc := .int .u8 c.toNat) ?_ (.int _ _)
        simp [Instr.index, asIntOf, run_underlying hu, hc']
      · cases h
    · rename_i n e cs hu
      cases hx with | agg _ cx hcx =>
      split at h
      · rename_i j hj
        rw [bif2_eq] at h
        split at h
        · rename_i hlt
          have hlt : i < n := by simpa [Nat.blt_eq] using hlt
          obtain ⟨e1, vc, hv, hr⟩ := partA_val (w := w) hcx h
          refine ⟨e1, vc, hv, ?_⟩
          have hr : (part e cx (i * j.size)).run P w = .ok vc w := hr
          simp [Instr.index, asIntOf, run_underlying hu, hlt, run_sizeOf hj, hr]
        · cases h
      · cases h
    · cases h
  · cases h

/-! ### Parts -/

theorem bnd_inv {x : Option AV} {d : Nat} {k : Nat → OR} {v : AV} {m' : AMem} (h : bnd x d k = .mk v m') :
    ∃ n, k n = .mk v m' ∧ ((x = none ∧ n = d) ∨ ∃ j, x = some (.int j (Int.ofNat n))) := by
  unfold bnd at h
  split at h
  · exact ⟨d, h, .inl ⟨rfl, rfl⟩⟩
  · rename_i j i; exact ⟨i, h, .inr ⟨j, rfl⟩⟩
  · cases h

/-- An operand that need not be there. -/
noncomputable def VO (ρ : Ren) : Option AV → Option Value → Prop
  | none, none => True
  | some a, some v => VR ρ a v
  | _, _ => False

theorem VO.isSome {x : Option AV} {v : Option Value} (h : VO ρ x v) : x.isSome = v.isSome := by
  cases x <;> cases v <;> first | rfl | exact h.elim

theorem VO.bound {x : Option AV} {v : Option Value} (h : VO ρ x v) {d n : Nat} (hn : (x = none ∧ n = d) ∨ ∃ j, x = some (.int j (Int.ofNat n))) : (v = none ∧ n = d) ∨ ∃ j, v = some (.int j (n : Int)) := by
  rcases hn with ⟨rfl, rfl⟩ | ⟨j, rfl⟩
  · cases v with
    | none => exact .inl ⟨rfl, rfl⟩
    | some v => exact h.elim
  · cases v with
    | none => exact h.elim
    | some v => cases h; exact .inr ⟨j, rfl⟩

/-- The bounds of a slice expression, all in order. -/
theorem run_bounds {isSlice : Bool} {len cap l h M : Nat} {lo hi mx : Option Value} (hl : (lo = none ∧ l = 0) ∨ ∃ j, lo = some (.int j (l : Int))) (hh : (hi = none ∧ h = len) ∨ ∃ j, hi = some (.int j (h : Int)))
    (hm : (mx = none ∧ M = cap) ∨ ∃ j, mx = some (.int j (M : Int))) (h1 : l ≤ h) (h2 : h ≤ M) (h3 : M ≤ cap) (hs : mx.isSome = true → hi.isSome = true) :
    (Instr.sliceBounds isSlice len cap lo hi mx).run P w = .ok (l, h, M) w := by
  have b : ∀ (k : IntKind) (i y : Nat) (c : BoundsCode), i ≤ y → (Instr.sliceBound (.int k (i : Int)) y c).run P w = .ok i w := fun k i y c hi => by
    have := run_sliceBound (P := P) w k (i : Int) y c (by omega) (by omega)
    simpa using this
  rcases hm with ⟨rfl, rfl⟩ | ⟨jm, rfl⟩
  · rcases hh with ⟨rfl, rfl⟩ | ⟨jh, rfl⟩ <;> rcases hl with ⟨rfl, rfl⟩ | ⟨jl, rfl⟩ <;> simp [Instr.sliceBounds, b, h1, h2]
  · rcases hh with ⟨rfl, rfl⟩ | ⟨jh, rfl⟩
    · simp at hs
    · rcases hl with ⟨rfl, rfl⟩ | ⟨jl, rfl⟩ <;> simp [Instr.sliceBounds, b, h1, h2, h3]

theorem run_sliceAt {t e : TypeId} {i : TypeInfo} {a : Option Addr} {len cap l h M : Nat} {lo hi mx : Option Value} (hu : P.underlying t = some (.slice e)) (hi' : P.info? e = some i)
    (hb : (Instr.sliceBounds true len cap lo hi mx).run P w = .ok (l, h, M) w) :
    (Instr.sliceAt t (.slice a len cap) lo hi mx).run P w = .ok (.slice (if M = l then a else a.map (·.add (l * i.size))) (h - l) (M - l)) w := by
  simp [Instr.sliceAt, Instr.slice, run_underlying hu, hb, run_sizeOf hi']

theorem cutAt_inv {b off size l h M : Nat} {v : AV} {m' : AMem} (e : cutAt b off size l h M m = .mk v m') :
    .mk (.slice b (if M = l then off else off + l * size) (h - l) (some (M - l))) m = OR.mk v m' := by
  unfold cutAt at e
  simp only [fNat_eq, bif2_eq] at e
  have : (if Nat.beq M l = true then off else off.add (l.mul size)) = (if M = l then off else off + l * size) := by
    by_cases q : M = l
    · rw [if_pos q, if_pos (by rw [q]; exact Nat.beq_refl l)]
    · rw [if_neg q, if_neg (fun z => q (Nat.eq_of_beq_eq_true z))]; rfl
  rw [this] at e
  exact e

theorem cut_val {b off size l h M : Nat} {v : AV} {m' : AMem} {s : Sem Value} (e : .mk (.slice b (if M = l then off else off + l * size) (h - l) (some (M - l))) m = OR.mk v m') {K : Loc}
    (hr : s.run P w = .ok (.slice (if M = l then some ⟨K.blk, K.base + off, none⟩ else (some (⟨K.blk, K.base + off, none⟩ : Addr)).map (·.add (l * size))) (h - l) (M - l)) w) (_ : Loc) (hK : ρ b = some K) (h1 : l ≤ h) (h2 : h ≤ M) : Val P ρ m w v m' s := by
  refine Val.mk e hr ?_
  by_cases q : M = l
  · rw [if_pos q, if_pos q]; exact .sliceE _ _ _ _ K hK (by omega)
  · rw [if_neg q, if_neg q]
    simp only [Option.map, addr_add]
    rw [Nat.add_assoc]
    exact .sliceE _ _ _ _ K hK (by omega)

theorem aSlice_val (V : View ρ m w) {t : TypeId} {x : AV} {vx : Value} (hx : VR ρ x vx) {lo hi mx : Option AV} {vlo vhi vmx : Option Value} (hlo : VO ρ lo vlo) (hhi : VO ρ hi vhi) (hmx : VO ρ mx vmx) {v : AV} {m' : AMem}
    (h : aSlice P t x lo hi mx m = .mk v m') : Val P ρ m w v m' (Instr.sliceAt t vx vlo vhi vmx) := by
  unfold aSlice at h
  split at h
  · -- a string
    rename_i s hu
    obtain ⟨z, rfl, hz⟩ := str_inv hx
    split at h
    · cases h
    · rw [fNat_eq] at h
      obtain ⟨H, h, hH⟩ := bnd_inv h
      obtain ⟨L, h, hL⟩ := bnd_inv h
      rw [bif2_eq] at h
      split at h
      · rename_i hc
        simp only [Bool.and_eq_true, Nat.ble_eq] at hc
        have hn := str_len hz
        have hb := run_bounds (P := P) (w := w) (isSlice := false) (len := z.size) (cap := z.size) (hlo.bound hL) (by rw [← hn]; exact hhi.bound hH) (.inl ⟨rfl, rfl⟩ : ((none : Option Value) = none ∧ z.size = z.size) ∨ _) hc.1 (by omega) (Nat.le_refl _) (by simp)
        have hmx' : vmx = none := by cases vmx with | none => rfl | some _ => exact hmx.elim
        subst hmx'
        refine Val.mk h (uc := .string (z.extract L H)) ?_ (.str _ _ ?_)
        · simp [Instr.sliceAt, Instr.slice, run_underlying hu, hb]
        · rw [← hz]; simp [List.map_take, List.map_drop, ByteArray.data_extract, Array.toList_extract, List.extract]
      · cases h
  · -- a slice
    rename_i e b off len cap hu
    split at h
    · rename_i j hj
      split at h
      · rename_i cp c
        obtain ⟨M, h, hM⟩ := bnd_inv h
        obtain ⟨H, h, hH⟩ := bnd_inv h
        obtain ⟨L, h, hL⟩ := bnd_inv h
        rw [bif2_eq] at h
        split at h
        · rename_i hc
          simp only [Bool.and_eq_true, Nat.ble_eq] at hc
          cases hx with | sliceE _ _ _ _ K hK hle =>
          have h := cutAt_inv h
          have hb := run_bounds (P := P) (w := w) (isSlice := true) (len := len) (cap := c) (hlo.bound hL) (hhi.bound hH) (hmx.bound hM) hc.1.1.2 hc.1.2 hc.2 (by
            rw [← hmx.isSome, ← hhi.isSome]; intro q; rcases Bool.or_eq_true_iff.1 hc.1.1.1 with a | a
            · exact a
            · rw [q] at a; cases a)
          exact cut_val h (run_sliceAt hu hj hb) K hK hc.1.1.2 hc.1.2
        · cases h
      · obtain ⟨H, h, hH⟩ := bnd_inv h
        obtain ⟨L, h, hL⟩ := bnd_inv h
        rw [bif2_eq] at h
        split at h
        · rename_i hc
          simp only [Bool.and_eq_true, Nat.ble_eq] at hc
          cases hx with | sliceO _ _ _ c K hK hle hE =>
          have hmx' : vmx = none := by cases vmx with | none => rfl | some _ => exact hmx.elim
          subst hmx'
          have hb := run_bounds (P := P) (w := w) (isSlice := true) (len := len) (cap := c) (hlo.bound hL) (hhi.bound hH) (.inl ⟨rfl, rfl⟩ : ((none : Option Value) = none ∧ c = c) ∨ _) hc.1 (by omega) (Nat.le_refl _) (by simp)
          have hrun := run_sliceAt (a := some ⟨K.blk, K.base + off, none⟩) hu hj hb
          rw [bif2_eq] at h
          split at h
          · rename_i h0
            have h0 : L = 0 := Nat.eq_of_beq_eq_true h0
            subst h0
            refine Val.mk h hrun ?_
            have : (if c = 0 then some (⟨K.blk, K.base + off, none⟩ : Addr) else Option.map (fun (x : Addr) => x.add (0 * j.size)) (some ⟨K.blk, K.base + off, none⟩)) = some ⟨K.blk, K.base + off, none⟩ := by
              split
              · rfl
              · simp [addr_add]
            rw [this]
            exact .sliceO _ _ _ _ K hK (by omega) (by simpa using hE)
          · rename_i h0
            rw [bif2_eq] at h
            split at h
            · rename_i hlt
              have hlt : L < len := by simpa [Nat.blt_eq] using hlt
              obtain ⟨ro, sg, E, N, cc, hb1, h⟩ := blkK_inv h
              rw [bif2_eq] at h
              split at h
              · rename_i hEj
                have hEj : E = j.size := Nat.eq_of_beq_eq_true hEj
                obtain ⟨K0, _, _, _, e1, _, _, e4, _⟩ := V.sim.blk b _ hb1
                rw [hK] at e1; cases e1
                simp only [fNat_eq] at h
                refine Val.mk h hrun ?_
                rw [if_neg (by omega)]
                simp only [Option.map, addr_add]
                rw [Nat.add_assoc]
                refine .sliceO _ _ _ _ K hK (by show H - L ≤ c - L; omega) ?_
                show K.base + (off + L * j.size) + (c - L) * K.E = K.csize
                rw [← hE, e4, hEj]
                have : L * j.size + (c - L) * j.size = c * j.size := by rw [← Nat.add_mul]; congr 1; omega
                omega
              · cases h
            · refine Val.mk h hrun ?_
              have : H - L = 0 := by rename_i hlt; simp [Nat.blt_eq] at hlt; omega
              rw [this]
              split
              · exact .emp _ _
              · exact .emp _ _
        · cases h
      · obtain ⟨M, h, hM⟩ := bnd_inv h
        obtain ⟨H, h, hH⟩ := bnd_inv h
        obtain ⟨L, h, hL⟩ := bnd_inv h
        rw [bif2_eq] at h
        split at h
        · rename_i mv hc
          simp only [Bool.and_eq_true, Nat.ble_eq] at hc
          cases hx with | sliceO _ _ _ c K hK hle hE =>
          have h := cutAt_inv h
          have hM' : (vmx = none ∧ M = c) ∨ ∃ j, vmx = some (.int j (M : Int)) := by
            rcases hmx.bound hM with ⟨q, _⟩ | q
            · subst q; exact hmx.elim
            · exact .inr q
          have hb := run_bounds (P := P) (w := w) (isSlice := true) (len := len) (cap := c) (hlo.bound hL) (hhi.bound hH) hM' hc.1.1.2 hc.1.2 (by omega) (by
            intro _; rw [← hhi.isSome]; exact hc.1.1.1)
          exact cut_val h (run_sliceAt hu hj hb) K hK hc.1.1.2 hc.1.2
        · cases h
    · cases h
  · -- a nil slice
    rename_i e hu
    split at h
    · rename_i j hj
      obtain ⟨M, g1, hM⟩ := bnd_inv h
      obtain ⟨H, g2, hH⟩ := bnd_inv g1
      obtain ⟨L, g3, hL⟩ := bnd_inv g2
      clear h g1 g2; have h := g3; clear g3
      rw [bif2_eq] at h
      split at h
      · rename_i hc
        simp only [Bool.and_eq_true] at hc
        obtain rfl := Nat.eq_of_beq_eq_true hc.1.1.2
        obtain rfl := Nat.eq_of_beq_eq_true hc.1.2
        obtain rfl := Nat.eq_of_beq_eq_true hc.2
        cases hx
        have hb := run_bounds (P := P) (w := w) (isSlice := true) (len := 0) (cap := 0) (hlo.bound hL) (hhi.bound hH) (hmx.bound hM) (Nat.le_refl _) (Nat.le_refl _) (Nat.le_refl _) (by
            rw [← hmx.isSome, ← hhi.isSome]; intro q; rcases Bool.or_eq_true_iff.1 hc.1.1.1 with a | a
            · exact a
            · rw [q] at a; cases a)
        exact Val.mk h (run_sliceAt (a := none) hu hj hb) (by simpa using VR.nils)
      · cases h
    · cases h
  · -- an array
    rename_i n e b off hu
    split at h
    · rename_i j hj
      obtain ⟨M, h, hM⟩ := bnd_inv h
      obtain ⟨H, h, hH⟩ := bnd_inv h
      obtain ⟨L, h, hL⟩ := bnd_inv h
      rw [bif2_eq] at h
      split at h
      · rename_i hc
        simp only [Bool.and_eq_true, Nat.ble_eq] at hc
        cases hx with | ptr _ _ K hK =>
        have h := cutAt_inv h
        have hb := run_bounds (P := P) (w := w) (isSlice := false) (len := n) (cap := n) (hlo.bound hL) (hhi.bound hH) (hmx.bound hM) hc.1.1.2 hc.1.2 hc.2 (by
            rw [← hmx.isSome, ← hhi.isSome]; intro q; rcases Bool.or_eq_true_iff.1 hc.1.1.1 with a | a
            · exact a
            · rw [q] at a; cases a)
        refine cut_val h ?_ K hK hc.1.1.2 hc.1.2
        simp only [Instr.sliceAt, Sem.run_bind, run_underlying hu, Result.andThen_ok, Instr.sureAddr, Sem.run_pure, hb, run_sizeOf hj]
        by_cases q : M = L
        · rw [if_pos q, if_pos q]
        · rw [if_neg q, if_neg q]; rfl
      · cases h
    · cases h
  · cases h

end
end Go.Ev
