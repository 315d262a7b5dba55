/- slices.Insert: where there is room. -/
import Derived.Test.YtkobbfimabpfeaaGreatDoorEvIns4
namespace Go.Ev

section
variable {P : Program} {S : Sums}

theorem TR.enter {ρ : Ren} {args : List AV} {cs : Array Value} (hv : VRs ρ args cs.toList) {fn : Func} {t : T AV} (ht : ∀ j, t.get j = if 0 ≤ j ∧ j < 0 + args.length then args[j - 0]? else (T.leaf : T AV).get j) :
    TR ρ (nTmps fn args.length) t (cs ++ Array.replicate (fn.ntmps - cs.size) undef) := by
  have hl : args.length = cs.size := by simpa using hv.length
  refine ⟨?_, fun i => ?_⟩
  · unfold nTmps
    rw [bif2_eq]
    split
    · rename_i q; have q : args.length < fn.ntmps := by simpa [Nat.blt_eq] using q
      simp; omega
    · rename_i q; have q : ¬ args.length < fn.ntmps := by simpa [Nat.blt_eq] using q
      simp; omega
  · rw [ht]
    by_cases hi : i < args.length
    · rw [if_pos (by omega)]
      have : args[i - 0]? = some args[i] := by simp [hi]
      obtain ⟨y, hy, hr⟩ := hv.get (i - 0) this
      rw [this]
      have hic : i < cs.size := by omega
      have hy : cs[i]? = some y := by simpa using hy
      simp [Array.getElem?_append_left hic, hy]
      exact hr
    · rw [if_neg (by omega), T.get_leaf]
      have hic : cs.size ≤ i := by omega
      have : (cs ++ Array.replicate (fn.ntmps - cs.size) undef).getD i undef = undef := by
        simp only [Array.getD_eq_getD_getElem?, Array.getElem?_append_right hic, Array.getElem?_replicate]
        split <;> rfl
      rw [this]
      exact VR.undef _

/-- The code of slices.Insert, as far as it matters. -/
structure InsCode (P : Program) (fn : Func) (code : Code) (p : InsParts) (st e : TypeId) (ei : TypeInfo) : Prop where
  eq : ∃ i8 ops8 i13 ops13, code = .seq p.r0 (.seq p.r1 (.seq p.r2 (.seq p.x (.seq p.r5 (.seq p.y (.seq (.seq (.region i8 ops8 false) p.z) (.seq (.region i13 ops13 false) p.rest))))))) ∧
    (∃ it bt rt o1 o2 o3 o4 o5 o6, ops8.toList = [o1, o2, o3, o4, o5, o6] ∧ Is o1 26 (.move (.tmp 8)) ∧ Is o2 27 (.move (.tmp 7)) ∧ Is o3 28 (.binOp .add it (.tmp 26) (.tmp 27) rt) ∧ Is o4 29 (.move (.tmp 0)) ∧
      Is o5 30 (.call ⟨.builtin .cap, #[.tmp 29], #[st]⟩) ∧ Is o6 31 (.binOp .gtr bt (.tmp 28) (.tmp 30) it)) ∧
    (∃ it rt o1 o2 o3 o4 o5 o6, ops13.toList = [o1, o2, o3, o4, o5, o6] ∧ Is o1 56 (.move (.tmp 0)) ∧ Is o2 57 (.move (.tmp 8)) ∧ Is o3 58 (.move (.tmp 7)) ∧ Is o4 59 (.binOp .add it (.tmp 57) (.tmp 58) rt) ∧
      Is o5 60 (.slice st (.tmp 56) none (some (.tmp 59)) none) ∧ Is o6 0 (.assign (.tmp 60)))
  res : fn.results = #[.tmp 6]
  st : P.underlying st = some (.slice e)
  ei : P.info? e = some ei

/-- A slice whose capacity is told. -/
theorem TR.cap {ρ : Ren} {nt : Nat} {t : T AV} {tmps : Array Value} (hT : TR ρ nt t tmps) {b off len : Nat} (g : t.get 0 = some (.slice b off len none)) {L : Loc} (hL : ρ b = some L) {c : Nat} (hE : 0 < L.E) (hc : L.base + off + c * L.E = L.csize) :
    ∃ t' : T AV, TR ρ nt t' tmps ∧ t'.get 0 = some (.slice b off len (some c)) ∧ ∀ u, u ≠ 0 → t'.get u = t.get u := by
  obtain ⟨t', ht⟩ := T.ex_set (some (.slice b off len (some c))) 0 t
  refine ⟨t', ⟨hT.size, fun u => ?_⟩, by rw [ht]; rfl, fun u hu => by rw [ht, if_neg hu]⟩
  rw [ht]
  by_cases hu : u = 0
  · subst hu
    rw [if_pos rfl]
    have := hT.rel 0
    rw [g] at this
    show VR ρ (.slice b off len (some c)) _
    generalize tmps.getD 0 undef = va at *
    cases this with
    | sliceO _ _ _ c' L' hL' hle' he' =>
      rw [hL] at hL'; cases hL'
      have e : c' * L.E = c * L.E := by omega
      have e : c' = c := Nat.eq_of_mul_eq_mul_right hE e
      subst e
      exact .sliceE _ _ _ _ L hL hle'
  · rw [if_neg hu]; exact hT.rel u

theorem VR.uncap {ρ : Ren} {b off len c : Nat} {va : Value} (h : VR ρ (.slice b off len (some c)) va) {L : Loc} (hL : ρ b = some L) (hc : L.base + off + c * L.E = L.csize) : VR ρ (.slice b off len none) va := by
  cases h with
  | sliceE _ _ _ _ L' hL' hle => rw [hL] at hL'; cases hL'; exact .sliceO _ _ _ _ L hL hle hc

theorem insShift_ok (hm : P.follows .mixedOrders = true) (hS : SumsOK P S) {n : Nat} {f : FuncId} {fn : Func} {code : Code} {p : InsParts} {st e : TypeId} {ei : TypeInfo} (hfn : P.funcs[f]? = some fn) (hbody : fn.body = some code) (H : InsCode P fn code p st e ei) (hnt : 95 ≤ nTmps fn 3)
    {size b off len : Nat} (hsz : 0 < size) {i v : AV} {m : AMem} {k : List AV → OR} {r : AV} {m' : AMem} (h : insShift P S n (nTmps fn 3) p size b off len i v m k = .mk r m') :
    ∃ l, k l = .mk r m' ∧ l.length = (len + 1) * size ∧ ∀ (ρ : Ren) (w : World) (cs : Array Value) (L : Loc) (cc : Nat), View ρ m w → VRs ρ [.slice b off len none, i, v] cs.toList → ρ b = some L → len + 1 ≤ cc → L.base + off + cc * L.E = L.csize → ρ m.next = none →
      ∀ c1 : T AV, (∀ i, i < l.length → c1.get i = l[i]?) → Calls P f cs w (InsPost ρ m w size len c1) := by
  unfold insShift at h
  obtain ⟨sg, N, c, hb, h⟩ := ownK_inv h
  obtain ⟨ro, sg', E, N', c', hb', hN, h⟩ := elemsK_static h
  rw [hb] at hb'; cases hb'
  rcases putK_eq (OR.fail 3110) (cellsFrom c off (len * size) ++ repA [.any] size) off .leaf _ with e1 | ⟨c0, hc0, e1⟩
  · rw [e1] at h; cases h
  rw [e1] at h
  clear e1
  rcases T.setK_eq (OR.fail 3111) (some (.cells false true size (Nat.add off (Nat.mul (Nat.succ len) size)) c0)) m.t b _ with e1 | ⟨mt, hmt, e1⟩
  · rw [e1] at h; cases h
  rw [e1] at h
  clear e1
  rcases putK_eq (OR.fail 3112) [.slice b off len none, i, v] 0 .leaf _ with e1 | ⟨t, ht, e1⟩
  · rw [e1] at h; cases h
  rw [e1] at h
  clear e1
  obtain ⟨t1, m1, e1, h⟩ := normK_inv h
  obtain ⟨t2, m2, e2, h⟩ := normK_inv h
  obtain ⟨t3, m3, e3, h⟩ := normK_inv h
  obtain ⟨t4, m4, e4, h⟩ := normK_inv h
  obtain ⟨t5, m5, e5, h⟩ := normK_inv h
  obtain ⟨t6, m6, e6, h⟩ := normK_inv h
  obtain ⟨g0, g7, g8, hlen, h⟩ := insChk_inv h
  obtain ⟨t7, h, ht7⟩ := setsK_inv h
  obtain ⟨t8, h, ht8⟩ := setsK_inv h
  obtain ⟨t9, m9, e9, h⟩ := normK_inv h
  obtain ⟨k0, k7, k8, _, h⟩ := insChk_inv h
  obtain ⟨t10, h, ht10⟩ := setsK_inv h
  obtain ⟨t11, h, ht11⟩ := setsK_inv h
  obtain ⟨t12, m12, e12, h⟩ := retK_inv h
  split at h
  · rename_i b' off' len' h6
    rw [bif2_eq] at h
    split at h
    · rename_i hq
      simp only [Bool.and_eq_true] at hq
      obtain ⟨⟨⟨q1, q2⟩, q3⟩, q4⟩ := hq
      have q1 := Nat.eq_of_beq_eq_true q1
      have q2 := Nat.eq_of_beq_eq_true q2
      have q3 := Nat.eq_of_beq_eq_true q3
      have q4 := Nat.eq_of_beq_eq_true q4
      subst q1 q2 q3
      obtain ⟨sg2, N2, c2, hb2, h⟩ := ownK_inv h
      obtain ⟨ro, sg', E, N', c', hb', hN2, hk⟩ := elemsK_static h
      rw [hb2] at hb'; cases hb'
      have hll : (cellsFrom c2 off (len.succ * size)).length = (len + 1) * size := cellsFrom_length _ _ _
      refine ⟨_, hk, hll, fun ρ w cs L cc V hv hL hcc hcE hfr c1 hc1 => ?_⟩
      -- names
      have n1 := exec_next _ _ _ e1; have n2 := exec_next _ _ _ e2; have n3 := exec_next _ _ _ e3; have n4 := exec_next _ _ _ e4; have n5 := exec_next _ _ _ e5; have n6 := exec_next _ _ _ e6
      have n9 := exec_next _ _ _ e9; have n12 := exec_next _ _ _ e12
      have n1 : m.next ≤ m1.next := n1
      have fr : ∀ {ρ : Ren} {x y : Nat}, m.next ≤ x → y ≤ m.next → Fresh ρ x y := fun hx hy b h1 h2 => by omega
      have A := (code_ok hm hS n).1
      have hcall := call_ok hS A
      obtain ⟨L0, cs0, el0, fz0, w1, w2, w3, w4, w5, w6, w7⟩ := V.sim.blk _ _ hb
      rw [hL] at w1; cases w1
      have hmul : (len + 1) * size ≤ cc * size := Nat.mul_le_mul_right _ hcc
      have hsucc : (len + 1) * size = len * size + size := by rw [Nat.add_mul]; omega
      rw [w4] at hcE
      have S0 := seen_anew V (b1 := b) (d := 0) (hi := m.next) hb hL (.inl ⟨rfl, rfl, rfl⟩) (n' := off + (len + 1) * size) (c' := c0) (g' := mt.get) (fun j => by rw [hmt]; by_cases hj : j = b <;> simp [hj]) (by omega) (fun cs2 el2 fz2 x1 x2 i hi => by
        rw [w2] at x1; cases x1
        rw [hc0]
        have hlt : L.base + 0 + i < cs0.size := by omega
        have hget : cs0[L.base + 0 + i]? = some cs0[L.base + 0 + i] := by simp
        by_cases h1 : off ≤ i ∧ i < off + (cellsFrom c off (len * size) ++ repA [.any] size).length
        · rw [if_pos h1]
          by_cases h2 : i - off < len * size
          · rw [List.getElem?_append_left (by rw [cellsFrom_length]; exact h2), cellsFrom_get _ _ _ _ h2]
            obtain ⟨x, hx, hxv⟩ := w6 i (by omega)
            refine ⟨x, by simpa using hx, ?_⟩
            rw [show off + (i - off) = i by omega]
            simpa using hxv
          · refine ⟨_, hget, ?_⟩
            rw [List.getElem?_append_right (by rw [cellsFrom_length]; omega), repA_get [.any] (by decide) _ _ (by
              have := h1.2; simp only [List.length_append, cellsFrom_length, repA_length] at this; rw [cellsFrom_length]; simp at this ⊢; omega)]
            simp [Nat.mod_one]
            exact .any _
        · rw [if_neg h1, T.get_leaf]
          exact ⟨_, hget, .any _⟩)
      rw [set_same_loc hL w4] at S0
      have V0 : View ρ ⟨m.next, mt⟩ w := ⟨S0.sim, S0.wf⟩
      have hT0 : TR ρ (nTmps fn 3) t (cs ++ Array.replicate (fn.ntmps - cs.size) undef) := TR.enter (args := [.slice b off len none, i, v]) hv ht
      obtain ⟨i8, ops8, i13, ops13, hcode, ⟨it, bt, rt, o1, o2, o3, o4, o5, o6, l8, a1, a2, a3, a4, a5, a6⟩, ⟨it', rt', p1, p2, p3, p4, p5, p6, l13, b1, b2, b3, b4, b5, b6⟩⟩ := H.eq
      refine calls_of_wp hfn hbody ?_
      rw [hcode]
      refine wp_seq (A _ _ _ _ _ _ _ e1 ρ _ w V0 hT0 (fr (Nat.le_refl _) (by omega)) _ fun ρ1 x1 w1 s1 T1 D1 => ?_)
      refine wp_seq (A _ _ _ _ _ _ _ e2 ρ1 x1 w1 s1.view T1 (fr (by omega) (by omega)) _ fun ρ2 x2 w2' s2 T2 D2 => ?_)
      refine wp_seq (A _ _ _ _ _ _ _ e3 ρ2 x2 w2' s2.view T2 (fr (by omega) (by omega)) _ fun ρ3 x3 w3' s3 T3 D3 => ?_)
      refine wp_seq (A _ _ _ _ _ _ _ e4 ρ3 x3 w3' s3.view T3 (fr (by omega) (by omega)) _ fun ρ4 x4 w4' s4 T4 D4 => ?_)
      refine wp_seq (A _ _ _ _ _ _ _ e5 ρ4 x4 w4' s4.view T4 (fr (by omega) (by omega)) _ fun ρ5 x5 w5' s5 T5 D5 => ?_)
      refine wp_seq (A _ _ _ _ _ _ _ e6 ρ5 x5 w5' s5.view T5 (fr (by omega) (by omega)) _ fun ρ6 x6 w6' s6 T6 D6 => ?_)
      have st6 := S0.trans (((((s1.trans s2).trans s3).trans s4).trans s5).trans s6)
      have L6 : ρ6 b = some L := st6.sub (fr (Nat.le_refl _) (by omega)) _ _ hL
      obtain ⟨tc, Tc, gc0, gcr⟩ := T6.cap g0 L6 (c := cc) (by omega) (by rw [w4]; exact hcE)
      refine wp_seq (wp_seq (wp_region_list ?_))
      rw [l8]
      refine region8 hcall H.st a1 a2 a3 a4 a5 a6 hnt s6.view Tc gc0 (by rw [gcr _ (by decide)]; exact g7) (by rw [gcr _ (by decide)]; exact g8) hcc hlen fun ρ7 x7 w7' tt7 s7 T7 D7 G31 G7 => ?_
      have L7 : ρ7 b = some L := s7.sub (fr (by omega) (by omega)) _ _ L6
      have T8 : TR ρ7 (nTmps fn 3) t8 x7.tmps := by
        refine ⟨T7.size, fun u => ?_⟩
        rw [ht8, ht7]
        by_cases hu : u = 31
        · subst hu; have := T7.rel 31; rw [G31] at this; simpa using this
        · rw [if_neg (by simpa using hu)]
          by_cases hu2 : u ∈ [26, 27, 28, 29, 30]
          · rw [if_pos hu2]; exact .any _
          · rw [if_neg hu2]
            have := T7.rel u
            rw [G7 u (by simp at hu2; omega)] at this
            by_cases hu0 : u = 0
            · subst hu0
              rw [gc0] at this
              rw [g0]
              exact VR.uncap this L7 (by rw [w4]; exact hcE)
            · rw [gcr u hu0] at this; exact this
      refine A _ _ _ _ _ _ _ e9 ρ7 x7 w7' s7.view T8 (fr (by omega) (by omega)) _ fun ρ9 x9 w9' s9 T9 D9 => ?_
      have L9 : ρ9 b = some L := s9.sub (fr (by omega) (by omega)) _ _ L7
      obtain ⟨td, Td, gd0, gdr⟩ := T9.cap k0 L9 (c := cc) (by omega) (by rw [w4]; exact hcE)
      refine wp_seq (wp_region_list ?_)
      rw [l13]
      refine region13 hcall H.st H.ei b1 b2 b3 b4 b5 b6 hnt s9.view Td gd0 (by rw [gdr _ (by decide)]; exact k7) (by rw [gdr _ (by decide)]; exact k8) hcc hlen fun ρ10 x10 w10' tt10 s10 T10 D10 G0 G10 => ?_
      have L10 : ρ10 b = some L := s10.sub (fr (by omega) (by omega)) _ _ L9
      have T11 : TR ρ10 (nTmps fn 3) t11 x10.tmps := by
        refine ⟨T10.size, fun u => ?_⟩
        rw [ht11, ht10]
        by_cases hu : u = 0
        · subst hu
          have := T10.rel 0
          rw [G0] at this
          rw [if_pos (by simp)]
          exact VR.uncap this L10 (by rw [w4]; exact hcE)
        · rw [if_neg (by simpa using hu)]
          by_cases hu2 : u ∈ [56, 57, 58, 59, 60]
          · rw [if_pos hu2]; exact .any _
          · rw [if_neg hu2]
            have := T10.rel u
            rw [G10 u (by simp at hu2; omega) hu, gdr u hu] at this
            exact this
      refine A _ _ _ _ _ _ _ e12 ρ10 x10 w10' s10.view T11 (fr (by omega) (by omega)) _ fun ρ12 x12 w12' s12 T12 D12 => ?_
      have stt := st6.trans (((s7.trans s9).trans s10).trans s12)
      have hnone : ρ12 m.next = none := by rw [stt.ren _ (by omega)]; exact hfr
      have hres := T12.rel 6
      rw [h6] at hres
      refine ⟨by rw [D12, D10, D9, D7, D6, D5, D4, D3, D2, D1], _, results_tmp H.res _ _ _, ?_⟩
      have V12 := s12.view
      have hres : VR ρ12 (.slice b off len.succ none) (x12.tmps.getD 6 undef) := hres
      generalize x12.tmps.getD 6 undef = vr at hres ⊢
      cases hres with
      | sliceO _ _ _ c3 L3 hL3 hle3 hE3 =>
        obtain ⟨L4, cs4, el4, fz4, y1, y2, y3, y4, y5, y6, y7⟩ := V12.sim.blk _ _ hb2
        rw [hL3] at y1; cases y1
        rw [y4] at hE3
        have hmul3 : (len + 1) * size ≤ c3 * size := Nat.mul_le_mul_right _ hle3
        have hs := seen_anew V12 (b1 := m.next) (d := off) (hi := m.next + 1) hb2 hL3 (.inr ⟨q4.symm, by rw [q4], by rw [q4]; exact hnone⟩) (n' := (len + 1) * size) (c' := c1) (g' := fun j => if j = m.next then some (.cells false true size ((len + 1) * size) c1) else if j = b then none else m12.t.get j) (fun j => rfl) (by omega) (fun cs2 el2 fz2 x1 x2 i hi => by
          rw [y2] at x1; cases x1
          have hi' : i < len.succ * size := hi
          obtain ⟨x, hx, hxv⟩ := y6 (off + i) (by omega)
          refine ⟨x, by rw [Nat.add_assoc]; exact hx, ?_⟩
          rw [hc1 i (by rw [hll]; exact hi), cellsFrom_get _ _ _ _ hi']
          exact hxv)
        have hs := hs.less (g := oneBlk m.next size ((len + 1) * size) c1) (hi' := m.next + 1) (fun b x hx => by
          unfold oneBlk at hx
          split at hx
          · rename_i e; cases hx; simp [e]
          · cases hx) (fun b x hx => by
          unfold oneBlk at hx
          split at hx
          · omega
          · cases hx) rfl
        refine ⟨_, _, rfl, stt.trans hs, ?_⟩
        have := VR.sliceO (ρ := ρ12.set m.next ⟨L3.blk, L3.base + off, L3.csize, size⟩) m.next 0 (len + 1) c3 ⟨L3.blk, L3.base + off, L3.csize, size⟩ (Ren.set_same _ _ _) hle3 (by simpa using hE3)
        simpa using this
    · cases h
  · cases h

end
end Go.Ev
