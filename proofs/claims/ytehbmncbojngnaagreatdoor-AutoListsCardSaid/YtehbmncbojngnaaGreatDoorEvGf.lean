/- slices.Insert: where there is room. slices.Insert: its summary holds. The summaries of this program. Closed facts on the program: its types, the code of its functions (printed by programs: EvN/Facts.lean, xgen.py). The order of items, by rule, then dot: what the program's compare comes to. Where an item stands in a row in order, or would: what the program's search comes to. The evaluator as a logic, 6: rows of elements, append. The evaluator as a logic, 7: a variable of one's own, rows that grow. The program's sets of items in order: made, asked, listed. The items behind a symbol: what the program's behind comes to. -/
import Derived.Test.YtehbmncbojngnaaGreatDoorEvGe
import Derived.Test.YtehbmncbojngnaaGreatDoorProg
import Derived.KernelRfl
section
namespace Go.Ev
set_option linter.all false
section
variable {P : Program} {S : Sums}
theorem TR.enter {ρ : Ren} {args : List AV} {cs : Array Value} (hv : VRs ρ args cs.toList) {fn : Func} {t : T AV} (ht : ∀ j, t.get j = if 0 ≤ j ∧ j < 0 + args.length then args[j - 0]? else (T.leaf : T AV).get j) :
    TR ρ (nTmps fn args.length) t (cs ++ Array.replicate (fn.ntmps - cs.size) undef) := by
  have hl : args.length = cs.size := by simpa using hv.length
  refine ⟨?_, fun i => ?_⟩
  · unfold nTmps
    rw [bif2_eq]
    split
    · rename_i q; have q : args.length < fn.ntmps := by simpa [Nat.blt_eq] using q
      simp; omega
    · rename_i q; have q : ¬ args.length < fn.ntmps := by simpa [Nat.blt_eq] using q
      simp; omega
  · rw [ht]
    by_cases hi : i < args.length
    · rw [if_pos (by omega)]
      have : args[i - 0]? = some args[i] := by simp [hi]
      obtain ⟨y, hy, hr⟩ := hv.get (i - 0) this
      rw [this]
      have hic : i < cs.size := by omega
      have hy : cs[i]? = some y := by simpa using hy
      simp [Array.getElem?_append_left hic, hy]
      exact hr
    · rw [if_neg (by omega), T.get_leaf]
      have hic : cs.size ≤ i := by omega
      have : (cs ++ Array.replicate (fn.ntmps - cs.size) undef).getD i undef = undef := by
        simp only [Array.getD_eq_getD_getElem?, Array.getElem?_append_right hic, Array.getElem?_replicate]
        split <;> rfl
      rw [this]
      exact VR.undef _
/-- The code of slices.Insert, as far as it matters. -/
structure InsCode (P : Program) (fn : Func) (code : Code) (p : InsParts) (st e : TypeId) (ei : TypeInfo) : Prop where
  eq : ∃ i8 ops8 i13 ops13, code = .seq p.r0 (.seq p.r1 (.seq p.r2 (.seq p.x (.seq p.r5 (.seq p.y (.seq (.seq (.region i8 ops8 false) p.z) (.seq (.region i13 ops13 false) p.rest))))))) ∧
    (∃ it bt rt o1 o2 o3 o4 o5 o6, ops8.toList = [o1, o2, o3, o4, o5, o6] ∧ Is o1 26 (.move (.tmp 8)) ∧ Is o2 27 (.move (.tmp 7)) ∧ Is o3 28 (.binOp .add it (.tmp 26) (.tmp 27) rt) ∧ Is o4 29 (.move (.tmp 0)) ∧
      Is o5 30 (.call ⟨.builtin .cap, #[.tmp 29], #[st]⟩) ∧ Is o6 31 (.binOp .gtr bt (.tmp 28) (.tmp 30) it)) ∧
    (∃ it rt o1 o2 o3 o4 o5 o6, ops13.toList = [o1, o2, o3, o4, o5, o6] ∧ Is o1 56 (.move (.tmp 0)) ∧ Is o2 57 (.move (.tmp 8)) ∧ Is o3 58 (.move (.tmp 7)) ∧ Is o4 59 (.binOp .add it (.tmp 57) (.tmp 58) rt) ∧
      Is o5 60 (.slice st (.tmp 56) none (some (.tmp 59)) none) ∧ Is o6 0 (.assign (.tmp 60)))
  res : fn.results = #[.tmp 6]
  st : P.underlying st = some (.slice e)
  ei : P.info? e = some ei
/-- A slice whose capacity is told. -/
theorem TR.cap {ρ : Ren} {nt : Nat} {t : T AV} {tmps : Array Value} (hT : TR ρ nt t tmps) {b off len : Nat} (g : t.get 0 = some (.slice b off len none)) {L : Loc} (hL : ρ b = some L) {c : Nat} (hE : 0 < L.E) (hc : L.base + off + c * L.E = L.csize) :
    ∃ t' : T AV, TR ρ nt t' tmps ∧ t'.get 0 = some (.slice b off len (some c)) ∧ ∀ u, u ≠ 0 → t'.get u = t.get u := by
  obtain ⟨t', ht⟩ := T.ex_set (some (.slice b off len (some c))) 0 t
  refine ⟨t', ⟨hT.size, fun u => ?_⟩, by rw [ht]; rfl, fun u hu => by rw [ht, if_neg hu]⟩
  rw [ht]
  by_cases hu : u = 0
  · subst hu
    rw [if_pos rfl]
    have := hT.rel 0
    rw [g] at this
    show VR ρ (.slice b off len (some c)) _
    generalize tmps.getD 0 undef = va at *
    cases this with
    | sliceO _ _ _ c' L' hL' hle' he' =>
      rw [hL] at hL'; cases hL'
      have e : c' * L.E = c * L.E := by omega
      have e : c' = c := Nat.eq_of_mul_eq_mul_right hE e
      subst e
      exact .sliceE _ _ _ _ L hL hle'
  · rw [if_neg hu]; exact hT.rel u
theorem VR.uncap {ρ : Ren} {b off len c : Nat} {va : Value} (h : VR ρ (.slice b off len (some c)) va) {L : Loc} (hL : ρ b = some L) (hc : L.base + off + c * L.E = L.csize) : VR ρ (.slice b off len none) va := by
  cases h with
  | sliceE _ _ _ _ L' hL' hle => rw [hL] at hL'; cases hL'; exact .sliceO _ _ _ _ L hL hle hc
theorem insShift_ok (hm : P.follows .mixedOrders = true) (hS : SumsOK P S) {n : Nat} {f : FuncId} {fn : Func} {code : Code} {p : InsParts} {st e : TypeId} {ei : TypeInfo} (hfn : P.funcs[f]? = some fn) (hbody : fn.body = some code) (H : InsCode P fn code p st e ei) (hnt : 95 ≤ nTmps fn 3)
    {size b off len : Nat} (hsz : 0 < size) {i v : AV} {m : AMem} {k : List AV → OR} {r : AV} {m' : AMem} (h : insShift P S n (nTmps fn 3) p size b off len i v m k = .mk r m') :
    ∃ l, k l = .mk r m' ∧ l.length = (len + 1) * size ∧ ∀ (ρ : Ren) (w : World) (cs : Array Value) (L : Loc) (cc : Nat), View ρ m w → VRs ρ [.slice b off len none, i, v] cs.toList → ρ b = some L → len + 1 ≤ cc → L.base + off + cc * L.E = L.csize → ρ m.next = none →
      ∀ c1 : T AV, (∀ i, i < l.length → c1.get i = l[i]?) → Calls P f cs w (InsPost ρ m w size len c1) := by
  unfold insShift at h
  obtain ⟨sg, N, c, hb, h⟩ := ownK_inv h
  obtain ⟨ro, sg', E, N', c', hb', hN, h⟩ := elemsK_static h
  rw [hb] at hb'; cases hb'
  rcases putK_eq (OR.fail 3110) (cellsFrom c off (len * size) ++ repA [.any] size) off .leaf _ with e1 | ⟨c0, hc0, e1⟩
  · rw [e1] at h; cases h
  rw [e1] at h
  clear e1
  rcases T.setK_eq (OR.fail 3111) (some (.cells false true size (Nat.add off (Nat.mul (Nat.succ len) size)) c0)) m.t b _ with e1 | ⟨mt, hmt, e1⟩
  · rw [e1] at h; cases h
  rw [e1] at h
  clear e1
  rcases putK_eq (OR.fail 3112) [.slice b off len none, i, v] 0 .leaf _ with e1 | ⟨t, ht, e1⟩
  · rw [e1] at h; cases h
  rw [e1] at h
  clear e1
  obtain ⟨t1, m1, e1, h⟩ := normK_inv h
  obtain ⟨t2, m2, e2, h⟩ := normK_inv h
  obtain ⟨t3, m3, e3, h⟩ := normK_inv h
  obtain ⟨t4, m4, e4, h⟩ := normK_inv h
  obtain ⟨t5, m5, e5, h⟩ := normK_inv h
  obtain ⟨t6, m6, e6, h⟩ := normK_inv h
  obtain ⟨g0, g7, g8, hlen, h⟩ := insChk_inv h
  obtain ⟨t7, h, ht7⟩ := setsK_inv h
  obtain ⟨t8, h, ht8⟩ := setsK_inv h
  obtain ⟨t9, m9, e9, h⟩ := normK_inv h
  obtain ⟨k0, k7, k8, _, h⟩ := insChk_inv h
  obtain ⟨t10, h, ht10⟩ := setsK_inv h
  obtain ⟨t11, h, ht11⟩ := setsK_inv h
  obtain ⟨t12, m12, e12, h⟩ := retK_inv h
  split at h
  · rename_i b' off' len' h6
    rw [bif2_eq] at h
    split at h
    · rename_i hq
      simp only [Bool.and_eq_true] at hq
      obtain ⟨⟨⟨q1, q2⟩, q3⟩, q4⟩ := hq
      have q1 := Nat.eq_of_beq_eq_true q1
      have q2 := Nat.eq_of_beq_eq_true q2
      have q3 := Nat.eq_of_beq_eq_true q3
      have q4 := Nat.eq_of_beq_eq_true q4
      subst q1 q2 q3
      obtain ⟨sg2, N2, c2, hb2, h⟩ := ownK_inv h
      obtain ⟨ro, sg', E, N', c', hb', hN2, hk⟩ := elemsK_static h
      rw [hb2] at hb'; cases hb'
      have hll : (cellsFrom c2 off (len.succ * size)).length = (len + 1) * size := cellsFrom_length _ _ _
      refine ⟨_, hk, hll, fun ρ w cs L cc V hv hL hcc hcE hfr c1 hc1 => ?_⟩
      have n1 := exec_next _ _ _ e1; have n2 := exec_next _ _ _ e2; have n3 := exec_next _ _ _ e3; have n4 := exec_next _ _ _ e4; have n5 := exec_next _ _ _ e5; have n6 := exec_next _ _ _ e6
      have n9 := exec_next _ _ _ e9; have n12 := exec_next _ _ _ e12
      have n1 : m.next ≤ m1.next := n1
      have fr : ∀ {ρ : Ren} {x y : Nat}, m.next ≤ x → y ≤ m.next → Fresh ρ x y := fun hx hy b h1 h2 => by omega
      have A := (code_ok hm hS n).1
      have hcall := call_ok hS A
      obtain ⟨L0, cs0, el0, fz0, w1, w2, w3, w4, w5, w6, w7⟩ := V.sim.blk _ _ hb
      rw [hL] at w1; cases w1
      have hmul : (len + 1) * size ≤ cc * size := Nat.mul_le_mul_right _ hcc
      have hsucc : (len + 1) * size = len * size + size := by rw [Nat.add_mul]; omega
      rw [w4] at hcE
      have S0 := seen_anew V (b1 := b) (d := 0) (hi := m.next) hb hL (.inl ⟨rfl, rfl, rfl⟩) (n' := off + (len + 1) * size) (c' := c0) (g' := mt.get) (fun j => by rw [hmt]; by_cases hj : j = b <;> simp [hj]) (by omega) (fun cs2 el2 fz2 x1 x2 i hi => by
        rw [w2] at x1; cases x1
        rw [hc0]
        have hlt : L.base + 0 + i < cs0.size := by omega
        have hget : cs0[L.base + 0 + i]? = some cs0[L.base + 0 + i] := by simp
        by_cases h1 : off ≤ i ∧ i < off + (cellsFrom c off (len * size) ++ repA [.any] size).length
        · rw [if_pos h1]
          by_cases h2 : i - off < len * size
          · rw [List.getElem?_append_left (by rw [cellsFrom_length]; exact h2), cellsFrom_get _ _ _ _ h2]
            obtain ⟨x, hx, hxv⟩ := w6 i (by omega)
            refine ⟨x, by simpa using hx, ?_⟩
            rw [show off + (i - off) = i by omega]
            simpa using hxv
          · refine ⟨_, hget, ?_⟩
            rw [List.getElem?_append_right (by rw [cellsFrom_length]; omega), repA_get [.any] (by decide) _ _ (by
              have := h1.2; simp only [List.length_append, cellsFrom_length, repA_length] at this; rw [cellsFrom_length]; simp at this ⊢; omega)]
            simp [Nat.mod_one]
            exact .any _
        · rw [if_neg h1, T.get_leaf]
          exact ⟨_, hget, .any _⟩)
      rw [set_same_loc hL w4] at S0
      have V0 : View ρ ⟨m.next, mt⟩ w := ⟨S0.sim, S0.wf⟩
      have hT0 : TR ρ (nTmps fn 3) t (cs ++ Array.replicate (fn.ntmps - cs.size) undef) := TR.enter (args := [.slice b off len none, i, v]) hv ht
      obtain ⟨i8, ops8, i13, ops13, hcode, ⟨it, bt, rt, o1, o2, o3, o4, o5, o6, l8, a1, a2, a3, a4, a5, a6⟩, ⟨it', rt', p1, p2, p3, p4, p5, p6, l13, b1, b2, b3, b4, b5, b6⟩⟩ := H.eq
      refine calls_of_wp hfn hbody ?_
      rw [hcode]
      refine wp_seq (A _ _ _ _ _ _ _ e1 ρ _ w V0 hT0 (fr (Nat.le_refl _) (by omega)) _ fun ρ1 x1 w1 s1 T1 D1 => ?_)
      refine wp_seq (A _ _ _ _ _ _ _ e2 ρ1 x1 w1 s1.view T1 (fr (by omega) (by omega)) _ fun ρ2 x2 w2' s2 T2 D2 => ?_)
      refine wp_seq (A _ _ _ _ _ _ _ e3 ρ2 x2 w2' s2.view T2 (fr (by omega) (by omega)) _ fun ρ3 x3 w3' s3 T3 D3 => ?_)
      refine wp_seq (A _ _ _ _ _ _ _ e4 ρ3 x3 w3' s3.view T3 (fr (by omega) (by omega)) _ fun ρ4 x4 w4' s4 T4 D4 => ?_)
      refine wp_seq (A _ _ _ _ _ _ _ e5 ρ4 x4 w4' s4.view T4 (fr (by omega) (by omega)) _ fun ρ5 x5 w5' s5 T5 D5 => ?_)
      refine wp_seq (A _ _ _ _ _ _ _ e6 ρ5 x5 w5' s5.view T5 (fr (by omega) (by omega)) _ fun ρ6 x6 w6' s6 T6 D6 => ?_)
      have st6 := S0.trans (((((s1.trans s2).trans s3).trans s4).trans s5).trans s6)
      have L6 : ρ6 b = some L := st6.sub (fr (Nat.le_refl _) (by omega)) _ _ hL
      obtain ⟨tc, Tc, gc0, gcr⟩ := T6.cap g0 L6 (c := cc) (by omega) (by rw [w4]; exact hcE)
      refine wp_seq (wp_seq (wp_region_list ?_))
      rw [l8]
      refine region8 hcall H.st a1 a2 a3 a4 a5 a6 hnt s6.view Tc gc0 (by rw [gcr _ (by decide)]; exact g7) (by rw [gcr _ (by decide)]; exact g8) hcc hlen fun ρ7 x7 w7' tt7 s7 T7 D7 G31 G7 => ?_
      have L7 : ρ7 b = some L := s7.sub (fr (by omega) (by omega)) _ _ L6
      have T8 : TR ρ7 (nTmps fn 3) t8 x7.tmps := by
        refine ⟨T7.size, fun u => ?_⟩
        rw [ht8, ht7]
        by_cases hu : u = 31
        · subst hu; have := T7.rel 31; rw [G31] at this; simpa using this
        · rw [if_neg (by simpa using hu)]
          by_cases hu2 : u ∈ [26, 27, 28, 29, 30]
          · rw [if_pos hu2]; exact .any _
          · rw [if_neg hu2]
            have := T7.rel u
            rw [G7 u (by simp at hu2; omega)] at this
            by_cases hu0 : u = 0
            · subst hu0
              rw [gc0] at this
              rw [g0]
              exact VR.uncap this L7 (by rw [w4]; exact hcE)
            · rw [gcr u hu0] at this; exact this
      refine A _ _ _ _ _ _ _ e9 ρ7 x7 w7' s7.view T8 (fr (by omega) (by omega)) _ fun ρ9 x9 w9' s9 T9 D9 => ?_
      have L9 : ρ9 b = some L := s9.sub (fr (by omega) (by omega)) _ _ L7
      obtain ⟨td, Td, gd0, gdr⟩ := T9.cap k0 L9 (c := cc) (by omega) (by rw [w4]; exact hcE)
      refine wp_seq (wp_region_list ?_)
      rw [l13]
      refine region13 hcall H.st H.ei b1 b2 b3 b4 b5 b6 hnt s9.view Td gd0 (by rw [gdr _ (by decide)]; exact k7) (by rw [gdr _ (by decide)]; exact k8) hcc hlen fun ρ10 x10 w10' tt10 s10 T10 D10 G0 G10 => ?_
      have L10 : ρ10 b = some L := s10.sub (fr (by omega) (by omega)) _ _ L9
      have T11 : TR ρ10 (nTmps fn 3) t11 x10.tmps := by
        refine ⟨T10.size, fun u => ?_⟩
        rw [ht11, ht10]
        by_cases hu : u = 0
        · subst hu
          have := T10.rel 0
          rw [G0] at this
          rw [if_pos (by simp)]
          exact VR.uncap this L10 (by rw [w4]; exact hcE)
        · rw [if_neg (by simpa using hu)]
          by_cases hu2 : u ∈ [56, 57, 58, 59, 60]
          · rw [if_pos hu2]; exact .any _
          · rw [if_neg hu2]
            have := T10.rel u
            rw [G10 u (by simp at hu2; omega) hu, gdr u hu] at this
            exact this
      refine A _ _ _ _ _ _ _ e12 ρ10 x10 w10' s10.view T11 (fr (by omega) (by omega)) _ fun ρ12 x12 w12' s12 T12 D12 => ?_
      have stt := st6.trans (((s7.trans s9).trans s10).trans s12)
      have hnone : ρ12 m.next = none := by rw [stt.ren _ (by omega)]; exact hfr
      have hres := T12.rel 6
      rw [h6] at hres
      refine ⟨by rw [D12, D10, D9, D7, D6, D5, D4, D3, D2, D1], _, results_tmp H.res _ _ _, ?_⟩
      have V12 := s12.view
      have hres : VR ρ12 (.slice b off len.succ none) (x12.tmps.getD 6 undef) := hres
      generalize x12.tmps.getD 6 undef = vr at hres ⊢
      cases hres with
      | sliceO _ _ _ c3 L3 hL3 hle3 hE3 =>
        obtain ⟨L4, cs4, el4, fz4, y1, y2, y3, y4, y5, y6, y7⟩ := V12.sim.blk _ _ hb2
        rw [hL3] at y1; cases y1
        rw [y4] at hE3
        have hmul3 : (len + 1) * size ≤ c3 * size := Nat.mul_le_mul_right _ hle3
        have hs := seen_anew V12 (b1 := m.next) (d := off) (hi := m.next + 1) hb2 hL3 (.inr ⟨q4.symm, by rw [q4], by rw [q4]; exact hnone⟩) (n' := (len + 1) * size) (c' := c1) (g' := fun j => if j = m.next then some (.cells false true size ((len + 1) * size) c1) else if j = b then none else m12.t.get j) (fun j => rfl) (by omega) (fun cs2 el2 fz2 x1 x2 i hi => by
          rw [y2] at x1; cases x1
          have hi' : i < len.succ * size := hi
          obtain ⟨x, hx, hxv⟩ := y6 (off + i) (by omega)
          refine ⟨x, by rw [Nat.add_assoc]; exact hx, ?_⟩
          rw [hc1 i (by rw [hll]; exact hi), cellsFrom_get _ _ _ _ hi']
          exact hxv)
        have hs := hs.less (g := oneBlk m.next size ((len + 1) * size) c1) (hi' := m.next + 1) (fun b x hx => by
          unfold oneBlk at hx
          split at hx
          · rename_i e; cases hx; simp [e]
          · cases hx) (fun b x hx => by
          unfold oneBlk at hx
          split at hx
          · omega
          · cases hx) rfl
        refine ⟨_, _, rfl, stt.trans hs, ?_⟩
        have := VR.sliceO (ρ := ρ12.set m.next ⟨L3.blk, L3.base + off, L3.csize, size⟩) m.next 0 (len + 1) c3 ⟨L3.blk, L3.base + off, L3.csize, size⟩ (Ren.set_same _ _ _) hle3 (by simpa using hE3)
        simpa using this
    · cases h
  · cases h
end
end Go.Ev
end
section
namespace Go.Ev
set_option linter.all false
section
variable {P : Program} {S : Sums}
theorem twoK_inv {m : AMem} {b vb : Nat} {k : AMem → OR} {v : AV} {m' : AMem} (h : twoK m b vb k = .mk v m') :
    ∃ x y m2, m.t.get b = some x ∧ m.t.get vb = some y ∧ m2.next = m.next ∧ (∀ j, m2.t.get j = if j = vb then some y else if j = b then some x else none) ∧ k m2 = .mk v m' := by
  unfold twoK at h
  split at h
  · rename_i x y hx hy
    rcases T.setK_eq (OR.fail 3117) (some x) (T.leaf : T Blk) b (fun t => T.setK (.fail 3118) (some y) t vb fun t => k ⟨m.next, t⟩) with e | ⟨t1, h1, e⟩
    · rw [e] at h; cases h
    · rw [e] at h
      rcases T.setK_eq (OR.fail 3118) (some y) t1 vb (fun t => k ⟨m.next, t⟩) with e2 | ⟨t2, h2, e2⟩
      · rw [e2] at h; cases h
      · rw [e2] at h
        exact ⟨x, y, ⟨m.next, t2⟩, hx, hy, rfl, fun j => by show t2.get j = _; rw [h2, h1]; rfl, h⟩
  · cases h
theorem insertSum_ok (hm : P.follows .mixedOrders = true) (hS : SumsOK P S) {n : Nat} {f : FuncId} {fn : Func} {code : Code} {p : InsParts} {st e : TypeId} {ei : TypeInfo} (hcode : codeOf P f = some (fn, code)) (H : InsCode P fn code p st e ei) (hp : insParts code = some p) (hnt : 95 ≤ nTmps fn 3)
    {size : Nat} (hsz : 0 < size) : SumOK P f (insertSum P S n f size) := by
  intro args m v m' h ρ w cs V hv hfr
  have hcall := call_ok hS (code_ok hm hS n).1
  obtain ⟨hfn, hbody, _⟩ := codeOf_inv hcode
  unfold insertSum at h
  split at h
  · rename_i b off len kk i vb voff vl vc
    rw [bif2_eq] at h
    split at h
    · rw [hcode] at h
      have h : insMid P S n f (fn, code) size b off len (.int kk (.ofNat i)) vb (.slice vb voff vl vc) m = .mk v m' := h
      unfold insMid at h
      simp only [hp] at h
      rw [bif2_eq] at h
      split at h
      · cases h
      · obtain ⟨x, y, m2, hx, hy, hm2, hg2, h⟩ := twoK_inv h
        have hc : (codeOf P f).isSome = true := by rw [hcode]; rfl
        obtain ⟨l1, h, hl1, grow⟩ := insGrow_ok hcall hc h
        obtain ⟨l2, h, hl2, shift⟩ := insShift_ok hm hS hfn hbody H hnt hsz h
        rw [bif2_eq] at h
        split at h
        · rename_i heq
          have heq := (eqV_both 1000).2 _ _ heq
          subst heq
          rcases T.setK_eq (OR.fail 3122) none m.t b (fun t => T.setK (.fail 3123) none t vb fun t => growA size l1 (Nat.succ len) ⟨m.next, t⟩) with e1 | ⟨t1, ht1, e1⟩
          · rw [e1] at h; cases h
          rw [e1] at h
          rcases T.setK_eq (OR.fail 3123) none t1 vb (fun t => growA size l1 (Nat.succ len) ⟨m.next, t⟩) with e2 | ⟨t2, ht2, e2⟩
          · rw [e2] at h; cases h
          rw [e2] at h
          obtain ⟨m3, c1, hn3, hg3, hc3, hk3⟩ := newBlk_inv h
          cases hk3
          have hn3 : m'.next = m.next + 1 := hn3
          have sub2 : ∀ j z, m2.t.get j = some z → m.t.get j = some z := fun j z hz => by
            rw [hg2] at hz
            split at hz
            · rename_i e; rw [e, ← hz]; exact hy
            · split at hz
              · rename_i e; rw [e, ← hz]; exact hx
              · cases hz
          have V2 : View ρ m2 w := ⟨V.sim.less sub2, fun j z hz => by rw [hm2]; exact V.wf j z (sub2 j z hz)⟩
          have hnone : ρ m2.next = none := by rw [hm2]; exact hfr _ (Nat.le_refl _) (by omega)
          have fin : Calls P f cs w (InsPost ρ m2 w size len c1) := by
            cases hcs : cs.toList with
            | nil => rw [hcs] at hv; cases hv
            | cons a l =>
              rw [hcs] at hv
              cases hv with
              | cons _ _ _ _ ha hrest =>
                cases ha with
                | sliceO _ _ _ cc L hL hle hE =>
                  by_cases q : cc = len
                  · subst q
                    exact grow ρ w cs V2 (by rw [hcs]; exact .cons _ _ _ _ (.sliceE _ _ _ _ L hL (Nat.le_refl _)) hrest) hnone c1 hc3
                  · exact shift ρ w cs L cc V2 (by rw [hcs]; exact .cons _ _ _ _ (.sliceO _ _ _ _ L hL hle hE) hrest) hL (by omega) hE hnone c1 hc3
          refine .inl ⟨codeOf_enter hc _ _, fin.mono fun e w' hpost => ?_⟩
          obtain ⟨vcx, ρ', he, hs, hvc⟩ := hpost
          rw [hm2] at hs hvc
          have B : GStep ρ m.t.get m.next w ρ m.t.get (m.next + 1) w :=
            ⟨fun _ _ => rfl, by omega, V.sim, fun j z hz => by have := V.wf j z hz; omega, fun j z L q1 q2 q3 => .inr ⟨j, z, L, q1, q2, q3, rfl⟩, fun j z L q1 q3 => .inr ⟨j, z, L, q1, q3, rfl⟩, fun _ _ _ => rfl, Nat.le_refl _, rfl, rfl, rfl⟩
          have X := B.extend hs sub2 (Nat.le_refl _) (Nat.le_refl _) (fun b h1 h2 => hfr b h1 (by omega))
          have Y := X.less (g := m'.t.get) (hi' := m'.next) (fun j z hz => by
            rw [hg3] at hz
            split at hz
            · rename_i e
              have e : j = m.next := e
              cases hz
              refine over_new ?_
              unfold oneBlk
              rw [if_pos e, hl1]
            · rename_i e
              have e : j ≠ m.next := e
              have hz : t2.get j = some z := hz
              rw [ht2, ht1] at hz
              split at hz
              · cases hz
              · rename_i hjv
                split at hz
                · cases hz
                · rename_i hjb
                  rw [over_old (by unfold oneBlk; rw [if_neg e]) (by rw [hg2, if_neg hjv, if_neg hjb])]
                  exact hz) (fun j z hz => by
            rw [hg3] at hz
            split at hz
            · rename_i e
              have e : j = m.next := e
              omega
            · have hz : t2.get j = some z := hz
              rw [ht2, ht1] at hz
              split at hz
              · cases hz
              · split at hz
                · cases hz
                · have := V.wf j z hz; omega) hn3.symm
          exact ⟨vcx, ρ', he, Y, hvc⟩
        · cases h
    · exact hcall _ _ _ _ _ h ρ w cs V hv hfr
  · exact hcall _ _ _ _ _ h ρ w cs V hv hfr
end
end Go.Ev
end
section
namespace Go.Ev
set_option linter.all false
open Go.Proofs
theorem mixed : Tryz.prog.follows .mixedOrders = true := by kernel_rfl
theorem over88 : SumOK Tryz.prog 88 overSum :=
  overSum_ok (fn := Tryz.f88) (tS := 28) (tR := 4) (e := 3) (i := (Tryz.prog.info? 3).getD default) (by kernel_rfl) (by kernel_rfl) (by kernel_rfl) (by kernel_rfl) (by kernel_rfl) (by kernel_rfl) (by kernel_rfl)
theorem idx177 : SumOK Tryz.prog 177 indexByteSum := indexByteSum_ok (fn := Tryz.f177) (by kernel_rfl) (by kernel_rfl) (by kernel_rfl) (by kernel_rfl) (by kernel_rfl)
noncomputable def elemOf (st : TypeId) : TypeId := match Tryz.prog.underlying st with
  | some (.slice e) => e
  | _ => 0
theorem over75 : SumOK Tryz.prog 75 overSum :=
  overSum_ok (fn := Tryz.f75) (tS := 46) (tR := 4) (e := elemOf 46) (i := (Tryz.prog.info? (elemOf 46)).getD default) (by kernel_rfl) (by kernel_rfl) (by kernel_rfl) (by kernel_rfl) (by kernel_rfl) (by kernel_rfl) (by kernel_rfl)
noncomputable def code80 : Code := Tryz.f80.body.getD .skip
noncomputable def parts80 : InsParts := (insParts code80).getD ⟨.skip, .skip, .skip, .skip, .skip, .skip, .skip, .skip⟩
noncomputable def code64 : Code := Tryz.f64.body.getD .skip
noncomputable def parts64 : InsParts := (insParts code64).getD ⟨.skip, .skip, .skip, .skip, .skip, .skip, .skip, .skip⟩
theorem ins80 : InsCode Tryz.prog Tryz.f80 code80 parts80 28 3 ((Tryz.prog.info? 3).getD default) where
  eq := ⟨_, _, _, _, rfl, ⟨_, _, _, _, _, _, _, _, _, rfl, ⟨rfl, rfl, rfl⟩, ⟨rfl, rfl, rfl⟩, ⟨rfl, rfl, rfl⟩, ⟨rfl, rfl, rfl⟩, ⟨rfl, rfl, rfl⟩, ⟨rfl, rfl, rfl⟩⟩,
    ⟨_, _, _, _, _, _, _, _, rfl, ⟨rfl, rfl, rfl⟩, ⟨rfl, rfl, rfl⟩, ⟨rfl, rfl, rfl⟩, ⟨rfl, rfl, rfl⟩, ⟨rfl, rfl, rfl⟩, ⟨rfl, rfl, rfl⟩⟩⟩
  res := rfl
  st := by kernel_rfl
  ei := by kernel_rfl
theorem ins64 : InsCode Tryz.prog Tryz.f64 code64 parts64 46 (elemOf 46) ((Tryz.prog.info? (elemOf 46)).getD default) where
  eq := ⟨_, _, _, _, rfl, ⟨_, _, _, _, _, _, _, _, _, rfl, ⟨rfl, rfl, rfl⟩, ⟨rfl, rfl, rfl⟩, ⟨rfl, rfl, rfl⟩, ⟨rfl, rfl, rfl⟩, ⟨rfl, rfl, rfl⟩, ⟨rfl, rfl, rfl⟩⟩,
    ⟨_, _, _, _, _, _, _, _, rfl, ⟨rfl, rfl, rfl⟩, ⟨rfl, rfl, rfl⟩, ⟨rfl, rfl, rfl⟩, ⟨rfl, rfl, rfl⟩, ⟨rfl, rfl, rfl⟩, ⟨rfl, rfl, rfl⟩⟩⟩
  res := rfl
  st := by kernel_rfl
  ei := by kernel_rfl
theorem sum80 : SumOK Tryz.prog 80 (insertSum Tryz.prog (sumsI 88) 60 80 1) :=
  insertSum_ok mixed (sumsI_ok over88) (code := code80) (p := parts80) (by kernel_rfl) ins80 (by kernel_rfl) (by decide) (by decide)
theorem sum64 : SumOK Tryz.prog 64 (insertSum Tryz.prog (sumsI 75) 60 64 2) :=
  insertSum_ok mixed (sumsI_ok over75) (code := code64) (p := parts64) (by kernel_rfl) ins64 (by kernel_rfl) (by decide) (by decide)
end Go.Ev
end
section
namespace Go.Ev
set_option linter.all false
open Go.Proofs
theorem ei28x : (elemInfo Tryz.prog 28).map (fun p => (p.1.size, p.2)) = some (1, [.int .i64 (.ofNat 0)]) := by kernel_rfl
theorem ei28 : ∃ i : TypeInfo, elemInfo Tryz.prog 28 = some (i, [.int .i64 (.ofNat 0)]) ∧ i.size = 1 := elemInfo_of ei28x
theorem ei46x : (elemInfo Tryz.prog 46).map (fun p => (p.1.size, p.2)) = some (2, [.int .i64 (.ofNat 0), .int .i64 (.ofNat 0)]) := by kernel_rfl
theorem ei46 : ∃ i : TypeInfo, elemInfo Tryz.prog 46 = some (i, [.int .i64 (.ofNat 0), .int .i64 (.ofNat 0)]) ∧ i.size = 2 := elemInfo_of ei46x
theorem ei63x : (elemInfo Tryz.prog 63).map (fun p => (p.1.size, p.2)) = some (2, [.nils, .nils]) := by kernel_rfl
theorem ei63 : ∃ i : TypeInfo, elemInfo Tryz.prog 63 = some (i, [.nils, .nils]) ∧ i.size = 2 := elemInfo_of ei63x
theorem ei68x : (elemInfo Tryz.prog 68).map (fun p => (p.1.size, p.2)) = some (1, [.nils]) := by kernel_rfl
theorem ei68 : ∃ i : TypeInfo, elemInfo Tryz.prog 68 = some (i, [.nils]) ∧ i.size = 1 := elemInfo_of ei68x
theorem ei69x : (elemInfo Tryz.prog 69).map (fun p => (p.1.size, p.2)) = some (1, [.nils]) := by kernel_rfl
theorem ei69 : ∃ i : TypeInfo, elemInfo Tryz.prog 69 = some (i, [.nils]) ∧ i.size = 1 := elemInfo_of ei69x
theorem fa31_0 : fieldAt Tryz.prog 31 0 = some 0 := by kernel_rfl
theorem fa31_1 : fieldAt Tryz.prog 31 1 = some 1 := by kernel_rfl
theorem fa31_7 : fieldAt Tryz.prog 31 7 = some 7 := by kernel_rfl
theorem fa54_0 : fieldAt Tryz.prog 54 0 = some 0 := by kernel_rfl
theorem fa54_1 : fieldAt Tryz.prog 54 1 = some 1 := by kernel_rfl
theorem fa56_0 : fieldAt Tryz.prog 56 0 = some 0 := by kernel_rfl
theorem fa56_1 : fieldAt Tryz.prog 56 1 = some 1 := by kernel_rfl
theorem fa66_0 : fieldAt Tryz.prog 66 0 = some 0 := by kernel_rfl
theorem fa66_1 : fieldAt Tryz.prog 66 1 = some 1 := by kernel_rfl
theorem fa71_1 : fieldAt Tryz.prog 71 1 = some 8 := by kernel_rfl
theorem fa71_2 : fieldAt Tryz.prog 71 2 = some 9 := by kernel_rfl
theorem fa71_3 : fieldAt Tryz.prog 71 3 = some 10 := by kernel_rfl
theorem fa101_0 : fieldAt Tryz.prog 101 0 = some 0 := by kernel_rfl
theorem fa101_1 : fieldAt Tryz.prog 101 1 = some 1 := by kernel_rfl
theorem ix28 : ixOf Tryz.prog 28 = .sl 1 := by kernel_rfl
theorem ix29 : ixOf Tryz.prog 29 = .sl 4 := by kernel_rfl
theorem ix46 : ixOf Tryz.prog 46 = .sl 2 := by kernel_rfl
theorem ix63 : ixOf Tryz.prog 63 = .sl 2 := by kernel_rfl
theorem ix68 : ixOf Tryz.prog 68 = .sl 1 := by kernel_rfl
theorem ix69 : ixOf Tryz.prog 69 = .sl 1 := by kernel_rfl
theorem lay3 : layout Tryz.prog 3 = some (false, 1) := by kernel_rfl
theorem lay28 : layout Tryz.prog 28 = some (false, 1) := by kernel_rfl
theorem lay29 : layout Tryz.prog 29 = some (false, 1) := by kernel_rfl
theorem lay31 : layout Tryz.prog 31 = some (true, 8) := by kernel_rfl
theorem lay46 : layout Tryz.prog 46 = some (false, 1) := by kernel_rfl
theorem lay54 : layout Tryz.prog 54 = some (true, 2) := by kernel_rfl
theorem lay56 : layout Tryz.prog 56 = some (true, 4) := by kernel_rfl
theorem lay68 : layout Tryz.prog 68 = some (false, 1) := by kernel_rfl
theorem lay69 : layout Tryz.prog 69 = some (false, 1) := by kernel_rfl
theorem lay83 : layout Tryz.prog 83 = some (false, 1) := by kernel_rfl
theorem len28 {b o n : Nat} {c : Option Nat} {m : AMem} : aLen Tryz.prog 28 (.slice b o n c) m = .mk (.int .i64 (.ofNat n)) m := by kernel_rfl
theorem len28n {m : AMem} : aLen Tryz.prog 28 .nils m = .mk (.int .i64 (.ofNat 0)) m := by kernel_rfl
theorem len28e {m : AMem} : aLen Tryz.prog 28 .emp m = .mk (.int .i64 (.ofNat 0)) m := by kernel_rfl
theorem len29 {b o n : Nat} {c : Option Nat} {m : AMem} : aLen Tryz.prog 29 (.slice b o n c) m = .mk (.int .i64 (.ofNat n)) m := by kernel_rfl
theorem len29n {m : AMem} : aLen Tryz.prog 29 .nils m = .mk (.int .i64 (.ofNat 0)) m := by kernel_rfl
theorem len29e {m : AMem} : aLen Tryz.prog 29 .emp m = .mk (.int .i64 (.ofNat 0)) m := by kernel_rfl
theorem len46 {b o n : Nat} {c : Option Nat} {m : AMem} : aLen Tryz.prog 46 (.slice b o n c) m = .mk (.int .i64 (.ofNat n)) m := by kernel_rfl
theorem len46n {m : AMem} : aLen Tryz.prog 46 .nils m = .mk (.int .i64 (.ofNat 0)) m := by kernel_rfl
theorem len46e {m : AMem} : aLen Tryz.prog 46 .emp m = .mk (.int .i64 (.ofNat 0)) m := by kernel_rfl
theorem len63 {b o n : Nat} {c : Option Nat} {m : AMem} : aLen Tryz.prog 63 (.slice b o n c) m = .mk (.int .i64 (.ofNat n)) m := by kernel_rfl
theorem len63n {m : AMem} : aLen Tryz.prog 63 .nils m = .mk (.int .i64 (.ofNat 0)) m := by kernel_rfl
theorem len63e {m : AMem} : aLen Tryz.prog 63 .emp m = .mk (.int .i64 (.ofNat 0)) m := by kernel_rfl
theorem len68 {b o n : Nat} {c : Option Nat} {m : AMem} : aLen Tryz.prog 68 (.slice b o n c) m = .mk (.int .i64 (.ofNat n)) m := by kernel_rfl
theorem len68n {m : AMem} : aLen Tryz.prog 68 .nils m = .mk (.int .i64 (.ofNat 0)) m := by kernel_rfl
theorem len68e {m : AMem} : aLen Tryz.prog 68 .emp m = .mk (.int .i64 (.ofNat 0)) m := by kernel_rfl
theorem nil44 {m : AMem} {b o : Nat} {l : Bool} : aBin2 Tryz.prog .eql 44 l (.ptr b o) .nilp m = .mk (.bool false) m := by kernel_rfl
theorem nil44n {m : AMem} {l : Bool} : aBin2 Tryz.prog .eql 44 l .nilp .nilp m = .mk (.bool true) m := by kernel_rfl
theorem nil46 {m : AMem} {b o n : Nat} {c : Option Nat} {l : Bool} : aBin2 Tryz.prog .eql 46 l (.slice b o n c) .nils m = .mk (.bool false) m := by kernel_rfl
theorem nil46n {m : AMem} {l : Bool} : aBin2 Tryz.prog .eql 46 l .nils .nils m = .mk (.bool true) m := by kernel_rfl
theorem nil46e {m : AMem} {l : Bool} : aBin2 Tryz.prog .eql 46 l .emp .nils m = .mk (.bool false) m := by kernel_rfl
theorem nil81 {m : AMem} {b o : Nat} {l : Bool} : aBin2 Tryz.prog .eql 81 l (.ptr b o) .nilp m = .mk (.bool false) m := by kernel_rfl
theorem nil83 {m : AMem} {f : Nat} {c : List AV} {l : Bool} : aBin2 Tryz.prog .eql 83 l (.fn f c) .nilf m = .mk (.bool false) m := by kernel_rfl
theorem z54 : zeroA Tryz.prog 54 = some [.int .i64 (.ofNat 0), .int .i64 (.ofNat 0)] := by kernel_rfl
theorem z56 : zeroA Tryz.prog 56 = some [.int .i64 (.ofNat 0), .nils, .int .i64 (.ofNat 0), .int .i64 (.ofNat 0)] := by kernel_rfl
theorem cd12 : codeOf Tryz.prog 12 = some (Tryz.f12, (Tryz.f12.body.getD .skip)) := by kernel_rfl
theorem nt12 : nTmps Tryz.f12 1 = 10 := by kernel_rfl
theorem cd13 : codeOf Tryz.prog 13 = some (Tryz.f13, (Tryz.f13.body.getD .skip)) := by kernel_rfl
theorem nt13 : nTmps Tryz.f13 2 = 17 := by kernel_rfl
theorem cd14 : codeOf Tryz.prog 14 = some (Tryz.f14, (Tryz.f14.body.getD .skip)) := by kernel_rfl
theorem nt14 : nTmps Tryz.f14 2 = 17 := by kernel_rfl
theorem cd15 : codeOf Tryz.prog 15 = some (Tryz.f15, (Tryz.f15.body.getD .skip)) := by kernel_rfl
theorem nt15 : nTmps Tryz.f15 3 = 37 := by kernel_rfl
theorem cd16 : codeOf Tryz.prog 16 = some (Tryz.f16, (Tryz.f16.body.getD .skip)) := by kernel_rfl
theorem nt16 : nTmps Tryz.f16 1 = 85 := by kernel_rfl
theorem cd31 : codeOf Tryz.prog 31 = some (Tryz.f31, (Tryz.f31.body.getD .skip)) := by kernel_rfl
theorem nt31 : nTmps Tryz.f31 2 = 13 := by kernel_rfl
theorem cd32 : codeOf Tryz.prog 32 = some (Tryz.f32, (Tryz.f32.body.getD .skip)) := by kernel_rfl
theorem nt32 : nTmps Tryz.f32 1 = 8 := by kernel_rfl
theorem cd33 : codeOf Tryz.prog 33 = some (Tryz.f33, (Tryz.f33.body.getD .skip)) := by kernel_rfl
theorem nt33 : nTmps Tryz.f33 2 = 86 := by kernel_rfl
theorem cd34 : codeOf Tryz.prog 34 = some (Tryz.f34, (Tryz.f34.body.getD .skip)) := by kernel_rfl
theorem nt34 : nTmps Tryz.f34 2 = 33 := by kernel_rfl
theorem cd35 : codeOf Tryz.prog 35 = some (Tryz.f35, (Tryz.f35.body.getD .skip)) := by kernel_rfl
theorem nt35 : nTmps Tryz.f35 3 = 49 := by kernel_rfl
theorem cd42 : codeOf Tryz.prog 42 = some (Tryz.f42, (Tryz.f42.body.getD .skip)) := by kernel_rfl
theorem nt42 : nTmps Tryz.f42 2 = 21 := by kernel_rfl
theorem cd44 : codeOf Tryz.prog 44 = some (Tryz.f44, (Tryz.f44.body.getD .skip)) := by kernel_rfl
theorem nt44 : nTmps Tryz.f44 2 = 29 := by kernel_rfl
theorem cd45 : codeOf Tryz.prog 45 = some (Tryz.f45, (Tryz.f45.body.getD .skip)) := by kernel_rfl
theorem nt45 : nTmps Tryz.f45 1 = 10 := by kernel_rfl
theorem cd46 : codeOf Tryz.prog 46 = some (Tryz.f46, (Tryz.f46.body.getD .skip)) := by kernel_rfl
theorem nt46 : nTmps Tryz.f46 2 = 19 := by kernel_rfl
theorem cd47 : codeOf Tryz.prog 47 = some (Tryz.f47, (Tryz.f47.body.getD .skip)) := by kernel_rfl
theorem nt47 : nTmps Tryz.f47 2 = 7 := by kernel_rfl
theorem cd48 : codeOf Tryz.prog 48 = some (Tryz.f48, (Tryz.f48.body.getD .skip)) := by kernel_rfl
theorem nt48 : nTmps Tryz.f48 2 = 26 := by kernel_rfl
theorem cd59 : codeOf Tryz.prog 59 = some (Tryz.f59, (Tryz.f59.body.getD .skip)) := by kernel_rfl
theorem nt59 : nTmps Tryz.f59 1 = 8 := by kernel_rfl
theorem cd62 : codeOf Tryz.prog 62 = some (Tryz.f62, (Tryz.f62.body.getD .skip)) := by kernel_rfl
theorem nt62 : nTmps Tryz.f62 2 = 20 := by kernel_rfl
theorem cd63 : codeOf Tryz.prog 63 = some (Tryz.f63, (Tryz.f63.body.getD .skip)) := by kernel_rfl
theorem nt63 : nTmps Tryz.f63 1 = 12 := by kernel_rfl
theorem cd64 : codeOf Tryz.prog 64 = some (Tryz.f64, (Tryz.f64.body.getD .skip)) := by kernel_rfl
theorem nt64 : nTmps Tryz.f64 3 = 95 := by kernel_rfl
theorem cd74 : codeOf Tryz.prog 74 = some (Tryz.f74, (Tryz.f74.body.getD .skip)) := by kernel_rfl
theorem nt74 : nTmps Tryz.f74 3 = 49 := by kernel_rfl
theorem cd43 : codeOf Tryz.prog 43 = some (Tryz.f43, (Tryz.f43.body.getD .skip)) := by kernel_rfl
theorem nt43 : nTmps Tryz.f43 2 = 17 := by kernel_rfl
theorem cd60 : codeOf Tryz.prog 60 = some (Tryz.f60, (Tryz.f60.body.getD .skip)) := by kernel_rfl
theorem nt60 : nTmps Tryz.f60 1 = 18 := by kernel_rfl
theorem cd61 : codeOf Tryz.prog 61 = some (Tryz.f61, (Tryz.f61.body.getD .skip)) := by kernel_rfl
theorem nt61 : nTmps Tryz.f61 2 = 20 := by kernel_rfl
theorem cd73 : codeOf Tryz.prog 73 = some (Tryz.f73, (Tryz.f73.body.getD .skip)) := by kernel_rfl
theorem nt73 : nTmps Tryz.f73 1 = 6 := by kernel_rfl
theorem cd29 : codeOf Tryz.prog 29 = some (Tryz.f29, (Tryz.f29.body.getD .skip)) := by kernel_rfl
theorem nt29 : nTmps Tryz.f29 1 = 73 := by kernel_rfl
theorem cd30 : codeOf Tryz.prog 30 = some (Tryz.f30, (Tryz.f30.body.getD .skip)) := by kernel_rfl
theorem nt30 : nTmps Tryz.f30 2 = 75 := by kernel_rfl
theorem cd39 : codeOf Tryz.prog 39 = some (Tryz.f39, (Tryz.f39.body.getD .skip)) := by kernel_rfl
theorem nt39 : nTmps Tryz.f39 3 = 62 := by kernel_rfl
theorem cd41 : codeOf Tryz.prog 41 = some (Tryz.f41, (Tryz.f41.body.getD .skip)) := by kernel_rfl
theorem nt41 : nTmps Tryz.f41 2 = 58 := by kernel_rfl
end Go.Ev
end
section
namespace Go.Ev
set_option linter.all false
open Go.Proofs
set_option maxRecDepth 10000
noncomputable def cmpI (a b : Int) : Int := if a < b then -1 else if b < a then 1 else 0
theorem call73 {S : Sums} (hS : S 73 = none) {m : AMem} (a : Int) : CallTo Tryz.prog S 73 [.int .i64 a] m (.bool false) m := by
  have : ∃ v m', CallTo Tryz.prog S 73 [.int .i64 a] m v m' ∧ v = .bool false ∧ m' = m := by
    refine XP.call hS cd73 nt73 ?_
    show XP _ _ _ _ (toT .leaf [(0, .int .i64 a)]) m _
    unfold Tryz.f73
    dsimp only [Option.getD_some]
    refine XP.seq ?_; refine XP.regionS ?_; refine RP.o1 (.assign rfl) rfl rfl ?_; refine RP.nil ?_; refine XP.seq ?_; refine XP.regionS ?_; refine RP.o1 (.move rfl) rfl rfl ?_; refine RP.o1 (.move rfl) rfl rfl ?_; refine RP.o1 (.bin rfl rfl (v := .bool false) (neq_is.trans (by rw [decide_eq_true (Eq.refl a)]; rfl))) rfl rfl ?_
    refine RP.o1 (.assign rfl) rfl rfl ?_; refine RP.nil ?_
    exact XP.ret ⟨.inr rfl, _, _, oneRes rfl, rfl, rfl⟩
  obtain ⟨v, m', h, rfl, rfl⟩ := this
  exact h
theorem call61 {S : Sums} (hS : S 73 = none) (hS1 : S 61 = none) {m : AMem} (a b : Int) : CallTo Tryz.prog S 61 [.int .i64 a, .int .i64 b] m (.int .i64 (cmpI a b)) m := by
  have : ∃ v m', CallTo Tryz.prog S 61 [.int .i64 a, .int .i64 b] m v m' ∧ v = .int .i64 (cmpI a b) ∧ m' = m := by
    refine XP.call hS1 cd61 nt61 ?_
    show XP _ _ _ _ (toT .leaf [(1, .int .i64 b), (0, .int .i64 a)]) m _
    unfold Tryz.f61
    dsimp only [Option.getD_some]
    refine XP.seq ?_; refine XP.regionS ?_; refine RP.o1 (.assign rfl) rfl rfl ?_; refine RP.nil ?_; refine XP.seq ?_; refine XP.regionS ?_; refine RP.o1 (.move rfl) rfl rfl ?_; refine RP.o1 (.callS rfl rfl (call73 hS a)) rfl rfl ?_; refine RP.o1 (.assign rfl) rfl rfl ?_; refine RP.nil ?_; refine XP.seq ?_; refine XP.regionS ?_; refine RP.o1 (.move rfl) rfl rfl ?_; refine RP.o1 (.callS rfl rfl (call73 hS b)) rfl rfl ?_; refine RP.o1 (.assign rfl) rfl rfl ?_; refine RP.nil ?_; refine XP.seq ?_; refine XP.seq ?_; refine XP.regionS ?_; refine RP.o1 (.move rfl) rfl rfl ?_; refine RP.nil ?_; refine XP.condS false rfl ?_; refine XP.skip ?_; refine XP.seq ?_; refine XP.seq ?_; refine XP.regionS ?_; refine RP.o1 (.move rfl) rfl rfl ?_; refine RP.nil ?_; refine XP.condS false rfl ?_; refine XP.skip ?_; refine XP.seq ?_; refine XP.seq ?_; refine XP.regionS ?_; refine RP.o1 (.move rfl) rfl rfl ?_; refine RP.o1 (.move rfl) rfl rfl ?_; refine RP.o1 (.bin rfl rfl lss_is) rfl rfl ?_; refine RP.nil ?_; refine XP.condS _ rfl ?_
    by_cases h1 : a < b
    · rw [decide_eq_true h1]
      refine XP.seq ?_; refine XP.regionS ?_; refine RP.o1 (.assign rfl) rfl rfl ?_; refine RP.nil ?_
      refine XP.ret ⟨.inr rfl, _, _, oneRes rfl, ?_, rfl⟩
      rw [cmpI, if_pos h1]; rfl
    · rw [decide_eq_false h1]
      refine XP.skip ?_; refine XP.seq ?_; refine XP.seq ?_; refine XP.regionS ?_; refine RP.o1 (.move rfl) rfl rfl ?_; refine RP.o1 (.move rfl) rfl rfl ?_; refine RP.o1 (.bin rfl rfl gtr_is) rfl rfl ?_; refine RP.nil ?_; refine XP.condS _ rfl ?_
      by_cases h2 : b < a
      · rw [decide_eq_true h2]
        refine XP.seq ?_; refine XP.regionS ?_; refine RP.o1 (.assign rfl) rfl rfl ?_; refine RP.nil ?_
        refine XP.ret ⟨.inr rfl, _, _, oneRes rfl, ?_, rfl⟩
        rw [cmpI, if_neg h1, if_pos h2]; rfl
      · rw [decide_eq_false h2]
        refine XP.skip ?_; refine XP.seq ?_; refine XP.regionS ?_; refine RP.o1 (.assign rfl) rfl rfl ?_; refine RP.nil ?_
        refine XP.ret ⟨.inr rfl, _, _, oneRes rfl, ?_, rfl⟩
        rw [cmpI, if_neg h1, if_neg h2]; rfl
  obtain ⟨v, m', h, rfl, rfl⟩ := this
  exact h
/-- The first of two that is not nought. -/
theorem call60 {S : Sums} (hS : S 60 = none) {m : AMem} {b : Nat} {x y : Int} {c : Option Nat} (h0 : m.cell b 0 = some (.int .i64 x)) (h1 : m.cell b 1 = some (.int .i64 y)) :
    CallTo Tryz.prog S 60 [.slice b 0 2 c] m (.int .i64 (if x = 0 then y else x)) m := by
  have : ∃ v m', CallTo Tryz.prog S 60 [.slice b 0 2 c] m v m' ∧ v = .int .i64 (if x = 0 then y else x) ∧ m' = m := by
    refine XP.call hS cd60 nt60 ?_
    show XP _ _ _ _ (toT .leaf [(0, .slice b 0 2 c)]) m _
    unfold Tryz.f60
    dsimp only [Option.getD_some]
    refine XP.seq ?_; refine XP.regionS ?_; refine RP.o1 (.assign rfl) rfl rfl ?_; refine RP.nil ?_; refine XP.seq ?_; refine XP.regionS ?_; refine RP.o1 (.assign rfl) rfl rfl ?_; refine RP.nil ?_; refine XP.seq ?_; refine XP.seq ?_; refine XP.regionS ?_; refine RP.o1 (.move rfl) rfl rfl ?_; refine RP.o1 (.len rfl len28) rfl rfl ?_; refine RP.o1 (.move rfl) rfl rfl ?_; refine RP.nil ?_
    refine XP.block ?_  -- block 0
    refine XP.loop ?_; refine XP.seq ?_; refine XP.regionS ?_; refine RP.o1 (.bin rfl rfl lss_is) rfl rfl ?_; refine RP.nil ?_; refine XP.seq ?_
    refine XP.condS true rfl ?_  -- if t9
    refine XP.skip ?_; refine XP.seq ?_
    refine XP.block ?_  -- block 1
    refine XP.seq ?_; refine XP.regionS ?_; refine RP.o1 (.indexAddr (j := 0) rfl rfl ix28 (by decide)) rfl rfl ?_; refine RP.o1 (.load1 rfl lay3 h0) rfl rfl ?_; refine RP.o1 (.assign rfl) rfl rfl ?_; refine RP.nil ?_; refine XP.seq ?_; refine XP.regionS ?_; refine RP.o1 (.move rfl) rfl rfl ?_; refine RP.o1 (.move rfl) rfl rfl ?_; refine RP.o1 (.bin rfl rfl neq_is) rfl rfl ?_; refine RP.nil ?_; refine XP.condS _ rfl ?_
    by_cases hx : x = 0
    · rw [decide_eq_true hx]
      refine XP.skip ?_; refine XP.regionS ?_; refine RP.o1 (.bin rfl rfl (add_is (by decide) (by decide))) rfl rfl ?_; refine RP.o1 (.move rfl) rfl rfl ?_; refine RP.nil ?_; refine XP.loop ?_; refine XP.seq ?_; refine XP.regionS ?_; refine RP.o1 (.bin rfl rfl lss_is) rfl rfl ?_; refine RP.nil ?_; refine XP.seq ?_; refine XP.condS true rfl ?_; refine XP.skip ?_; refine XP.seq ?_; refine XP.block ?_; refine XP.seq ?_; refine XP.regionS ?_; refine RP.o1 (.indexAddr (j := 1) rfl rfl ix28 (by decide)) rfl rfl ?_; refine RP.o1 (.load1 rfl lay3 h1) rfl rfl ?_; refine RP.o1 (.assign rfl) rfl rfl ?_; refine RP.nil ?_; refine XP.seq ?_; refine XP.regionS ?_; refine RP.o1 (.move rfl) rfl rfl ?_; refine RP.o1 (.move rfl) rfl rfl ?_; refine RP.o1 (.bin rfl rfl neq_is) rfl rfl ?_; refine RP.nil ?_; refine XP.condS _ rfl ?_
      by_cases hy : y = 0
      · rw [decide_eq_true hy]
        refine XP.skip ?_; refine XP.regionS ?_; refine RP.o1 (.bin rfl rfl (add_is (by decide) (by decide))) rfl rfl ?_; refine RP.o1 (.move rfl) rfl rfl ?_; refine RP.nil ?_; refine XP.loop ?_; refine XP.seq ?_; refine XP.regionS ?_; refine RP.o1 (.bin rfl rfl lss_is) rfl rfl ?_; refine RP.nil ?_; refine XP.seq ?_; refine XP.condS false rfl ?_; refine XP.exit ?_; refine XP.seq ?_; refine XP.regionS ?_; refine RP.o1 (.move rfl) rfl rfl ?_; refine RP.o1 (.assign rfl) rfl rfl ?_; refine RP.nil ?_
        refine XP.ret ⟨.inr rfl, _, _, oneRes rfl, ?_, rfl⟩
        rw [if_pos hx, hy]; rfl
      · rw [decide_eq_false hy]
        refine XP.seq ?_; refine XP.regionS ?_; refine RP.o1 (.move rfl) rfl rfl ?_; refine RP.o1 (.assign rfl) rfl rfl ?_; refine RP.nil ?_
        refine XP.ret ⟨.inr rfl, _, _, oneRes rfl, ?_, rfl⟩
        rw [if_pos hx]
    · rw [decide_eq_false hx]
      refine XP.seq ?_; refine XP.regionS ?_; refine RP.o1 (.move rfl) rfl rfl ?_; refine RP.o1 (.assign rfl) rfl rfl ?_; refine RP.nil ?_
      refine XP.ret ⟨.inr rfl, _, _, oneRes rfl, ?_, rfl⟩
      rw [if_neg hx]
  obtain ⟨v, m', h, rfl, rfl⟩ := this
  exact h
/-- By rule, then dot. -/
noncomputable def cmpIt (a b : Int × Int) : Int := if cmpI a.1 b.1 = 0 then cmpI a.2 b.2 else cmpI a.1 b.1
abbrev itV (x : Int × Int) : AV := .agg [.int .i64 x.1, .int .i64 x.2]
/-- No function of these has a summary. -/
noncomputable def Plain (S : Sums) (l : List Nat) : Prop := ∀ f ∈ l, S f = none
theorem call43 {S : Sums} (hS : Plain S [43, 60, 61, 73]) {m : AMem} (a b : Int × Int) : ∃ m', CallTo Tryz.prog S 43 [itV a, itV b] m (.int .i64 (cmpIt a b)) m' ∧ Kp Nothing m m' := by
  have h43 := hS 43 (by decide)
  have h60 := hS 60 (by decide)
  have h61 := hS 61 (by decide)
  have h73 := hS 73 (by decide)
  have : ∃ v m', CallTo Tryz.prog S 43 [itV a, itV b] m v m' ∧ v = .int .i64 (cmpIt a b) ∧ Kp Nothing m m' := by
    refine XP.call h43 cd43 nt43 ?_
    show XP _ _ _ _ (toT .leaf [(1, itV b), (0, itV a)]) m _
    unfold Tryz.f43
    dsimp only [Option.getD_some]
    refine XP.seq ?_; refine XP.regionS ?_; refine RP.op (.box rfl rfl) rfl rfl (Nat.le_succ _) ?_; refine RP.op (.box rfl rfl) rfl rfl (Nat.le_succ _) ?_; refine RP.o1 (.assign rfl) rfl rfl ?_; refine RP.nil ?_
    have K0 : Kp Nothing m ((m.new false 1 (itV a).cells).new false 1 (itV b).cells) := ((Kp.refl m).new _ _ _).new _ _ _
    have a0 : ((m.new false 1 (itV a).cells).new false 1 (itV b).cells).cell m.next 0 = some (.int .i64 a.1) := AMem.cell_old (by show m.next ≠ m.next + 1; omega) (AMem.cell_new rfl)
    have a1 : ((m.new false 1 (itV a).cells).new false 1 (itV b).cells).cell m.next 1 = some (.int .i64 a.2) := AMem.cell_old (by show m.next ≠ m.next + 1; omega) (AMem.cell_new rfl)
    have b0 : ((m.new false 1 (itV a).cells).new false 1 (itV b).cells).cell (m.next + 1) 0 = some (.int .i64 b.1) := AMem.cell_new (m := m.new false 1 (itV a).cells) rfl
    have b1 : ((m.new false 1 (itV a).cells).new false 1 (itV b).cells).cell (m.next + 1) 1 = some (.int .i64 b.2) := AMem.cell_new (m := m.new false 1 (itV a).cells) rfl
    have e1 : (m.new false 1 (itV a).cells).next = m.next + 1 := rfl
    rw [e1]
    generalize ((m.new false 1 (itV a).cells).new false 1 (itV b).cells) = M at K0 a0 a1 b0 b1 ⊢
    refine XP.seq ?_; refine XP.drawnS (ms := [0, 1, 0, 4, 15, 0, 32, 0, 128, 511, 1023, 2047, 4095]) (by kernel_rfl) ?_; refine DP.pure (.fieldAddr rfl fa54_0) rfl rfl rfl ?_; refine DP.read (fun _ => op_load1 (ev_is rfl) lay3 a0) rfl rfl rfl (fun _ => op_load_leaf) (.inl (by kernel_rfl)) (fun _ => cuts_nil) ?_; refine DP.pure (.fieldAddr rfl fa54_0) rfl rfl rfl ?_; refine DP.read (fun _ => op_load1 (ev_is rfl) lay3 b0) rfl rfl rfl (fun _ => op_load_leaf) (.inl (by kernel_rfl)) (fun _ => cuts_nil) ?_; refine DP.heavy (.callS rfl rfl (call61 h73 h61 a.1 b.1)) rfl rfl rfl (by kernel_rfl) (by kernel_rfl) (Nat.le_refl _) (pk_drop (by kernel_rfl) (pk_drop (by kernel_rfl) pk_nil)) ?_; refine DP.pure (.fieldAddr rfl fa54_1) rfl rfl rfl ?_; refine DP.read (fun _ => op_load1 (ev_is rfl) lay3 a1) rfl rfl rfl (fun _ => op_load_leaf) (.inl (by kernel_rfl)) (fun _ => cuts_cons (reads_of (op_load1 (ev_is rfl) lay3 a1) eqV_int) cuts_nil) ?_; refine DP.pure (.fieldAddr rfl fa54_1) rfl rfl rfl ?_; refine DP.read (fun _ => op_load1 (ev_is rfl) lay3 b1) rfl rfl rfl (fun _ => op_load_leaf) (.inl (by kernel_rfl)) (fun _ => cuts_cons (reads_of (op_load1 (ev_is rfl) lay3 b1) eqV_int) cuts_nil) ?_; refine DP.heavy (.callS rfl rfl (call61 h73 h61 a.2 b.2)) rfl rfl rfl (by kernel_rfl) (by kernel_rfl) (Nat.le_refl _) (pk_drop (by kernel_rfl) (pk_drop (by kernel_rfl) pk_nil)) ?_
    obtain ⟨i28, e28, s28⟩ := ei28
    refine DP.make (.buildSlice rfl e28 (by rw [s28]; rfl) (by rw [s28]; rfl)) rfl rfl rfl ?_
    rw [s28]
    refine DP.heavy (.callS rfl rfl (call60 h60 (AMem.cell_new rfl) (AMem.cell_new rfl))) rfl rfl rfl (by kernel_rfl) (by kernel_rfl) (Nat.le_refl _) pk_nil ?_; refine DP.pure (.assign rfl) rfl rfl rfl ?_; refine DP.nil ?_
    exact XP.ret ⟨.inr rfl, _, _, oneRes rfl, rfl, K0.new _ _ _⟩
  obtain ⟨v, m', h, rfl, k⟩ := this
  exact ⟨m', h, k⟩
end Go.Ev
end
section
namespace Go.Ev
set_option linter.all false
open Go.Proofs
set_option maxRecDepth 10000
theorem und3 : Tryz.prog.underlying 3 = some (.int .i64) := by kernel_rfl
theorem und119 : Tryz.prog.underlying 119 = some (.int .u64) := by kernel_rfl
abbrev itC (x : Int × Int) : List AV := [.int .i64 x.1, .int .i64 x.2]
theorem rowLen {m : AMem} {v : AV} {xs : List (Int × Int)} (h : RowIs itC 2 m v xs) {M : AMem} : aLen Tryz.prog 46 v M = .mk (.int .i64 (.ofNat xs.length)) M := by
  rcases h with ⟨rfl, rfl⟩ | ⟨rfl, rfl⟩ | ⟨b, off, cap, rfl, _⟩
  · exact len46n
  · exact len46e
  · exact len46
/-- All of xs ahead of i are less than x, none from j on is. -/
structure CutAt (xs : List (Int × Int)) (x : Int × Int) (i j : Nat) : Prop where
  le : i ≤ j
  top : j ≤ xs.length
  low : ∀ k y, k < i → xs[k]? = some y → cmpIt y x < 0
  high : ∀ k y, j ≤ k → xs[k]? = some y → ¬ cmpIt y x < 0
/-- In order. -/
noncomputable def Sorted (xs : List (Int × Int)) : Prop := ∀ (i j : Nat) (y z : Int × Int), i < j → xs[i]? = some y → xs[j]? = some z → cmpIt y z < 0
theorem dlt {i j : Nat} (h : i < j) : decide (Int.ofNat i < Int.ofNat j) = true := decide_eq_true (Int.ofNat_lt.2 h)
theorem dnlt {i j : Nat} (h : ¬ i < j) : decide (Int.ofNat i < Int.ofNat j) = false := decide_eq_false fun k => h (Int.ofNat_lt.1 k)
theorem u64_small {n : Int} (h0 : 0 ≤ n) (h1 : n < 18446744073709551616) : IntKind.u64.wrap n = n := by
  simp [IntKind.wrap, IntKind.bits, IntKind.signed]
  omega
theorem i64_small {n : Int} (h0 : 0 ≤ n) (h1 : n < 9223372036854775808) : IntKind.i64.wrap n = n := by
  simp [IntKind.wrap, IntKind.bits, IntKind.signed]
  omega
theorem conv_u64 {S : Sums} {x : Operand} {n : Nat} {t0 : T AV} {σ : List (Nat × AV)} {m : AMem} (h : ev σ x = some (.int .i64 (.ofNat n))) (hn : n < 9223372036854775808) : OpTo Tryz.prog S (.convert 3 119 x) (toT t0 σ) m (.int .u64 (.ofNat n)) m := by
  have := convert_is (P := Tryz.prog) (S := S) (t0 := t0) (m := m) h (by rw [und3]; rfl) und119 (src := 3)
  have e : IntKind.u64.wrap (Int.ofNat n) = Int.ofNat n := u64_small (Int.natCast_nonneg n) (by show (n : Int) < _; omega)
  rwa [e] at this
theorem conv_i64 {S : Sums} {x : Operand} {n : Nat} {t0 : T AV} {σ : List (Nat × AV)} {m : AMem} (h : ev σ x = some (.int .u64 (.ofNat n))) (hn : n < 9223372036854775808) : OpTo Tryz.prog S (.convert 119 3 x) (toT t0 σ) m (.int .i64 (.ofNat n)) m := by
  have := convert_is (P := Tryz.prog) (S := S) (t0 := t0) (m := m) h (by rw [und119]; rfl) und3 (src := 119)
  have e : IntKind.i64.wrap (Int.ofNat n) = Int.ofNat n := i64_small (Int.natCast_nonneg n) (by show (n : Int) < _; omega)
  rwa [e] at this
theorem cmpI_neg {a b : Int} : cmpI a b < 0 ↔ a < b := by
  unfold cmpI
  by_cases h : a < b
  · simp [h]
  · by_cases k : b < a <;> simp [h, k]
theorem cmpI_zero {a b : Int} : cmpI a b = 0 ↔ a = b := by
  unfold cmpI
  by_cases h : a < b
  · simp [h]; omega
  · by_cases k : b < a
    · simp [h, k]; omega
    · simp [h, k]; omega
theorem cmpIt_neg {a b : Int × Int} : cmpIt a b < 0 ↔ a.1 < b.1 ∨ a.1 = b.1 ∧ a.2 < b.2 := by
  unfold cmpIt
  by_cases h : cmpI a.1 b.1 = 0
  · rw [if_pos h, cmpI_neg]
    have := cmpI_zero.1 h
    constructor
    · exact fun k => .inr ⟨this, k⟩
    · rintro (k | ⟨_, k⟩)
      · omega
      · exact k
  · rw [if_neg h, cmpI_neg]
    have : a.1 ≠ b.1 := fun e => h (cmpI_zero.2 e)
    constructor
    · exact .inl
    · rintro (k | ⟨k, _⟩)
      · exact k
      · exact absurd k this
theorem cmpIt_zero {a b : Int × Int} : cmpIt a b = 0 ↔ a = b := by
  unfold cmpIt
  by_cases h : cmpI a.1 b.1 = 0
  · rw [if_pos h, cmpI_zero]
    exact ⟨fun k => Prod.ext (cmpI_zero.1 h) k, fun k => by rw [k]⟩
  · rw [if_neg h]
    exact ⟨fun k => absurd k h, fun k => absurd (cmpI_zero.2 (by rw [k])) h⟩
theorem cmpIt_trans {x y z : Int × Int} (h : cmpIt x y < 0) (k : cmpIt y z < 0) : cmpIt x z < 0 := by
  rw [cmpIt_neg] at *
  omega
theorem cmpIt_low {x y z : Int × Int} (h : cmpIt x y < 0) (k : ¬ cmpIt x z < 0) : ¬ cmpIt y z < 0 := fun q => k (cmpIt_trans h q)
theorem CutAt.up {xs : List (Int × Int)} {x y : Int × Int} {i j h : Nat} (C : CutAt xs x i j) (hs : Sorted xs) (hi : i ≤ h) (hj : h < j) (hy : xs[h]? = some y) (hc : cmpIt y x < 0) : CutAt xs x (h + 1) j :=
  ⟨hj, C.top, fun k z hk hz => by
    rcases Nat.lt_or_ge k h with e | e
    · exact cmpIt_trans (hs k h z y e hz hy) hc
    · obtain rfl : k = h := by omega
      rw [hy] at hz; cases hz; exact hc, C.high⟩
theorem CutAt.down {xs : List (Int × Int)} {x y : Int × Int} {i j h : Nat} (C : CutAt xs x i j) (hs : Sorted xs) (hi : i ≤ h) (hj : h < j) (hy : xs[h]? = some y) (hc : ¬ cmpIt y x < 0) : CutAt xs x i h :=
  ⟨hi, Nat.le_of_lt (Nat.lt_of_lt_of_le hj C.top), C.low, fun k z hk hz => by
    rcases Nat.lt_or_ge h k with e | e
    · exact cmpIt_low (hs h k y z e hy hz) hc
    · obtain rfl : k = h := by omega
      rw [hy] at hz; cases hz; exact hc⟩
theorem call74 {S : Sums} (hS : Plain S [43, 60, 61, 73, 74]) {m : AMem} {v : AV} {xs : List (Int × Int)} (hv : RowIs itC 2 m v xs) (hx : xs.length < 4611686018427387904) (hs : Sorted xs) (x : Int × Int) :
    ∃ i b m', CallTo Tryz.prog S 74 [v, itV x, .fn 43 []] m (.tup [.int .i64 (.ofNat i), .bool b]) m' ∧ Kp Nothing m m' ∧ CutAt xs x i i ∧ (b = true ↔ ∃ y, xs[i]? = some y ∧ cmpIt y x = 0) := by
  have h74 := hS 74 (by decide)
  have hS' : Plain S [43, 60, 61, 73] := fun f hf => hS f (by simp at hf ⊢; omega)
  suffices H : ∃ u m', CallTo Tryz.prog S 74 [v, itV x, .fn 43 []] m u m' ∧ ∃ i b, u = .tup [.int .i64 (.ofNat i), .bool b] ∧ Kp Nothing m m' ∧ CutAt xs x i i ∧ (b = true ↔ ∃ y, xs[i]? = some y ∧ cmpIt y x = 0) by
    obtain ⟨u, m', h, i, b, rfl, h1, h2, h3⟩ := H
    exact ⟨i, b, m', h, h1, h2, h3⟩
  refine XP.call h74 cd74 nt74 ?_
  show XP _ _ _ _ (toT .leaf [(2, .fn 43 []), (1, itV x), (0, v)]) m _
  unfold Tryz.f74
  dsimp only [Option.getD_some]
  refine XP.seq ?_; refine XP.regionS ?_; refine RP.op (.box rfl rfl) rfl rfl (Nat.le_succ _) ?_; refine RP.o1 (.assign rfl) rfl rfl ?_; refine RP.o1 (.assign rfl) rfl rfl ?_; refine RP.nil ?_
  have K0 : Kp Nothing m (m.new false 1 (itV x).cells) := (Kp.refl m).new _ _ _
  have R0 : RowAt itC 2 (m.new false 1 (itV x).cells) m.next 0 [x] := ⟨Nat.lt_succ_self _, ⟨1, 2, (AMem.new_own _ _ _ _).blk, by simp⟩, fun i y hy j hj => by
    obtain ⟨rfl, rfl⟩ : i = 0 ∧ x = y := by
      cases i with
      | zero => simpa using hy
      | succ i => simp at hy
    rw [show 0 + 0 * 2 + j = j by omega, AMem.new_cell]; rfl⟩
  generalize m.new false 1 (itV x).cells = M at K0 R0 ⊢
  refine XP.seq ?_; refine XP.regionS ?_; refine RP.o1 (.move rfl) rfl rfl ?_; refine RP.o1 (.len rfl (rowLen hv)) rfl rfl ?_; refine RP.o1 (.assign rfl) rfl rfl ?_; refine RP.nil ?_; refine XP.seq ?_; refine XP.regionS ?_; refine RP.o1 (.move rfl) rfl rfl ?_; refine RP.o1 (.assign rfl) rfl rfl ?_; refine RP.o1 (.assign rfl) rfl rfl ?_; refine RP.nil ?_; refine XP.seq ?_
  refine XP.block ?_  -- block 0
  refine XP.while (fun d t m1 => ∃ i j t0, t = toT t0 [(9, .int .i64 (.ofNat i)), (10, .int .i64 (.ofNat j)), (8, .int .i64 (.ofNat xs.length)), (4, .ptr m.next 0), (2, .fn 43 []), (0, v)] ∧ d = j - i ∧ CutAt xs x i j ∧ Kp Nothing M m1) ?_ xs.length _ _ ?_
  rotate_left
  · exact ⟨0, xs.length, _, toT_less (.cons rfl (.cons rfl (.cons rfl (.cons rfl (.cons rfl (.cons rfl .nil)))))), rfl, ⟨Nat.zero_le _, Nat.le_refl _, fun k y hk => absurd hk (Nat.not_lt_zero _), fun k y hk hy => by rw [List.getElem?_eq_none hk] at hy; cases hy⟩, .refl _⟩
  rintro d t m1 ⟨i, j, t0, rfl, rfl, C, K1⟩
  have hCle := C.le
  have hCtop := C.top
  refine XP.seq ?_; refine XP.seq ?_; refine XP.regionS ?_; refine RP.o1 (.move rfl) rfl rfl ?_; refine RP.o1 (.move rfl) rfl rfl ?_; refine RP.o1 (.bin rfl rfl lss_is) rfl rfl ?_; refine RP.nil ?_
  refine XP.condS _ rfl ?_  -- if t17
  by_cases hij : i < j
  · rw [dlt hij]
    refine XP.skip ?_
    refine XP.block ?_  -- block 1
    refine XP.seq ?_; refine XP.regionS ?_; refine RP.o1 (.move rfl) rfl rfl ?_; refine RP.o1 (.move rfl) rfl rfl ?_; refine RP.o1 (.bin rfl rfl (v := .int .i64 (.ofNat (i + j))) (add_is (by show _ ≤ (i : Int) + j; omega) (by show (i : Int) + j < _; omega))) rfl rfl ?_
    refine RP.o1 (conv_u64 rfl (by omega)) rfl rfl ?_; refine RP.o1 (.bin rfl rfl shr1_is) rfl rfl ?_; refine RP.o1 (conv_i64 rfl (by omega)) rfl rfl ?_; refine RP.o1 (.assign rfl) rfl rfl ?_; refine RP.nil ?_
    have g1 : i ≤ (i + j) / 2 := by omega
    have g2 : (i + j) / 2 < j := by omega
    generalize (i + j) / 2 = h at g1 g2 ⊢
    obtain ⟨y, hy⟩ : ∃ y, xs[h]? = some y := ⟨xs[h]'(by omega), List.getElem?_eq_getElem _⟩
    rcases hv with ⟨rfl, rfl⟩ | ⟨rfl, rfl⟩ | ⟨b, off, cap, rfl, R⟩
    · cases hy
    · cases hy
    have R1 : RowAt itC 2 m1 b off xs := (R.keep K0 id).keep K1 id
    have R2 : RowAt itC 2 m1 m.next 0 [x] := R0.keep K1 id
    obtain ⟨E1, N1, hb1, hn1⟩ := R1.blk
    obtain ⟨E2, N2, hb2, hn2⟩ := R2.blk
    obtain ⟨m2, hcall, K2⟩ := call43 hS' (m := m1) y x
    refine XP.seq ?_; refine XP.drawnS (ms := [0, 0, 0, 6, 14, 0, 63, 127]) (by kernel_rfl) ?_; refine DP.pure (.move rfl) rfl rfl rfl ?_; refine DP.pure (.move rfl) rfl rfl rfl ?_; refine DP.pure (.move rfl) rfl rfl rfl ?_; refine DP.pure (.indexAddr rfl rfl ix46 (by omega)) rfl rfl rfl ?_; refine DP.read (fun _ => op_loadN (l := itC y) (ev_is rfl) lay54 (fun j hj => R1.at_ h y hy j hj) hb1 (by show off + h * 2 + 2 ≤ N1; omega)) rfl rfl rfl (fun _ => op_load_leaf) (.inl (by kernel_rfl)) (fun _ => cuts_nil) ?_
    refine DP.read (fun _ => op_loadN (l := itC x) (ev_is rfl) lay54 (fun j hj => by have := R2.at_ 0 x rfl j hj; simpa using this) hb2 (by show 0 + 2 ≤ N2; simpa using hn2)) rfl rfl rfl (fun _ => op_load_leaf) (.inl (by kernel_rfl)) (fun _ => cuts_nil) ?_
    refine DP.heavy (.callS rfl rfl hcall) rfl rfl rfl (by kernel_rfl) (by kernel_rfl) K2.le (pk_drop (by kernel_rfl) (pk_drop (by kernel_rfl) pk_nil)) ?_; refine DP.pure (.bin rfl rfl lss_is) rfl rfl rfl ?_; refine DP.nil ?_
    refine XP.condS _ rfl ?_  -- if t31
    by_cases hc : cmpIt y x < 0
    · rw [decide_eq_true hc]
      refine XP.regionS ?_; refine RP.o1 (.move rfl) rfl rfl ?_; refine RP.o1 (.bin rfl rfl (v := .int .i64 (.ofNat (h + 1))) (add_is (by show _ ≤ (h : Int) + 1; omega) (by show (h : Int) + 1 < _; omega))) rfl rfl ?_
      refine RP.o1 (.assign rfl) rfl rfl ?_; refine RP.nil ?_
      exact ⟨j - (h + 1), by omega, h + 1, j, _, toT_less (.cons rfl (.cons rfl (.cons rfl (.cons rfl (.cons rfl (.cons rfl .nil)))))), rfl, C.up hs g1 g2 hy hc, K1.trans K2⟩
    · rw [decide_eq_false hc]
      refine XP.regionS ?_; refine RP.o1 (.move rfl) rfl rfl ?_; refine RP.o1 (.assign rfl) rfl rfl ?_; refine RP.nil ?_
      exact ⟨h - i, by omega, i, h, _, toT_less (.cons rfl (.cons rfl (.cons rfl (.cons rfl (.cons rfl (.cons rfl .nil)))))), rfl, C.down hs g1 g2 hy hc, K1.trans K2⟩
  · rw [dnlt hij]
    obtain rfl : i = j := by omega
    refine XP.exit ?_; refine XP.seq ?_
    by_cases hin : i < xs.length
    · obtain ⟨y, hy⟩ : ∃ y, xs[i]? = some y := ⟨xs[i]'hin, List.getElem?_eq_getElem _⟩
      rcases hv with ⟨rfl, rfl⟩ | ⟨rfl, rfl⟩ | ⟨b, off, cap, rfl, R⟩
      · cases hy
      · cases hy
      have R1 : RowAt itC 2 m1 b off xs := (R.keep K0 id).keep K1 id
      have R2 : RowAt itC 2 m1 m.next 0 [x] := R0.keep K1 id
      obtain ⟨E1, N1, hb1, hn1⟩ := R1.blk
      obtain ⟨E2, N2, hb2, hn2⟩ := R2.blk
      obtain ⟨m2, hcall, K2⟩ := call43 hS' (m := m1) y x
      refine XP.drawnS (ms := [0, 0, 0, 6, 14, 30, 30, 30, 222, 478, 30, 2046, 4094, 8190, 4095, 32767]) (by kernel_rfl) ?_; refine DP.pure (.move rfl) rfl rfl rfl ?_; refine DP.pure (.move rfl) rfl rfl rfl ?_; refine DP.pure (.move rfl) rfl rfl rfl ?_; refine DP.pure (.bin rfl rfl lss_is) rfl rfl rfl ?_
      rw [dlt hin]
      refine DP.pure (.move rfl) rfl rfl rfl ?_; refine DP.pure (.move rfl) rfl rfl ⟨_,_,_,rfl,rfl,rfl,rfl⟩ ?_; refine DP.pure (.move rfl) rfl rfl ⟨_,_,_,rfl,rfl,rfl,rfl⟩ ?_; refine DP.pure (.move rfl) rfl rfl ⟨_,_,_,rfl,rfl,rfl,rfl⟩ ?_; refine DP.pure (.indexAddr rfl rfl ix46 hin) rfl rfl ⟨_,_,_,rfl,rfl,rfl,rfl⟩ ?_; refine DP.read (fun _ => op_loadN (l := itC y) (ev_is rfl) lay54 (fun j hj => R1.at_ i y hy j hj) hb1 (by show off + i * 2 + 2 ≤ N1; omega)) rfl rfl ⟨_,_,_,rfl,rfl,rfl,rfl⟩ (fun _ => op_load_leaf) (.inl (by kernel_rfl)) (fun _ => cuts_nil) ?_
      refine DP.read (fun _ => op_loadN (l := itC x) (ev_is rfl) lay54 (fun j hj => by have := R2.at_ 0 x rfl j hj; simpa using this) hb2 (by show 0 + 2 ≤ N2; simpa using hn2)) rfl rfl ⟨_,_,_,rfl,rfl,rfl,rfl⟩ (fun _ => op_load_leaf) (.inl (by kernel_rfl)) (fun _ => cuts_nil) ?_
      refine DP.heavy (.callS rfl rfl hcall) rfl rfl ⟨_,_,_,rfl,rfl,rfl,rfl⟩ (by kernel_rfl) (by kernel_rfl) K2.le (pk_drop (by kernel_rfl) (pk_drop (by kernel_rfl) pk_nil)) ?_; refine DP.pure (.bin rfl rfl eql_is) rfl rfl ⟨_,_,_,rfl,rfl,rfl,rfl⟩ ?_; refine DP.pure (.pick (b := true) rfl rfl) rfl rfl rfl ?_; refine DP.pure (.assign rfl) rfl rfl rfl ?_; refine DP.pure (.assign rfl) rfl rfl rfl ?_; refine DP.nil ?_
      refine XP.ret ⟨.inr rfl, _, _, twoRes rfl rfl, i, _, rfl, (K0.trans K1).trans K2, C, ?_⟩
      rw [decide_eq_true_iff]
      exact ⟨fun k => ⟨y, hy, k⟩, fun ⟨z, hz, k⟩ => by rw [hy] at hz; cases hz; exact k⟩
    · refine XP.drawnS (ms := [0, 0, 0, 6, 14, 30, 30, 30, 222, 478, 30, 2046, 4094, 8190, 4095, 32767]) (by kernel_rfl) ?_; refine DP.pure (.move rfl) rfl rfl rfl ?_; refine DP.pure (.move rfl) rfl rfl rfl ?_; refine DP.pure (.move rfl) rfl rfl rfl ?_; refine DP.pure (.bin rfl rfl lss_is) rfl rfl rfl ?_
      rw [dnlt hin]
      refine DP.pure (.move rfl) rfl rfl rfl ?_; refine DP.skip ⟨_,_,_,rfl,rfl,rfl,rfl⟩ rfl ?_; refine DP.skip ⟨_,_,_,rfl,rfl,rfl,rfl⟩ rfl ?_; refine DP.skip ⟨_,_,_,rfl,rfl,rfl,rfl⟩ rfl ?_; refine DP.skip ⟨_,_,_,rfl,rfl,rfl,rfl⟩ rfl ?_; refine DP.skip ⟨_,_,_,rfl,rfl,rfl,rfl⟩ rfl ?_; refine DP.skip ⟨_,_,_,rfl,rfl,rfl,rfl⟩ rfl ?_; refine DP.skip ⟨_,_,_,rfl,rfl,rfl,rfl⟩ rfl ?_; refine DP.skip ⟨_,_,_,rfl,rfl,rfl,rfl⟩ rfl ?_; refine DP.pure (.pick (b := false) rfl rfl) rfl rfl rfl ?_; refine DP.pure (.assign rfl) rfl rfl rfl ?_; refine DP.pure (.assign rfl) rfl rfl rfl ?_; refine DP.nil ?_
      refine XP.ret ⟨.inr rfl, _, _, twoRes rfl rfl, i, false, rfl, K0.trans K1, C, ?_⟩
      rw [List.getElem?_eq_none (by omega)]
      simp
end Go.Ev
end
section
namespace Go.Ev
set_option linter.all false
section
variable {α : Type}
/-- All cells of a row. -/
noncomputable def flat (enc : α → List AV) (xs : List α) : List AV := xs.flatMap enc
theorem flat_length {enc : α → List AV} {sz : Nat} (h : ∀ a, (enc a).length = sz) : ∀ xs : List α, (flat enc xs).length = xs.length * sz
  | [] => by simp [flat]
  | x :: xs => by
    have := flat_length h xs
    simp only [flat, List.flatMap_cons, List.length_append, List.length_cons] at this ⊢
    rw [h, this, Nat.succ_mul]; omega
theorem flat_get {enc : α → List AV} {sz : Nat} (h : ∀ a, (enc a).length = sz) : ∀ (xs : List α) (i : Nat) (x : α), xs[i]? = some x → ∀ j, j < sz → (flat enc xs)[i * sz + j]? = (enc x)[j]?
  | [], i, x, hx, _, _ => by simp at hx
  | y :: xs, 0, x, hx, j, hj => by
    simp at hx; subst hx
    rw [show 0 * sz + j = j by omega]
    show (enc y ++ flat enc xs)[j]? = _
    rw [List.getElem?_append_left (by rw [h]; exact hj)]
  | y :: xs, i + 1, x, hx, j, hj => by
    have := flat_get h xs i x (by simpa using hx) j hj
    show (enc y ++ flat enc xs)[(i + 1) * sz + j]? = _
    rw [List.getElem?_append_right (by rw [h, Nat.succ_mul]; omega), h, ← this]
    congr 1
    rw [Nat.succ_mul]; omega
theorem flat_append {enc : α → List AV} (xs ys : List α) : flat enc (xs ++ ys) = flat enc xs ++ flat enc ys := by simp [flat]
theorem flat_plain {enc : α → List AV} (h : ∀ a, (enc a).all AV.plain = true) : ∀ xs : List α, (flat enc xs).all AV.plain = true
  | [] => rfl
  | x :: xs => by
    have := flat_plain h xs
    show (enc x ++ flat enc xs).all AV.plain = true
    rw [List.all_append, h, this]; rfl
/-- A kind of elements. -/
structure Enc (enc : α → List AV) (sz : Nat) : Prop where
  len : ∀ a, (enc a).length = sz
  plain : ∀ a, (enc a).all AV.plain = true
variable {enc : α → List AV} {sz : Nat}
theorem RowAt.cells {m : AMem} {b off : Nat} {xs : List α} (he : Enc enc sz) (hz : 0 < sz) (R : RowAt enc sz m b off xs) (j : Nat) (hj : j < (flat enc xs).length) : m.cell b (off + j) = (flat enc xs)[j]? := by
  rw [flat_length he.len] at hj
  have hi : j / sz < xs.length := by rw [Nat.div_lt_iff_lt_mul hz]; exact hj
  have h1 := R.at_ (j / sz) xs[j / sz] (List.getElem?_eq_getElem hi) (j % sz) (Nat.mod_lt _ hz)
  have h2 := flat_get he.len xs (j / sz) xs[j / sz] (List.getElem?_eq_getElem hi) (j % sz) (Nat.mod_lt _ hz)
  have e : j / sz * sz + j % sz = j := by rw [Nat.mul_comm]; exact Nat.div_add_mod j sz
  rw [e] at h2
  rw [h2, ← h1]
  congr 1
  omega
theorem RowAt.load {m : AMem} {b off : Nat} {xs : List α} (he : Enc enc sz) (hz : 0 < sz) (R : RowAt enc sz m b off xs) {k : List AV → OR} : loadK m b off (xs.length * sz) k = k (flat enc xs) := by
  obtain ⟨E, N, h1, h2⟩ := R.blk
  rw [← flat_length he.len xs] at h2 ⊢
  exact loadK_is (fun j hj => R.cells he hz j hj) h1 h2
/-- A new row. -/
theorem RowAt.new {m : AMem} {sg : Bool} {xs : List α} (he : Enc enc sz) : RowAt enc sz (m.new sg sz (flat enc xs)) m.next 0 xs :=
  ⟨Nat.lt_succ_self _, ⟨sz, _, (AMem.new_own _ _ _ _).blk, by rw [flat_length he.len]; omega⟩, fun i x hx j hj => by
    rw [AMem.new_cell, Nat.zero_add]
    exact flat_get he.len xs i x hx j hj⟩
theorem elems_is {m : AMem} {v : AV} {xs : List α} (he : Enc enc sz) (hz : 0 < sz) (h : RowIs enc sz m v xs) {k : List AV → OR} : elemsK m sz xs.length v k = k (flat enc xs) := by
  rcases h with ⟨rfl, rfl⟩ | ⟨rfl, rfl⟩ | ⟨b, off, cap, rfl, R⟩
  · rfl
  · rfl
  · show bif2 (Nat.ble xs.length xs.length) (loadK m b off (Nat.mul xs.length sz) k) _ = _
    rw [bif2_eq, if_pos (Nat.ble_eq_true_of_le (Nat.le_refl _))]
    exact R.load he hz
theorem RowIs.lenA {m : AMem} {v : AV} {xs : List α} (h : RowIs enc sz m v xs) : lenA v = some xs.length := by
  rcases h with ⟨rfl, rfl⟩ | ⟨rfl, rfl⟩ | ⟨b, off, cap, rfl, R⟩ <;> rfl
theorem RowIs.keep {m m' : AMem} {v : AV} {xs : List α} {D : Nat → Prop} (h : RowIs enc sz m v xs) (k : Kp D m m') (hd : ∀ b off n c, v = .slice b off n c → ¬ D b) : RowIs enc sz m' v xs := by
  rcases h with h | h | ⟨b, off, cap, rfl, R⟩
  · exact .inl h
  · exact .inr (.inl h)
  · exact .inr (.inr ⟨b, off, cap, rfl, R.keep k (hd b off _ cap rfl)⟩)
variable {P : Program}
theorem grow_is {l : List AV} {n : Nat} {m : AMem} : growA sz l n m = .mk (.slice m.next 0 n none) (m.new true sz l) := newBlk_is _ _ _ _ _
/-- Behind a slice that has no room: what was there and what is told go to a new array. -/
theorem append_full {st : TypeId} {xt : Option TypeId} {i : TypeInfo} {z : List AV} {b off c : Nat} {v : AV} {xs ys : List α} {m : AMem} (he : Enc enc sz) (hz : 0 < sz) (hi : elemInfo P st = some (i, z)) (hs : i.size = sz) (ha : appendable P xt = true)
    (R : RowAt enc sz m b off xs) (hy : RowIs enc sz m v ys) (hc : c < xs.length + ys.length) (h0 : 0 < ys.length) (hx1 : xs.length ≤ 1048576) (hy1 : ys.length ≤ 1048576) :
    aAppend P st xt (.slice b off xs.length (some c)) v m = .mk (.slice m.next 0 (xs.length + ys.length) none) (m.new true sz (flat enc (xs ++ ys))) := by
  unfold aAppend
  rw [hi]
  simp only
  rw [ha, hy.lenA]
  show bif2 false _ (fNat ys.length fun n => bif2 (Nat.blt 1048576 n) (.fail 84) (bif2 (Nat.beq n 0) _ (bif2 (Nat.blt 1048576 xs.length) (.fail 84) (appendTo i.size (.slice b off xs.length (some c)) v b off xs.length (some c) n m)))) = _
  rw [bif2_eq, if_neg (by decide), fNat_eq, bif2_eq, if_neg (by simp [Nat.blt_eq]; omega), bif2_eq, if_neg (by intro h; have := Nat.eq_of_beq_eq_true h; omega), bif2_eq, if_neg (by simp [Nat.blt_eq]; omega)]
  unfold appendTo
  rw [fNat_eq]
  obtain ⟨E, N, ⟨ro, sg, c0, e⟩, h2⟩ := R.blk
  unfold blkK
  rw [e]
  simp only
  rw [bif2_eq, if_neg (by intro h; have : xs.length + ys.length ≤ c := Nat.le_of_ble_eq_true h; omega), hs]
  rw [elems_is he hz (.inr (.inr ⟨b, off, some c, rfl, R⟩)), elems_is he hz hy, grow_is, flat_append]
  rfl
/-- Nothing behind a slice. -/
theorem append_zero {st : TypeId} {xt : Option TypeId} {i : TypeInfo} {z : List AV} {b off n : Nat} {c : Option Nat} {v : AV} {m : AMem} (hi : elemInfo P st = some (i, z)) (ha : appendable P xt = true) (hy : RowIs enc sz m v []) :
    aAppend P st xt (.slice b off n c) v m = .mk (.slice b off n c) m := by
  unfold aAppend
  rw [hi]
  simp only
  rw [ha, hy.lenA]
  rfl
/-- Behind nothing. -/
theorem append_nil {st : TypeId} {xt : Option TypeId} {i : TypeInfo} {z : List AV} {v : AV} {ys : List α} {m : AMem} (he : Enc enc sz) (hz : 0 < sz) (hi : elemInfo P st = some (i, z)) (hs : i.size = sz) (ha : appendable P xt = true)
    (hy : RowIs enc sz m v ys) (h0 : 0 < ys.length) (hy1 : ys.length ≤ 1048576) :
    aAppend P st xt .nils v m = .mk (.slice m.next 0 ys.length none) (m.new true sz (flat enc ys)) := by
  unfold aAppend
  rw [hi]
  simp only
  rw [ha, hy.lenA]
  show bif2 false _ (fNat ys.length fun n => bif2 (Nat.blt 1048576 n) (.fail 84) (bif2 (Nat.beq n 0) _ (elemsK m i.size n v fun new => growA i.size new n m))) = _
  rw [bif2_eq, if_neg (by decide), fNat_eq, bif2_eq, if_neg (by simp [Nat.blt_eq]; omega), bif2_eq, if_neg (by intro h; have := Nat.eq_of_beq_eq_true h; omega), hs, elems_is he hz hy, grow_is]
/-- Behind a row of one's own that ends where its block ends: the block is let go. -/
theorem append_own {st : TypeId} {xt : Option TypeId} {i : TypeInfo} {z : List AV} {b off : Nat} {v : AV} {xs ys : List α} {m : AMem} (he : Enc enc sz) (hz : 0 < sz) (hi : elemInfo P st = some (i, z)) (hs : i.size = sz) (ha : appendable P xt = true)
    (R : RowAt enc sz m b off xs) (ho : m.own b sz (off + xs.length * sz)) (hy : RowIs enc sz m v ys) (h0 : 0 < ys.length) (hx1 : xs.length ≤ 1048576) (hy1 : ys.length ≤ 1048576) :
    aAppend P st xt (.slice b off xs.length none) v m = .mk (.slice m.next 0 (xs.length + ys.length) none) ((m.drop b).new true sz (flat enc (xs ++ ys))) := by
  unfold aAppend
  rw [hi]
  simp only
  rw [ha, hy.lenA]
  show bif2 false _ (fNat ys.length fun n => bif2 (Nat.blt 1048576 n) (.fail 84) (bif2 (Nat.beq n 0) _ (bif2 (Nat.blt 1048576 xs.length) (.fail 84) (appendTo i.size (.slice b off xs.length none) v b off xs.length none n m)))) = _
  rw [bif2_eq, if_neg (by decide), fNat_eq, bif2_eq, if_neg (by simp [Nat.blt_eq]; omega), bif2_eq, if_neg (by intro h; have := Nat.eq_of_beq_eq_true h; omega), bif2_eq, if_neg (by simp [Nat.blt_eq]; omega)]
  unfold appendTo
  rw [fNat_eq]
  obtain ⟨sg, c0, e⟩ := ho
  unfold blkK
  rw [e]
  simp only
  rw [hs, bif2_eq, if_pos (Nat.beq_refl _), bif2_eq, if_neg, bif2_eq, if_pos (show Nat.beq (Nat.add off (Nat.mul xs.length sz)) (off + xs.length * sz) = true from Nat.beq_refl _)]
  · unfold appendEnd
    rw [bif2_eq, if_neg (by decide), elems_is he hz (.inr (.inr ⟨b, off, none, rfl, R⟩)), elems_is he hz hy, bif2_eq, if_pos (flat_plain he.plain _), T.setK_is, grow_is, flat_append]
    rfl
  · intro h
    have h : off + (xs.length + ys.length) * sz ≤ off + xs.length * sz := Nat.le_of_ble_eq_true h
    have : (xs.length + ys.length) * sz = xs.length * sz + ys.length * sz := Nat.add_mul _ _ _
    have : 0 < ys.length * sz := Nat.mul_pos h0 hz
    omega
end
theorem op_append {P : Program} {call : Call} {t0 : T AV} {σ : List (Nat × AV)} {m m' : AMem} {s x : Operand} {t1 t2 : TypeId} {a b v : AV} (hs : ev σ s = some a) (hx : ev σ x = some b) (h : aAppend P t1 (some t2) a b m = .mk v m') : opTab (.call ⟨.builtin .append, #[s, x], #[t1, t2]⟩) P call (toT t0 σ) m = .mk v m' := by
  show evsK (toT t0 σ) [s, x] (fun vs => builtinA P .append #[t1, t2] vs m) = _
  rw [evsK_eq]
  show aAppend P t1 (some t2) (evA (toT t0 σ) s) (evA (toT t0 σ) x) m = _
  rw [ev_is hs, ev_is hx, h]
end Go.Ev
end
section
namespace Go.Ev
set_option linter.all false
/-- A block of one's own with just these cells. -/
structure BoxIs (m : AMem) (b : Nat) (l : List AV) : Prop where
  own : m.own b 1 l.length
  lt : b < m.next
  at_ : ∀ j, m.cell b j = l[j]?
theorem BoxIs.new {m : AMem} {l : List AV} : BoxIs (m.new false 1 l) m.next l := ⟨AMem.new_own _ _ _ _, Nat.lt_succ_self _, fun _ => AMem.new_cell _ _ _ _ _⟩
theorem BoxIs.keep {m m' : AMem} {b : Nat} {l : List AV} {D : Nat → Prop} (h : BoxIs m b l) (k : Kp D m m') (hd : ¬ D b) : BoxIs m' b l :=
  ⟨AMem.own_of h.own (k.old b h.lt hd), Nat.lt_of_lt_of_le h.lt k.le, fun j => (AMem.cell_of (k.old b h.lt hd) j).trans (h.at_ j)⟩
theorem BoxIs.whole {m : AMem} {b : Nat} {l l' : List AV} (h : BoxIs m b l) (hl : l'.length = l.length) : BoxIs (m.write b 0 l') b l' := by
  refine ⟨by rw [hl]; exact AMem.write_own _ _ _ _ h.own, by rw [AMem.write_next]; exact h.lt, fun j => ?_⟩
  rw [AMem.write_cell _ _ _ _ h.own (by omega)]
  by_cases hj : j < l'.length
  · rw [if_pos (by omega)]; simp
  · rw [if_neg (by omega), h.at_ j, List.getElem?_eq_none (by omega), List.getElem?_eq_none (by omega)]
theorem Kp.write {D : Nat → Prop} {m m' : AMem} (h : Kp D m m') {b off : Nat} {l : List AV} (hb : m.next ≤ b ∨ D b) : Kp D m (m'.write b off l) := ⟨by rw [AMem.write_next]; exact h.le, fun c hc hd => by
  have hne : c ≠ b := fun e => by
    subst e
    rcases hb with k | k
    · omega
    · exact hd k
  rw [AMem.write_old _ _ _ _ hne]
  exact h.old c hc hd⟩
theorem Kp.drop {D : Nat → Prop} {m m' : AMem} (h : Kp D m m') {b : Nat} (hb : m.next ≤ b ∨ D b) : Kp D m (m'.drop b) := ⟨h.le, fun c hc hd => by
  have hne : c ≠ b := fun e => by
    subst e
    rcases hb with k | k
    · omega
    · exact hd k
  rw [AMem.drop_old _ _ hne]
  exact h.old c hc hd⟩
/-- A row of one's own that grows: nil, or all of a block made since (its capacity open, or just its length). -/
noncomputable def GrowIs {α : Type} (enc : α → List AV) (sz : Nat) (lo : Nat) (m : AMem) (v : AV) (xs : List α) : Prop := (v = .nils ∧ xs = []) ∨ ∃ b c, v = .slice b 0 xs.length c ∧ lo ≤ b ∧ RowAt enc sz m b 0 xs ∧ (c = none ∨ c = some xs.length) ∧ m.own b sz (xs.length * sz)
section
variable {α : Type} {enc : α → List AV} {sz : Nat}
theorem GrowIs.row {lo : Nat} {m : AMem} {v : AV} {xs : List α} (h : GrowIs enc sz lo m v xs) : RowIs enc sz m v xs := by
  rcases h with h | ⟨b, c, rfl, _, R, _⟩
  · exact .inl h
  · exact .inr (.inr ⟨b, 0, c, rfl, R⟩)
theorem GrowIs.keep {lo : Nat} {m m' : AMem} {v : AV} {xs : List α} {D : Nat → Prop} (h : GrowIs enc sz lo m v xs) (k : Kp D m m') (hd : ∀ b off n c, v = .slice b off n c → ¬ D b) : GrowIs enc sz lo m' v xs := by
  rcases h with h | ⟨b, c, rfl, hl, R, hc, ho⟩
  · exact .inl h
  · exact .inr ⟨b, c, rfl, hl, R.keep k (hd b _ _ _ rfl), hc, AMem.own_of ho (k.old b R.lt (hd b _ _ _ rfl))⟩
/-- The one element that append is handed lies in a block of its own. -/
theorem one_row {m : AMem} {x : α} (he : Enc enc sz) : RowIs enc sz (m.new false sz (enc x)) (.slice m.next 0 1 (some 1)) [x] := by
  refine .inr (.inr ⟨m.next, 0, some 1, rfl, ?_⟩)
  have : flat enc [x] = enc x := by simp [flat]
  rw [← this]
  exact RowAt.new he
/-- l = append(l, x): behind the block of the one element. -/
theorem append_one {P : Program} {st : TypeId} {xt : Option TypeId} {i : TypeInfo} {z : List AV} {lo : Nat} {m : AMem} {v : AV} {xs : List α} {x : α} (he : Enc enc sz) (hz : 0 < sz) (hi : elemInfo P st = some (i, z)) (hs : i.size = sz) (ha : appendable P xt = true)
    (h : GrowIs enc sz lo m v xs) (hlo : lo ≤ m.next) (hx : xs.length < 1048576) :
    ∃ u m', aAppend P st xt v (.slice m.next 0 1 (some 1)) (m.new false sz (enc x)) = .mk u m' ∧ (m.new false sz (enc x)).next ≤ m'.next ∧ GrowIs enc sz lo m' u (xs ++ [x]) ∧ Kp (fun b => lo ≤ b) m m' ∧
      (∀ b, b < m.next → (∀ off n c, v ≠ .slice b off n c) → m'.t.get b = m.t.get b) ∧ (∀ b off n c, u = .slice b off n c → m.next ≤ b) := by
  have hy := one_row (m := m) (x := x) he
  have K1 : Kp Nothing m (m.new false sz (enc x)) := (Kp.refl m).new _ _ _
  have h1 := h.keep K1 (fun _ _ _ _ _ => id)
  have N1 : (m.new false sz (enc x)).next = m.next + 1 := rfl
  generalize m.new false sz (enc x) = M at hy K1 h1 N1 ⊢
  rcases h1 with ⟨rfl, rfl⟩ | ⟨b, c, rfl, hl, R, hc, ho⟩
  · refine ⟨_, _, append_nil he hz hi hs ha hy (by simp) (by simp), Nat.le_succ _, .inr ⟨M.next, none, by simp, by omega, RowAt.new he, .inl rfl, ?_⟩, ?_, ?_, ?_⟩
    · have := AMem.new_own M true sz (flat enc [x]); rwa [flat_length he.len] at this
    · exact (K1.new _ _ _).mono fun _ _ h => h.elim
    · intro c hc _; exact (K1.new true sz _).old c hc id
    · rintro c off n k e; injection e with e; omega
  · have hb : b < m.next := by
      rcases h with ⟨e, _⟩ | ⟨b', c', e, _, R', _⟩
      · cases e
      · injection e with e; subst e; exact R'.lt
    have hK : Kp (fun b => lo ≤ b) m M := K1.mono fun _ _ h => h.elim
    rcases hc with rfl | rfl
    · refine ⟨_, _, append_own he hz hi hs ha R (by simpa using ho) hy (by simp) (by omega) (by simp), Nat.le_succ _, .inr ⟨M.next, none, by simp, by omega, RowAt.new he, .inl rfl, ?_⟩, ?_, ?_, ?_⟩
      · have := AMem.new_own (M.drop b) true sz (flat enc (xs ++ [x])); rwa [flat_length he.len] at this
      · exact (hK.drop (.inr hl)).new _ _ _
      · intro c hc hne
        rw [AMem.new_old _ _ _ _ (by show c ≠ M.next; omega), AMem.drop_old _ _ (by rintro rfl; exact hne _ _ _ rfl)]
        exact K1.old c hc id
      · rintro c off n k e; injection e with e; subst e; show m.next ≤ M.next; omega
    · refine ⟨_, _, append_full he hz hi hs ha R hy (by simp) (by simp) (by omega) (by simp), Nat.le_succ _, .inr ⟨M.next, none, by simp, by omega, RowAt.new he, .inl rfl, ?_⟩, ?_, ?_, ?_⟩
      · have := AMem.new_own M true sz (flat enc (xs ++ [x])); rwa [flat_length he.len] at this
      · exact hK.new _ _ _
      · intro c hc hne
        rw [AMem.new_old _ _ _ _ (by show c ≠ M.next; omega)]
        exact K1.old c hc id
      · rintro c off n k e; injection e with e; subst e; show m.next ≤ M.next; omega
end
end Go.Ev
end
section
namespace Go.Ev
set_option linter.all false
open Go.Proofs
set_option maxRecDepth 10000
theorem encIt : Enc itC 2 := ⟨fun _ => rfl, fun _ => rfl⟩
/-- A set at a block: its compare, its row. -/
structure SetIs (m : AMem) (g : Nat) (v : AV) (xs : List (Int × Int)) : Prop where
  own : m.own g 1 2
  lt : g < m.next
  fn : m.cell g 0 = some (.fn 43 [])
  sl : m.cell g 1 = some v
  row : (v = .nils ∧ xs = []) ∨ ∃ b, v = .slice b 0 xs.length none ∧ RowAt itC 2 m b 0 xs ∧ m.own b 2 (xs.length * 2) ∧ b ≠ g
  srt : Sorted xs
theorem SetIs.isRow {m : AMem} {g : Nat} {v : AV} {xs : List (Int × Int)} (h : SetIs m g v xs) : RowIs itC 2 m v xs := by
  rcases h.row with k | ⟨b, rfl, R, _⟩
  · exact .inl k
  · exact .inr (.inr ⟨b, 0, none, rfl, R⟩)
theorem SetIs.keep {m m' : AMem} {g : Nat} {v : AV} {xs : List (Int × Int)} {D : Nat → Prop} (h : SetIs m g v xs) (k : Kp D m m') (hg : ¬ D g) (hd : ∀ b off n c, v = .slice b off n c → ¬ D b) : SetIs m' g v xs := by
  have e := k.old g h.lt hg
  refine ⟨AMem.own_of h.own e, Nat.lt_of_lt_of_le h.lt k.le, (AMem.cell_of e 0).trans h.fn, (AMem.cell_of e 1).trans h.sl, ?_, h.srt⟩
  rcases h.row with q | ⟨b, rfl, R, ho, hne⟩
  · exact .inl q
  · exact .inr ⟨b, rfl, R.keep k (hd b _ _ _ rfl), AMem.own_of ho (k.old b R.lt (hd b _ _ _ rfl)), hne⟩
theorem call63 {S : Sums} (hS : S 63 = none) {m : AMem} {b : Nat} (h0 : m.cell b 0 = some (.fn 43 [])) : CallTo Tryz.prog S 63 [.ptr b 0] m (.bool false) m := by
  suffices H : ∃ v m', CallTo Tryz.prog S 63 [.ptr b 0] m v m' ∧ v = .bool false ∧ m' = m by
    obtain ⟨v, m', h, rfl, rfl⟩ := H
    exact h
  refine XP.call hS cd63 nt63 ?_
  show XP _ _ _ _ (toT .leaf [(0, .ptr b 0)]) m _
  unfold Tryz.f63
  dsimp only [Option.getD_some]
  refine XP.seq ?_; refine XP.regionS ?_; refine RP.o1 (.assign rfl) rfl rfl ?_; refine RP.nil ?_; refine XP.seq ?_; refine XP.regionS ?_; refine RP.o1 (.move rfl) rfl rfl ?_; refine RP.o1 (.bin rfl rfl nil81) rfl rfl ?_; refine RP.o1 (.move rfl) rfl rfl ?_; refine RP.o1 (.move rfl) rfl ⟨_,_,_,rfl,rfl,rfl,rfl⟩ ?_; refine RP.o1 (.nilCheck rfl) rfl ⟨_,_,_,rfl,rfl,rfl,rfl⟩ ?_; refine RP.o1 (.fieldAddr rfl fa101_0) rfl ⟨_,_,_,rfl,rfl,rfl,rfl⟩ ?_; refine RP.o1 (.load1 rfl lay83 h0) rfl ⟨_,_,_,rfl,rfl,rfl,rfl⟩ ?_; refine RP.o1 (.bin rfl rfl nil83) rfl ⟨_,_,_,rfl,rfl,rfl,rfl⟩ ?_; refine RP.o1 (.pick (b := false) rfl rfl) rfl rfl ?_; refine RP.o1 (.assign rfl) rfl rfl ?_; refine RP.nil ?_
  exact XP.ret ⟨.inr rfl, _, _, oneRes rfl, rfl, rfl⟩
theorem call62 {S : Sums} (hS : Plain S [43, 60, 61, 62, 63, 73, 74]) {m : AMem} {g : Nat} {v : AV} {xs : List (Int × Int)} (h : SetIs m g v xs) (hx : xs.length < 4611686018427387904) (x : Int × Int) :
    ∃ i b m', CallTo Tryz.prog S 62 [.ptr g 0, itV x] m (.tup [.int .i64 (.ofNat i), .bool b]) m' ∧ Kp Nothing m m' ∧ CutAt xs x i i ∧ (b = true ↔ ∃ y, xs[i]? = some y ∧ cmpIt y x = 0) := by
  have h62 := hS 62 (by decide)
  have h63 := hS 63 (by decide)
  have hS' : Plain S [43, 60, 61, 73, 74] := fun f hf => hS f (by simp at hf ⊢; omega)
  suffices H : ∃ u m', CallTo Tryz.prog S 62 [.ptr g 0, itV x] m u m' ∧ ∃ i b, u = .tup [.int .i64 (.ofNat i), .bool b] ∧ Kp Nothing m m' ∧ CutAt xs x i i ∧ (b = true ↔ ∃ y, xs[i]? = some y ∧ cmpIt y x = 0) by
    obtain ⟨u, m', h, i, b, rfl, h1, h2, h3⟩ := H
    exact ⟨i, b, m', h, h1, h2, h3⟩
  refine XP.call h62 cd62 nt62 ?_
  show XP _ _ _ _ (toT .leaf [(1, itV x), (0, .ptr g 0)]) m _
  unfold Tryz.f62
  dsimp only [Option.getD_some]
  refine XP.seq ?_; refine XP.regionS ?_; refine RP.op (.box rfl rfl) rfl rfl (Nat.le_succ _) ?_; refine RP.o1 (.assign rfl) rfl rfl ?_; refine RP.o1 (.assign rfl) rfl rfl ?_; refine RP.nil ?_
  have K0 : Kp Nothing m (m.new false 1 (itV x).cells) := (Kp.refl m).new _ _ _
  have B0 : (m.new false 1 (itV x).cells).own m.next 1 2 := AMem.new_own _ _ _ _
  have c0 : ∀ j, j < 2 → (m.new false 1 (itV x).cells).cell m.next (0 + j) = (itC x)[j]? := fun j _ => by rw [Nat.zero_add, AMem.new_cell]; rfl
  have h1 := h.keep K0 id (fun _ _ _ _ _ => id)
  generalize m.new false 1 (itV x).cells = M at K0 B0 c0 h1 ⊢
  refine XP.seq ?_; refine XP.seq ?_; refine XP.regionS ?_; refine RP.o1 (.move rfl) rfl rfl ?_; refine RP.o1 (.callS rfl rfl (call63 h63 h1.fn)) rfl rfl ?_; refine RP.nil ?_
  refine XP.condS false rfl ?_  -- if t7
  refine XP.skip ?_
  obtain ⟨i, b, m2, hcall, K2, hC, hb⟩ := call74 hS' h1.isRow hx h1.srt x
  refine XP.seq ?_; refine XP.drawnS (ms := [0, 1, 3, 7, 0, 0, 32, 96, 224, 511, 1023, 1023, 4095, 8191]) (by kernel_rfl) ?_; refine DP.pure (.move rfl) rfl rfl rfl ?_; refine DP.pure (.nilCheck rfl) rfl rfl rfl ?_; refine DP.pure (.fieldAddr rfl fa101_1) rfl rfl rfl ?_; refine DP.read (fun _ => op_load1 (ev_is rfl) lay46 h1.sl) rfl rfl rfl (fun _ => op_load_leaf) (.inl (by kernel_rfl)) (fun _ => cuts_nil) ?_; refine DP.read (fun _ => op_loadN (l := itC x) (ev_is rfl) lay54 c0 B0.blk (by show 0 + 2 ≤ 2; omega)) rfl rfl rfl (fun _ => op_load_leaf) (.inl (by kernel_rfl)) (fun _ => cuts_nil) ?_
  refine DP.pure (.move rfl) rfl rfl rfl ?_; refine DP.pure (.nilCheck rfl) rfl rfl rfl ?_; refine DP.pure (.fieldAddr rfl fa101_0) rfl rfl rfl ?_; refine DP.read (fun _ => op_load1 (ev_is rfl) lay83 h1.fn) rfl rfl rfl (fun _ => op_load_leaf) (.inl (by kernel_rfl)) (fun _ => cuts_nil) ?_; refine DP.heavy (.callS rfl rfl hcall) rfl rfl rfl (by kernel_rfl) (by kernel_rfl) K2.le (pk_drop (by kernel_rfl) (pk_drop (by kernel_rfl) (pk_drop (by kernel_rfl) pk_nil))) ?_; refine DP.pure (.extract rfl rfl) rfl rfl rfl ?_; refine DP.pure (.extract rfl rfl) rfl rfl rfl ?_; refine DP.pure (.assign rfl) rfl rfl rfl ?_; refine DP.pure (.assign rfl) rfl rfl rfl ?_; refine DP.nil ?_
  exact XP.ret ⟨.inr rfl, _, _, twoRes rfl rfl, i, b, rfl, K0.trans K2, hC, hb⟩
theorem build101 {m : AMem} : aBuild Tryz.prog 101 [(0, .fn 43 [])] m = .mk (.agg [.fn 43 [], .nils]) m := by kernel_rfl
/-- A new set. -/
theorem call59 {S : Sums} (hS : S 59 = none) {m : AMem} : ∃ m', CallTo Tryz.prog S 59 [.fn 43 []] m (.ptr m.next 0) m' ∧ Kp Nothing m m' ∧ SetIs m' m.next .nils [] ∧ m'.next = m.next + 1 := by
  suffices H : ∃ v m', CallTo Tryz.prog S 59 [.fn 43 []] m v m' ∧ v = .ptr m.next 0 ∧ m' = m.new false 1 [.fn 43 [], .nils] by
    obtain ⟨v, m', h, rfl, rfl⟩ := H
    exact ⟨_, h, (Kp.refl m).new _ _ _, ⟨AMem.new_own _ _ _ _, Nat.lt_succ_self _, AMem.cell_new rfl, AMem.cell_new rfl, .inl ⟨rfl, rfl⟩, fun _ _ _ _ _ h => by simp at h⟩, rfl⟩
  refine XP.call hS cd59 nt59 ?_
  show XP _ _ _ _ (toT .leaf [(0, .fn 43 [])]) m _
  unfold Tryz.f59
  dsimp only [Option.getD_some]
  refine XP.seq ?_; refine XP.regionS ?_; refine RP.o1 (.assign rfl) rfl rfl ?_; refine RP.nil ?_; refine XP.seq ?_; refine XP.seq ?_; refine XP.regionS ?_; refine RP.o1 (.move rfl) rfl rfl ?_; refine RP.o1 (.bin rfl rfl nil83) rfl rfl ?_; refine RP.nil ?_
  refine XP.condS false rfl ?_  -- if t4
  refine XP.skip ?_; refine XP.seq ?_; refine XP.regionS ?_; refine RP.o1 (.move rfl) rfl rfl ?_; refine RP.o1 (.build rfl build101) rfl rfl ?_; refine RP.op (.box rfl rfl) rfl rfl (Nat.le_succ _) ?_; refine RP.o1 (.assign rfl) rfl rfl ?_; refine RP.nil ?_
  exact XP.ret ⟨.inr rfl, _, _, oneRes rfl, rfl, rfl⟩
theorem ap46 : appendable Tryz.prog (some 46) = true := by kernel_rfl
/-- Another row of the same. -/
theorem call32 {S : Sums} (hS : S 32 = none) {m : AMem} {v : AV} {xs : List (Int × Int)} (hv : RowIs itC 2 m v xs) (hx : xs.length ≤ 1048576) : ∃ u m', CallTo Tryz.prog S 32 [v] m u m' ∧ Kp Nothing m m' ∧ RowIs itC 2 m' u xs ∧ (∀ b off n c, u = .slice b off n c → m.next ≤ b) ∧ (xs ≠ [] → GrowIs itC 2 m.next m' u xs) := by
  refine XP.call hS cd32 nt32 ?_
  show XP _ _ _ _ (toT .leaf [(0, v)]) m _
  unfold Tryz.f32
  dsimp only [Option.getD_some]
  refine XP.seq ?_; refine XP.regionS ?_; refine RP.o1 (.assign rfl) rfl rfl ?_; refine RP.nil ?_; refine XP.seq ?_; refine XP.seq ?_; refine XP.regionS ?_; refine RP.o1 (.move rfl) rfl rfl ?_
  have hnil : ∀ {l : Bool}, ∃ b, aBin2 Tryz.prog .eql 46 l v .nils m = .mk (.bool b) m ∧ (b = true → xs = []) := by
    intro l
    rcases hv with ⟨rfl, rfl⟩ | ⟨rfl, rfl⟩ | ⟨b, off, cap, rfl, _⟩
    · exact ⟨true, nil46n, fun _ => rfl⟩
    · exact ⟨false, nil46e, fun _ => rfl⟩
    · exact ⟨false, nil46, fun h => by cases h⟩
  obtain ⟨b, e, hb⟩ := hnil (l := true)
  refine RP.o1 (.bin rfl rfl e) rfl rfl ?_; refine RP.nil ?_
  refine XP.condS b rfl ?_  -- if t4
  cases b with
  | true =>
    refine XP.seq ?_; refine XP.regionS ?_; refine RP.o1 (.assign rfl) rfl rfl ?_; refine RP.nil ?_
    exact XP.ret ⟨.inr rfl, _, _, oneRes rfl, .refl m, .inl ⟨rfl, hb rfl⟩, (fun _ _ _ _ h => by cases h), fun h => absurd (hb rfl) h⟩
  | false =>
    refine XP.skip ?_
    obtain ⟨i46, e46, s46⟩ := ei46
    refine XP.seq ?_; refine XP.regionS ?_; refine RP.op (.buildSlice rfl e46 (by rw [s46]; rfl) (by rw [s46]; rfl)) rfl rfl (Nat.le_succ _) ?_
    rw [s46]
    have K1 : Kp Nothing m (m.new false 2 []) := (Kp.refl m).new _ _ _
    have R1 : RowAt itC 2 (m.new false 2 []) m.next 0 [] := RowAt.new (xs := []) encIt
    have N1 : (m.new false 2 []).next = m.next + 1 := rfl
    have hv1 := hv.keep K1 (fun _ _ _ _ _ => id)
    refine RP.o1 (.move rfl) rfl rfl ?_
    show RP _ _ _ _ _ _ _ (m.new false 2 []) _
    generalize m.new false 2 [] = M at K1 R1 hv1 N1 ⊢
    by_cases h0 : 0 < xs.length
    · refine RP.op (OpTo.of fun _ => op_append rfl rfl (append_full (xs := []) encIt (by decide) e46 s46 ap46 R1 hv1 (by simpa using h0) h0 (by decide) hx)) rfl rfl (Nat.le_succ _) ?_; refine RP.o1 (.assign rfl) rfl rfl ?_; refine RP.nil ?_
      refine XP.ret ⟨.inr rfl, _, _, oneRes rfl, K1.new _ _ _, ?_, ?_, fun _ => .inr ⟨M.next, none, ?_, by omega, RowAt.new encIt, .inl rfl, ?_⟩⟩
      · refine .inr (.inr ⟨_, 0, none, ?_, RowAt.new encIt⟩)
        simp
      · rintro b off n c h
        injection h with h
        omega
      · simp
      · have h := AMem.new_own M true 2 (flat itC ([] ++ xs))
        rw [flat_length encIt.len] at h
        simpa using h
    · obtain rfl : xs = [] := List.eq_nil_of_length_eq_zero (by omega)
      refine RP.o1 (OpTo.of fun _ => op_append rfl rfl (append_zero e46 ap46 hv1)) rfl rfl ?_; refine RP.o1 (.assign rfl) rfl rfl ?_; refine RP.nil ?_
      refine XP.ret ⟨.inr rfl, _, _, oneRes rfl, K1, .inr (.inr ⟨_, 0, some 0, rfl, R1⟩), ?_, fun h => absurd rfl h⟩
      rintro b off n c h
      injection h with h
      omega
/-- A set's list. -/
theorem call45 {S : Sums} (hS : Plain S [32, 45]) {m : AMem} {g : Nat} {v : AV} {xs : List (Int × Int)} (h : SetIs m g v xs) (hx : xs.length ≤ 1048576) : ∃ u m', CallTo Tryz.prog S 45 [.ptr g 0] m u m' ∧ Kp Nothing m m' ∧ RowIs itC 2 m' u xs ∧ (∀ b off n c, u = .slice b off n c → m.next ≤ b) := by
  refine XP.call (hS 45 (by decide)) cd45 nt45 ?_
  show XP _ _ _ _ (toT .leaf [(0, .ptr g 0)]) m _
  unfold Tryz.f45
  dsimp only [Option.getD_some]
  refine XP.seq ?_; refine XP.regionS ?_; refine RP.o1 (.assign rfl) rfl rfl ?_; refine RP.nil ?_; refine XP.seq ?_; refine XP.seq ?_; refine XP.regionS ?_; refine RP.o1 (.move rfl) rfl rfl ?_; refine RP.o1 (.bin rfl rfl nil81) rfl rfl ?_; refine RP.nil ?_
  refine XP.condS false rfl ?_  -- if t4
  refine XP.skip ?_
  obtain ⟨u, m', hc, K, R, hf, _⟩ := call32 (hS 32 (by decide)) h.isRow hx
  refine XP.seq ?_; refine XP.regionS ?_; refine RP.o1 (.move rfl) rfl rfl ?_; refine RP.o1 (.nilCheck rfl) rfl rfl ?_; refine RP.o1 (.fieldAddr rfl fa101_1) rfl rfl ?_; refine RP.o1 (.load1 rfl lay46 h.sl) rfl rfl ?_; refine RP.op (.callS rfl rfl hc) rfl rfl K.le ?_; refine RP.o1 (.assign rfl) rfl rfl ?_; refine RP.nil ?_
  exact XP.ret ⟨.inr rfl, _, _, oneRes rfl, K, R, hf⟩
end Go.Ev
end
section
namespace Go.Ev
set_option linter.all false
open Go.Proofs
set_option maxRecDepth 10000
section
variable {α : Type} {enc : α → List AV} {sz : Nat}
theorem RowIs.stay {m m' : AMem} {v : AV} {xs : List α} (h : RowIs enc sz m v xs) (k : Kp (fun b => m.next ≤ b) m m') : RowIs enc sz m' v xs := by
  rcases h with h | h | ⟨b, off, cap, rfl, R⟩
  · exact .inl h
  · exact .inr (.inl h)
  · exact .inr (.inr ⟨b, off, cap, rfl, R.keep k (by have := R.lt; omega)⟩)
end
/-- A rule by numbers. -/
structure Rl where
  left : Int
  right : List Int
  level : Int
  assoc : Int
abbrev intC (x : Int) : List AV := [.int .i64 x]
abbrev rlC (q : Int × AV × Int × Int) : List AV := [.int .i64 q.1, q.2.1, .int .i64 q.2.2.1, .int .i64 q.2.2.2]
/-- A row of rules: each with a row of symbols. -/
noncomputable def RulesIs (m : AMem) (v : AV) (rs : List Rl) : Prop := ∃ raw : List (Int × AV × Int × Int), RowIs rlC 4 m v raw ∧ raw.length = rs.length ∧ ∀ (i : Nat) q r, raw[i]? = some q → rs[i]? = some r → q.1 = r.left ∧ q.2.2.1 = r.level ∧ q.2.2.2 = r.assoc ∧ RowIs intC 1 m q.2.1 r.right
theorem RulesIs.stay {m m' : AMem} {v : AV} {rs : List Rl} (h : RulesIs m v rs) (k : Kp (fun b => m.next ≤ b) m m') : RulesIs m' v rs := by
  obtain ⟨raw, h1, h2, h3⟩ := h
  exact ⟨raw, h1.stay k, h2, fun i q r hq hr => let ⟨a, b, c, d⟩ := h3 i q r hq hr; ⟨a, b, c, d.stay k⟩⟩
/-- The symbol behind the dot. -/
noncomputable def symAt (rs : List Rl) (x : Int × Int) : Option Int := (rs[x.1.toNat]?).bind fun r => r.right[x.2.toNat]?
/-- The items with the dot behind a symbol. -/
noncomputable def behindF (rs : List Rl) (sym : Int) : List (Int × Int) → List (Int × Int)
  | [] => []
  | x :: l => if symAt rs x = some sym then (x.1, x.2 + 1) :: behindF rs sym l else behindF rs sym l
theorem behindF_append (rs : List Rl) (sym : Int) : ∀ a b, behindF rs sym (a ++ b) = behindF rs sym a ++ behindF rs sym b
  | [], b => rfl
  | x :: a, b => by
    simp only [List.cons_append, behindF]
    split <;> simp [behindF_append rs sym a b]
theorem behindF_length (rs : List Rl) (sym : Int) : ∀ l, (behindF rs sym l).length ≤ l.length
  | [] => Nat.le_refl _
  | x :: l => by
    have := behindF_length rs sym l
    simp only [behindF]
    split <;> simp <;> omega
/-- Items of these rules. -/
noncomputable def ItemsOf (rs : List Rl) (xs : List (Int × Int)) : Prop := ∀ x ∈ xs, ∃ (r d : Nat) (q : Rl), x = (Int.ofNat r, Int.ofNat d) ∧ rs[r]? = some q ∧ d ≤ q.right.length
abbrev specV (toks nts start expect : Int) (vn vl va vr : AV) : AV := .agg [.int .i64 toks, .int .i64 nts, .int .i64 start, .int .i64 expect, vn, vl, va, vr]
theorem rowLen28 {m : AMem} {v : AV} {xs : List Int} (h : RowIs intC 1 m v xs) {M : AMem} : aLen Tryz.prog 28 v M = .mk (.int .i64 (.ofNat xs.length)) M := by
  rcases h with ⟨rfl, rfl⟩ | ⟨rfl, rfl⟩ | ⟨b, off, cap, rfl, _⟩
  · exact len28n
  · exact len28e
  · exact len28
theorem behindF_take (rs : List Rl) (sym : Int) (xs : List (Int × Int)) (i : Nat) (x : Int × Int) (h : xs[i]? = some x) : behindF rs sym (xs.take (i + 1)) = if symAt rs x = some sym then behindF rs sym (xs.take i) ++ [(x.1, x.2 + 1)] else behindF rs sym (xs.take i) := by
  have e : xs.take (i + 1) = xs.take i ++ [x] := by
    obtain ⟨hi, he⟩ := List.getElem?_eq_some_iff.1 h
    rw [List.take_succ_eq_append_getElem hi, he]
  rw [e, behindF_append]
  by_cases k : symAt rs x = some sym
  · rw [if_pos k]; simp [behindF, k]
  · rw [if_neg k]; simp [behindF, k]
theorem build54 {a b : Int} {m : AMem} : aBuild Tryz.prog 54 [(0, .int .i64 a), (1, .int .i64 b)] m = .mk (.agg [.int .i64 a, .int .i64 b]) m := by kernel_rfl
theorem fill46 {x : Int × Int} : fillA (fun j => some (Nat.mul j 2, 2)) (repA [.int .i64 0, .int .i64 0] 1) [(0, itV x)] = some (itC x) := rfl
theorem call35 {S : Sums} (hS : S 35 = none) {m : AMem} {toks nts start expect sym : Int} {vn vl va vr v : AV} {rs : List Rl} {xs : List (Int × Int)} (hr : RulesIs m vr rs) (hv : RowIs itC 2 m v xs) (hx : xs.length < 1048576) (hi : ItemsOf rs xs) (hd : ∀ r ∈ rs, r.right.length < 1048576) :
    ∃ u m', CallTo Tryz.prog S 35 [specV toks nts start expect vn vl va vr, v, .int .i64 sym] m u m' ∧ Kp Nothing m m' ∧ RowIs itC 2 m' u (behindF rs sym xs) ∧ (∀ b off n c, u = .slice b off n c → m.next ≤ b) := by
  refine XP.call hS cd35 nt35 ?_
  show XP _ _ _ _ (toT .leaf [(2, .int .i64 sym), (1, v), (0, specV toks nts start expect vn vl va vr)]) m _
  unfold Tryz.f35
  dsimp only [Option.getD_some]
  refine XP.seq ?_; refine XP.regionS ?_; refine RP.op (.box rfl rfl) rfl rfl (Nat.le_succ _) ?_; refine RP.o1 (.assign rfl) rfl rfl ?_; refine RP.nil ?_
  have K0 : Kp Nothing m (m.new false 1 (specV toks nts start expect vn vl va vr).cells) := (Kp.refl m).new _ _ _
  have B0 : BoxIs (m.new false 1 (specV toks nts start expect vn vl va vr).cells) m.next (specV toks nts start expect vn vl va vr).cells := BoxIs.new
  have hr0 := hr.stay (K0.mono fun _ _ h => h.elim)
  have hv0 := hv.stay (K0.mono fun _ _ h => h.elim)
  have N0 : (m.new false 1 (specV toks nts start expect vn vl va vr).cells).next = m.next + 1 := rfl
  generalize m.new false 1 (specV toks nts start expect vn vl va vr).cells = M at K0 B0 hr0 hv0 N0 ⊢
  refine XP.seq ?_; refine XP.regionS ?_; refine RP.o1 (.assign rfl) rfl rfl ?_; refine RP.nil ?_; refine XP.seq ?_; refine XP.seq ?_; refine XP.regionS ?_; refine RP.o1 (.move rfl) rfl rfl ?_; refine RP.o1 (.len rfl (rowLen hv)) rfl rfl ?_; refine RP.o1 (.move rfl) rfl rfl ?_; refine RP.nil ?_
  refine XP.block ?_  -- block 0
  refine XP.while (fun d t m1 => ∃ i t0 u, t = toT t0 [(13, .int .i64 (.ofNat i)), (7, u), (12, .int .i64 (.ofNat xs.length)), (11, v), (3, .ptr m.next 0), (2, .int .i64 sym)] ∧ d = xs.length - i ∧ i ≤ xs.length ∧ GrowIs itC 2 M.next m1 u (behindF rs sym (xs.take i)) ∧ Kp (fun b => M.next ≤ b) M m1) ?_ xs.length _ _ ?_
  rotate_left
  · exact ⟨0, _, .nils, toT_less (.cons rfl (.cons rfl (.cons rfl (.cons rfl (.cons rfl (.cons rfl .nil)))))), rfl, Nat.zero_le _, .inl ⟨rfl, rfl⟩, .refl _⟩
  rintro d t m1 ⟨i, t0, u, rfl, rfl, hin, G, K1⟩
  refine XP.seq ?_; refine XP.regionS ?_; refine RP.o1 (.bin rfl rfl lss_is) rfl rfl ?_; refine RP.nil ?_; refine XP.seq ?_
  refine XP.condS _ rfl ?_  -- if t14
  by_cases hlt : i < xs.length
  · rw [dlt hlt]
    obtain ⟨x, hx1⟩ : ∃ x, xs[i]? = some x := ⟨xs[i]'hlt, List.getElem?_eq_getElem _⟩
    obtain ⟨r, dd, q, rfl, hq, hdd⟩ := hi x (List.mem_of_getElem? hx1)
    have hv1 := hv0.stay K1
    have hr1 := hr0.stay K1
    have B1 := B0.keep K1 (by omega)
    rcases hv1 with ⟨_, rfl⟩ | ⟨_, rfl⟩ | ⟨b, off, cap, rfl, R⟩
    · cases hx1
    · cases hx1
    obtain ⟨E1, N1, hb1, hn1⟩ := R.blk
    refine XP.skip ?_; refine XP.seq ?_
    refine XP.block ?_  -- block 1
    refine XP.seq ?_; refine XP.regionS ?_; refine RP.o1 (.indexAddr rfl rfl ix46 hlt) rfl rfl ?_; refine RP.o1 (.loadN (l := itC (Int.ofNat r, Int.ofNat dd)) rfl lay54 (fun j hj => R.at_ i _ hx1 j hj) hb1 (by show off + i * 2 + 2 ≤ N1; omega)) rfl rfl ?_
    refine RP.op (.alloc z54) rfl rfl (Nat.le_succ _) ?_; refine RP.op (.store rfl rfl lay54 rfl (AMem.new_own _ _ _ _) (by decide) rfl) rfl rfl (by rw [AMem.write_next]; exact Nat.le_refl _) ?_
    refine RP.nil ?_
    have K2 : Kp Nothing m1 ((m1.new false 1 [.int .i64 (.ofNat 0), .int .i64 (.ofNat 0)]).write m1.next 0 (itV (Int.ofNat r, Int.ofNat dd)).cells) := ((Kp.refl m1).new _ _ _).write (.inl (Nat.le_refl _))
    have BX : BoxIs ((m1.new false 1 [.int .i64 (.ofNat 0), .int .i64 (.ofNat 0)]).write m1.next 0 (itV (Int.ofNat r, Int.ofNat dd)).cells) m1.next (itC (Int.ofNat r, Int.ofNat dd)) := BoxIs.whole (BoxIs.new (l := [.int .i64 (.ofNat 0), .int .i64 (.ofNat 0)])) rfl
    have N2 : ((m1.new false 1 [.int .i64 (.ofNat 0), .int .i64 (.ofNat 0)]).write m1.next 0 (itV (Int.ofNat r, Int.ofNat dd)).cells).next = m1.next + 1 := AMem.write_next _ _ _ _
    generalize (m1.new false 1 [.int .i64 (.ofNat 0), .int .i64 (.ofNat 0)]).write m1.next 0 (itV (Int.ofNat r, Int.ofNat dd)).cells = M2 at K2 BX N2 ⊢
    have B2 := B1.keep K2 id
    have G2 := G.keep K2 (fun _ _ _ _ _ => id)
    have K12 : Kp (fun b => M.next ≤ b) M M2 := K1.trans (K2.mono fun _ _ h => h.elim)
    have hM1 := K1.le
    obtain ⟨raw, hraw, hlen, hrel⟩ := hr1.stay (K2.mono fun _ _ h => h.elim)
    obtain ⟨p, hp⟩ : ∃ p, raw[r]? = some p := ⟨raw[r]'(by have := (List.getElem?_eq_some_iff.1 hq).1; omega), List.getElem?_eq_getElem _⟩
    obtain ⟨_, _, _, hright⟩ := hrel r p q hp hq
    rcases hraw with ⟨_, rfl⟩ | ⟨_, rfl⟩ | ⟨br, offr, capr, rfl, RR⟩
    · cases hp
    · cases hp
    have hrl := (List.getElem?_eq_some_iff.1 hp).1
    refine XP.seq ?_; refine XP.regionS ?_; refine RP.o1 (.fieldAddr rfl fa31_7) rfl rfl ?_; refine RP.o1 (.load1 rfl lay29 ((B2.at_ 7).trans rfl)) rfl rfl ?_; refine RP.o1 (.fieldAddr rfl fa54_0) rfl rfl ?_; refine RP.o1 (.load1 rfl lay3 ((BX.at_ 0).trans rfl)) rfl rfl ?_; refine RP.o1 (.indexAddr rfl rfl ix29 hrl) rfl rfl ?_; refine RP.o1 (.fieldAddr rfl fa56_1) rfl rfl ?_; refine RP.o1 (.load1 rfl lay28 ((RR.at_ r p hp 1 (by decide)).trans rfl)) rfl rfl ?_; refine RP.o1 (.assign rfl) rfl rfl ?_; refine RP.nil ?_
    have hsym : symAt rs (Int.ofNat r, Int.ofNat dd) = q.right[dd]? := by
      show (rs[(Int.ofNat r).toNat]?).bind _ = _
      rw [show (Int.ofNat r).toNat = r from rfl, hq]; rfl
    have hnext := behindF_take rs sym xs i _ hx1
    refine XP.seq ?_; refine XP.regionS ?_; refine RP.o1 (.fieldAddr rfl fa54_1) rfl rfl ?_; refine RP.o1 (.load1 rfl lay3 ((BX.at_ 1).trans rfl)) rfl rfl ?_; refine RP.o1 (.move rfl) rfl rfl ?_; refine RP.o1 (.len rfl (rowLen28 hright)) rfl rfl ?_; refine RP.o1 (.bin rfl rfl lss_is) rfl rfl ?_
    by_cases hdl : dd < q.right.length
    · rw [dlt hdl]
      obtain ⟨y, hy⟩ : ∃ y, q.right[dd]? = some y := ⟨q.right[dd]'hdl, List.getElem?_eq_getElem _⟩
      generalize p.2.1 = vq at hright ⊢
      rcases hright with ⟨_, e⟩ | ⟨_, e⟩ | ⟨bq, offq, capq, rfl, RQ⟩
      · rw [e] at hdl; cases hdl
      · rw [e] at hdl; cases hdl
      refine RP.o1 (.move rfl) rfl rfl ?_; refine RP.o1 (.move rfl) rfl ⟨_,_,_,rfl,rfl,rfl,rfl⟩ ?_; refine RP.o1 (.fieldAddr rfl fa54_1) rfl ⟨_,_,_,rfl,rfl,rfl,rfl⟩ ?_; refine RP.o1 (.load1 rfl lay3 ((BX.at_ 1).trans rfl)) rfl ⟨_,_,_,rfl,rfl,rfl,rfl⟩ ?_; refine RP.o1 (.indexAddr rfl rfl ix28 hdl) rfl ⟨_,_,_,rfl,rfl,rfl,rfl⟩ ?_; refine RP.o1 (.load1 rfl lay3 ((RQ.at_ dd y hy 0 (by decide)).trans rfl)) rfl ⟨_,_,_,rfl,rfl,rfl,rfl⟩ ?_; refine RP.o1 (.move rfl) rfl ⟨_,_,_,rfl,rfl,rfl,rfl⟩ ?_; refine RP.o1 (.bin rfl rfl eql_is) rfl ⟨_,_,_,rfl,rfl,rfl,rfl⟩ ?_; refine RP.o1 (.pick (b := true) rfl rfl) rfl rfl ?_; refine RP.nil ?_
      refine XP.condS _ rfl ?_  -- if t37
      by_cases hys : y = sym
      · rw [decide_eq_true hys]
        rw [hsym, hy, hys, if_pos rfl] at hnext
        obtain ⟨i46, e46, s46⟩ := ei46
        have hacc : (behindF rs sym (xs.take i)).length < 1048576 := by
          have := behindF_length rs sym (xs.take i)
          simp only [List.length_take] at this
          omega
        have hqr : q.right.length < 1048576 := hd q (List.mem_of_getElem? hq)
        obtain ⟨u2, m3, ha, hm3, G3, K3, old3, new3⟩ := append_one (x := (Int.ofNat r, Int.ofNat (dd + 1))) encIt (by decide) e46 s46 ap46 G2 (by omega) hacc
        refine XP.regionS ?_; refine RP.o1 (.move rfl) rfl rfl ?_; refine RP.o1 (.fieldAddr rfl fa54_0) rfl rfl ?_; refine RP.o1 (.load1 rfl lay3 ((BX.at_ 0).trans rfl)) rfl rfl ?_; refine RP.o1 (.fieldAddr rfl fa54_1) rfl rfl ?_; refine RP.o1 (.load1 rfl lay3 ((BX.at_ 1).trans rfl)) rfl rfl ?_; refine RP.o1 (.bin rfl rfl (v := .int .i64 (.ofNat (dd + 1))) (add_is (by show _ ≤ (dd : Int) + 1; omega) (by show (dd : Int) + 1 < _; omega))) rfl rfl ?_
        refine RP.o1 (.build rfl build54) rfl rfl ?_; refine RP.op (.buildSlice rfl e46 (by rw [s46]; rfl) (by rw [s46]; exact fill46 (x := (Int.ofNat r, Int.ofNat (dd + 1))))) rfl rfl (Nat.le_succ _) ?_
        rw [s46]
        refine RP.op (OpTo.of fun _ => op_append rfl rfl ha) rfl rfl hm3 ?_; refine RP.o1 (.assign rfl) rfl rfl ?_; refine RP.nil ?_; refine XP.regionS ?_; refine RP.o1 (.bin rfl rfl (v := .int .i64 (.ofNat (i + 1))) (add_is (by show _ ≤ (i : Int) + 1; omega) (by show (i : Int) + 1 < _; omega))) rfl rfl ?_
        refine RP.o1 (.move rfl) rfl rfl ?_; refine RP.nil ?_
        refine ⟨xs.length - (i + 1), by omega, i + 1, _, _, toT_less (.cons rfl (.cons rfl (.cons rfl (.cons rfl (.cons rfl (.cons rfl .nil)))))), rfl, hlt, ?_, K12.trans K3⟩
        rw [hnext]; exact G3
      · rw [decide_eq_false hys]
        rw [hsym, hy, if_neg (by intro e; injection e with e; exact hys e)] at hnext
        refine XP.skip ?_; refine XP.regionS ?_; refine RP.o1 (.bin rfl rfl (v := .int .i64 (.ofNat (i + 1))) (add_is (by show _ ≤ (i : Int) + 1; omega) (by show (i : Int) + 1 < _; omega))) rfl rfl ?_
        refine RP.o1 (.move rfl) rfl rfl ?_; refine RP.nil ?_
        refine ⟨xs.length - (i + 1), by omega, i + 1, _, _, toT_less (.cons rfl (.cons rfl (.cons rfl (.cons rfl (.cons rfl (.cons rfl .nil)))))), rfl, hlt, ?_, K12⟩
        rw [hnext]; exact G2
    · rw [dnlt hdl]
      rw [hsym, List.getElem?_eq_none (by omega), if_neg (by intro e; cases e)] at hnext
      refine RP.o1 (.move rfl) rfl rfl ?_; refine RP.skip ⟨_,_,_,rfl,rfl,rfl,rfl⟩ rfl ?_; refine RP.skip ⟨_,_,_,rfl,rfl,rfl,rfl⟩ rfl ?_; refine RP.skip ⟨_,_,_,rfl,rfl,rfl,rfl⟩ rfl ?_; refine RP.skip ⟨_,_,_,rfl,rfl,rfl,rfl⟩ rfl ?_; refine RP.skip ⟨_,_,_,rfl,rfl,rfl,rfl⟩ rfl ?_; refine RP.skip ⟨_,_,_,rfl,rfl,rfl,rfl⟩ rfl ?_; refine RP.skip ⟨_,_,_,rfl,rfl,rfl,rfl⟩ rfl ?_; refine RP.o1 (.pick (b := false) rfl rfl) rfl rfl ?_; refine RP.nil ?_
      refine XP.condS false rfl ?_  -- if t37
      refine XP.skip ?_; refine XP.regionS ?_; refine RP.o1 (.bin rfl rfl (v := .int .i64 (.ofNat (i + 1))) (add_is (by show _ ≤ (i : Int) + 1; omega) (by show (i : Int) + 1 < _; omega))) rfl rfl ?_
      refine RP.o1 (.move rfl) rfl rfl ?_; refine RP.nil ?_
      refine ⟨xs.length - (i + 1), by omega, i + 1, _, _, toT_less (.cons rfl (.cons rfl (.cons rfl (.cons rfl (.cons rfl (.cons rfl .nil)))))), rfl, hlt, ?_, K12⟩
      rw [hnext]; exact G2
  · rw [dnlt hlt]
    obtain rfl : i = xs.length := by omega
    refine XP.exit ?_; refine XP.seq ?_; refine XP.regionS ?_; refine RP.o1 (.move rfl) rfl rfl ?_; refine RP.o1 (.assign rfl) rfl rfl ?_; refine RP.nil ?_
    rw [List.take_length] at G
    refine XP.ret ⟨.inr rfl, _, _, oneRes rfl, ?_, G.row, ?_⟩
    · exact ⟨Nat.le_trans K0.le K1.le, fun c hc _ => (K1.old c (by omega) (by omega)).trans (K0.old c hc id)⟩
    · rintro b off n c rfl
      rcases G with ⟨e, _⟩ | ⟨b', _, e, hl, _⟩
      · cases e
      · injection e with e; subst e; omega
end Go.Ev
end
