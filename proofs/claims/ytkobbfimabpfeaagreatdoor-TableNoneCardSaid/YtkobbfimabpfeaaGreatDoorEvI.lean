/- Operations, on: stores, append, copy, clear; bytes and strings; lengths; the builtins. -/
import Derived.Test.YtkobbfimabpfeaaGreatDoorEvH
namespace Go.Ev

section
variable {P : Program} {ρ : Ren} {m : AMem} {w : World}

theorem cells_plain {a : AV} (h : a.cells.all AV.plain = true) : a.onAgg (fun _ => true) a.plain = true := by
  cases a <;> first | rfl | (simp [AV.cells, AV.onAgg, AV.plain] at h)

theorem aStore_run (V : View ρ m w) {t : TypeId} {a x : AV} {va vx : Value} (ha : VR ρ a va) (hx : VR ρ x vx) {v : AV} {m' : AMem} (h : aStore P t a x m = .mk v m') :
    Runs P ρ m w v m' (do Instr.storeAt t va vx; pure .skip) := by
  obtain ⟨b, off, rfl, h0⟩ := onPtr_inv _ h fail_ne
  clear h
  cases ha with | ptr _ _ L hL =>
  cases hlay : layout P t with
  | none => rw [hlay] at h0; cases h0
  | some lay =>
    rw [hlay] at h0
    obtain ⟨g, n⟩ := lay
    obtain ⟨d, i, hu, hi, rfl, hagg⟩ := layout_inv (w := w) hlay
    have h : storeL m b off x (g, i.size) = .mk v m' := h0
    unfold storeL at h
    rw [bif2_eq] at h
    split at h
    · rename_i hl
      have hl : x.cells.length = i.size := Nat.eq_of_beq_eq_true hl
      obtain ⟨_, _, _, _, _, _, hp, _⟩ := storeK_inv h
      have hcs := hx.cells (cells_plain hp)
      obtain ⟨m1, w1, hk, hrun, hst⟩ := V.store (P := P) hL hcs h
      cases hk
      refine ⟨ρ, w1, undef, hst, VR.undef _, .inr ⟨?_, rfl⟩⟩
      have hsz : vx.cells.size = i.size := by have := hcs.length; simp at this; omega
      simp [Instr.storeAt, Instr.sureAddr, storeVar, run_sizeOf hi, hsz, hrun]
    · cases h

/-! ### What is handed to append and copy -/

theorem lenA_run {x : AV} {vx : Value} (hx : VR ρ x vx) {n : Nat} (h : lenA x = some n) (w : World) : (Builtin.lenOf vx).run P w = .ok n w := by
  cases hx <;> simp [lenA] at h <;> subst h <;> simp [Builtin.lenOf]
  rename_i s hs; rw [← hs]; simp

theorem elemsK_inv (V : View ρ m w) {size n : Nat} {x : AV} {vx : Value} (hx : VR ρ x vx) {k : List AV → OR} {v : AV} {m' : AMem} (h : elemsK m size n x k = .mk v m') :
    ∃ l cs, k l = .mk v m' ∧ VRs ρ l cs ∧ cs.length = n * size ∧ (∀ w1 : World, w1.heap = w.heap → (Builtin.firstCells size n vx).run P w1 = .ok cs.toArray w1) ∧
      ∀ b off len cap, x = .slice b off len cap → ∀ ro sg E N c, m.t.get b = some (.cells ro sg E N c) → l = cellsFrom c off (n * size) := by
  unfold elemsK at h
  split at h
  · rename_i b off len cap
    rw [bif2_eq] at h
    split at h
    · obtain ⟨ro, sg, E, N, c, h1, h2, h3⟩ := loadK_inv h
      have go : ∀ (L : Loc) (cc : Nat), ρ b = some L → ∃ l cs, k l = .mk v m' ∧ VRs ρ l cs ∧ cs.length = n * size ∧ (∀ w1 : World, w1.heap = w.heap → (Builtin.firstCells size n (.slice (some ⟨L.blk, L.base + off, none⟩) len cc)).run P w1 = .ok cs.toArray w1) ∧
          ∀ b' off' len' cap', AV.slice b off len cap = .slice b' off' len' cap' → ∀ ro sg E N c, m.t.get b' = some (.cells ro sg E N c) → l = cellsFrom c off' (n * size) := fun L cc hL => by
        obtain ⟨vs, hl, hrun, hr⟩ := V.load (P := P) h1 hL h2
        exact ⟨_, vs, h3, hr, hl, fun w1 hw => by simpa [Builtin.firstCells] using hrun w1 hw, fun b' off' len' cap' he ro' sg' E' N' c' hg => by cases he; rw [h1] at hg; cases hg; rfl⟩
      cases hx with
      | sliceE _ _ _ _ L hL => exact go L _ hL
      | sliceO _ _ _ _ L hL => exact go L _ hL
    · cases h
  · rw [bif2_eq] at h
    split at h
    · rename_i hn
      obtain rfl : n = 0 := Nat.eq_of_beq_eq_true hn
      cases hx
      exact ⟨[], [], h, .nil, by simp, fun w1 _ => by simp [Builtin.firstCells], fun _ _ _ _ he => by cases he⟩
    · cases h
  · rw [bif2_eq] at h
    split at h
    · rename_i hn
      obtain rfl : n = 0 := Nat.eq_of_beq_eq_true hn
      cases hx
      exact ⟨[], [], h, .nil, by simp, fun w1 _ => by simp [Builtin.firstCells, loadCells, loadCellsFrom], fun _ _ _ _ he => by cases he⟩
    · cases h
  · rename_i s
    rw [bif2_eq] at h
    split at h
    · rename_i hc
      simp only [Bool.and_eq_true, Nat.ble_eq] at hc
      obtain rfl : size = 1 := Nat.eq_of_beq_eq_true hc.1
      obtain ⟨z, rfl, hz⟩ := str_inv hx
      refine ⟨_, (z.data.toList.take n).map fun b => .int .u8 b.toNat, h, ?_, ?_, fun w1 _ => ?_, fun _ _ _ _ he => by cases he⟩
      · rw [← hz, ← List.map_take, List.map_map]
        generalize z.data.toList.take n = q
        induction q with
        | nil => exact .nil
        | cons a q ih => exact .cons _ _ _ _ (.int _ _) ih
      · have := str_len hz
        have h2 := hc.2
        simp; omega
      · simp only [Builtin.firstCells, Sem.run_pure]
        congr 1
        apply Array.ext'
        simp [ByteArray.data_extract, Array.toList_extract, List.extract, List.map_take]
    · cases h
  · cases h

theorem View.world (V : View ρ m w) {w1 : World} (h : w1.heap = w.heap) : View ρ m w1 := ⟨V.sim.world h, V.wf⟩

/-! ### append -/

/-- What append asks of the types. -/
structure ApT (P : Program) (ats : Array TypeId) (st e : TypeId) (i : TypeInfo) (z : Value) : Prop where
  h0 : ats[0]? = some st
  h1 : ∃ xt d, ats[1]? = some xt ∧ P.underlying xt = some d ∧ (match d with | .int _ => true | _ => false) = false
  hu : P.underlying st = some (.slice e)
  hi : P.info? e = some i
  hz : i.zero = some z
  hb : i.bytes ≤ 4096

/-- append, of what is no number. -/
noncomputable def apRest (e : TypeId) (size : Nat) (base : Option Addr) (sLen sCap : Nat) (x : Value) : Sem Value := do
  let n ← Builtin.lenOf x
  let need := sLen + n
  if need ≤ sCap then
    let new ← Builtin.firstCells size n x
    if let some a := base then storeCells (a.add (sLen * size)) new.toList
    pure (.slice base need sCap)
  else
    if (need : Int) > IntKind.i64.max ∧ (false = true ∨ (← typeInfo e).bytes = 0) then runtimePanic (.error "growslice: len out of range")
    if Builtin.nextslicecap need sCap * (← typeInfo e).bytes > 2 ^ 48 then (if false = true then runtimePanic (.error "growslice: len out of range") else do
      if !(← Builtin.mayShare size sLen n base x) then mark .noRoom
      unsupported (.resourceLimit "append: a slice or a string whose bytes no memory bears"))
    let newCap ← choose (.appendCap need sCap e)
    askRoom (newCap * (← typeInfo e).bytes)
    let old ← Builtin.firstCells size sLen (.slice base sLen sCap)
    let new ← Builtin.firstCells size n x
    let rest := Builtin.zeroCells (← zeroValue e).cells (newCap - need)
    pure (.slice (some (← newRow e (old ++ new ++ rest))) need newCap)

theorem run_append_rest {ats : Array TypeId} {st e : TypeId} {i : TypeInfo} {z : Value} (A : ApT P ats st e i z) (ty : TypeId) (base : Option Addr) (sLen sCap : Nat) (vx : Value) :
    (Builtin.append_ ats ty #[.slice base sLen sCap, vx]).run P w = (apRest e i.size base sLen sCap vx).run P w := by
  obtain ⟨xt, d, h1, h2, h3⟩ := A.h1
  cases d <;> first
    | (cases h3; done)
    | (unfold Builtin.append_
       have g0 : (#[Value.slice base sLen sCap, vx])[0]? = some (Value.slice base sLen sCap) := rfl
       have g1 : (#[Value.slice base sLen sCap, vx])[1]? = some vx := rfl
       simp only [A.h0, h1, g0, g1, Sem.run_bind, run_underlying A.hu, run_underlying h2, run_sizeOf A.hi, Result.andThen_ok, Sem.run_pure]
       rfl)

theorem run_append_room {ats : Array TypeId} {st e : TypeId} {i : TypeInfo} {z : Value} (A : ApT P ats st e i z) (ty : TypeId) {base : Option Addr} {sLen sCap n : Nat} {vx : Value} (hl : (Builtin.lenOf vx).run P w = .ok n w) (hle : sLen + n ≤ sCap) :
    (Builtin.append_ ats ty #[.slice base sLen sCap, vx]).run P w = ((Builtin.firstCells i.size n vx).run P w).andThen fun new w1 =>
      (match base with | some a => storeCells (a.add (sLen * i.size)) new.toList | none => pure () : Sem Unit).run P w1 |>.andThen fun _ w2 => .ok (.slice base (sLen + n) sCap) w2 := by
  rw [run_append_rest A]
  cases base <;> simp [apRest, hl, hle]

theorem run_append_new {ats : Array TypeId} {st e : TypeId} {i : TypeInfo} {z : Value} (A : ApT P ats st e i z) (ty : TypeId) {base : Option Addr} {sLen sCap n : Nat} {vx : Value} (hl : (Builtin.lenOf vx).run P w = .ok n w) (hgt : sCap < sLen + n) (hs : sLen + n ≤ 2097152)
    {old new : List Value} (ho : ∀ w1 : World, w1.heap = w.heap → (Builtin.firstCells i.size sLen (.slice base sLen sCap)).run P w1 = .ok old.toArray w1) (hn : ∀ w1 : World, w1.heap = w.heap → (Builtin.firstCells i.size n vx).run P w1 = .ok new.toArray w1) :
    ∃ cap, sLen + n ≤ cap ∧ (Builtin.append_ ats ty #[.slice base sLen sCap, vx]).run P w =
      .ok (.slice (some ⟨w.heap.size, 0, none⟩) (sLen + n) cap) (({ w with drawn := w.drawn + 1 } : World).alloc (.cells ((old ++ new) ++ (Builtin.zeroCells z.cells (cap - (sLen + n))).toList).toArray e)) := by
  refine ⟨(Question.appendCap (sLen + n) sCap e).cut (w.tape w.drawn (.appendCap (sLen + n) sCap e)), by show sLen + n ≤ (sLen + n) + _; omega, ?_⟩
  have hle : ¬ (sLen + n ≤ sCap) := by omega
  have h63 : ¬ (9223372036854775807 < ((sLen : Int) + (n : Int))) := by omega
  have hfit : Builtin.nextslicecap (sLen + n) sCap * i.bytes ≤ 281474976710656 := growslice_fits hgt (by
    have : (sLen + n) * i.bytes ≤ 2097152 * 4096 := Nat.mul_le_mul hs A.hb
    omega)
  have h48 : ¬ (281474976710656 < Builtin.nextslicecap (sLen + n) sCap * i.bytes) := by omega
  have ho' := ho w.drew rfl
  have hn' := hn w.drew rfl
  rw [run_append_rest A]
  simp [apRest, hl, hle, h63, h48, run_info A.hi, Question.forced, run_zero A.hi A.hz, newRow, ho', hn']
  congr 2
  apply Array.ext'
  simp

theorem zeroCells_size (z : Array Value) (n : Nat) : (Builtin.zeroCells z n).size = n * z.size := by simp [Builtin.zeroCells]

/-- A new array, with some room behind. -/
theorem growA_run (V : View ρ m w) {size n : Nat} {l : List AV} {cs rest : List Value} (hl : VRs ρ l cs) {v : AV} {m' : AMem} (h : growA size l n m = .mk v m') (hf : Fresh ρ m.next m'.next) {cap : Nat} (hcap : n ≤ cap) (hsz : cs.length + rest.length = cap * size) (e : TypeId) :
    ∃ ρ', Step ρ m w ρ' m' (({ w with drawn := w.drawn + 1 } : World).alloc (.cells (cs ++ rest).toArray e)) ∧ VR ρ' v (.slice (some ⟨w.heap.size, 0, none⟩) n cap) := by
  obtain ⟨m1, c, hn, hg, hcc, hk⟩ := newBlk_inv h
  cases hk
  have V1 : View ρ m { w with drawn := w.drawn + 1 } := V.world rfl
  have hst := V1.new (rest := rest) hl hn hg hcc (hf _ (Nat.le_refl _) (by omega)) (A := (cs ++ rest).toArray) rfl (elem := e) (fz := (0, 0)) (fun i _ => by simp) (fun _ i => by simp) (E := size)
  refine ⟨_, (GStep.drew V.sim V.wf _).trans hst, ?_⟩
  exact .sliceO _ _ _ _ ⟨w.heap.size, 0, (cs ++ rest).toArray.size, size⟩ (Ren.set_same _ _ _) hcap (by simp; omega)

theorem appendable_inv {xt : Option TypeId} (h : appendable P xt = true) : ∃ t d, xt = some t ∧ P.underlying t = some d ∧ (match d with | .int _ => true | _ => false) = false := by
  unfold appendable at h
  split at h
  · rename_i t
    split at h
    · cases h
    · rename_i d hne hu; exact ⟨t, d, rfl, hu, by cases d <;> first | rfl | (rename_i k; exact absurd hu (by simpa using hne k))⟩
    · cases h
  · cases h

theorem firstCells_zero {vx : Value} (hl : (Builtin.lenOf vx).run P w = .ok 0 w) (size : Nat) : (Builtin.firstCells size 0 vx).run P w = .ok #[] w := by
  cases vx <;> simp [Builtin.lenOf] at hl <;> simp [Builtin.firstCells]
  rename_i a n c
  cases a <;> simp [loadCells, loadCellsFrom]

theorem append_none {ats : Array TypeId} {st e : TypeId} {i : TypeInfo} {z : Value} (A : ApT P ats st e i z) (ty : TypeId) {base : Option Addr} {sLen sCap : Nat} {vx : Value} (hl : (Builtin.lenOf vx).run P w = .ok 0 w) (hle : sLen ≤ sCap) :
    (Builtin.append_ ats ty #[.slice base sLen sCap, vx]).run P w = .ok (.slice base sLen sCap) w := by
  rw [run_append_room A ty hl (by omega), firstCells_zero hl]
  cases base <;> simp [storeCells]

theorem Ren.set_self {ρ : Ren} {b : Nat} {L : Loc} (h : ρ b = some L) : ρ.set b L = ρ := by
  funext x
  by_cases hx : x = b
  · rw [hx, Ren.set_same, h]
  · rw [Ren.set_other _ _ _ hx]

theorem appendTo_run (V : View ρ m w) {ats : Array TypeId} {st e : TypeId} {i : TypeInfo} {z : Value} (A : ApT P ats st e i z) (hzs : z.cells.size = i.size) (hpos : 0 < i.size) (ty : TypeId) {b off len : Nat} {cap : Option Nat} {vs : Value} (hs : VR ρ (.slice b off len cap) vs) {x : AV} {vx : Value} (hx : VR ρ x vx) {n : Nat}
    (hlen : lenA x = some n) (hn1 : n ≤ 1048576) (hl1 : len ≤ 1048576) {v : AV} {m' : AMem} (h : appendTo i.size (.slice b off len cap) x b off len cap n m = .mk v m') (hf : Fresh ρ m.next m'.next) :
    ∃ ρ' w' vc, Step ρ m w ρ' m' w' ∧ VR ρ' v vc ∧ (Builtin.append_ ats ty #[vs, vx]).run P w = .ok vc w' := by
  have hl := fun w => lenA_run (P := P) hx hlen w
  unfold appendTo at h
  rw [fNat_eq] at h
  obtain ⟨ro, sg, E, N, c, hb, h⟩ := blkK_inv h
  obtain ⟨L, hL⟩ : ∃ L, ρ b = some L := by obtain ⟨L, hL, _⟩ := (V.sim.blk b _ hb).loc; exact ⟨L, hL⟩
  -- in its place
  have room : ∀ {cc : Nat}, vs = .slice (some ⟨L.blk, L.base + off, none⟩) len cc → len + n ≤ cc → (∀ {ρ1 : Ren}, ρ1 b = some L → VR ρ1 (.slice b off (len + n) cap) (.slice (some ⟨L.blk, L.base + off, none⟩) (len + n) cc)) →
      (elemsK m i.size n x fun new => storeK m b (Nat.add off (Nat.mul len i.size)) new fun m => .mk (.slice b off (len + n) cap) m) = .mk v m' →
      ∃ ρ' w' vc, Step ρ m w ρ' m' w' ∧ VR ρ' v vc ∧ (Builtin.append_ ats ty #[vs, vx]).run P w = .ok vc w' := by
    intro cc hvs hle hv h
    obtain ⟨l, cs, hk, hr, hcl, hrun, _⟩ := elemsK_inv (P := P) V hx h
    obtain ⟨m1, w1, hk1, hrun1, hst⟩ := V.store (P := P) hL hr hk
    cases hk1
    refine ⟨ρ, w1, _, hst, hv hL, ?_⟩
    subst hvs
    rw [run_append_room A ty (hl w) hle, hrun w rfl]
    simp only [Result.andThen_ok, addr_add]
    rw [show L.base + off + len * i.size = L.base + (off + len * i.size) from by omega]
    have hrun1 : (storeCells ⟨L.blk, L.base + (off + len * i.size), none⟩ cs).run P w = .ok () w1 := hrun1
    rw [hrun1]; rfl
  -- in a new one
  have grow : ∀ {cc : Nat} {m0 : AMem}, View ρ m0 w → m0.next = m.next → Step ρ m w ρ m0 w → vs = .slice (some ⟨L.blk, L.base + off, none⟩) len cc → cc < len + n → ∀ {old new : List AV} {co cn : List Value}, VRs ρ old co → VRs ρ new cn → co.length = len * i.size → cn.length = n * i.size →
      (∀ w1 : World, w1.heap = w.heap → (Builtin.firstCells i.size len vs).run P w1 = .ok co.toArray w1) → (∀ w1 : World, w1.heap = w.heap → (Builtin.firstCells i.size n vx).run P w1 = .ok cn.toArray w1) → growA i.size (old ++ new) (len + n) m0 = .mk v m' →
      ∃ ρ' w' vc, Step ρ m w ρ' m' w' ∧ VR ρ' v vc ∧ (Builtin.append_ ats ty #[vs, vx]).run P w = .ok vc w' := by
    intro cc m0 V0 hm0 hst0 hvs hlt old new co cn ho hn hol hnl hro hrn hg
    subst hvs
    obtain ⟨cp, hcp, hrun⟩ := run_append_new A ty (hl w) hlt (by omega) hro hrn
    obtain ⟨ρ', hst, hv⟩ := growA_run V0 (rest := (Builtin.zeroCells z.cells (cp - (len + n))).toList) (ho.append hn) hg (by rw [hm0]; exact hf) hcp (by
      simp only [List.length_append, Array.length_toList, zeroCells_size, hol, hnl, hzs]
      rw [← Nat.add_mul, ← Nat.add_mul]; congr 1; omega) e
    exact ⟨ρ', _, _, hst0.trans hst, hv, hrun⟩
  cases cap with
  | some cc =>
    cases hs with | sliceE _ _ _ _ L' hL' hle =>
    rw [hL] at hL'; cases hL'
    simp only [bif2_eq] at h
    split at h
    · rename_i hc
      have hc : len + n ≤ cc := by simpa [Nat.ble_eq] using hc
      exact room rfl hc (fun hq => .sliceE _ _ _ _ L hq hc) h
    · rename_i hc
      have hc : cc < len + n := by have : ¬ (len + n ≤ cc) := by simpa [Nat.ble_eq] using hc
                                   omega
      obtain ⟨old, co, h1, ho, hol, hro, _⟩ := elemsK_inv (P := P) V (.sliceE b off len cc L hL hle) h
      obtain ⟨new, cn, h2, hn, hnl, hrn, _⟩ := elemsK_inv (P := P) V hx h1
      exact grow V rfl V.refl rfl hc ho hn hol hnl hro hrn h2
  | none =>
    cases hs with | sliceO _ _ _ cc L' hL' hle hE =>
    rw [hL] at hL'; cases hL'
    obtain ⟨L0, cs0, el, fz, e1, e2, e3, e4, e5, e6, e7⟩ := V.sim.blk b _ hb
    rw [hL] at e1; cases e1
    simp only [bif2_eq] at h
    split at h
    · rename_i hEs
      have hEs : E = i.size := Nat.eq_of_beq_eq_true hEs
      have hEL : L.E = i.size := e4.trans hEs
      split at h
      · rename_i hc
        have hc : off + (len + n) * i.size ≤ N := by simpa [Nat.ble_eq] using hc
        have hcc : len + n ≤ cc := by
          rw [hEL] at hE
          have : (len + n) * i.size ≤ cc * i.size := by omega
          exact Nat.le_of_mul_le_mul_right this hpos
        exact room rfl hcc (fun hq => .sliceO _ _ _ _ L hq hcc hE) h
      · split at h
        · rename_i hc
          have hc : off + len * i.size = N := Nat.eq_of_beq_eq_true hc
          unfold appendEnd at h
          rw [bif2_eq] at h
          split at h
          · cases h
          · rename_i hro
            have hro : ro = false := by simpa using hro
            subst hro
            obtain ⟨old, co, h1, ho, hol, hrold, hoc⟩ := elemsK_inv (P := P) V (.sliceO b off len cc L hL hle hE) h
            obtain ⟨new, cn, h2, hn, hnl, hrn, _⟩ := elemsK_inv (P := P) V hx h1
            rw [bif2_eq] at h2
            split at h2
            · rename_i hp
              rcases T.setK_eq (OR.fail 86) none m.t b (fun t => growA i.size (old ++ new) (len.add n) ⟨m.next, t⟩) with q | ⟨t1, ht1, q⟩
              · rw [q] at h2; cases h2
              · rw [q] at h2
                have hst0 : Step ρ m w ρ ⟨m.next, t1⟩ w := GStep.drop V.sim V.wf fun j x hj => by
                  rw [ht1] at hj
                  by_cases hjb : j = b
                  · rw [if_pos hjb] at hj; cases hj
                  · rw [if_neg hjb] at hj; exact hj
                by_cases hroom : len + n ≤ cc
                · -- there is room: the same array under a new name
                  obtain ⟨m1, c1, hn1', hg1, hc1, hk1⟩ := newBlk_inv h2
                  cases hk1
                  have hin : L.base + off + (len + n) * i.size ≤ cs0.size := by
                    rw [e3, ← hE, hEL]
                    have := Nat.mul_le_mul_right i.size hroom
                    omega
                  have hmul : (len + n) * i.size = len * i.size + n * i.size := Nat.add_mul _ _ _
                  obtain ⟨w1, cs1, g1, g2, g3, g4, g5, g6, g7, g8, g9⟩ := run_storeCells P L.blk (L.base + off + len * i.size) el fz cn 0 w cs0 e2 (by omega) (e7.1 rfl) (hn.plain hp)
                  have hol' := ho.length
                  have hnl' := hn.length
                  refine ⟨ρ.set m.next ⟨L.blk, L.base + off, L.csize, i.size⟩, w1, .slice (some ⟨L.blk, L.base + off + 0, none⟩) (len + n) cc, ?_, ?_, ?_⟩
                  · refine GStep.write (b := b) (b1 := m.next) (hi := _) (d := off) (E := i.size) (n' := (len + n) * i.size) (c' := c1) (cs' := cs1) V.sim V.wf (by rw [← hEs]; exact hb) hL e2 g3 g2 g5 g6 g7 g8 g9 (.inr ⟨rfl, hn1', hf _ (Nat.le_refl _) (by rw [hn1']; show m.next < m.next + 1; omega)⟩) (fun j => ?_) hin (fun q hq => ?_)
                    · rw [hg1, ht1]
                      have : (old ++ new).length = (len + n) * i.size := by simp; omega
                      rw [this]
                    · have hlt : q < (old ++ new).length := by simp; omega
                      rw [hc1 q hlt]
                      by_cases hqo : q < len * i.size
                      · have hqo' : q < old.length := by omega
                        rw [List.getElem?_append_left hqo']
                        have hold : cs1[L.base + off + q]? = cs0[L.base + off + q]? := by rw [g4, if_neg (by omega)]
                        obtain ⟨x1, hx1, hr1⟩ := e6 (off + q) (by omega)
                        refine ⟨x1, by rw [hold, Nat.add_assoc]; exact hx1, ?_⟩
                        have hoc := hoc _ _ _ _ rfl _ _ _ _ _ hb
                        rw [hoc, cellsFrom_get _ _ _ _ (by omega)]
                        exact hr1
                      · have hqo' : old.length ≤ q := by omega
                        rw [List.getElem?_append_right hqo']
                        have hq2 : q - old.length < new.length := by omega
                        obtain ⟨x0, hx0, hr0⟩ := hn.get (q - old.length) (List.getElem?_eq_getElem hq2)
                        refine ⟨x0, ?_, by simpa [List.getElem?_eq_getElem hq2] using hr0⟩
                        rw [g4, if_pos (by omega), ← hx0]; congr 1; omega
                  · refine .sliceO _ _ _ _ _ (Ren.set_same _ _ _) hroom ?_
                    show L.base + off + 0 + cc * i.size = L.csize
                    rw [← hEL]; omega
                  · rw [run_append_room A ty (hl w) hroom, hrn w rfl]
                    simp only [Result.andThen_ok, addr_add]
                    rw [g1]; rfl
                · exact grow hst0.view rfl hst0 rfl (by omega) ho hn hol hnl hrold hrn h2
            · cases h2
        · cases h
    · cases h

end
end Go.Ev
