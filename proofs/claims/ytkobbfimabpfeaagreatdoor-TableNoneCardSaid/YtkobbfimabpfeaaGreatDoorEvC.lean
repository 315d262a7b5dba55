/- What the evaluator's values and memories stand for in a world, and how such a view goes on. -/
import Derived.Test.YtkobbfimabpfeaaGreatDoorEvB
import Derived.Laws.Rows
import Derived.Laws.Cells
import Derived.Laws.World
namespace Go.Ev

/-- Where a name's cells lie: from a place of a block on; how many cells the block has; how wide the elements of a slice over it are. -/
structure Loc where
  blk : Nat
  base : Nat
  csize : Nat
  E : Nat

abbrev Ren := Nat → Option Loc

mutual
inductive VR (ρ : Ren) : AV → Value → Prop
  | any (v : Value) : VR ρ .any v
  | bool (b : Bool) : VR ρ (.bool b) (.bool b)
  | int (k : IntKind) (n : Int) : VR ρ (.int k n) (.int k n)
  | str (l : List Nat) (s : ByteArray) (h : s.data.toList.map UInt8.toNat = l) : VR ρ (.str l) (.string s)
  | ptr (b off : Nat) (L : Loc) (h : ρ b = some L) : VR ρ (.ptr b off) (.pointer (some ⟨L.blk, L.base + off, none⟩))
  | nilp : VR ρ .nilp (.pointer none)
  | sliceE (b off len c : Nat) (L : Loc) (h : ρ b = some L) (hl : len ≤ c) : VR ρ (.slice b off len (some c)) (.slice (some ⟨L.blk, L.base + off, none⟩) len c)
  | sliceO (b off len c : Nat) (L : Loc) (h : ρ b = some L) (hl : len ≤ c) (he : L.base + off + c * L.E = L.csize) : VR ρ (.slice b off len none) (.slice (some ⟨L.blk, L.base + off, none⟩) len c)
  | nils : VR ρ .nils (.slice none 0 0)
  | emp (a : Addr) (c : Nat) : VR ρ .emp (.slice (some a) 0 c)
  | map (b : Nat) (L : Loc) (h : ρ b = some L) : VR ρ (.map b) (.map (some L.blk))
  | nilm : VR ρ .nilm (.map none)
  | fn (f : FuncId) (caps : List AV) (cs : Array Value) (h : VRs ρ caps cs.toList) : VR ρ (.fn f caps) (.func (.func f) #[] cs)
  | nilf : VR ρ .nilf .nilFunc
  | iface (t : TypeId) (v : AV) (c : Value) (h : VR ρ v c) : VR ρ (.iface t v) (.iface t c)
  | nili : VR ρ .nili .nilIface
  | agg (l : List AV) (cs : Array Value) (h : VRs ρ l cs.toList) : VR ρ (.agg l) (.agg cs)
  | tup (l : List AV) (cs : Array Value) (h : VRs ρ l cs.toList) : VR ρ (.tup l) (.tuple cs)
inductive VRs (ρ : Ren) : List AV → List Value → Prop
  | nil : VRs ρ [] []
  | cons (v : AV) (c : Value) (l : List AV) (cs : List Value) (h : VR ρ v c) (hs : VRs ρ l cs) : VRs ρ (v :: l) (c :: cs)
end

noncomputable def Sub (ρ ρ' : Ren) : Prop := ∀ b L, ρ b = some L → ρ' b = some L

mutual
theorem VR.mono {ρ ρ' : Ren} (h : Sub ρ ρ') : ∀ {a : AV} {v : Value}, VR ρ a v → VR ρ' a v
  | _, _, .any v => .any v
  | _, _, .bool b => .bool b
  | _, _, .int k n => .int k n
  | _, _, .str l s e => .str l s e
  | _, _, .ptr b off L e => .ptr b off L (h _ _ e)
  | _, _, .nilp => .nilp
  | _, _, .sliceE b off len c L e hl => .sliceE b off len c L (h _ _ e) hl
  | _, _, .sliceO b off len c L e hl he => .sliceO b off len c L (h _ _ e) hl he
  | _, _, .nils => .nils
  | _, _, .emp a c => .emp a c
  | _, _, .map b L e => .map b L (h _ _ e)
  | _, _, .nilm => .nilm
  | _, _, .fn f caps cs e => .fn f caps cs (VRs.mono h e)
  | _, _, .nilf => .nilf
  | _, _, .iface t v c e => .iface t v c (VR.mono h e)
  | _, _, .nili => .nili
  | _, _, .agg l cs e => .agg l cs (VRs.mono h e)
  | _, _, .tup l cs e => .tup l cs (VRs.mono h e)
theorem VRs.mono {ρ ρ' : Ren} (h : Sub ρ ρ') : ∀ {l : List AV} {cs : List Value}, VRs ρ l cs → VRs ρ' l cs
  | _, _, .nil => .nil
  | _, _, .cons v c l cs e es => .cons v c l cs (VR.mono h e) (VRs.mono h es)
end

theorem VR.undef (ρ : Ren) : VR ρ .undef undef := .tup [] #[] .nil

theorem VRs.length {ρ : Ren} : ∀ {l : List AV} {cs : List Value}, VRs ρ l cs → l.length = cs.length
  | _, _, .nil => rfl
  | _, _, .cons _ _ _ _ _ h => by simp [VRs.length h]

theorem VRs.get {ρ : Ren} : ∀ {l : List AV} {cs : List Value} (_ : VRs ρ l cs) (i : Nat) {v : AV}, l[i]? = some v → ∃ c, cs[i]? = some c ∧ VR ρ v c
  | _, _, .cons v c l cs h _, 0, u, e => by simp at e; subst e; exact ⟨c, by simp, h⟩
  | _, _, .cons v c l cs _ h, i + 1, u, e => by simpa using VRs.get h i (by simpa using e)

theorem VRs.of_get {ρ : Ren} : ∀ {l : List AV} {cs : List Value}, l.length = cs.length → (∀ (i : Nat) v, l[i]? = some v → ∃ c, cs[i]? = some c ∧ VR ρ v c) → VRs ρ l cs
  | [], [], _, _ => .nil
  | v :: l, c :: cs, hl, h => by
    obtain ⟨c', e, hv⟩ := h 0 v (by simp)
    simp at e; subst e
    exact .cons _ _ _ _ hv (VRs.of_get (by simpa using hl) fun i v hi => by simpa using h (i + 1) v (by simpa using hi))

theorem VRs.append {ρ : Ren} : ∀ {l : List AV} {cs : List Value} {l' : List AV} {cs' : List Value}, VRs ρ l cs → VRs ρ l' cs' → VRs ρ (l ++ l') (cs ++ cs')
  | _, _, _, _, .nil, h => h
  | _, _, _, _, .cons v c l cs e es, h => .cons v c _ _ e (VRs.append es h)

theorem VRs.drop {ρ : Ren} : ∀ {l : List AV} {cs : List Value} (n : Nat), VRs ρ l cs → VRs ρ (l.drop n) (cs.drop n)
  | _, _, 0, h => by simpa using h
  | _, _, n + 1, .nil => by simpa using VRs.nil
  | _, _, n + 1, .cons v c l cs _ es => by simpa using VRs.drop n es

theorem VRs.take {ρ : Ren} : ∀ {l : List AV} {cs : List Value} (n : Nat), VRs ρ l cs → VRs ρ (l.take n) (cs.take n)
  | _, _, 0, _ => by simpa using VRs.nil
  | _, _, n + 1, .nil => by simpa using VRs.nil
  | _, _, n + 1, .cons v c l cs e es => by simpa using VRs.cons _ _ _ _ e (VRs.take n es)

/-! ### Memory -/

/-- May its cells be written? -/
noncomputable def Blk.wr : Blk → Bool
  | .cells ro _ _ _ _ => !ro
  | .map ro _ _ => !ro

/-- An entry of a map. -/
structure ER (ρ : Ren) (e : Ent) (x : MapEntry) : Prop where
  key : VR ρ e.k x.key
  val : VR ρ e.v x.val
  born : ∀ n, e.born = some n → x.born = n
inductive ERs (ρ : Ren) : List Ent → List MapEntry → Prop
  | nil : ERs ρ [] []
  | cons (e : Ent) (x : MapEntry) (l : List Ent) (xs : List MapEntry) (h : ER ρ e x) (hs : ERs ρ l xs) : ERs ρ (e :: l) (x :: xs)
theorem ER.mono {ρ ρ' : Ren} (h : Sub ρ ρ') {e : Ent} {x : MapEntry} (k : ER ρ e x) : ER ρ' e x := ⟨k.key.mono h, k.val.mono h, k.born⟩
theorem ERs.mono {ρ ρ' : Ren} (h : Sub ρ ρ') : ∀ {l : List Ent} {xs : List MapEntry}, ERs ρ l xs → ERs ρ' l xs
  | _, _, .nil => .nil
  | _, _, .cons e x l xs k ks => .cons e x l xs (k.mono h) (ERs.mono h ks)

/-- A map's entries, in some order; stamps are unlike and below the clock. -/
structure MR (ρ : Ren) (ck : Nat) (es : List Ent) (mes : Array MapEntry) : Prop where
  ex : ∃ l : List MapEntry, l.Perm mes.toList ∧ ERs ρ es l
  old : ∀ x, x ∈ mes.toList → x.born < ck
  nodup : (mes.toList.map (·.born)).Nodup
theorem MR.mono {ρ ρ' : Ren} (h : Sub ρ ρ') {ck : Nat} {es : List Ent} {mes : Array MapEntry} (k : MR ρ ck es mes) : MR ρ' ck es mes :=
  ⟨let ⟨l, h1, h2⟩ := k.ex; ⟨l, h1, h2.mono h⟩, k.old, k.nodup⟩

noncomputable def BR (ρ : Ren) (w : World) (b : Nat) : Blk → Prop
  | .cells ro sg E n c => ∃ L cs elem fz, ρ b = some L ∧ w.heap[L.blk]? = some (.cells cs elem fz) ∧ cs.size = L.csize ∧ L.E = E ∧ L.base + n ≤ cs.size ∧
      (∀ i, i < n → ∃ v, cs[L.base + i]? = some v ∧ VR ρ ((c.get i).getD .any) v) ∧ (ro = false → ∀ i, i < cs.size → ¬ (fz.1 ≤ i ∧ i < fz.2)) ∧ (sg = false → ∀ i, ¬ (fz.1 ≤ i ∧ i < fz.2))
  | .map _ ck es => ∃ L mes, ρ b = some L ∧ w.heap[L.blk]? = some (.map mes ck) ∧ MR ρ ck es mes

structure Sim (ρ : Ren) (g : Nat → Option Blk) (w : World) : Prop where
  blk : ∀ b x, g b = some x → BR ρ w b x
  sep : ∀ b b' x x' L L', g b = some x → g b' = some x' → b ≠ b' → x.wr = true → ρ b = some L → ρ b' = some L' → L.blk ≠ L'.blk

theorem BR.loc {ρ : Ren} {w : World} {b : Nat} {x : Blk} (h : BR ρ w b x) : ∃ L, ρ b = some L ∧ L.blk < w.heap.size := by
  cases x with
  | cells ro sg E n c =>
    obtain ⟨L, cs, elem, fz, h1, h2, _⟩ := h
    refine ⟨L, h1, ?_⟩
    rcases Nat.lt_or_ge L.blk w.heap.size with h | h
    · exact h
    · simp [Array.getElem?_eq_none h] at h2
  | map ro ck es =>
    obtain ⟨L, mes, h1, h2, _⟩ := h
    refine ⟨L, h1, ?_⟩
    rcases Nat.lt_or_ge L.blk w.heap.size with h | h
    · exact h
    · simp [Array.getElem?_eq_none h] at h2

/-- What holds of a block holds in a world that has that block as it was, under a greater view. -/
theorem BR.mono {ρ ρ' : Ren} {w w' : World} {b : Nat} {x : Blk} (hs : Sub ρ ρ') (h : BR ρ w b x) (hw : ∀ L, ρ b = some L → w'.heap[L.blk]? = w.heap[L.blk]?) : BR ρ' w' b x := by
  cases x with
  | cells ro sg E n c =>
    obtain ⟨L, cs, elem, fz, h1, h2, h3, h4, hn, h5, h6⟩ := h
    exact ⟨L, cs, elem, fz, hs _ _ h1, by rw [hw L h1]; exact h2, h3, h4, hn, fun i hi => let ⟨v, a, b⟩ := h5 i hi; ⟨v, a, b.mono hs⟩, h6⟩
  | map ro ck es =>
    obtain ⟨L, mes, h1, h2, h3⟩ := h
    exact ⟨L, mes, hs _ _ h1, by rw [hw L h1]; exact h2, h3.mono hs⟩

/-- A step of a run: from a view of a world to a view of the next; the names from lo to hi are new. -/
structure GStep (ρ : Ren) (g : Nat → Option Blk) (lo : Nat) (w : World) (ρ' : Ren) (g' : Nat → Option Blk) (hi : Nat) (w' : World) : Prop where
  ren : ∀ b, ¬ (lo ≤ b ∧ b < hi) → ρ' b = ρ b
  le : lo ≤ hi
  sim : Sim ρ' g' w'
  wf : ∀ b x, g' b = some x → b < hi
  img : ∀ b x L, g' b = some x → x.wr = true → ρ' b = some L → w.heap.size ≤ L.blk ∨ ∃ b0 x0 L0, g b0 = some x0 ∧ x0.wr = true ∧ ρ b0 = some L0 ∧ L0.blk = L.blk
  imgR : ∀ b x L, g' b = some x → ρ' b = some L → w.heap.size ≤ L.blk ∨ ∃ b0 x0 L0, g b0 = some x0 ∧ ρ b0 = some L0 ∧ L0.blk = L.blk
  keeps : ∀ k, k < w.heap.size → (∀ b x L, g b = some x → x.wr = true → ρ b = some L → L.blk ≠ k) → w'.heap[k]? = w.heap[k]?
  size : w.heap.size ≤ w'.heap.size
  os : w'.os = w.os
  tape : w'.tape = w.tape
  output : w'.output = w.output

abbrev Step (ρ : Ren) (m : AMem) (w : World) (ρ' : Ren) (m' : AMem) (w' : World) : Prop := GStep ρ m.t.get m.next w ρ' m'.t.get m'.next w'

/-- The names from lo to hi stand for nothing yet. -/
noncomputable def Fresh (ρ : Ren) (lo hi : Nat) : Prop := ∀ b, lo ≤ b → b < hi → ρ b = none

section
variable {ρ ρ' ρ1 ρ2 : Ren} {g g' g1 g2 : Nat → Option Blk} {lo hi hi1 hi2 : Nat} {w w' w1 w2 : World}

theorem GStep.sub (h : GStep ρ g lo w ρ' g' hi w') (hf : Fresh ρ lo hi) : Sub ρ ρ' := by
  intro b L e
  rw [h.ren b fun ⟨h1, h2⟩ => by rw [hf b h1 h2] at e; cases e]; exact e

theorem GStep.fresh (h : GStep ρ g lo w ρ' g' hi w') {top : Nat} (hf : Fresh ρ lo top) : Fresh ρ' hi top := fun b h1 h2 => by
  rw [h.ren b (by omega)]; exact hf b (Nat.le_trans h.le h1) h2

theorem Fresh.le {lo hi hi' : Nat} (h : Fresh ρ lo hi) (h' : hi' ≤ hi) : Fresh ρ lo hi' := fun b h1 h2 => h b h1 (by omega)

theorem GStep.trans (h : GStep ρ g lo w ρ1 g1 hi1 w1) (k : GStep ρ1 g1 hi1 w1 ρ2 g2 hi2 w2) : GStep ρ g lo w ρ2 g2 hi2 w2 where
  ren b hb := by
    have h1 := h.le; have h2 := k.le
    rw [k.ren b (by omega), h.ren b (by omega)]
  le := Nat.le_trans h.le k.le
  sim := k.sim
  wf := k.wf
  img b x L h1 h2 h3 := by
    rcases k.img b x L h1 h2 h3 with a | ⟨b0, x0, L0, a, b, c, d⟩
    · exact .inl (Nat.le_trans h.size a)
    · rcases h.img b0 x0 L0 a b c with e | ⟨b1, x1, L1, e1, e2, e3, e4⟩
      · exact .inl (d ▸ e)
      · exact .inr ⟨b1, x1, L1, e1, e2, e3, e4.trans d⟩
  imgR b x L h1 h3 := by
    rcases k.imgR b x L h1 h3 with a | ⟨b0, x0, L0, a, c, d⟩
    · exact .inl (Nat.le_trans h.size a)
    · rcases h.imgR b0 x0 L0 a c with e | ⟨b1, x1, L1, e1, e3, e4⟩
      · exact .inl (d ▸ e)
      · exact .inr ⟨b1, x1, L1, e1, e3, e4.trans d⟩
  keeps i hi hn := by
    rw [k.keeps i (Nat.lt_of_lt_of_le hi h.size), h.keeps i hi hn]
    intro b x L h1 h2 h3
    rcases h.img b x L h1 h2 h3 with a | ⟨b0, x0, L0, e1, e2, e3, e4⟩
    · omega
    · exact e4 ▸ hn b0 x0 L0 e1 e2 e3
  size := Nat.le_trans h.size k.size
  os := k.os.trans h.os
  tape := k.tape.trans h.tape
  output := k.output.trans h.output

theorem GStep.refl (hs : Sim ρ g w) (hwf : ∀ b x, g b = some x → b < lo) : GStep ρ g lo w ρ g lo w where
  ren _ _ := rfl
  le := Nat.le_refl _
  sim := hs
  wf := hwf
  img b x L h1 h2 h3 := .inr ⟨b, x, L, h1, h2, h3, rfl⟩
  imgR b x L h1 h3 := .inr ⟨b, x, L, h1, h3, rfl⟩
  keeps _ _ _ := rfl
  size := Nat.le_refl _
  os := rfl
  tape := rfl
  output := rfl

theorem Sim.world (h : Sim ρ g w) (hw : w'.heap = w.heap) : Sim ρ g w' :=
  ⟨fun b x hb => (h.blk b x hb).mono (fun _ _ e => e) (fun _ _ => by rw [hw]), h.sep⟩

/-- A view of less. -/
theorem Sim.less (h : Sim ρ g w) (hg : ∀ b x, g' b = some x → g b = some x) : Sim ρ g' w :=
  ⟨fun b x hb => h.blk b x (hg b x hb), fun b b' x x' L L' h1 h2 => h.sep b b' x x' L L' (hg _ _ h1) (hg _ _ h2)⟩

/-- The tape has moved on. -/
theorem GStep.drew (hs : Sim ρ g w) (hwf : ∀ b x, g b = some x → b < lo) (n : Nat) : GStep ρ g lo w ρ g lo { w with drawn := n } where
  ren _ _ := rfl
  le := Nat.le_refl _
  sim := hs.world rfl
  wf := hwf
  img b x L h1 h2 h3 := .inr ⟨b, x, L, h1, h2, h3, rfl⟩
  imgR b x L h1 h3 := .inr ⟨b, x, L, h1, h3, rfl⟩
  keeps _ _ _ := rfl
  size := Nat.le_refl _
  os := rfl
  tape := rfl
  output := rfl

/-- A name is given up. -/
theorem GStep.drop (hs : Sim ρ g w) (hwf : ∀ b x, g b = some x → b < lo) (hg : ∀ b x, g' b = some x → g b = some x) : GStep ρ g lo w ρ g' lo w where
  ren _ _ := rfl
  le := Nat.le_refl _
  sim := hs.less hg
  wf b x h := hwf b x (hg b x h)
  img b x L h1 h2 h3 := .inr ⟨b, x, L, hg b x h1, h2, h3, rfl⟩
  imgR b x L h1 h3 := .inr ⟨b, x, L, hg b x h1, h3, rfl⟩
  keeps _ _ _ := rfl
  size := Nat.le_refl _
  os := rfl
  tape := rfl
  output := rfl
end

/-- A small step beside what else is known. -/
noncomputable def over (G g g' : Nat → Option Blk) : Nat → Option Blk := fun b => match g' b with
  | some x => some x
  | none => match g b with
    | some _ => none
    | none => G b

theorem over_cases {G g g' : Nat → Option Blk} {b : Nat} {x : Blk} (h : over G g g' b = some x) : g' b = some x ∨ (G b = some x ∧ g b = none) := by
  unfold over at h
  cases h1 : g' b with
  | some y => rw [h1] at h; exact .inl h
  | none =>
    rw [h1] at h
    cases h2 : g b with
    | some y => rw [h2] at h; cases h
    | none => rw [h2] at h; exact .inr ⟨h, rfl⟩

theorem over_new {G g g' : Nat → Option Blk} {b : Nat} {x : Blk} (h : g' b = some x) : over G g g' b = some x := by
  unfold over; rw [h]

theorem over_old {G g g' : Nat → Option Blk} {b : Nat} (h : g' b = none) (h' : g b = none) : over G g g' b = G b := by
  unfold over; rw [h, h']

theorem GStep.extend {ρ0 ρ ρ' : Ren} {g0 G g g' : Nat → Option Blk} {lo0 hiN lo hi : Nat} {w0 w w' : World} (B : GStep ρ0 g0 lo0 w0 ρ G hiN w) (S : GStep ρ g lo w ρ' g' hi w')
    (hsub : ∀ b x, g b = some x → G b = some x) (hlo : lo0 ≤ lo) (hhi : hi ≤ hiN) (hfr : Fresh ρ lo hi) : GStep ρ0 g0 lo0 w0 ρ' (over G g g') hiN w' := by
  have hs := S.sub hfr
  have old : ∀ {b x L}, G b = some x → ρ' b = some L → ρ b = some L ∧ L.blk < w.heap.size := fun {b x L} h1 h2 => by
    obtain ⟨L0, e1, e2⟩ := (B.sim.blk b x h1).loc
    have := hs _ _ e1
    rw [h2] at this; cases this
    exact ⟨e1, e2⟩
  refine ⟨fun b hb => ?_, B.le, ⟨fun b x h => ?_, fun b b' x x' L L' h h' hne hw e e' => ?_⟩, fun b x h => ?_, fun b x L h1 h2 h3 => ?_, fun b x L h1 h3 => ?_, fun k hk hn => ?_, Nat.le_trans B.size S.size, S.os.trans B.os, S.tape.trans B.tape, S.output.trans B.output⟩
  · rw [S.ren b (by omega), B.ren b hb]
  · rcases over_cases h with h | ⟨h, hg⟩
    · exact S.sim.blk b x h
    · refine (B.sim.blk b x h).mono hs fun L e => S.keeps _ ?_ fun b2 x2 L2 h2 hw2 e2 => ?_
      · obtain ⟨L0, e1, e3⟩ := (B.sim.blk b x h).loc
        rw [e] at e1; cases e1; exact e3
      · exact B.sim.sep b2 b x2 x L2 L (hsub _ _ h2) h (fun q => by rw [q, hg] at h2; cases h2) hw2 e2 e
  · rcases over_cases h with h | ⟨h, hg⟩ <;> rcases over_cases h' with h' | ⟨h', hg'⟩
    · exact S.sim.sep b b' x x' L L' h h' hne hw e e'
    · obtain ⟨o1, o2⟩ := old h' e'
      rcases S.img b x L h hw e with a | ⟨b0, x0, L0, i1, i2, i3, i4⟩
      · omega
      · rw [← i4]
        exact B.sim.sep b0 b' x0 x' L0 L' (hsub _ _ i1) h' (fun q => by rw [q, hg'] at i1; cases i1) i2 i3 o1
    · obtain ⟨o1, o2⟩ := old h e
      rcases S.imgR b' x' L' h' e' with a | ⟨b0, x0, L0, i1, i3, i4⟩
      · omega
      · rw [← i4]
        exact B.sim.sep b b0 x x0 L L0 h (hsub _ _ i1) (fun q => by rw [← q, hg] at i1; cases i1) hw o1 i3
    · exact B.sim.sep b b' x x' L L' h h' hne hw (old h e).1 (old h' e').1
  · rcases over_cases h with h | ⟨h, hg⟩
    · have := S.wf b x h; omega
    · exact B.wf b x h
  · rcases over_cases h1 with h1 | ⟨h1, hg⟩
    · rcases S.img b x L h1 h2 h3 with a | ⟨b0, x0, L0, i1, i2, i3, i4⟩
      · exact .inl (Nat.le_trans B.size a)
      · rw [← i4]; exact B.img b0 x0 L0 (hsub _ _ i1) i2 i3
    · exact B.img b x L h1 h2 (old h1 h3).1
  · rcases over_cases h1 with h1 | ⟨h1, hg⟩
    · rcases S.imgR b x L h1 h3 with a | ⟨b0, x0, L0, i1, i3, i4⟩
      · exact .inl (Nat.le_trans B.size a)
      · rw [← i4]; exact B.imgR b0 x0 L0 (hsub _ _ i1) i3
    · exact B.imgR b x L h1 (old h1 h3).1
  · rw [S.keeps k (Nat.lt_of_lt_of_le hk B.size), B.keeps k hk hn]
    intro b x L i1 i2 i3
    rcases B.img b x L (hsub _ _ i1) i2 i3 with a | ⟨b0, x0, L0, e1, e2, e3, e4⟩
    · omega
    · exact e4 ▸ hn b0 x0 L0 e1 e2 e3

/-- Less is known. -/
theorem GStep.less {ρ0 ρ : Ren} {g0 G g : Nat → Option Blk} {lo hi hi' : Nat} {w0 w : World} (B : GStep ρ0 g0 lo w0 ρ G hi w) (h : ∀ b x, g b = some x → G b = some x) (hwf : ∀ b x, g b = some x → b < hi') (hle : hi = hi') : GStep ρ0 g0 lo w0 ρ g hi' w := by
  subst hle
  exact ⟨B.ren, B.le, B.sim.less h, hwf, fun b x L h1 => B.img b x L (h _ _ h1), fun b x L h1 => B.imgR b x L (h _ _ h1), B.keeps, B.size, B.os, B.tape, B.output⟩

noncomputable def Ren.set (ρ : Ren) (b : Nat) (L : Loc) : Ren := fun x => if x = b then some L else ρ x
theorem Ren.set_same (ρ : Ren) (b : Nat) (L : Loc) : ρ.set b L b = some L := by simp [Ren.set]
theorem Ren.set_other (ρ : Ren) (b : Nat) (L : Loc) {x : Nat} (h : x ≠ b) : ρ.set b L x = ρ x := by simp [Ren.set, h]
theorem Ren.sub_set {ρ : Ren} {b : Nat} (L : Loc) (h : ρ b = none) : Sub ρ (ρ.set b L) := fun x l e => by
  by_cases hx : x = b
  · subst hx; rw [h] at e; cases e
  · rw [Ren.set_other _ _ _ hx]; exact e

/-- A new name for cells of a new block. -/
theorem GStep.alloc {ρ : Ren} {g g' : Nat → Option Blk} {lo : Nat} {w : World} (hs : Sim ρ g w) (hwf : ∀ b x, g b = some x → b < lo) (hfr : ρ lo = none)
    {E n : Nat} {c : T AV} {cs : Array Value} {elem : TypeId} {fz : Nat × Nat}
    (hle : n ≤ cs.size) (hc : ∀ i, i < n → ∃ v, cs[i]? = some v ∧ VR ρ ((c.get i).getD .any) v) (hfz : ∀ i, i < cs.size → ¬ (fz.1 ≤ i ∧ i < fz.2)) {sg : Bool} (hsg : sg = false → ∀ i, ¬ (fz.1 ≤ i ∧ i < fz.2))
    (hg : ∀ j, g' j = if j = lo then some (.cells false sg E n c) else g j) :
    GStep ρ g lo w (ρ.set lo ⟨w.heap.size, 0, cs.size, E⟩) g' (lo + 1) (w.alloc (.cells cs elem fz)) where
  ren b hb := by rw [Ren.set_other]; omega
  le := by omega
  sim := by
    have hsub := Ren.sub_set (b := lo) ⟨w.heap.size, 0, cs.size, E⟩ hfr
    refine ⟨fun b x h => ?_, fun b b' x x' L L' h h' hne hw e e' => ?_⟩
    · rw [hg] at h
      by_cases hb : b = lo
      · subst hb; rw [if_pos rfl] at h; cases h
        exact ⟨_, cs, elem, fz, Ren.set_same _ _ _, heap_alloc_new _ _, rfl, rfl, by simpa using hle, fun i hi => let ⟨v, a, b⟩ := hc i hi; ⟨v, by simpa using a, b.mono hsub⟩, fun _ => hfz, hsg⟩
      · rw [if_neg hb] at h
        obtain ⟨L, h1, h2⟩ := (hs.blk b x h).loc
        exact (hs.blk b x h).mono hsub fun L' e => by rw [h1] at e; cases e; exact heap_alloc_old _ _ _ h2
    · rw [hg] at h h'
      by_cases hb : b = lo
      · have hb' : b' ≠ lo := fun e => hne (hb.trans e.symm)
        rw [if_neg hb'] at h'
        rw [hb, Ren.set_same] at e; cases e
        obtain ⟨L1, h1, h2⟩ := (hs.blk b' x' h').loc
        rw [Ren.set_other _ _ _ hb', h1] at e'; cases e'
        simp; omega
      · rw [if_neg hb] at h
        rw [Ren.set_other _ _ _ hb] at e
        by_cases hb' : b' = lo
        · rw [hb', Ren.set_same] at e'; cases e'
          obtain ⟨L1, h1, h2⟩ := (hs.blk b x h).loc
          rw [h1] at e; cases e
          simp; omega
        · rw [if_neg hb'] at h'
          rw [Ren.set_other _ _ _ hb'] at e'
          exact hs.sep b b' x x' L L' h h' hne hw e e'
  wf b x h := by
    rw [hg] at h
    by_cases hb : b = lo
    · omega
    · rw [if_neg hb] at h; have := hwf b x h; omega
  img b x L h1 h2 h3 := by
    rw [hg] at h1
    by_cases hb : b = lo
    · rw [hb, Ren.set_same] at h3; cases h3; exact .inl (Nat.le_refl _)
    · rw [if_neg hb] at h1; rw [Ren.set_other _ _ _ hb] at h3; exact .inr ⟨b, x, L, h1, h2, h3, rfl⟩
  imgR b x L h1 h3 := by
    rw [hg] at h1
    by_cases hb : b = lo
    · rw [hb, Ren.set_same] at h3; cases h3; exact .inl (Nat.le_refl _)
    · rw [if_neg hb] at h1; rw [Ren.set_other _ _ _ hb] at h3; exact .inr ⟨b, x, L, h1, h3, rfl⟩
  keeps k hk _ := heap_alloc_old _ _ _ hk
  size := by simp
  os := rfl
  tape := rfl
  output := rfl

/-- A new name for a new block, whatever it is. -/
theorem GStep.allocB {ρ : Ren} {g g' : Nat → Option Blk} {lo : Nat} {w w' : World} {x : Blk} {L : Loc} (hs : Sim ρ g w) (hwf : ∀ b x, g b = some x → b < lo) (hfr : ρ lo = none)
    (hL : L.blk = w.heap.size) (hx : BR (ρ.set lo L) w' lo x) (hold : ∀ k, k < w.heap.size → w'.heap[k]? = w.heap[k]?) (hsz : w.heap.size ≤ w'.heap.size) (hos : w'.os = w.os) (ht : w'.tape = w.tape) (ho : w'.output = w.output)
    (hg : ∀ j, g' j = if j = lo then some x else g j) : GStep ρ g lo w (ρ.set lo L) g' (lo + 1) w' where
  ren b hb := by rw [Ren.set_other]; omega
  le := by omega
  sim := by
    have hsub := Ren.sub_set (b := lo) L hfr
    refine ⟨fun b y h => ?_, fun b b' y y' L1 L2 h h' hne hw e e' => ?_⟩
    · rw [hg] at h
      by_cases hb : b = lo
      · subst hb; rw [if_pos rfl] at h; cases h; exact hx
      · rw [if_neg hb] at h
        obtain ⟨L0, h1, h2⟩ := (hs.blk b y h).loc
        exact (hs.blk b y h).mono hsub fun L' e => by rw [h1] at e; cases e; exact hold _ h2
    · rw [hg] at h h'
      by_cases hb : b = lo
      · have hb' : b' ≠ lo := fun e => hne (hb.trans e.symm)
        rw [if_neg hb'] at h'
        rw [hb, Ren.set_same] at e; cases e
        obtain ⟨L0, h1, h2⟩ := (hs.blk b' y' h').loc
        rw [Ren.set_other _ _ _ hb', h1] at e'; cases e'
        rw [hL]; omega
      · rw [if_neg hb] at h
        rw [Ren.set_other _ _ _ hb] at e
        by_cases hb' : b' = lo
        · rw [hb', Ren.set_same] at e'; cases e'
          obtain ⟨L0, h1, h2⟩ := (hs.blk b y h).loc
          rw [h1] at e; cases e
          rw [hL]; omega
        · rw [if_neg hb'] at h'
          rw [Ren.set_other _ _ _ hb'] at e'
          exact hs.sep b b' y y' L1 L2 h h' hne hw e e'
  wf b y h := by
    rw [hg] at h
    by_cases hb : b = lo
    · omega
    · rw [if_neg hb] at h; have := hwf b y h; omega
  img b y L1 h1 h2 h3 := by
    rw [hg] at h1
    by_cases hb : b = lo
    · rw [hb, Ren.set_same] at h3; cases h3; exact .inl (by rw [hL]; exact Nat.le_refl _)
    · rw [if_neg hb] at h1; rw [Ren.set_other _ _ _ hb] at h3; exact .inr ⟨b, y, L1, h1, h2, h3, rfl⟩
  imgR b y L1 h1 h3 := by
    rw [hg] at h1
    by_cases hb : b = lo
    · rw [hb, Ren.set_same] at h3; cases h3; exact .inl (by rw [hL]; exact Nat.le_refl _)
    · rw [if_neg hb] at h1; rw [Ren.set_other _ _ _ hb] at h3; exact .inr ⟨b, y, L1, h1, h3, rfl⟩
  keeps k hk _ := hold k hk
  size := hsz
  os := hos
  tape := ht
  output := ho

/-- A block that may be written is turned, its name stays. -/
theorem GStep.writeB {ρ : Ren} {g g' : Nat → Option Blk} {lo : Nat} {w w' : World} {x y : Blk} {b : Nat} {L : Loc} (hs : Sim ρ g w) (hwf : ∀ b x, g b = some x → b < lo)
    (hb : g b = some x) (hx : x.wr = true) (hL : ρ b = some L) (hy : BR ρ w' b y)
    (hrest : ∀ k, k ≠ L.blk → w'.heap[k]? = w.heap[k]?) (hsize : w'.heap.size = w.heap.size) (hos : w'.os = w.os) (ht : w'.tape = w.tape) (ho : w'.output = w.output)
    (hg : ∀ j, g' j = if j = b then some y else g j) : GStep ρ g lo w ρ g' lo w' := by
  have hother : ∀ {j z}, g' j = some z → j ≠ b → g j = some z := fun {j z} h hj => by rwa [hg, if_neg hj] at h
  refine ⟨fun _ _ => rfl, Nat.le_refl _, ⟨fun j z h => ?_, fun j j' z z' l l' h h' hne hw e e' => ?_⟩, fun j z h => ?_, fun j z l h1 h2 h3 => ?_, fun j z l h1 h3 => ?_, fun k hk hnk => ?_, by omega, hos, ht, ho⟩
  · by_cases hj : j = b
    · subst hj; rw [hg, if_pos rfl] at h; cases h; exact hy
    · have h := hother h hj
      refine (hs.blk j z h).mono (fun _ _ e => e) fun l e => hrest _ ?_
      exact (hs.sep b j x z L l hb h (Ne.symm hj) hx hL e).symm
  · by_cases hj : j = b
    · subst hj
      rw [hL] at e; cases e
      exact hs.sep j j' x z' _ l' hb (hother h' (Ne.symm hne)) hne hx hL e'
    · by_cases hj' : j' = b
      · subst hj'
        rw [hL] at e'; cases e'
        exact (hs.sep j' j x z _ l hb (hother h hj) (Ne.symm hj) hx hL e).symm
      · exact hs.sep j j' z z' l l' (hother h hj) (hother h' hj') hne hw e e'
  · by_cases hj : j = b
    · subst hj; exact hwf _ _ hb
    · exact hwf j z (hother h hj)
  · refine .inr ?_
    by_cases hj : j = b
    · subst hj; rw [hL] at h3; cases h3; exact ⟨j, x, L, hb, hx, hL, rfl⟩
    · exact ⟨j, z, l, hother h1 hj, h2, h3, rfl⟩
  · refine .inr ?_
    by_cases hj : j = b
    · subst hj; rw [hL] at h3; cases h3; exact ⟨j, x, L, hb, hL, rfl⟩
    · exact ⟨j, z, l, hother h1 hj, h3, rfl⟩
  · exact hrest k fun q => hnk b x L hb hx hL q.symm

/-- The cells of a block are written, under a name that may be a new one for a part of it; the elder name is given up. -/
theorem GStep.write {ρ : Ren} {g g' : Nat → Option Blk} {lo hi : Nat} {w w' : World} (hs : Sim ρ g w) (hwf : ∀ b x, g b = some x → b < lo)
    {sg : Bool} {b b1 E n n' d : Nat} {c c' : T AV} {cs cs' : Array Value} {elem : TypeId} {fz : Nat × Nat} {L : Loc} (hb : g b = some (.cells false sg E n c)) (hL : ρ b = some L)
    (hheap : w.heap[L.blk]? = some (.cells cs elem fz)) (hsz : cs'.size = cs.size) (hw' : w'.heap[L.blk]? = some (.cells cs' elem fz))
    (hrest : ∀ k, k ≠ L.blk → w'.heap[k]? = w.heap[k]?) (hsize : w'.heap.size = w.heap.size) (hos : w'.os = w.os) (ht : w'.tape = w.tape) (ho : w'.output = w.output)
    (hn : (b1 = b ∧ d = 0 ∧ hi = lo) ∨ (b1 = lo ∧ hi = lo + 1 ∧ ρ lo = none))
    (hg : ∀ j, g' j = if j = b1 then some (.cells false true E n' c') else if j = b then none else g j)
    (hle : L.base + d + n' ≤ cs.size) (hc : ∀ i, i < n' → ∃ v, cs'[L.base + d + i]? = some v ∧ VR ρ ((c'.get i).getD .any) v) :
    GStep ρ g lo w (ρ.set b1 ⟨L.blk, L.base + d, L.csize, E⟩) g' hi w' := by
  obtain ⟨L0, cs0, el0, fz0, e1, e2, e3, e4, en, e5, e6⟩ := hs.blk b _ hb
  rw [hL] at e1; cases e1
  rw [hheap] at e2; cases e2
  have hold : b1 = b → ρ.set b1 ⟨L.blk, L.base + d, L.csize, E⟩ = ρ := by
    intro e
    have hd : d = 0 := by rcases hn with h | h; exact h.2.1; have := hwf b _ hb; omega
    funext x
    by_cases hx : x = b1
    · rw [hx, Ren.set_same, e, hL, hd, ← e4]; rfl
    · rw [Ren.set_other _ _ _ hx]
  have hsub : Sub ρ (ρ.set b1 ⟨L.blk, L.base + d, L.csize, E⟩) := by
    rcases hn with h | h
    · rw [hold h.1]; exact fun _ _ e => e
    · rw [h.1]; exact Ren.sub_set _ h.2.2
  have hother : ∀ {j x}, g' j = some x → j ≠ b1 → g j = some x ∧ j ≠ b := by
    intro j x h hj
    rw [hg, if_neg hj] at h
    by_cases hjb : j = b
    · rw [if_pos hjb] at h; cases h
    · rw [if_neg hjb] at h; exact ⟨h, hjb⟩
  refine ⟨fun j hj => ?_, by rcases hn with h | h <;> omega, ⟨fun j x h => ?_, fun j j' x x' l l' h h' hne hw e e' => ?_⟩, fun j x h => ?_, fun j x l h1 h2 h3 => ?_, fun j x l h1 h3 => ?_, fun k hk hnk => ?_, by omega, hos, ht, ho⟩
  · rcases hn with h | h
    · rw [hold h.1]
    · rw [Ren.set_other]; omega
  · by_cases hj : j = b1
    · rw [hg, if_pos hj] at h; cases h
      refine ⟨⟨L.blk, L.base + d, L.csize, E⟩, cs', elem, fz, by rw [hj]; exact Ren.set_same _ _ _, hw', by rw [hsz, e3], rfl, by rw [hsz]; exact hle, fun i hi => ?_, fun _ i hi => e6.1 rfl i (by omega), fun q => by cases q⟩
      obtain ⟨v, a, q⟩ := hc i hi
      exact ⟨v, a, q.mono hsub⟩
    · obtain ⟨h, hjb⟩ := hother h hj
      refine (hs.blk j x h).mono hsub fun l e => hrest _ ?_
      exact (hs.sep b j _ x L l hb h (Ne.symm hjb) rfl hL e).symm
  · by_cases hj : j = b1
    · have hj' : j' ≠ b1 := fun q => hne (hj.trans q.symm)
      obtain ⟨h', hjb⟩ := hother h' hj'
      rw [hj, Ren.set_same] at e; cases e
      rw [Ren.set_other _ _ _ hj'] at e'
      exact hs.sep b j' _ x' L l' hb h' (Ne.symm hjb) rfl hL e'
    · obtain ⟨h, hjb⟩ := hother h hj
      rw [Ren.set_other _ _ _ hj] at e
      by_cases hj' : j' = b1
      · rw [hj', Ren.set_same] at e'; cases e'
        exact (hs.sep b j _ x L l hb h (Ne.symm hjb) rfl hL e).symm
      · obtain ⟨h', _⟩ := hother h' hj'
        rw [Ren.set_other _ _ _ hj'] at e'
        exact hs.sep j j' x x' l l' h h' hne hw e e'
  · by_cases hj : j = b1
    · have := hwf b _ hb; rcases hn with h | h <;> omega
    · have := hwf j x (hother h hj).1; rcases hn with h | h <;> omega
  · refine .inr ?_
    by_cases hj : j = b1
    · rw [hj, Ren.set_same] at h3; cases h3
      exact ⟨b, _, L, hb, rfl, hL, rfl⟩
    · rw [Ren.set_other _ _ _ hj] at h3
      exact ⟨j, x, l, (hother h1 hj).1, h2, h3, rfl⟩
  · refine .inr ?_
    by_cases hj : j = b1
    · rw [hj, Ren.set_same] at h3; cases h3
      exact ⟨b, _, L, hb, hL, rfl⟩
    · rw [Ren.set_other _ _ _ hj] at h3
      exact ⟨j, x, l, (hother h1 hj).1, h3, rfl⟩
  · exact hrest k fun q => hnk b _ L hb rfl hL q.symm

end Go.Ev
