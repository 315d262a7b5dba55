/- Runs of code that ranges over maps: what is found true of every order is true of the model's. -/
import Derived.Test.YtkobbfimabpfeaaGreatDoorEvZ
import Derived.Test.YtkobbfimabpfeaaGreatDoorEvNd
import Derived.Maps.RangeRun
namespace Go.Ev
open Go.ChangeMaps (setBlock)

/-- No name that may be written stands for the block. -/
noncomputable def Shield (ρ : Ren) (g : Nat → Option Blk) (w : World) (k : Nat) : Prop := k < w.heap.size ∧ ∀ b x L, g b = some x → x.wr = true → ρ b = some L → L.blk ≠ k

/-- What an iterator stands for. -/
structure ItR (base : Nat) (ρ : Ren) (g : Nat → Option Blk) (w : World) (i : It) : Prop where
  ex : ∃ Li Lm mes ck seen l, ρ i.b = some Li ∧ Li.base = 0 ∧ ρ i.mb = some Lm ∧ base ≤ Li.blk ∧ w.heap[Li.blk]? = some (.mapIter (some Lm.blk) ck seen ck) ∧ w.heap[Lm.blk]? = some (.map mes ck) ∧
    (∀ x, x ∈ mes.toList → x.born < ck) ∧ (mes.toList.map (·.born)).Nodup ∧ l.Perm (leftOf mes seen).toList ∧ ERs ρ i.left l ∧
    (∀ e, i.cur = some e → ∃ (x : MapEntry) (s0 : Array Nat), seen = s0.push x.born ∧ x ∈ mes.toList ∧ ER ρ e x) ∧ Shield ρ g w Li.blk ∧ Shield ρ g w Lm.blk

theorem Shield.step {ρ ρ' : Ren} {g g' : Nat → Option Blk} {lo hi : Nat} {w w' : World} {k : Nat} (h : Shield ρ g w k) (S : GStep ρ g lo w ρ' g' hi w') : Shield ρ' g' w' k :=
  ⟨Nat.lt_of_lt_of_le h.1 S.size, fun b x L h1 h2 h3 e => by
    rcases S.img b x L h1 h2 h3 with a | ⟨b0, x0, L0, e1, e2, e3, e4⟩
    · have := h.1; omega
    · exact h.2 b0 x0 L0 e1 e2 e3 (e4.trans e)⟩

theorem ItR.step {base : Nat} {ρ ρ' : Ren} {g g' : Nat → Option Blk} {lo hi : Nat} {w w' : World} {i : It} (h : ItR base ρ g w i) (S : GStep ρ g lo w ρ' g' hi w') (hs : Sub ρ ρ') : ItR base ρ' g' w' i := by
  obtain ⟨Li, Lm, mes, ck, seen, l, h1, h2, h3, h4, h5, h6, h7, h8, h9, h10, h11, h12, h13⟩ := h.ex
  exact ⟨Li, Lm, mes, ck, seen, l, hs _ _ h1, h2, hs _ _ h3, h4, by rw [S.keeps _ h12.1 h12.2]; exact h5, by rw [S.keeps _ h13.1 h13.2]; exact h6, h7, h8, h9, h10.mono hs,
    fun e he => let ⟨x, s0, a, b, c⟩ := h11 e he; ⟨x, s0, a, b, c.mono hs⟩, h12.step S, h13.step S⟩

/-- What holds on the way. -/
structure NInv (ρ0 : Ren) (m0 : AMem) (w0 : World) (hi : Nat) (ρ : Ren) (m : AMem) (its : List It) (w : World) : Prop where
  step : Step ρ0 m0 w0 ρ m w
  itr : ∀ i, i ∈ its → ItR w0.heap.size ρ m.t.get w i
  fresh : Fresh ρ m.next hi
  le : m.next ≤ hi
  nd : (its.map (·.b)).Nodup
  inj : ∀ i j L L', i ∈ its → j ∈ its → ρ i.b = some L → ρ j.b = some L' → L.blk = L'.blk → i.b = j.b

theorem ItR.name {base : Nat} {ρ : Ren} {g : Nat → Option Blk} {w : World} {i : It} (h : ItR base ρ g w i) : ∃ L, ρ i.b = some L ∧ L.blk < w.heap.size := by
  obtain ⟨Li, Lm, mes, ck, seen, l, h1, h2, h3, h4, h5, h6, h7, h8, h9, h10, h11, h12, h13⟩ := h.ex
  exact ⟨Li, h1, h12.1⟩

section
variable {P : Program} {S : Sums} {N : FuncId → Bool} {ρ0 : Ren} {m0 : AMem} {w0 : World} {hi : Nat}

theorem NInv.on {ρ : Ren} {m : AMem} {its : List It} {w : World} (I : NInv ρ0 m0 w0 hi ρ m its w) {ρ' : Ren} {m' : AMem} {w' : World} (S : Step ρ m w ρ' m' w') (hle : m'.next ≤ hi) : NInv ρ0 m0 w0 hi ρ' m' its w' ∧ Sub ρ ρ' := by
  have hs := S.sub (I.fresh.le hle)
  exact ⟨⟨I.step.trans S, fun i h => (I.itr i h).step S hs, S.fresh I.fresh, hle, I.nd, fun i j L L' hi hj e e' q => by
    obtain ⟨L1, e1, _⟩ := (I.itr i hi).name
    obtain ⟨L2, e2, _⟩ := (I.itr j hj).name
    rw [hs _ _ e1] at e; cases e
    rw [hs _ _ e2] at e'; cases e'
    exact I.inj i j _ _ hi hj e1 e2 q⟩, hs⟩

theorem nPut_inv {nt : Nat} {dst : Option Tmp} {v : AV} {t : T AV} {k : T AV → Bool} (h : nPut nt dst v t k = true) :
    ∃ t1, k t1 = true ∧ ∀ {ρ : Ren} {a : Act} {vc : Value}, TR ρ nt t a.tmps → VR ρ v vc → TR ρ nt t1 (a.put dst vc).tmps := by
  have h2 : dstK nt dst v t (fun t => bif2 (k t) (.mk .norm t ⟨0, .leaf⟩) (.fail 0)) = dstK nt dst v t (fun t => bif2 (k t) (.mk .norm t ⟨0, .leaf⟩) (.fail 0)) := rfl
  cases dst with
  | none => exact ⟨t, h, fun h _ => h⟩
  | some d =>
    have h : bif2 (Nat.blt d nt) (T.setK false (some v) t d k) false = true := h
    rw [bif2_eq] at h
    split at h
    · rename_i hd
      have hd : d < nt := by simpa [Nat.blt_eq] using hd
      rcases T.setK_eq false (some v) t d k with e | ⟨t1, ht, e⟩
      · rw [e] at h; cases h
      · rw [e] at h
        refine ⟨t1, h, fun {ρ a vc} hT hv => ⟨by simp [Act.put, hT.size], fun i => ?_⟩⟩
        rw [ht]
        by_cases hi : i = d
        · subst hi
          have hi' : i < a.tmps.size := by rw [hT.size]; exact hd
          simp [Act.put, Array.getElem?_setIfInBounds_self_of_lt hi']; exact hv
        · have := hT.rel i
          simp only [Act.put, if_neg hi]
          simpa [Array.getElem?_setIfInBounds_ne (Ne.symm hi)] using this
    · cases h

/-! ### A range begins -/

theorem GStep.lock {ρ : Ren} {g g' : Nat → Option Blk} {lo : Nat} {w : World} {b ck : Nat} {ro : Bool} {es : List Ent} (hs : Sim ρ g w) (hwf : ∀ b x, g b = some x → b < lo) (hb : g b = some (.map ro ck es))
    (hg : ∀ j, g' j = if j = b then some (.map true ck es) else g j) : GStep ρ g lo w ρ g' lo w := by
  have old : ∀ {j z}, g' j = some z → (j = b ∧ z = .map true ck es) ∨ (j ≠ b ∧ g j = some z) := fun {j z} h => by
    rw [hg] at h
    by_cases hj : j = b
    · rw [if_pos hj] at h; cases h; exact .inl ⟨hj, rfl⟩
    · rw [if_neg hj] at h; exact .inr ⟨hj, h⟩
  refine ⟨fun _ _ => rfl, Nat.le_refl _, ⟨fun j z h => ?_, fun j j' z z' l l' h h' hne hw e e' => ?_⟩, fun j z h => ?_, fun j z l h1 h2 h3 => .inr ?_, fun j z l h1 h3 => .inr ?_, fun k hk _ => rfl, Nat.le_refl _, rfl, rfl, rfl⟩
  · rcases old h with ⟨rfl, rfl⟩ | ⟨_, h⟩
    · exact show BR ρ w j (.map ro ck es) from hs.blk j _ hb
    · exact hs.blk j z h
  · rcases old h with ⟨rfl, rfl⟩ | ⟨_, h⟩
    · cases hw
    · rcases old h' with ⟨rfl, rfl⟩ | ⟨_, h'⟩
      · exact hs.sep j j' z _ l l' h hb hne hw e e'
      · exact hs.sep j j' z z' l l' h h' hne hw e e'
  · rcases old h with ⟨rfl, rfl⟩ | ⟨_, h⟩
    · exact hwf _ _ hb
    · exact hwf _ _ h
  · rcases old h1 with ⟨rfl, rfl⟩ | ⟨_, h1⟩
    · cases h2
    · exact ⟨j, z, l, h1, h2, h3, rfl⟩
  · rcases old h1 with ⟨rfl, rfl⟩ | ⟨_, h1⟩
    · exact ⟨j, _, l, hb, h3, rfl⟩
    · exact ⟨j, z, l, h1, h3, rfl⟩

theorem GStep.name {ρ : Ren} {g : Nat → Option Blk} {lo : Nat} {w : World} (hs : Sim ρ g w) (hwf : ∀ b x, g b = some x → b < lo) (hfr : ρ lo = none) (L : Loc) (o : Obj) : GStep ρ g lo w (ρ.set lo L) g (lo + 1) (w.alloc o) := by
  have hsub := Ren.sub_set (b := lo) L hfr
  have same : ∀ {b x l}, g b = some x → ρ.set lo L b = some l → ρ b = some l := fun {b x l} h e => by
    rwa [Ren.set_other _ _ _ (by have := hwf b x h; omega)] at e
  refine ⟨fun b hb => by rw [Ren.set_other]; omega, by omega, ⟨fun b x h => ?_, fun b b' x x' l l' h h' hne hw e e' => hs.sep b b' x x' l l' h h' hne hw (same h e) (same h' e')⟩, fun b x h => by have := hwf b x h; omega,
    fun b x l h1 h2 h3 => .inr ⟨b, x, l, h1, h2, same h1 h3, rfl⟩, fun b x l h1 h3 => .inr ⟨b, x, l, h1, same h1 h3, rfl⟩, fun k hk _ => (MapKept.heap_alloc w o).2 k hk, by simp, rfl, rfl, rfl⟩
  obtain ⟨L0, h1, h2⟩ := (hs.blk b x h).loc
  exact (hs.blk b x h).mono hsub fun l e => by rw [h1] at e; cases e; exact (MapKept.heap_alloc w o).2 _ h2

theorem leftOf_all (mes : Array MapEntry) : leftOf mes #[] = mes := by
  unfold leftOf
  exact Array.filter_eq_self.2 fun x _ => by simp

theorem nRange_run {nt : Nat} {dst : Option Tmp} {v : AV} {t : T AV} {m : AMem} {its : List It} {k : T AV → AMem → List It → Bool} (h : nRange nt hi dst v t m its k = true) {ρ : Ren} {w : World} (I : NInv ρ0 m0 w0 hi ρ m its w) {vc : Value} (hv : VR ρ v vc) {ty : TypeId} {kt et : TypeId} (hu : P.underlying ty = some (.map kt et)) :
    ∃ ρ' w' rc m' its' t', (Instr.range ty vc).run P w = .ok rc w' ∧ NInv ρ0 m0 w0 hi ρ' m' its' w' ∧ Sub ρ ρ' ∧ k t' m' its' = true ∧ ∀ {a : Act}, TR ρ nt t a.tmps → TR ρ' nt t' (a.put dst rc).tmps := by
  unfold nRange at h
  split at h
  · rename_i b
    split at h
    · rename_i ro ck es hb
      rcases T.setK_eq false (some (.map true ck es)) m.t b (fun tr => fNat (Nat.succ m.next) fun nx => bif2 (Nat.ble nx hi) (nPut nt dst (.ptr m.next 0) t fun t => k t ⟨nx, tr⟩ (⟨m.next, b, es, none⟩ :: its)) false) with e | ⟨tr, htr, e⟩
      · rw [e] at h; cases h
      rw [e, fNat_eq, bif2_eq] at h
      split at h
      · rename_i hle
        have hle : m.next + 1 ≤ hi := by simpa [Nat.ble_eq] using hle
        obtain ⟨t1, hk, hput⟩ := nPut_inv h
        cases hv with | map _ L hL =>
        have V := I.step.view
        obtain ⟨mes, hheap, hM⟩ := V.mapAt hb hL
        have hfr : ρ m.next = none := I.fresh m.next (Nat.le_refl _) (by omega)
        have S1 : GStep ρ m.t.get m.next w ρ tr.get m.next w := GStep.lock V.sim V.wf hb htr
        have S2 := GStep.name (L := ⟨w.heap.size, 0, 0, 0⟩) (o := .mapIter (some L.blk) ck #[] ck) S1.sim S1.wf hfr
        have S3 : Step ρ m w (ρ.set m.next ⟨w.heap.size, 0, 0, 0⟩) ⟨m.next + 1, tr⟩ (w.alloc (.mapIter (some L.blk) ck #[] ck)) := S1.trans S2
        obtain ⟨J, hsub⟩ := I.on S3 hle
        have hlt : L.blk < w.heap.size := by
          rcases Nat.lt_or_ge L.blk w.heap.size with h | h
          · exact h
          · simp [Array.getElem?_eq_none h] at hheap
        have hshm : Shield ρ tr.get w L.blk := ⟨hlt, fun b2 x2 L2 h1 h2 h3 e => by
          rw [htr] at h1
          by_cases hb2 : b2 = b
          · rw [if_pos hb2] at h1; cases h1; cases h2
          · rw [if_neg hb2] at h1
            exact V.sim.sep b2 b x2 _ L2 L h1 hb hb2 h2 h3 hL e⟩
        have hshi : Shield (ρ.set m.next ⟨w.heap.size, 0, 0, 0⟩) tr.get (w.alloc (.mapIter (some L.blk) ck #[] ck)) w.heap.size := ⟨by simp, fun b2 x2 L2 h1 h2 h3 e => by
          have hlt2 := S1.wf b2 x2 h1
          rw [Ren.set_other _ _ _ (by omega)] at h3
          obtain ⟨L0, e1, e2⟩ := (S1.sim.blk b2 x2 h1).loc
          rw [h3] at e1; cases e1; omega⟩
        obtain ⟨⟨l, hp, hes⟩, hold, hnd⟩ := hM
        refine ⟨_, _, .pointer (some ⟨w.heap.size, 0, none⟩), _, _, t1, run_range_map w ty kt et L.blk mes ck hu hheap, ⟨J.step, fun i hi => ?_, J.fresh, J.le, ?_, fun i j L1 L2 h1 h2 e1 e2 q => ?_⟩, hsub, hk, fun hT => hput (hT.mono hsub) (.ptr m.next 0 _ (Ren.set_same _ _ _))⟩
        rotate_left
        · refine List.nodup_cons.2 ⟨fun hmem => ?_, J.nd⟩
          obtain ⟨j, hj, e⟩ := List.mem_map.1 hmem
          obtain ⟨L1, e1, _⟩ := (I.itr j hj).name
          rw [e] at e1
          rw [hfr] at e1; cases e1
        · have older : ∀ j L, j ∈ its → ρ.set m.next ⟨w.heap.size, 0, 0, 0⟩ j.b = some L → L.blk < w.heap.size := fun j L hj e => by
            obtain ⟨L1, e1, e2⟩ := (I.itr j hj).name
            rw [hsub _ _ e1] at e; cases e; exact e2
          rcases List.mem_cons.1 h1 with rfl | h1 <;> rcases List.mem_cons.1 h2 with rfl | h2
          · rfl
          · have := older j L2 h2 e2
            rw [Ren.set_same] at e1; cases e1
            simp at q; omega
          · have := older i L1 h1 e1
            rw [Ren.set_same] at e2; cases e2
            simp at q; omega
          · exact J.inj i j L1 L2 h1 h2 e1 e2 q
        rcases List.mem_cons.1 hi with rfl | hi
        · exact ⟨⟨w.heap.size, 0, 0, 0⟩, L, mes, ck, #[], l, Ren.set_same _ _ _, rfl, hsub _ _ hL, I.step.size, (MapKept.heap_alloc w _).1, by rw [(MapKept.heap_alloc w _).2 _ hlt]; exact hheap, hold, hnd, by rw [leftOf_all]; exact hp, hes.mono hsub, (fun e he => by cases he), hshi, hshm.step S2⟩
        · exact J.itr i hi
      · cases h
    · cases h
  · cases h

/-! ### The next entry -/

theorem findIt_inv {b : Nat} : ∀ {its : List It} {i : It} {l : List It}, findIt b its = some (i, l) → i.b = b ∧ its.Perm (i :: l)
  | [], i, l, h => by cases h
  | x :: its, i, l, h => by
    unfold findIt at h
    rw [bif2_eq] at h
    split at h
    · rename_i e; cases h; exact ⟨Nat.eq_of_beq_eq_true e, .refl _⟩
    · split at h
      · rename_i j l' h1
        cases h
        obtain ⟨h2, h3⟩ := findIt_inv h1
        exact ⟨h2, (h3.cons x).trans (List.Perm.swap _ _ _)⟩
      · cases h

theorem picks_inv {k : Ent → List Ent → Bool} : ∀ {l pre : List Ent}, picks pre l k = true → ∀ a e b, l = a ++ e :: b → k e (pre ++ (a ++ b)) = true
  | [], _, _, a, e, b, h => by cases a <;> cases h
  | x :: l, pre, h, a, e, b, hl => by
    unfold picks at h
    rw [bif2_eq] at h
    split at h
    · rename_i h1
      cases a with
      | nil => simp at hl; obtain ⟨rfl, rfl⟩ := hl; exact h1
      | cons y a =>
        simp at hl
        obtain ⟨rfl, rfl⟩ := hl
        have := picks_inv h a e b rfl
        simpa using this
    · cases h

theorem ERs.at {ρ : Ren} {x : MapEntry} {lb : List MapEntry} : ∀ {la : List MapEntry} {es : List Ent}, ERs ρ es (la ++ x :: lb) → ∃ a e b, es = a ++ e :: b ∧ ERs ρ a la ∧ ER ρ e x ∧ ERs ρ b lb
  | [], _, .cons e _ es _ h hs => ⟨[], e, es, rfl, .nil, h, hs⟩
  | y :: la, _, .cons e _ es _ h hs => by
    obtain ⟨a, e', b, h1, h2, h3, h4⟩ := ERs.at hs
    exact ⟨e :: a, e', b, by rw [h1]; rfl, .cons _ _ _ _ h h2, h3, h4⟩

theorem filter_nodup {α β : Type} [DecidableEq β] (f : α → β) : ∀ {l : List α} (_ : (l.map f).Nodup) {p q : List α} {x : α}, l = p ++ x :: q → l.filter (fun y => decide (f y ≠ f x)) = p ++ q := by
  intro l hn p q x e
  subst e
  simp only [List.map_append, List.map_cons] at hn
  have h := List.nodup_append.1 hn
  rw [List.filter_append, List.filter_cons]
  simp only [ne_eq, not_true_eq_false, decide_false, Bool.false_eq_true, if_false]
  congr 1
  · exact List.filter_eq_self.2 fun y hy => by
      simp only [decide_not, Bool.not_eq_eq_eq_not, Bool.not_true, decide_eq_false_iff_not]
      exact h.2.2 (f y) (List.mem_map_of_mem hy) (f x) (by simp)
  · exact List.filter_eq_self.2 fun y hy => by
      simp only [decide_not, Bool.not_eq_eq_eq_not, Bool.not_true, decide_eq_false_iff_not]
      intro e
      exact (List.nodup_cons.1 h.2.1).1 (e ▸ List.mem_map_of_mem hy)

theorem left_push {mes : Array MapEntry} {seen : Array Nat} {x : MapEntry} (hnd : (mes.toList.map (·.born)).Nodup) {p q : List MapEntry} (e : (leftOf mes seen).toList = p ++ x :: q) : (leftOf mes (seen.push x.born)).toList = p ++ q := by
  have h1 : (leftOf mes (seen.push x.born)).toList = (leftOf mes seen).toList.filter (fun y => decide (y.born ≠ x.born)) := by
    simp only [leftOf, Array.toList_filter, List.filter_filter]
    congr 1
    funext y
    simp only [Array.contains_push]
    by_cases h : y.born = x.born <;> simp [h, Bool.and_comm]
  have hsub : ((leftOf mes seen).toList.map (·.born)).Nodup := by
    simp only [leftOf, Array.toList_filter]
    exact (List.filter_sublist.map _).nodup hnd
  rw [h1]
  exact filter_nodup (·.born) hsub e

theorem nNext_run {nt : Nat} {dst : Option Tmp} {v : AV} {t : T AV} {m : AMem} {its : List It} {k : T AV → AMem → List It → Bool} (h : nNext nt dst v t m its k = true) {ρ : Ren} {w : World} (I : NInv ρ0 m0 w0 hi ρ m its w) {vc : Value} (hv : VR ρ v vc) {ty : TypeId} :
    ∃ w' rc its' t', (Instr.next vc false ty).run P w = .ok rc w' ∧ NInv ρ0 m0 w0 hi ρ m its' w' ∧ k t' m its' = true ∧ ∀ {a : Act}, TR ρ nt t a.tmps → TR ρ nt t' (a.put dst rc).tmps := by
  unfold nNext at h
  split at h
  · rename_i b
    split at h
    · rename_i i its' hf
      obtain ⟨hib, hperm⟩ := findIt_inv hf
      have hmem : i ∈ its := hperm.symm.subset (by simp)
      have hothers : ∀ j, j ∈ its' → j ∈ its := fun j hj => hperm.symm.subset (by simp [hj])
      have hnd2 : ((i :: its').map (·.b)).Nodup := (hperm.map _).nodup_iff.1 I.nd
      obtain ⟨Li, Lm, mes, ck, seen, l, h1, h2, h3, h4, h5, h6, h7, h8, h9, h10, h11, h12, h13⟩ := (I.itr i hmem).ex
      subst hib
      cases hv with | ptr _ _ L hL =>
      rw [h1] at hL; cases hL
      have hb0 : Li.base + 0 = 0 := by omega
      rcases run_next_at (P := P) w ty Li.blk Lm.blk ck ck seen mes ck h5 h6 h7 (Nat.le_refl _) with ⟨hz, hr⟩ | ⟨x, hx, w1, hw1, hr⟩
      · split at h
        · obtain ⟨t1, hk, hput⟩ := nPut_inv h
          exact ⟨w, _, its, t1, by rw [hb0]; exact hr, I, hk, fun hT => hput hT (.tup _ _ (.cons _ _ _ _ (.bool _) .nil))⟩
        · rename_i q hne
          exfalso
          have : (leftOf mes seen).toList = [] := by
            rw [← List.length_eq_zero_iff]; simpa using hz
          rw [this] at h9
          have := h9.eq_nil
          subst this
          cases hl : i.left with
          | nil => exact hne hl
          | cons e es => rw [hl] at h10; cases h10
      · obtain ⟨p, q, e1⟩ := List.append_of_mem hx
        have hxl : x ∈ l := h9.symm.subset hx
        obtain ⟨la, lb, e2⟩ := List.append_of_mem hxl
        subst e2
        obtain ⟨a, e, b', e3, r1, r2, r3⟩ := ERs.at h10
        split at h
        · rename_i hl; rw [hl] at e3; cases a <;> cases e3
        · have h := picks_inv h a e b' e3
          obtain ⟨t1, hk, hput⟩ := nPut_inv h
          have hheap : w1.heap = w.heap := by rcases hw1 with rfl | rfl <;> rfl
          have hos : w1.os = w.os := by rcases hw1 with rfl | rfl <;> rfl
          have htape : w1.tape = w.tape := by rcases hw1 with rfl | rfl <;> rfl
          have hout : w1.output = w.output := by rcases hw1 with rfl | rfl <;> rfl
          obtain ⟨w2, hw2⟩ : ∃ w2, w2 = setBlock w1 Li.blk (.mapIter (some Lm.blk) ck (seen.push x.born) ck) := ⟨_, rfl⟩
          have hne : Lm.blk ≠ Li.blk := by
            intro q; rw [q, h5] at h6; cases h6
          have g1 : w2.heap[Li.blk]? = some (.mapIter (some Lm.blk) ck (seen.push x.born) ck) := by
            rw [hw2]; show (w1.heap.setIfInBounds _ _)[_]? = _; rw [hheap]; exact (MapKept.heap_set h5).1
          have g2 : ∀ j, j ≠ Li.blk → w2.heap[j]? = w.heap[j]? := fun j hj => by
            rw [hw2]; show (w1.heap.setIfInBounds _ _)[_]? = _; rw [hheap]; exact (MapKept.heap_set h5).2 j hj
          have g3 : w2.heap.size = w.heap.size := by rw [hw2]; show (w1.heap.setIfInBounds _ _).size = _; rw [hheap]; simp
          have V := I.step.view
          have far : ∀ b x L, m.t.get b = some x → ρ b = some L → L.blk ≠ Li.blk := fun b x L hb hL q => by
            obtain hB := V.sim.blk b x hb
            cases x with
            | cells ro sg E n c => obtain ⟨L0, cs, elem, fz, e1, e2, _⟩ := hB; rw [hL] at e1; cases e1; rw [q, h5] at e2; cases e2
            | map ro ck' es => obtain ⟨L0, mes', e1, e2, _⟩ := hB; rw [hL] at e1; cases e1; rw [q, h5] at e2; cases e2
          have B := I.step
          have S : Step ρ0 m0 w0 ρ m w2 := ⟨B.ren, B.le, ⟨fun b x hb => (B.sim.blk b x hb).mono (fun _ _ e => e) fun L hL => g2 _ (far b x L hb hL), B.sim.sep⟩, B.wf, B.img, B.imgR,
            fun j hj hn => by rw [g2 j (by omega)]; exact B.keeps j hj hn, by rw [g3]; exact B.size, by rw [hw2]; exact hos.trans B.os, by rw [hw2]; exact htape.trans B.tape, by rw [hw2]; exact hout.trans B.output⟩
          have shield : ∀ {j}, Shield ρ m.t.get w j → Shield ρ m.t.get w2 j := fun {j} hj => ⟨by rw [g3]; exact hj.1, hj.2⟩
          refine ⟨w2, _, (⟨i.b, i.mb, [] ++ (a ++ b'), some e⟩ : It) :: its', t1, by rw [hw2, hb0]; exact hr, ⟨S, fun j hj => ?_, I.fresh, I.le, hnd2, fun j1 j2 L1 L2 q1 q2 q3 q4 q5 => ?_⟩, hk, fun hT => hput hT (.tup _ _ (.cons _ _ _ _ (.bool _) (.cons _ _ _ _ r2.key (.cons _ _ _ _ r2.val .nil))))⟩
          · rcases List.mem_cons.1 hj with rfl | hj
            · have hxm : x ∈ mes.toList := (mem_left hx).1
              refine ⟨Li, Lm, mes, ck, seen.push x.born, la ++ lb, h1, h2, h3, h4, g1, by rw [g2 _ hne]; exact h6, h7, h8, ?_, by simpa using r1.append r3, fun e2 he => ?_, shield h12, shield h13⟩
              · rw [left_push h8 e1]
                exact (List.perm_middle.symm.trans ((e1 ▸ h9).trans List.perm_middle)).cons_inv
              · cases he; exact ⟨x, seen, rfl, hxm, r2⟩
            · obtain ⟨Lj, Ln, mes', ck', seen', l', k1, k2, k3, k4, k5, k6, k7, k8, k9, k10, k11, k12, k13⟩ := (I.itr j (hothers j hj)).ex
              have hbj : j.b ≠ i.b := fun q => (List.nodup_cons.1 hnd2).1 (by have := List.mem_map_of_mem (f := fun x : It => x.b) hj; rwa [q] at this)
              have hLj : Lj.blk ≠ Li.blk := fun q => hbj (I.inj j i Lj Li (hothers j hj) hmem k1 h1 q)
              have hLn : Ln.blk ≠ Li.blk := fun q => by rw [q, h5] at k6; cases k6
              exact ⟨Lj, Ln, mes', ck', seen', l', k1, k2, k3, k4, by rw [g2 _ hLj]; exact k5, by rw [g2 _ hLn]; exact k6, k7, k8, k9, k10, k11, shield k12, shield k13⟩
          · have back : ∀ j, j ∈ (⟨i.b, i.mb, [] ++ (a ++ b'), some e⟩ : It) :: its' → ∃ j', j' ∈ its ∧ j'.b = j.b := fun j hj => by
              rcases List.mem_cons.1 hj with rfl | hj
              · exact ⟨i, hmem, rfl⟩
              · exact ⟨j, hothers j hj, rfl⟩
            obtain ⟨j1', m1', b1⟩ := back j1 q1
            obtain ⟨j2', m2', b2⟩ := back j2 q2
            rw [← b1] at q3 ⊢
            rw [← b2] at q4 ⊢
            exact I.inj j1' j2' L1 L2 m1' m2' q3 q4 q5
    · cases h
  · cases h

theorem nEntry_run {nt : Nat} {dst : Option Tmp} {v : AV} {t : T AV} {m : AMem} {its : List It} {k : T AV → AMem → List It → Bool} (h : nEntry nt dst v t m its k = true) {ρ : Ren} {w : World} (I : NInv ρ0 m0 w0 hi ρ m its w) {vc : Value} (hv : VR ρ v vc) :
    ∃ rc t', (Instr.entry vc).run P w = .ok rc w ∧ k t' m its = true ∧ ∀ {a : Act}, TR ρ nt t a.tmps → TR ρ nt t' (a.put dst rc).tmps := by
  unfold nEntry at h
  split at h
  · rename_i b
    split at h
    · rename_i i its' hf
      split at h
      · rename_i e he
        obtain ⟨hib, hperm⟩ := findIt_inv hf
        have hmem : i ∈ its := hperm.symm.subset (by simp)
        obtain ⟨Li, Lm, mes, ck, seen, l, h1, h2, h3, h4, h5, h6, h7, h8, h9, h10, h11, h12, h13⟩ := (I.itr i hmem).ex
        subst hib
        cases hv with | ptr _ _ L hL =>
        rw [h1] at hL; cases hL
        have hb0 : Li.base + 0 = 0 := by omega
        obtain ⟨x, s0, rfl, hx, hr⟩ := h11 e he
        obtain ⟨t1, hk, hput⟩ := nPut_inv h
        exact ⟨_, t1, by rw [hb0]; exact run_entry_at w Li.blk Lm.blk ck s0 mes ck x h5 h6 hx h8, hk, fun hT => hput hT (.tup _ _ (.cons _ _ _ _ hr.key (.cons _ _ _ _ hr.val .nil)))⟩
      · cases h
    · cases h
  · cases h

/-! ### Operations, code, calls -/

noncomputable def NCallOK (P : Program) (hi : Nat) (ρ0 : Ren) (m0 : AMem) (w0 : World) (ncall : NCall) : Prop :=
  ∀ g args m its k, ncall g args m its k = true → ∀ (ρ : Ren) (w : World) (cs : Array Value), NInv ρ0 m0 w0 hi ρ m its w → VRs ρ args cs.toList → ∀ R : Value → World → Prop,
    (∀ v m' its', k v m' its' = true → ∀ ρ' w' vc, NInv ρ0 m0 w0 hi ρ' m' its' w' → Sub ρ ρ' → VR ρ' v vc → R vc w') →
    (callFunc g cs).run P w = .ok (.enter g cs) w ∧ Calls P g cs w fun e w' => ∃ vc, e = .returned vc ∧ R vc w'

noncomputable def NExOK (P : Program) (hi : Nat) (ρ0 : Ren) (m0 : AMem) (w0 : World) (nex : NEx) : Prop :=
  ∀ nt c t m its k, nex nt c t m its k = true → ∀ (ρ : Ren) (a : Act) (w : World), NInv ρ0 m0 w0 hi ρ m its w → TR ρ nt t a.tmps → ∀ Q : Exit → Act → World → Prop,
    (∀ x t' m' its', k x t' m' its' = true → ∀ ρ' a' w', NInv ρ0 m0 w0 hi ρ' m' its' w' → Sub ρ ρ' → TR ρ' nt t' a'.tmps → a'.defers = a.defers → Q (xOf x) a' w') → c.wp P Q a w

theorem put_defers (a : Act) (d : Option Tmp) (v : Value) : (a.put d v).defers = a.defers := by cases d <;> rfl

section
variable {nt : Nat} {call : Call} {ncall : NCall} {all : Array Oper} {o : Oper} {t : T AV} {m : AMem} {its : List It} {k : T AV → AMem → List It → Bool} {ρ : Ren} {w : World} {a : Act} {K : Act → World → Prop} {Q : Exit → Act → World → Prop}

/-- What is known where the run goes on. -/
noncomputable def NGo (hi : Nat) (ρ0 : Ren) (m0 : AMem) (w0 : World) (nt : Nat) (k : T AV → AMem → List It → Bool) (ρ : Ren) (a : Act) (K : Act → World → Prop) : Prop :=
  ∀ t' m' its', k t' m' its' = true → ∀ ρ' a' w', NInv ρ0 m0 w0 hi ρ' m' its' w' → Sub ρ ρ' → TR ρ' nt t' a'.tmps → a'.defers = a.defers → K a' w'

theorem nDet_wp (hcall : CallOK P call) (h : nDet nt hi P call all o t m its k = true) (I : NInv ρ0 m0 w0 hi ρ m its w) (hT : TR ρ nt t a.tmps) (hK : NGo hi ρ0 m0 w0 nt k ρ a K) :
    (Region.wanted o (yielded all a.tmps) = true ∧ o.wp P a w K Q) ∨ (Region.wanted o (yielded all a.tmps) = false ∧ K (a.put o.dst undef) w) := by
  unfold nDet at h
  cases hr : regOp P call nt all o t m (fun t m => .mk .norm t m) with
  | fail c => rw [hr] at h; cases h
  | mk x t1 m1 =>
    rw [hr] at h
    have h1 : bif2 (Nat.ble m1.next hi) (k t1 m1 its) false = true := h
    clear h
    rw [bif2_eq] at h1
    split at h1
    · rename_i hle
      have h := h1
      have hle : m1.next ≤ hi := by simpa [Nat.ble_eq] using hle
      obtain ⟨b, v, m2, t2, hw, hyes, hno, hle2, hk, hput⟩ := regOp_inv hr
      cases hk
      have hwant := wanted_eq (tmps := a.tmps) hw fun _ _ _ d _ _ _ => hT.rel d
      cases b with
      | true =>
        refine .inl ⟨hwant, op_wp hcall I.step.view (fun y _ => hT.ev y) (hyes rfl) (I.fresh.le hle) fun ρ1 w1 vc hs hv => ?_⟩
        obtain ⟨J, hsub⟩ := I.on hs hle
        exact hK _ _ _ h ρ1 _ w1 J hsub (hput (hT.mono hsub) hv) (put_defers _ _ _)
      | false =>
        obtain ⟨rfl, rfl⟩ := hno rfl
        exact .inr ⟨hwant, hK _ _ _ h ρ _ w I (fun _ _ e => e) (hput hT (VR.undef ρ)) (put_defers _ _ _)⟩
    · cases h1

theorem nOp_wp (hcall : CallOK P call) (hn : NCallOK P hi ρ0 m0 w0 ncall) (h : nOp nt hi P call N ncall all o t m its k = true) (I : NInv ρ0 m0 w0 hi ρ m its w) (hT : TR ρ nt t a.tmps) (hK : NGo hi ρ0 m0 w0 nt k ρ a K) :
    (Region.wanted o (yielded all a.tmps) = true ∧ o.wp P a w K Q) ∨ (Region.wanted o (yielded all a.tmps) = false ∧ K (a.put o.dst undef) w) := by
  obtain ⟨dst, op, type, pos, after, guard⟩ := o
  unfold nOp at h
  split at h
  · exact nDet_wp hcall h I hT hK
  · rename_i hg
    simp only at hg
    subst hg
    have hwant : Region.wanted ⟨dst, op, type, pos, after, none⟩ (yielded all a.tmps) = true := rfl
    split at h
    · rename_i ty x ho
      simp only at ho
      subst ho
      split at h
      · rename_i kt et hu
        rw [evK_eq] at h
        obtain ⟨ρ', w', rc, m', its', t', hr, J, hsub, hk, hput⟩ := nRange_run (P := P) h I (hT.ev x) hu
        refine .inl ⟨hwant, ?_⟩
        unfold Oper.wp
        have : (execOp a.eval ⟨dst, .range ty x, type, pos, after, none⟩).run P w = .ok (.value rc) w' := by simp [execOp, hr]
        rw [this]
        exact hK _ _ _ hk ρ' _ w' J hsub (hput hT) (put_defers _ _ _)
      · cases h
    · rename_i x ho
      simp only at ho
      subst ho
      rw [evK_eq] at h
      obtain ⟨w', rc, its', t', hr, J, hk, hput⟩ := nNext_run (P := P) (ty := type) h I (hT.ev x)
      refine .inl ⟨hwant, ?_⟩
      unfold Oper.wp
      have : (execOp a.eval ⟨dst, .next x false, type, pos, after, none⟩).run P w = .ok (.value rc) w' := by simp [execOp, hr]
      rw [this]
      exact hK _ _ _ hk ρ _ w' J (fun _ _ e => e) (hput hT) (put_defers _ _ _)
    · rename_i x ho
      simp only at ho
      subst ho
      rw [evK_eq] at h
      obtain ⟨rc, t', hr, hk, hput⟩ := nEntry_run (P := P) h I (hT.ev x)
      refine .inl ⟨hwant, ?_⟩
      unfold Oper.wp
      have : (execOp a.eval ⟨dst, .entry x, type, pos, after, none⟩).run P w = .ok (.value rc) w := by simp [execOp, hr]
      rw [this]
      exact hK _ _ _ hk ρ _ w I (fun _ _ e => e) (hput hT) (put_defers _ _ _)
    · rename_i f args ats ho
      simp only at ho
      subst ho
      unfold nCallOp at h
      rw [evK_eq] at h
      obtain ⟨g, caps, hg, h⟩ := onFn_inv _ h (by simp)
      rw [bif2_eq] at h
      split at h
      · rw [evsK_eq] at h
        have hfr := hT.ev f
        rw [hg] at hfr
        cases hfe : a.eval f with
        | func fn first cap =>
          rw [hfe] at hfr
          cases hfr with | fn _ _ _ hcaps =>
          have hargs : VRs ρ (args.toList.map (evA t) ++ caps) ((args.map a.eval ++ cap).toList) := by
            have := (hT.evs args.toList).append hcaps
            simpa using this
          have hrun : (execOp a.eval ⟨dst, .call ⟨.value f, args, ats⟩, type, pos, after, none⟩).run P w = (callFunc g (args.map a.eval ++ cap)).run P w := by
            simp only [execOp, resolve, hfe, Deferred.ofValue, Sem.run_bind, Sem.run_pure, Result.andThen_ok, invoke]
            simp
          obtain ⟨e1, e2⟩ := hn _ _ _ _ _ h ρ w _ I hargs (fun vc w' => K (a.put dst vc) w') fun v m' its' hk ρ' w' vc J hsub hv => by
            obtain ⟨t1, hk, hput⟩ := nPut_inv hk
            exact hK _ _ _ hk ρ' _ w' J hsub (hput (hT.mono hsub) hv) (put_defers _ _ _)
          refine .inl ⟨hwant, ?_⟩
          unfold Oper.wp
          rw [hrun, e1]
          exact e2.mono fun e w' ⟨vc, he, hv⟩ => by subst he; exact hv
        | _ => rw [hfe] at hfr; cases hfr
      · exact nDet_wp hcall h I hT hK
    · exact nDet_wp hcall h I hT hK

theorem nOps_wp (hcall : CallOK P call) (hn : NCallOK P hi ρ0 m0 w0 ncall) : ∀ (l : List Oper) (i : Nat) (_ : ∀ j, l[j]? = all[i + j]?) {t : T AV} {m : AMem} {its : List It} {k : T AV → AMem → List It → Bool} {ρ : Ren} {w : World} {a : Act}
    (_ : nOps nt hi P call N ncall all l t m its k = true) (_ : NInv ρ0 m0 w0 hi ρ m its w) (_ : TR ρ nt t a.tmps) (_ : NGo hi ρ0 m0 w0 nt k ρ a (Q .normal)), wpOps P all Q (List.range' i l.length) a w
  | [], i, hl, t, m, its, k, ρ, w, a, h, I, hT, hQ => hQ t m its h ρ a w I (fun _ _ e => e) hT rfl
  | o :: l, i, hl, t, m, its, k, ρ, w, a, h, I, hT, hQ => by
    have ho : all[i]? = some o := by simpa using (hl 0).symm
    have hl' : ∀ j, l[j]? = all[i + 1 + j]? := fun j => by have := hl (j + 1); simpa [Nat.add_assoc, Nat.add_comm 1 j] using this
    have h : nOp nt hi P call N ncall all o t m its (fun t m its => nOps nt hi P call N ncall all l t m its k) = true := h
    have := nOp_wp (K := wpOps P all Q (List.range' (i + 1) l.length)) (Q := Q) hcall hn h I hT fun t' m' its' hk ρ' a' w' J hsub hT' hd =>
      nOps_wp hcall hn l (i + 1) hl' hk J hT' fun t2 m2 its2 hk2 ρ2 a2 w2 J2 hs2 hT2 hd2 => hQ t2 m2 its2 hk2 ρ2 a2 w2 J2 (fun b L e => hs2 _ _ (hsub _ _ e)) hT2 (hd2.trans hd)
    rw [List.length_cons, List.range'_succ]
    simp only [wpOps, ho]
    rcases this with ⟨hw, h1⟩ | ⟨hw, h1⟩
    · rw [hw, if_pos rfl]; exact .inl h1
    · rw [hw, if_neg (by decide)]; exact h1
end

/-- The temporaries of a call that begins. -/
theorem enter_TR {ρ : Ren} {fn : Func} {args : List AV} {cs : Array Value} (hv : VRs ρ args cs.toList) {t : T AV} (ht : ∀ j, t.get j = if 0 ≤ j ∧ j < 0 + args.length then args[j - 0]? else (T.leaf : T AV).get j) :
    TR ρ (nTmps fn args.length) t (cs ++ Array.replicate (fn.ntmps - cs.size) undef) := by
  have hl : args.length = cs.size := by simpa using hv.length
  refine ⟨?_, fun i => ?_⟩
  · unfold nTmps
    rw [bif2_eq]
    split
    · rename_i q; have q : args.length < fn.ntmps := by simpa [Nat.blt_eq] using q
      simp; omega
    · rename_i q; have q : ¬ args.length < fn.ntmps := by simpa [Nat.blt_eq] using q
      simp; omega
  · rw [ht]
    by_cases hi : i < args.length
    · rw [if_pos (by omega)]
      have : args[i - 0]? = some args[i] := by simp [hi]
      obtain ⟨y, hy, hr⟩ := hv.get (i - 0) this
      rw [this]
      have hic : i < cs.size := by omega
      have hy : cs[i]? = some y := by simpa using hy
      simp [Array.getElem?_append_left hic, hy]
      exact hr
    · rw [if_neg (by omega), T.get_leaf]
      have hic : cs.size ≤ i := by omega
      have : (cs ++ Array.replicate (fn.ntmps - cs.size) undef).getD i undef = undef := by
        simp only [Array.getD_eq_getD_getElem?, Array.getElem?_append_right hic, Array.getElem?_replicate]
        split <;> rfl
      rw [this]
      exact VR.undef _

theorem nCallF_ok {nex : NEx} (hx : NExOK P hi ρ0 m0 w0 nex) : NCallOK P hi ρ0 m0 w0 (nCallF P nex) := by
  intro f args m its k h ρ w cs I hv R hR
  unfold nCallF at h
  cases hc : codeOf P f with
  | none => rw [hc] at h; cases h
  | some fc =>
    obtain ⟨fn, c⟩ := fc
    simp only [hc] at h
    obtain ⟨h1, h2, h3⟩ := codeOf_inv hc
    refine ⟨by have := beq_eq_false_iff_ne.1 h3; simp [callFunc, h1, h2, this], calls_of_wp h1 h2 ?_⟩
    rcases putK_eq false args 0 .leaf (fun t => nex (nTmps fn args.length) c t m its fun x t m its =>
      @X.rec (fun _ => Bool) (nLeave P fn t m fun v m => k v m its) (fun _ => false) (nLeave P fn t m fun v m => k v m its) x) with e | ⟨t, ht, e⟩
    · rw [e] at h; cases h
    · rw [e] at h
      refine hx _ _ _ _ _ _ h ρ _ w I (enter_TR hv ht) _ fun x t' m' its' hk ρ' a' w' J hsub hT' hd => ?_
      have leave : nLeave P fn t' m' (fun v m => k v m its') = true → a'.defers = [] ∧ ∃ v, (results fn a'.tmps).run P w' = .ok v w' ∧ ∃ vc, Ending.returned v = .returned vc ∧ R vc w' := fun hk => by
        unfold nLeave at hk
        cases hr : resultsA P fn.results.toList t' m' (fun l => one l m') with
        | fail c => rw [hr] at hk; cases hk
        | mk v m2 =>
          rw [hr] at hk
          have hk2 : k v m2 its' = true := hk
          obtain ⟨rfl, vc, e1, e2⟩ := results_run (P := P) J.step.view hT' hr
          exact ⟨hd, vc, e2, vc, rfl, hR _ _ _ hk2 ρ' w' vc J hsub e1⟩
      cases x with
      | norm => exact leave hk
      | exit i => cases hk
      | ret => exact leave hk

theorem nExec_ok (hm : P.follows .mixedOrders = true) (hS : SumsOK P S) : ∀ n, NExOK P hi ρ0 m0 w0 (nExec hi P S N n) ∧
    ∀ nt b t m its k, nExec hi P S N n nt (.loop b) t m its k = true → ∀ (ρ : Ren) (a : Act) (w : World), NInv ρ0 m0 w0 hi ρ m its w → TR ρ nt t a.tmps → ∀ Q : Exit → Act → World → Prop,
      (∀ x t' m' its', k x t' m' its' = true → ∀ ρ' a' w', NInv ρ0 m0 w0 hi ρ' m' its' w' → Sub ρ ρ' → TR ρ' nt t' a'.tmps → a'.defers = a.defers → Q (xOf x) a' w') → Code.rounds P b Q n a w := by
  intro n
  induction n with
  | zero => exact ⟨fun nt c t m its k h => (by cases h), fun nt b t m its k h => (by cases h)⟩
  | succ n ih =>
    obtain ⟨A, B⟩ := ih
    have hcall : CallOK P (callF P S (exec P S n)) := call_ok hS (code_ok hm hS n).1
    have hn := nCallF_ok A
    have L : ∀ nt b t m its k, nExec hi P S N (n + 1) nt (.loop b) t m its k = true → ∀ (ρ : Ren) (a : Act) (w : World), NInv ρ0 m0 w0 hi ρ m its w → TR ρ nt t a.tmps → ∀ Q : Exit → Act → World → Prop,
        (∀ x t' m' its', k x t' m' its' = true → ∀ ρ' a' w', NInv ρ0 m0 w0 hi ρ' m' its' w' → Sub ρ ρ' → TR ρ' nt t' a'.tmps → a'.defers = a.defers → Q (xOf x) a' w') → Code.rounds P b Q (n + 1) a w := by
      intro nt b t m its k h ρ a w I hT Q hQ
      rw [rounds_succ]
      refine A nt b t m its _ (show nExec hi P S N n nt b t m its _ = true from h) ρ a w I hT _ fun x t1 m1 its1 hk ρ1 a1 w1 J hs1 hT1 hd1 => ?_
      cases x with
      | norm => exact B nt b t1 m1 its1 k hk ρ1 a1 w1 J hT1 Q fun x t' m' its' hk' ρ' a' w' J' hs' hT' hd' => hQ x t' m' its' hk' ρ' a' w' J' (fun b L e => hs' _ _ (hs1 _ _ e)) hT' (hd'.trans hd1)
      | exit i => exact hQ (.exit i) t1 m1 its1 hk ρ1 a1 w1 J hs1 hT1 hd1
      | ret => exact hQ .ret t1 m1 its1 hk ρ1 a1 w1 J hs1 hT1 hd1
    refine ⟨?_, L⟩
    intro nt c t m its k h ρ a w I hT Q hQ
    cases c with
    | skip => exact wp_skip (hQ .norm t m its h ρ a w I (fun _ _ e => e) hT rfl)
    | region id ops drawn =>
      cases drawn with
      | true =>
        have h : @Res.rec (fun _ => Bool) (fun _ => false) (fun x t m => bif2 (Nat.ble m.next hi) (k x t m its) false) (exec P S (Nat.succ n) nt (.region id ops true) t m) = true := h
        cases hr : exec P S (Nat.succ n) nt (.region id ops true) t m with
        | fail c => rw [hr] at h; cases h
        | mk x t1 m1 =>
          rw [hr] at h
          have h : bif2 (Nat.ble m1.next hi) (k x t1 m1 its) false = true := h
          rw [bif2_eq] at h
          split at h
          · rename_i hle
            have hle : m1.next ≤ hi := by simpa [Nat.ble_eq] using hle
            refine (code_ok hm hS (n + 1)).1 nt _ t m x t1 m1 hr ρ a w I.step.view hT (I.fresh.le hle) _ fun ρ' a' w' s hT' hd => ?_
            obtain ⟨J, hsub⟩ := I.on s hle
            exact hQ x t1 m1 its h ρ' a' w' J hsub hT' hd
          · cases h
      | false =>
        have h : nOps nt hi P (callF P S (exec P S n)) N (nCallF P (nExec hi P S N n)) ops ops.toList t m its (fun t m its => k .norm t m its) = true := h
        refine wp_region ?_
        rw [List.range_eq_range']
        have := nOps_wp (Q := Q) hcall hn ops.toList 0 (fun j => by simp) h I hT fun t' m' its' hk ρ' a' w' J hs hT' hd => hQ .norm t' m' its' hk ρ' a' w' J hs hT' hd
        simpa using this
    | seq c1 c2 =>
      refine wp_seq ?_
      refine A nt c1 t m its _ (show nExec hi P S N n nt c1 t m its _ = true from h) ρ a w I hT _ fun x t1 m1 its1 hk ρ1 a1 w1 J hs1 hT1 hd1 => ?_
      cases x with
      | norm => exact A nt c2 t1 m1 its1 k hk ρ1 a1 w1 J hT1 Q fun x t' m' its' hk' ρ' a' w' J' hs' hT' hd' => hQ x t' m' its' hk' ρ' a' w' J' (fun b L e => hs' _ _ (hs1 _ _ e)) hT' (hd'.trans hd1)
      | exit i => exact hQ (.exit i) t1 m1 its1 hk ρ1 a1 w1 J hs1 hT1 hd1
      | ret => exact hQ .ret t1 m1 its1 hk ρ1 a1 w1 J hs1 hT1 hd1
    | cond v c1 c2 =>
      have h : evK t v (fun v => v.onBool (fun v => bif2 v (nExec hi P S N n nt c1 t m its k) (nExec hi P S N n nt c2 t m its k)) false) = true := h
      rw [evK_eq] at h
      obtain ⟨q, hq, h⟩ := onBool_inv _ h (by simp)
      have hv := hT.ev v
      rw [hq] at hv
      cases he : a.eval v with
      | bool q' =>
        rw [he] at hv
        cases hv
        refine wp_cond he ?_
        cases q with
        | true => exact A nt c1 t m its k h ρ a w I hT Q hQ
        | false => exact A nt c2 t m its k h ρ a w I hT Q hQ
      | _ => rw [he] at hv; cases hv
    | block id b =>
      refine wp_block ?_
      refine A nt b t m its _ (show nExec hi P S N n nt b t m its _ = true from h) ρ a w I hT _ fun x t1 m1 its1 hk ρ1 a1 w1 J hs1 hT1 hd1 => ?_
      cases x with
      | norm => exact hQ .norm t1 m1 its1 hk ρ1 a1 w1 J hs1 hT1 hd1
      | ret => exact hQ .ret t1 m1 its1 hk ρ1 a1 w1 J hs1 hT1 hd1
      | exit i =>
        have hk : bif2 (Nat.beq i id) (k .norm t1 m1 its1) (k (.exit i) t1 m1 its1) = true := hk
        rw [bif2_eq] at hk
        show (if i = id then Q .normal a1 w1 else Q (.exit i) a1 w1)
        split at hk
        · rename_i hi
          rw [if_pos (Nat.eq_of_beq_eq_true hi)]
          exact hQ .norm t1 m1 its1 hk ρ1 a1 w1 J hs1 hT1 hd1
        · rename_i hi
          rw [if_neg fun e => hi (by rw [e]; exact Nat.beq_refl id)]
          exact hQ (.exit i) t1 m1 its1 hk ρ1 a1 w1 J hs1 hT1 hd1
    | loop b => exact wp_loop_rounds (n + 1) (L nt b t m its k h ρ a w I hT Q hQ)
    | exit id => exact wp_exit (hQ (.exit id) t m its h ρ a w I (fun _ _ e => e) hT rfl)
    | ret => exact wp_ret (hQ .ret t m its h ρ a w I (fun _ _ e => e) hT rfl)
    | _ => cases h

/-- What is found true of every order. -/
theorem nCall_sound (hm : P.follows .mixedOrders = true) (hS : SumsOK P S) {n : Nat} {f : FuncId} {args : List AV} {m : AMem} {k : AV → AMem → List It → Bool} (h : nCall hi P S N n f args m [] k = true) {ρ : Ren} {w : World} {cs : Array Value} (V : View ρ m w) (hv : VRs ρ args cs.toList)
    (hf : Fresh ρ m.next hi) (hle : m.next ≤ hi) : (callFunc f cs).run P w = .ok (.enter f cs) w ∧ Calls P f cs w fun e w' => ∃ vc, e = .returned vc ∧ ∃ v m' its' ρ', k v m' its' = true ∧ Step ρ m w ρ' m' w' ∧ Fresh ρ' m'.next hi ∧ m'.next ≤ hi ∧ VR ρ' v vc := by
  have I : NInv ρ m w hi ρ m [] w := ⟨V.refl, fun i h => by simp at h, hf, hle, by simp, fun i j _ _ h => by simp at h⟩
  exact nCallF_ok (nExec_ok hm hS n).1 f args m [] k h ρ w cs I hv _ fun v m' its' hk ρ' w' vc J _ hvc => ⟨v, m', its', ρ', hk, J.step, J.fresh, J.le, hvc⟩

end
end Go.Ev
