/- Operations on maps: lookup, update, entries, new ones. -/
import Derived.Test.YtkobbfimabpfeaaGreatDoorEvJ
import Derived.MapKept
import Derived.WideKeyRuns
namespace Go.Ev

section
variable {P : Program} {ρ : Ren} {m : AMem} {w : World}

/-! ### Keys -/

theorem flatT_inv {t : TypeId} (h : flatT P t = true) : ∃ d, P.underlying t = some d ∧ (d = .bool ∨ (∃ k, d = .int k) ∨ d = .string) := by
  unfold flatT at h
  split at h
  · rename_i hu; exact ⟨_, hu, .inl rfl⟩
  · rename_i k hu; exact ⟨_, hu, .inr (.inl ⟨k, rfl⟩)⟩
  · rename_i hu; exact ⟨_, hu, .inr (.inr rfl)⟩
  · cases h

theorem check_flat {t : TypeId} (h : flatT P t = true) (em : Bool) (n : Nat) (v : Value) : (Instr.checkKey em (n + 1) t v).run P w = .ok () w := by
  obtain ⟨d, hu, hd⟩ := flatT_inv h
  unfold Instr.checkKey
  simp only [Sem.run_bind, run_underlying hu, Result.andThen_ok]
  rcases hd with rfl | ⟨k, rfl⟩ | rfl <;> cases v <;> rfl

theorem part_flat {t : TypeId} (h : flatT P t = true) {cs : Array Value} {off : Nat} {v : Value} (hc : cs[off]? = some v) : (part t cs off).run P w = .ok v w := by
  obtain ⟨d, hu, hd⟩ := flatT_inv h
  have : (isAgg t).run P w = .ok false w := by rcases hd with rfl | ⟨k, rfl⟩ | rfl <;> simp [isAgg, run_underlying hu]
  simp [part, this, hc]

theorem check_fields (em : Bool) (n : Nat) {cs : Array Value} : ∀ (fs : List Field) (_ : ∀ f, f ∈ fs → f.offset < cs.size ∧ flatT P f.type = true),
    (forIn fs PUnit.unit (fun f (_ : PUnit) => do
      if f.name ≠ "_" then
        let a ← part f.type cs f.offset
        Instr.checkKey em (n + 1) f.type a
      pure (ForInStep.yield PUnit.unit)) : Sem PUnit).run P w = .ok PUnit.unit w
  | [], _ => by simp
  | f :: fs, h => by
    obtain ⟨h1, h2⟩ := h f (by simp)
    have ih := check_fields em n fs fun g hg => h g (by simp [hg])
    have hp := part_flat (w := w) h2 (cs := cs) (off := f.offset) (v := cs[f.offset]) (by simp [h1])
    have hk := check_flat (w := w) h2 em n cs[f.offset]
    simp only [List.forIn_cons, Sem.run_bind, Sem.run_ite]
    by_cases hn : f.name = "_"
    · simp only [hn, ne_eq, not_true_eq_false, if_false, Sem.run_pure, Result.andThen_ok]
      exact ih
    · simp only [hn, ne_eq, not_false_eq_true, if_true, hp, hk, Sem.run_pure, Result.andThen_ok]
      exact ih

theorem check_ok {kt : TypeId} {k : AV} {vk : Value} (h : keyOk P kt k = true) (hv : VR ρ k vk) (em : Bool) : (Instr.checkKey em 10000 kt vk).run P w = .ok () w := by
  unfold keyOk at h
  split at h
  · rename_i fs hu
    simp only [Bool.and_eq_true] at h
    obtain ⟨_, h⟩ := h
    obtain ⟨cs, rfl, h⟩ := onAgg_inv _ h (by simp)
    cases hv with | agg _ vs hvs =>
    have hl := hvs.length
    show (Instr.checkKey em (9998 + 1 + 1) kt (.agg vs)).run P w = .ok () w
    unfold Instr.checkKey
    simp only [Sem.run_bind, run_underlying hu, Result.andThen_ok]
    rw [← Array.forIn_toList]
    have := check_fields (P := P) (w := w) em 9998 (cs := vs) fs.toList fun f hf => by
      have := List.all_eq_true.1 h f hf
      simp only [Bool.and_eq_true, Nat.blt_eq] at this
      exact ⟨by have := this.1; simp at hl; omega, this.2⟩
    simp at this
    simp [this]
  · exact check_flat h em 9999 vk

/-! ### A key among entries -/

/-- Are a key and another one the same? as the model sees it. -/
structure EqAt (P : Program) (kt : TypeId) (d : TypeDesc) (vk yk : Value) (r : Bool) : Prop where
  now : Instr.sameNow d vk yk = some r ∨ Instr.sameNow d vk yk = none
  ask : ∀ w : World, (Op.equal kt vk yk).run P w = .ok r w

theorem keyEq_at {kt : TypeId} {d : TypeDesc} {x y : AV} {vx vy : Value} {r : Bool} (hu : P.underlying kt = some d) (hok : keyOk P kt x = true) (h : keyEq P kt x y = some r) (hx : VR ρ x vx) (hy : VR ρ y vy) : EqAt P kt d vx vy r := by
  unfold keyEq at h
  unfold keyOk at hok
  split at h
  · rename_i fs hu'
    rw [hu'] at hu; cases hu
    rw [hu'] at hok
    simp only [Bool.and_eq_true, Bool.not_eq_true'] at hok
    obtain ⟨cs, rfl, h⟩ := onAgg_inv _ h (by simp)
    have h : y.onAgg (fun ys => aggEq P fs.toList cs ys) none = some r := h
    obtain ⟨cs', rfl, h⟩ := onAgg_inv _ h (by simp)
    cases hx with | agg _ cx hcx => cases hy with | agg _ cy hcy =>
    refine ⟨.inr (by simp [Instr.sameNow]), fun w => ?_⟩
    have hf : P.fieldsOf kt = fs := by simp [Program.fieldsOf, hu']
    show (Op.equalIn (9999 + 1) kt (.agg cx) (.agg cy)).run P w = .ok r w
    rw [run_equalIn_struct w 9999 kt cx cy (by rw [hf]; exact hu') hok.1, hf]
    exact aggEq_run (d := 9998) fs.toList hcx hcy h
  · refine ⟨.inl ?_, fun w => (sEq_run (d := 9999) (w := w) hx hy h).2⟩
    rw [hu] at h
    unfold sEq at h
    split at h
    · rename_i e; cases e; cases h; cases hx; cases hy; rfl
    · rename_i e
      cases e
      rw [bif2_eq] at h
      split at h
      · rename_i hk
        cases h; cases hx; cases hy
        obtain rfl := kEq_eq hk
        simp [Instr.sameNow, iEq_eq]
      · cases h
    · rename_i e
      cases e; cases h
      obtain ⟨s, rfl, hs⟩ := str_inv hx
      obtain ⟨s', rfl, hs'⟩ := str_inv hy
      simp only [Instr.sameNow]
      rw [lEq_eq, ← hs, ← hs', toNat_inj]
      simp [beq_toListBytes, ByteArray.toList_eq]
    · cases h

theorem now_absent {kt : TypeId} {d : TypeDesc} {vk : Value} : ∀ (l : List MapEntry) (i : Nat), (∀ x, x ∈ l → EqAt P kt d vk x.key false) → Instr.findNow d vk l i = some none ∨ Instr.findNow d vk l i = none
  | [], _, _ => .inl rfl
  | x :: l, i, h => by
    rcases (h x (by simp)).now with e | e
    · simp only [Instr.findNow, e]; exact now_absent l (i + 1) fun y hy => h y (by simp [hy])
    · exact .inr (by simp only [Instr.findNow, e])
theorem ask_absent {kt : TypeId} {d : TypeDesc} {vk : Value} : ∀ (l : List MapEntry) (i : Nat), (∀ x, x ∈ l → EqAt P kt d vk x.key false) → (Instr.findAsking kt vk l i).run P w = .ok none w
  | [], _, _ => rfl
  | x :: l, i, h => by
    simp only [Instr.findAsking, Sem.run_bind, (h x (by simp)).ask w, Result.andThen_ok, Bool.false_eq_true, if_false]
    exact ask_absent l (i + 1) fun y hy => h y (by simp [hy])
theorem now_there {kt : TypeId} {d : TypeDesc} {vk : Value} {x : MapEntry} {q : List MapEntry} (hx : EqAt P kt d vk x.key true) : ∀ (p : List MapEntry) (i : Nat), (∀ y, y ∈ p → EqAt P kt d vk y.key false) →
    Instr.findNow d vk (p ++ x :: q) i = some (some (i + p.length, x.val)) ∨ Instr.findNow d vk (p ++ x :: q) i = none
  | [], i, _ => by
    rcases hx.now with e | e
    · exact .inl (by simp [Instr.findNow, e])
    · exact .inr (by simp [Instr.findNow, e])
  | y :: p, i, h => by
    rcases (h y (by simp)).now with e | e
    · have := now_there (q := q) hx p (i + 1) fun z hz => h z (by simp [hz])
      simp only [List.cons_append, Instr.findNow, e, List.length_cons]
      rw [show i + (p.length + 1) = i + 1 + p.length from by omega]; exact this
    · exact .inr (by simp only [List.cons_append, Instr.findNow, e])
theorem ask_there {kt : TypeId} {d : TypeDesc} {vk : Value} {x : MapEntry} {q : List MapEntry} (hx : EqAt P kt d vk x.key true) : ∀ (p : List MapEntry) (i : Nat), (∀ y, y ∈ p → EqAt P kt d vk y.key false) →
    (Instr.findAsking kt vk (p ++ x :: q) i).run P w = .ok (some (i + p.length, x.val)) w
  | [], i, _ => by simp [Instr.findAsking, hx.ask w]
  | y :: p, i, h => by
    simp only [List.cons_append, Instr.findAsking, Sem.run_bind, (h y (by simp)).ask w, Result.andThen_ok, Bool.false_eq_true, if_false, List.length_cons]
    rw [ask_there hx p (i + 1) fun z hz => h z (by simp [hz]), show i + (p.length + 1) = i + 1 + p.length from by omega]

theorem key_absent {kt : TypeId} {d : TypeDesc} {vk : Value} {l : List MapEntry} (hu : P.underlying kt = some d) (h : ∀ x, x ∈ l → EqAt P kt d vk x.key false) : (Instr.findKey kt vk l).run P w = .ok none w := by
  simp only [Instr.findKey, Sem.run_bind, run_underlying hu, Result.andThen_ok]
  rcases now_absent l 0 h with e | e
  · rw [e]; rfl
  · rw [e]; exact ask_absent l 0 h
theorem key_there {kt : TypeId} {d : TypeDesc} {vk : Value} {p q : List MapEntry} {x : MapEntry} (hu : P.underlying kt = some d) (hx : EqAt P kt d vk x.key true) (h : ∀ y, y ∈ p → EqAt P kt d vk y.key false) :
    (Instr.findKey kt vk (p ++ x :: q)).run P w = .ok (some (p.length, x.val)) w := by
  simp only [Instr.findKey, Sem.run_bind, run_underlying hu, Result.andThen_ok]
  rcases now_there (q := q) hx p 0 h with e | e
  · rw [e]; simp
  · rw [e]; have := ask_there (w := w) (q := q) hx p 0 h; simpa using this

/-- What 'findA' says of the entries. -/
theorem findA_inv {kt : TypeId} {d : TypeDesc} {k : AV} {vk : Value} (hu : P.underlying kt = some d) (hok : keyOk P kt k = true) (hk : VR ρ k vk) : ∀ {es : List Ent} {l : List MapEntry} (_ : ERs ρ es l) {a : List Ent} {o : Option Ent} {b : List Ent} (_ : findA P kt k es = some (a, o, b)),
    (o = none ∧ ∀ x, x ∈ l → EqAt P kt d vk x.key false) ∨
    ∃ e x la lb, o = some e ∧ es = a ++ e :: b ∧ l = la ++ x :: lb ∧ ERs ρ a la ∧ ER ρ e x ∧ ERs ρ b lb ∧ EqAt P kt d vk x.key true ∧ ∀ y, y ∈ la ++ lb → EqAt P kt d vk y.key false
  | _, _, .nil, a, o, b, h => by
    simp only [findA, Option.some.injEq, Prod.mk.injEq] at h
    exact .inl ⟨h.2.1.symm, fun x hx => by simp at hx⟩
  | _, _, .cons e x es l he hs, a, o, b, h => by
    simp only [findA] at h
    split at h
    · rename_i a' o' b' h1 h2
      cases h
      have hf := keyEq_at hu hok h1 hk he.key
      rcases findA_inv hu hok hk hs h2 with ⟨ho, hall⟩ | ⟨e', x', la, lb, ho, h3, h4, h5, h6, h7, h8, h9⟩
      · refine .inl ⟨ho, fun y hy => ?_⟩
        rcases List.mem_cons.1 hy with rfl | hy
        · exact hf
        · exact hall y hy
      · refine .inr ⟨e', x', x :: la, lb, ho, by rw [h3]; rfl, by rw [h4]; rfl, .cons _ _ _ _ he h5, h6, h7, h8, fun y hy => ?_⟩
        simp only [List.cons_append, List.mem_cons] at hy
        rcases hy with rfl | hy
        · exact hf
        · exact h9 y hy
    · rename_i a' b' h1 h2
      cases h
      rcases findA_inv hu hok hk hs h2 with ⟨_, hall⟩ | ⟨e', x', la, lb, ho, _⟩
      · exact .inr ⟨e, x, [], l, rfl, rfl, rfl, .nil, he, hs, keyEq_at hu hok h1 hk he.key, fun y hy => hall y (by simpa using hy)⟩
      · cases ho
    · cases h

theorem perm_at {α : Type} {la lb p q : List α} {x y : α} (h : (la ++ x :: lb).Perm (p ++ x :: q)) : (la ++ y :: lb).Perm (p ++ y :: q) :=
  List.perm_middle.trans ((((List.perm_middle.symm.trans (h.trans List.perm_middle)).cons_inv).cons y).trans List.perm_middle.symm)

/-- A key that is there: where it stands in the model's row. -/
theorem there_at {kt : TypeId} {d : TypeDesc} {vk : Value} {mes : Array MapEntry} {la lb : List MapEntry} {x : MapEntry} (hp : (la ++ x :: lb).Perm mes.toList) (hn : (mes.toList.map (·.born)).Nodup)
    (h : ∀ y, y ∈ la ++ lb → EqAt P kt d vk y.key false) : ∃ p q, mes.toList = p ++ x :: q ∧ ∀ y, y ∈ p → EqAt P kt d vk y.key false := by
  have hx : x ∈ mes.toList := hp.subset (by simp)
  obtain ⟨p, q, e⟩ := List.append_of_mem hx
  refine ⟨p, q, e, fun y hy => ?_⟩
  have hy' : y ∈ la ++ x :: lb := hp.symm.subset (by rw [e]; simp [hy])
  simp only [List.mem_append, List.mem_cons] at hy'
  rcases hy' with h1 | rfl | h1
  · exact h y (by simp [h1])
  · exfalso
    rw [e] at hn
    simp only [List.map_append, List.map_cons] at hn
    have := (List.nodup_append.1 hn).2.2 y.born (List.mem_map_of_mem hy) y.born (by simp)
    exact this rfl
  · exact h y (by simp [h1])

/-! ### Known keys -/

theorem scEq_val {x y : AV} {vx vy : Value} (h : scEq x y = true) (hx : VR ρ x vx) (hy : VR ρ y vy) : vx = vy ∧ ∀ n, Instr.sameBits n vx vy = true := by
  unfold scEq at h
  split at h
  · cases hx; cases hy
    have := eq_of_beq h; subst this
    exact ⟨rfl, fun n => by simp [Instr.sameBits]⟩
  · simp only [Bool.and_eq_true] at h
    cases hx; cases hy
    obtain rfl := kEq_eq h.1
    have h2 := h.2
    rw [iEq_eq] at h2
    have := eq_of_beq h2; subst this
    exact ⟨rfl, fun n => by simp [Instr.sameBits]⟩
  · obtain ⟨s, rfl, hs⟩ := str_inv hx
    obtain ⟨s', rfl, hs'⟩ := str_inv hy
    rw [lEq_eq, ← hs, ← hs', toNat_inj] at h
    have h : s.data.toList = s'.data.toList := eq_of_beq h
    have : s = s' := by
      obtain ⟨a⟩ := s; obtain ⟨b⟩ := s'
      have : a = b := Array.ext' h
      rw [this]
    subst this
    exact ⟨rfl, fun n => by simp [Instr.sameBits, MapKept.bytes_beq]⟩
  · cases h

theorem scEqs_val : ∀ {x y : List AV} {vx vy : List Value} (_ : scEqs x y = true) (_ : VRs ρ x vx) (_ : VRs ρ y vy), vx = vy ∧ ∀ n, (vx.zip vy).all (fun (a, b) => Instr.sameBits n a b) = true
  | [], [], _, _, _, .nil, .nil => ⟨rfl, fun _ => rfl⟩
  | a :: x, b :: y, _, _, h, .cons _ c _ cs hc hcs, .cons _ c' _ cs' hc' hcs' => by
    simp only [scEqs, Bool.and_eq_true] at h
    obtain ⟨rfl, h1⟩ := scEq_val h.1 hc hc'
    obtain ⟨rfl, h2⟩ := scEqs_val h.2 hcs hcs'
    exact ⟨rfl, fun n => by simp only [List.zip_cons_cons, List.all_cons, h1 n, Bool.true_and]; exact h2 n⟩

theorem keySame_val {x y : AV} {vx vy : Value} (h : keySame x y = true) (hx : VR ρ x vx) (hy : VR ρ y vy) : vx = vy ∧ (Instr.keyThatStays vy vx).run P w = .ok vx w := by
  have : vx = vy ∧ Instr.sameBits 10000 vy vx = true := by
    unfold keySame at h
    split at h
    · cases hx with | agg _ cx hcx => cases hy with | agg _ cy hcy =>
      obtain ⟨e, h2⟩ := scEqs_val h hcx hcy
      have e : cx = cy := Array.ext' e
      subst e
      exact ⟨rfl, by simp only [Instr.sameBits, beq_self_eq_true, Bool.true_and]; exact h2 9999⟩
    · obtain ⟨e, h2⟩ := scEq_val h hx hy
      subst e
      exact ⟨rfl, h2 _⟩
  obtain ⟨rfl, h2⟩ := this
  exact ⟨rfl, by simp [Instr.keyThatStays, h2]⟩

/-! ### Zero -/

theorem zeroV_inv {t : TypeId} {z : AV} (h : zeroV P t = some z) : ∃ vz, (∀ w : World, (zeroValue t).run P w = .ok vz w) ∧ ∀ ρ : Ren, VR ρ z vz := by
  unfold zeroV at h
  split at h
  · rename_i i hi
    split at h
    · rename_i cs hz; cases h; exact ⟨_, run_zero hi hz, fun ρ => .agg _ _ (scals_rel ρ _)⟩
    · rename_i v hne hz; cases h; exact ⟨_, run_zero hi hz, fun ρ => scal_rel ρ v⟩
    · cases h
  · cases h

/-! ### Reading -/

theorem mapK_inv {m m' : AMem} {b : Nat} {k : Bool → Nat → List Ent → OR} {v : AV} (h : mapK m b k = .mk v m') : ∃ ro ck es, m.t.get b = some (.map ro ck es) ∧ k ro ck es = .mk v m' := by
  unfold mapK at h
  cases hg : m.t.get b with
  | none => rw [hg] at h; cases h
  | some x => cases x with
    | cells ro sg E N c => rw [hg] at h; cases h
    | map ro ck es => rw [hg] at h; exact ⟨ro, ck, es, rfl, h⟩

theorem View.mapAt (V : View ρ m w) {b : Nat} {ro : Bool} {ck : Nat} {es : List Ent} (hb : m.t.get b = some (.map ro ck es)) {L : Loc} (hL : ρ b = some L) : ∃ mes, w.heap[L.blk]? = some (.map mes ck) ∧ MR ρ ck es mes := by
  obtain ⟨L0, mes, h1, h2, h3⟩ := V.sim.blk b _ hb
  rw [hL] at h1; cases h1
  exact ⟨mes, h2, h3⟩

theorem found_val {ok : Bool} {a : AV} {va : Value} {b : Bool} {v : AV} {m' : AMem} (h : found ok a b m = .mk v m') (ha : VR ρ a va) : m' = m ∧ VR ρ v (if ok then .tuple #[va, .bool b] else va) := by
  unfold found at h
  rw [bif2_eq] at h
  split at h
  · rename_i e; subst e; cases h; exact ⟨rfl, .tup _ _ (.cons _ _ _ _ ha (.cons _ _ _ _ (.bool _) .nil))⟩
  · rename_i e; simp only [Bool.not_eq_true] at e; subst e; cases h; exact ⟨rfl, ha⟩

theorem aLookup_val (V : View ρ m w) {t : TypeId} {x k : AV} {vx vk : Value} {ok : Bool} (hx : VR ρ x vx) (hk : VR ρ k vk) {v : AV} {m' : AMem} (h : aLookup P t x k ok m = .mk v m') : Val P ρ m w v m' (Instr.lookup t vx vk ok) := by
  unfold aLookup at h
  split at h
  · rename_i kt et hu
    rw [bif2_eq] at h
    split at h
    · rename_i hok
      have hd : ∃ d, P.underlying kt = some d := by
        unfold keyOk at hok
        split at hok
        · exact ⟨_, ‹_›⟩
        · obtain ⟨d, hd, _⟩ := flatT_inv hok; exact ⟨d, hd⟩
      obtain ⟨d, hd⟩ := hd
      split at h
      · cases h
      · rename_i z hz
        obtain ⟨vz, hzr, hzv⟩ := zeroV_inv hz
        split at h
        · cases hx
          obtain ⟨rfl, hv⟩ := found_val h (hzv ρ)
          refine ⟨rfl, _, hv, ?_⟩
          simp [Instr.lookup, run_underlying hu, check_ok hok hk, key_absent (w := w) (l := []) hd (fun x hx => by simp at hx), hzr w]
        · rename_i b
          cases hx with | map _ L hL =>
          obtain ⟨ro, ck, es, hb, h⟩ := mapK_inv h
          obtain ⟨mes, hheap, ⟨l, hp, hes⟩, hold, hnd⟩ := V.mapAt hb hL
          split at h
          · rename_i a e b' hfa
            rcases findA_inv hd hok hk hes hfa with ⟨ho, _⟩ | ⟨e', y, la, lb, ho, h3, h4, h5, he, h7, h8, h9⟩
            · cases ho
            · cases ho
              obtain ⟨rfl, hv⟩ := found_val h he.val
              subst h4
              obtain ⟨p, q, e1, e2⟩ := there_at hp hnd h9
              refine ⟨rfl, _, hv, ?_⟩
              have hf := key_there (w := w) (q := q) hd h8 e2
              rw [← e1] at hf
              simp [Instr.lookup, run_underlying hu, MapKept.run_getObj_map hheap, check_ok hok hk, hf]
          · rename_i a b' hfa
            obtain ⟨rfl, hv⟩ := found_val h (hzv ρ)
            refine ⟨rfl, _, hv, ?_⟩
            rcases findA_inv hd hok hk hes hfa with ⟨_, hall⟩ | ⟨_, _, _, _, ho, _⟩
            · have hf := key_absent (w := w) (l := mes.toList) hd fun x hx => hall x (hp.symm.subset hx)
              simp [Instr.lookup, run_underlying hu, MapKept.run_getObj_map hheap, check_ok hok hk, hf, hzr w]
            · cases ho
          · cases h
        · cases h
    · cases h
  · cases h

/-! ### Writing -/

theorem setMap_inv {m m' : AMem} {b ck : Nat} {es : List Ent} {k : AMem → OR} {v : AV} (h : setMap b ck es m k = .mk v m') : ∃ t', (∀ j, t'.get j = if j = b then some (.map false ck es) else m.t.get j) ∧ k ⟨m.next, t'⟩ = .mk v m' := by
  unfold setMap at h
  rcases T.setK_eq (OR.fail 231) (some (.map false ck es)) m.t b fun t => k ⟨m.next, t⟩ with e | ⟨t', ht, e⟩
  · rw [e] at h; cases h
  · rw [e] at h; exact ⟨t', ht, h⟩

theorem View.setMap (V : View ρ m w) {b ck ck' : Nat} {es es' : List Ent} {mes mes' : Array MapEntry} (hb : m.t.get b = some (.map false ck es)) {L : Loc} (hL : ρ b = some L) (hheap : w.heap[L.blk]? = some (.map mes ck))
    (hM : MR ρ ck' es' mes') {t' : T Blk} (ht : ∀ j, t'.get j = if j = b then some (.map false ck' es') else m.t.get j) :
    Step ρ m w ρ ⟨m.next, t'⟩ { w with heap := w.heap.setIfInBounds L.blk (.map mes' ck') } := by
  obtain ⟨h1, h2⟩ := MapKept.heap_set (w := w) (o' := .map mes' ck') hheap
  exact GStep.writeB (y := .map false ck' es') V.sim V.wf hb rfl hL ⟨L, mes', hL, h1, hM⟩ h2 (by simp) rfl rfl rfl ht

theorem ERs.append {l l' : List Ent} {xs xs' : List MapEntry} (h : ERs ρ l xs) (h' : ERs ρ l' xs') : ERs ρ (l ++ l') (xs ++ xs') := by
  induction h with
  | nil => exact h'
  | cons e x l xs h _ ih => exact .cons _ _ _ _ h ih

/-- An entry turned, its stamp as it was. -/
theorem MR.turn {ck : Nat} {a b : List Ent} {e : Ent} {mes : Array MapEntry} {la lb p q : List MapEntry} {x y : MapEntry} (hp : (la ++ x :: lb).Perm mes.toList) (hold : ∀ x, x ∈ mes.toList → x.born < ck)
    (hnd : (mes.toList.map (·.born)).Nodup) (ha : ERs ρ a la) (hb : ERs ρ b lb) (he : ER ρ e y) (hy : y.born = x.born) (e1 : mes.toList = p ++ x :: q) :
    MR ρ ck (a ++ e :: b) (p ++ y :: q).toArray := by
  refine ⟨⟨la ++ y :: lb, ?_, ha.append (.cons _ _ _ _ he hb)⟩, fun z hz => ?_, ?_⟩
  · rw [e1] at hp; exact perm_at hp
  · simp only [List.mem_append, List.mem_cons] at hz
    rcases hz with h | rfl | h
    · exact hold z (by rw [e1]; simp [h])
    · rw [hy]; exact hold x (by rw [e1]; simp)
    · exact hold z (by rw [e1]; simp [h])
  · rw [e1] at hnd
    simp only [List.map_append, List.map_cons] at hnd ⊢
    rw [hy]; exact hnd

/-- One entry more. -/
theorem MR.more {ck : Nat} {es : List Ent} {mes : Array MapEntry} (h : MR ρ ck es mes) {e : Ent} {y : MapEntry} (he : ER ρ e y) (hy : y.born = ck) : MR ρ (ck + 1) (es ++ [e]) (mes.push y) := by
  obtain ⟨⟨l, hp, hes⟩, hold, hnd⟩ := h
  refine ⟨⟨l ++ [y], by rw [Array.toList_push]; exact hp.append_right _, hes.append (.cons _ _ _ _ he .nil)⟩, fun z hz => ?_, ?_⟩
  · simp only [Array.toList_push, List.mem_append, List.mem_singleton] at hz
    rcases hz with h | rfl
    · have := hold z h; omega
    · omega
  · simp only [Array.toList_push, List.map_append, List.map_cons, List.map_nil]
    refine List.nodup_append.2 ⟨hnd, by simp, fun a ha b hb => ?_⟩
    obtain ⟨z, hz, rfl⟩ := List.mem_map.1 ha
    simp at hb
    have := hold z hz
    omega

theorem list_modify_at {α : Type} (x : α) (q : List α) (f : α → α) : ∀ p : List α, (p ++ x :: q).modify p.length f = p ++ f x :: q
  | [] => by simp
  | y :: p => by simp [list_modify_at x q f p]

theorem modify_at {mes : Array MapEntry} {p q : List MapEntry} {x : MapEntry} (e : mes.toList = p ++ x :: q) (f : MapEntry → MapEntry) : mes.modify p.length f = (p ++ f x :: q).toArray := by
  apply Array.ext'
  have : mes = (p ++ x :: q).toArray := Array.ext' e
  subst this
  simp [list_modify_at]

theorem getElem_at {mes : Array MapEntry} {p q : List MapEntry} {x : MapEntry} (e : mes.toList = p ++ x :: q) : mes[p.length]? = some x := by
  have : mes = (p ++ x :: q).toArray := Array.ext' e
  subst this
  simp

theorem keyOk_type {kt : TypeId} {k : AV} (h : keyOk P kt k = true) : ∃ d, P.underlying kt = some d := by
  unfold keyOk at h
  split at h
  · exact ⟨_, ‹_›⟩
  · obtain ⟨d, hd, _⟩ := flatT_inv h; exact ⟨d, hd⟩

theorem aMapUpdate_run (V : View ρ m w) {t : TypeId} {x k u : AV} {vx vk vu : Value} (hx : VR ρ x vx) (hk : VR ρ k vk) (hu : VR ρ u vu) {v : AV} {m' : AMem} (h : aMapUpdate P t x k u m = .mk v m') :
    Runs P ρ m w v m' (do (Instr.mapUpdate t vx vk vu); pure .skip) := by
  unfold aMapUpdate at h
  split at h
  · rename_i kt et b hut
    rw [bif2_eq] at h
    split at h
    · rename_i hok
      obtain ⟨d, hd⟩ := keyOk_type hok
      cases hx with | map _ L hL =>
      obtain ⟨ro, ck, es, hb, h⟩ := mapK_inv h
      obtain ⟨mes, hheap, hM⟩ := V.mapAt hb hL
      rw [bif2_eq] at h
      split at h
      · cases h
      rename_i hro
      simp only [Bool.not_eq_true] at hro
      subst hro
      have hM0 := hM
      obtain ⟨⟨l, hp, hes⟩, hold, hnd⟩ := hM
      split at h
      · rename_i a e b' hfa
        rw [bif2_eq] at h
        split at h
        · rename_i hsame
          obtain ⟨t', ht, h⟩ := setMap_inv h
          cases h
          rcases findA_inv hd hok hk hes hfa with ⟨ho, _⟩ | ⟨e', y, la, lb, ho, h3, h4, h5, he, h7, h8, h9⟩
          · cases ho
          · cases ho
            subst h4
            obtain ⟨p, q, e1, e2⟩ := there_at hp hnd h9
            have hf := key_there (w := w) (q := q) hd h8 e2
            rw [← e1] at hf
            obtain ⟨hkk, hks⟩ := keySame_val (P := P) (w := w) hsame hk he.key
            refine ⟨ρ, _, undef, V.setMap hb hL hheap (MR.turn (e := ⟨k, u, e.born⟩) (y := { y with key := vk, val := vu }) hp hold hnd h5 h7 ⟨hk, hu, he.born⟩ rfl e1) ht, VR.undef ρ, .inr ⟨?_, rfl⟩⟩
            simp [Instr.mapUpdate, run_underlying hut, MapKept.run_getObj_map hheap, check_ok hok hk, hf, getElem_at e1, hks, MapKept.run_setObj_map _ hheap, modify_at e1]
        · cases h
      · rename_i a b' hfa
        rw [fNat_eq] at h
        obtain ⟨t', ht, h⟩ := setMap_inv h
        cases h
        rcases findA_inv hd hok hk hes hfa with ⟨_, hall⟩ | ⟨_, _, _, _, ho, _⟩
        · have hf := key_absent (w := w) (l := mes.toList) hd fun x hx => hall x (hp.symm.subset hx)
          refine ⟨ρ, _, undef, V.setMap hb hL hheap (hM0.more (e := ⟨k, u, some ck⟩) (y := ⟨vk, vu, ck⟩) ⟨hk, hu, fun n hn => by cases hn; rfl⟩ rfl) ht, VR.undef ρ, .inr ⟨?_, rfl⟩⟩
          simp [Instr.mapUpdate, run_underlying hut, MapKept.run_getObj_map hheap, check_ok hok hk, hf, MapKept.run_setObj_map _ hheap]
        · cases ho
      · cases h
    · cases h
  · cases h

theorem aMapEntry_run (V : View ρ m w) {t : TypeId} {x k : AV} {vx vk : Value} (hx : VR ρ x vx) (hk : VR ρ k vk) {v : AV} {m' : AMem} (h : aMapEntry P t x k m = .mk v m') :
    Runs P ρ m w v m' (do pure (.value (← Instr.mapEntry t vx vk))) := by
  unfold aMapEntry at h
  split at h
  · rename_i kt et b hut
    rw [bif2_eq] at h
    split at h
    · rename_i hok
      obtain ⟨d, hd⟩ := keyOk_type hok
      cases hx with | map _ L hL =>
      obtain ⟨ro, ck, es, hb, h⟩ := mapK_inv h
      obtain ⟨mes, hheap, hM⟩ := V.mapAt hb hL
      rw [bif2_eq] at h
      split at h
      · cases h
      rename_i hro
      simp only [Bool.not_eq_true] at hro
      subst hro
      have hM0 := hM
      obtain ⟨⟨l, hp, hes⟩, hold, hnd⟩ := hM
      split at h
      · rename_i a e b' hfa
        rw [bif2_eq] at h
        split at h
        · rename_i hsame
          split at h
          · rename_i n hn
            cases h
            rcases findA_inv hd hok hk hes hfa with ⟨ho, _⟩ | ⟨e', y, la, lb, ho, h3, h4, h5, he, h7, h8, h9⟩
            · cases ho
            · cases ho
              subst h4
              obtain ⟨p, q, e1, e2⟩ := there_at hp hnd h9
              have hf := key_there (w := w) (q := q) hd h8 e2
              rw [← e1] at hf
              obtain ⟨hkk, hks⟩ := keySame_val (P := P) (w := w) hsame hk he.key
              have hself : w.heap.setIfInBounds L.blk (.map (mes.modify p.length fun e => { e with key := vk }) ck) = w.heap := by
                have : mes.modify p.length (fun e => { e with key := vk }) = mes := by
                  rw [modify_at e1]
                  apply Array.ext'
                  rw [e1, hkk]
                rw [this]
                apply Array.ext_getElem?
                intro i
                by_cases hi : i = L.blk
                · subst hi; rw [(MapKept.heap_set hheap).1, hheap]
                · exact (MapKept.heap_set hheap).2 i hi
              refine ⟨ρ, w, .tuple #[y.val, .int .i64 (Int.ofNat n)], V.refl, .tup _ _ (.cons _ _ _ _ he.val (.cons _ _ _ _ (.int _ _) .nil)), .inl ?_⟩
              have hb' : y.born = n := he.born n hn
              have hw : ({ w with heap := w.heap } : World) = w := rfl
              simp [Instr.mapEntry, run_underlying hut, MapKept.run_getObj_map hheap, check_ok hok hk, hf, getElem_at e1, hks, MapKept.run_setObj_map _ hheap, hself, hb', goInt]
          · cases h
        · cases h
      · rename_i a b' hfa
        split at h
        · rename_i z hz
          obtain ⟨vz, hzr, hzv⟩ := zeroV_inv hz
          rw [fNat_eq] at h
          obtain ⟨t', ht, h⟩ := setMap_inv h
          cases h
          rcases findA_inv hd hok hk hes hfa with ⟨_, hall⟩ | ⟨_, _, _, _, ho, _⟩
          · have hf := key_absent (w := w) (l := mes.toList) hd fun x hx => hall x (hp.symm.subset hx)
            refine ⟨ρ, _, .tuple #[vz, .int .i64 (Int.ofNat ck)], V.setMap hb hL hheap (hM0.more (e := ⟨k, z, some ck⟩) (y := ⟨vk, vz, ck⟩) ⟨hk, hzv ρ, fun n hn => by cases hn; rfl⟩ rfl) ht, .tup _ _ (.cons _ _ _ _ (hzv ρ) (.cons _ _ _ _ (.int _ _) .nil)), .inl ?_⟩
            simp [Instr.mapEntry, run_underlying hut, MapKept.run_getObj_map hheap, check_ok hok hk, hf, hzr w, MapKept.run_setObj_map _ hheap, goInt]
          · cases ho
        · cases h
      · cases h
    · cases h
  · cases h

theorem bornA_inv {n : Nat} : ∀ {es : List Ent} {l : List MapEntry} (_ : ERs ρ es l) {a : List Ent} {e : Ent} {b : List Ent} (_ : bornA n es = some (a, e, b)),
    ∃ x la lb, l = la ++ x :: lb ∧ ERs ρ a la ∧ ER ρ e x ∧ ERs ρ b lb ∧ x.born = n
  | _, _, .nil, a, e, b, h => by cases h
  | _, _, .cons e0 x es l he hs, a, e, b, h => by
    have deep : (match bornA n es with | some (a, x, b) => some (e0 :: a, x, b) | none => none) = some (a, e, b) → ∃ y la lb, x :: l = la ++ y :: lb ∧ ERs ρ a la ∧ ER ρ e y ∧ ERs ρ b lb ∧ y.born = n := by
      intro h
      split at h
      · rename_i a' e' b' h1
        cases h
        obtain ⟨y, la, lb, h2, h3, h4, h5, h6⟩ := bornA_inv hs h1
        exact ⟨y, x :: la, lb, by rw [h2]; rfl, .cons _ _ _ _ he h3, h4, h5, h6⟩
      · cases h
    simp only [bornA] at h
    split at h
    · rename_i i hi
      rw [bif2_eq] at h
      split at h
      · rename_i hin
        cases h
        exact ⟨x, [], l, rfl, .nil, he, hs, by rw [he.born i hi]; exact Nat.eq_of_beq_eq_true hin⟩
      · exact deep h
    · exact deep h

theorem findIdx_born {n : Nat} {x : MapEntry} {q : List MapEntry} (hx : x.born = n) : ∀ (p : List MapEntry), (∀ y, y ∈ p → y.born ≠ n) → (p ++ x :: q).findIdx? (fun e => (e.born : Int) == (n : Int)) = some p.length
  | [], _ => by simp [List.findIdx?_cons, hx]
  | y :: p, h => by
    have h1 : ¬ ((y.born : Int) = (n : Int)) := fun e => h y (by simp) (by omega)
    simp [List.findIdx?_cons, h1, findIdx_born hx p fun z hz => h z (by simp [hz])]

theorem aEntryStore_run (V : View ρ m w) {t : TypeId} {x s u : AV} {vx vs vu : Value} (hx : VR ρ x vx) (hs : VR ρ s vs) (hu : VR ρ u vu) {v : AV} {m' : AMem} (h : aEntryStore x s u m = .mk v m') :
    Runs P ρ m w v m' (do (Instr.entryStore t vx vs vu); pure .skip) := by
  unfold aEntryStore at h
  split at h
  · rename_i b n
    cases hx with | map _ L hL =>
    cases hs
    obtain ⟨ro, ck, es, hb, h⟩ := mapK_inv h
    obtain ⟨mes, hheap, ⟨l, hp, hes⟩, hold, hnd⟩ := V.mapAt hb hL
    rw [bif2_eq] at h
    split at h
    · cases h
    rename_i hro
    simp only [Bool.not_eq_true] at hro
    subst hro
    split at h
    · rename_i a e b' hbo
      obtain ⟨t', ht, h⟩ := setMap_inv h
      cases h
      obtain ⟨y, la, lb, h4, h5, he, h7, h8⟩ := bornA_inv hes hbo
      subst h4
      have hy : y ∈ mes.toList := hp.subset (by simp)
      obtain ⟨p, q, e1⟩ := List.append_of_mem hy
      have hfi : mes.findIdx? (fun e => (e.born : Int) == (n : Int)) = some p.length := by
        have e2 : mes = (p ++ y :: q).toArray := Array.ext' e1
        rw [e2, List.findIdx?_toArray]
        refine findIdx_born h8 p fun z hz hzn => ?_
        rw [e1] at hnd
        simp only [List.map_append, List.map_cons] at hnd
        exact (List.nodup_append.1 hnd).2.2 z.born (List.mem_map_of_mem hz) y.born (by simp) (hzn.trans h8.symm)
      refine ⟨ρ, _, undef, V.setMap hb hL hheap (MR.turn (e := ⟨e.k, u, e.born⟩) (y := { y with val := vu }) hp hold hnd h5 h7 ⟨he.key, hu, he.born⟩ rfl e1) ht, VR.undef ρ, .inr ⟨?_, rfl⟩⟩
      have hfi' : mes.findIdx? (fun e => (e.born : Int) == Int.ofNat n) = some p.length := hfi
      simp only [Int.ofNat_eq_natCast] at hfi'
      simp [Instr.entryStore, MapKept.run_getObj_map hheap, asInt, asIntOf, hfi', MapKept.run_setObj_map _ hheap, modify_at e1]
    · cases h
  · cases h

theorem aMakeMap_run (V : View ρ m w) {t : TypeId} {r : Option AV} {vr : Option Value} (hr : VO ρ r vr) {v : AV} {m' : AMem} (h : aMakeMap r m = .mk v m') (hf : Fresh ρ m.next m'.next) :
    Runs P ρ m w v m' (do pure (.value (← Instr.makeMap t vr))) := by
  unfold aMakeMap at h
  split at h
  · cases h
  · cases vr with
    | some _ => exact hr.elim
    | none =>
      rcases T.setK_eq (OR.fail 253) (some (.map false 0 [])) m.t m.next (fun t => fNat (Nat.succ m.next) fun nx => OR.mk (.map m.next) ⟨nx, t⟩) with e | ⟨t', ht, e⟩
      · rw [e] at h; cases h
      · rw [e, fNat_eq] at h
        cases h
        refine ⟨ρ.set m.next ⟨w.heap.size, 0, 0, 0⟩, w.alloc (.map #[] 0), .map (some w.heap.size), ?_, .map m.next ⟨w.heap.size, 0, 0, 0⟩ (Ren.set_same _ _ _), .inl (by simp [show (Instr.makeMap t none).run P w = .ok (.map (some w.heap.size)) (w.alloc (.map #[] 0)) from rfl])⟩
        exact GStep.allocB (x := .map false 0 []) V.sim V.wf (hf m.next (Nat.le_refl _) (by show m.next < Nat.succ m.next; omega)) rfl ⟨_, #[], Ren.set_same _ _ _, (MapKept.heap_alloc w _).1, ⟨[], by simp, .nil⟩, by simp, by simp⟩ (MapKept.heap_alloc w _).2 (by simp) rfl rfl rfl ht

end
end Go.Ev
