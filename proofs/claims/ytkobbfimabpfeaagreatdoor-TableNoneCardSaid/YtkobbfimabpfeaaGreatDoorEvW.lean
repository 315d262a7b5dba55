/- A region whose order is drawn: in any order it comes to what the order of the text comes to. -/
import Derived.Test.YtkobbfimabpfeaaGreatDoorEvU
namespace Go.Ev

section
variable {P : Program} {call : Call} {nt : Nat} {all : Array Oper} {R : Trace} {anc : Nat → Nat → Prop}

theorem Facts.next (F : Facts P call nt all R anc) {j : Nat} (hj : j < all.size) : (R.mm j).next ≤ (R.mm (j + 1)).next := by
  cases F.kind j all[j] (by simp [hj]) with
  | skip hb hv hm hh ha => rw [hm]; exact Nat.le_refl _
  | pure hb hm hh ha h => rw [hm]; exact Nat.le_refl _
  | read hb hm hh ha h => rw [hm]; exact Nat.le_refl _
  | alloc hb hh y t2 ha h hy hn ht => omega
  | heavy hb hh ha h hn => exact hn

theorem Facts.mono (F : Facts P call nt all R anc) {i j : Nat} (hij : i ≤ j) (hj : j ≤ all.size) : (R.mm i).next ≤ (R.mm j).next := by
  induction j with
  | zero => have : i = 0 := by omega
            subst this; exact Nat.le_refl _
  | succ j ih =>
    by_cases e : i = j + 1
    · subst e; exact Nat.le_refl _
    · exact Nat.le_trans (ih (by omega) (by omega)) (F.next (by omega))

theorem Facts.anext (F : Facts P call nt all R anc) {i : Nat} {y : Blk} (h : R.al i = some y) : (R.mm (i + 1)).next = (R.mm i).next + 1 := by
  have hi := F.asize i y h
  cases F.kind i all[i] (by simp [hi]) with
  | skip hb hv hm hh ha => rw [ha] at h; cases h
  | pure hb hm hh ha h' => rw [ha] at h; cases h
  | read hb hm hh ha h' => rw [ha] at h; cases h
  | alloc hb hh y t2 ha h hy hn ht => exact hn
  | heavy hb hh ha h' hn => rw [ha] at h; cases h

/-- Between operations that turn memory. -/
theorem Facts.between (F : Facts P call nt all R anc) {s : Nat} : ∀ j, s ≤ j → j ≤ all.size → (∀ h, R.hv h = true → s ≤ h → j ≤ h) → ∀ b x, (R.mm j).t.get b = some x →
    (R.mm s).t.get b = some x ∨ ∃ i, s ≤ i ∧ i < j ∧ R.al i = some x ∧ b = (R.mm i).next := by
  intro j
  induction j with
  | zero => intro h1 _ _ b x h; have : s = 0 := by omega
            subst this; exact .inl h
  | succ j ih =>
    intro h1 h2 h3 b x h
    by_cases e : s = j + 1
    · subst e; exact .inl h
    · have hno : ∀ h, R.hv h = true → s ≤ h → j ≤ h := fun h hh hs => by have := h3 h hh hs; omega
      have same : R.mm (j + 1) = R.mm j → (R.mm s).t.get b = some x ∨ ∃ i, s ≤ i ∧ i < j + 1 ∧ R.al i = some x ∧ b = (R.mm i).next := fun q => by
        rw [q] at h
        exact (ih (by omega) (by omega) hno b x h).imp id fun ⟨i, a, b, c, d⟩ => ⟨i, a, by omega, c, d⟩
      cases F.kind j all[j] (by simp [show j < all.size by omega]) with
      | skip hb hv hm hh ha => exact same hm
      | pure hb hm hh ha h' => exact same hm
      | read hb hm hh ha h' => exact same hm
      | alloc hb hh y t2 ha h' hy hn ht =>
        rw [ht] at h
        split at h
        · rename_i hbj; cases h; exact .inr ⟨j, by omega, by omega, ha, hbj⟩
        · exact (ih (by omega) (by omega) hno b x h).imp id fun ⟨i, a, b, c, d⟩ => ⟨i, a, by omega, c, d⟩
      | heavy hb hh ha h' hn => have := h3 j hh (by omega); omega

/-- What is carried out so far: with each what is ahead of it. -/
noncomputable def Closed (all : Array Oper) (D : Nat → Prop) : Prop := ∀ (j : Nat) (o : Oper), D j → all[j]? = some o → ∀ e ∈ o.after, Region.binds .any e = true → D e.on

theorem anc_in (M : MasksOK all anc) {D : Nat → Prop} (hD : Closed all D) : ∀ (j : Nat) (o : Oper), all[j]? = some o → (∀ e ∈ o.after, Region.binds .any e = true → D e.on) → ∀ i, anc j i → D i := by
  intro j
  induction j using Nat.strongRecOn with
  | _ j ih =>
    intro o ho he i hi
    obtain ⟨e, h1, h2, h3⟩ := M.clo j i o ho hi
    have hlt := M.low j e.on (M.edge j o e ho h1 h2)
    have hj : j < all.size := (Array.getElem?_eq_some_iff.1 ho).1
    rcases h3 with rfl | h3
    · exact he e h1 h2
    · have ho' : all[e.on]? = some all[e.on] := by simp [show e.on < all.size by omega]
      exact ih e.on hlt _ ho' (hD e.on _ (he e h1 h2) ho') i h3

theorem done_in (M : MasksOK all anc) {D : Nat → Prop} (hD : Closed all D) {h : Nat} (hlt : h < all.size) (hd : D h) {i : Nat} (hi : anc h i) : D i := by
  have ho : all[h]? = some all[h] := by simp [hlt]
  exact anc_in M hD h _ ho (hD h _ hd ho) i hi

structure Inv (P : Program) (call : Call) (nt : Nat) (all : Array Oper) (R : Trace) (ρ0 : Ren) (g0 : Nat → Option Blk) (w0 : World) (dfs : List Deferred) (D : Nat → Prop) (ρ : Ren) (s : Nat) (G : Nat → Option Blk) (a : Act) (w : World) : Prop where
  step : GStep ρ0 g0 (R.mm 0).next w0 ρ G (R.mm all.size).next w
  cut : Cut R.hv s
  cutD : ∀ h, R.hv h = true → (D h ↔ h < s)
  sn : s ≤ all.size
  wf : ∀ b x, (R.mm s).t.get b = some x → b < (R.mm s).next
  mem : ∀ b x, (R.mm s).t.get b = some x → G b = some x
  als : ∀ i y, D i → s ≤ i → R.al i = some y → G (R.mm i).next = some y
  fresh : ∀ i, i < all.size → ¬ D i → ∀ b, (R.mm i).next ≤ b → b < (R.mm (i + 1)).next → ρ b = none
  size : a.tmps.size = nt
  val : ∀ u (i : Nat) (o : Oper), D i → all[i]? = some o → o.dst = some u → VR ρ (R.vv i) (a.tmps.getD u undef)
  old : ∀ u, (∀ (i : Nat) (o : Oper), D i → all[i]? = some o → o.dst ≠ some u) → VR ρ (((R.tt 0).get u).getD .undef) (a.tmps.getD u undef)
  dfs : a.defers = dfs

theorem put_same {a : Act} {u : Tmp} {v : Value} (h : u < a.tmps.size) : (a.put (some u) v).tmps.getD u undef = v := by
  simp [Act.put, Array.getElem?_setIfInBounds_self_of_lt h]

theorem put_other {a : Act} {dst : Option Tmp} {u : Tmp} {v : Value} (h : dst ≠ some u) : (a.put dst v).tmps.getD u undef = a.tmps.getD u undef := by
  cases dst with
  | none => rfl
  | some d =>
    have : d ≠ u := fun e => h (by rw [e])
    simp [Act.put, Array.getElem?_setIfInBounds_ne this]

variable {ρ0 : Ren} {g0 : Nat → Option Blk} {w0 : World} {dfs : List Deferred} {D : Nat → Prop} {ρ : Ren} {s : Nat} {G : Nat → Option Blk} {a : Act} {w : World}

theorem Inv.go (F : Facts P call nt all R anc) (I : Inv P call nt all R ρ0 g0 w0 dfs D ρ s G a w) {j : Nat} {o : Oper} (hj : all[j]? = some o) {ρ' : Ren} {w' : World} {G' : Nat → Option Blk} {s' : Nat} {vc : Value}
    (B' : GStep ρ0 g0 (R.mm 0).next w0 ρ' G' (R.mm all.size).next w') (hsub : Sub ρ ρ') (hren : ∀ b, ¬ ((R.mm j).next ≤ b ∧ b < (R.mm (j + 1)).next) → ρ' b = ρ b) (hv : VR ρ' (R.vv j) vc)
    (cut' : Cut R.hv s') (cutD' : ∀ h, R.hv h = true → ((D h ∨ h = j) ↔ h < s')) (sn' : s' ≤ all.size) (wf' : ∀ b x, (R.mm s').t.get b = some x → b < (R.mm s').next) (mem' : ∀ b x, (R.mm s').t.get b = some x → G' b = some x)
    (als' : ∀ i y, (D i ∨ i = j) → s' ≤ i → R.al i = some y → G' (R.mm i).next = some y) : Inv P call nt all R ρ0 g0 w0 dfs (fun i => D i ∨ i = j) ρ' s' G' (a.put o.dst vc) w' where
  step := B'
  cut := cut'
  cutD := cutD'
  sn := sn'
  wf := wf'
  mem := mem'
  als := als'
  fresh i hi hn b h1 h2 := by
    have hij : i ≠ j := fun e => hn (.inr e)
    rw [hren b, I.fresh i hi (fun h => hn (.inl h)) b h1 h2]
    rintro ⟨h3, h4⟩
    have hjs : j < all.size := (Array.getElem?_eq_some_iff.1 hj).1
    rcases Nat.lt_or_ge i j with q | q
    · have := F.mono (show i + 1 ≤ j by omega) (by omega); omega
    · have := F.mono (show j + 1 ≤ i by omega) (by omega); omega
  size := by cases o.dst <;> simp [Act.put, I.size]
  val u i oi hd hi hu := by
    by_cases e : o.dst = some u
    · have : i = j := F.masks.dst i j oi o u hi hj hu e
      subst this
      rw [e, put_same (by rw [I.size]; exact F.dlt i o u hj e)]
      exact hv
    · rw [put_other e]
      rcases hd with hd | rfl
      · exact (I.val u i oi hd hi hu).mono hsub
      · rw [hj] at hi; cases hi; exact absurd hu e
  old u hu := by
    rw [put_other (hu j o (.inr rfl) hj)]
    exact (I.old u fun i oi hd => hu i oi (.inl hd)).mono hsub
  dfs := by rw [← I.dfs]; cases o.dst <;> rfl

theorem Facts.tt_set (F : Facts P call nt all R anc) {i : Nat} {oi : Oper} {u : Tmp} (hi : all[i]? = some oi) (hu : oi.dst = some u) : ∀ j, i < j → j ≤ all.size → (R.tt j).get u = some (R.vv i) := by
  intro j
  induction j with
  | zero => intro h; omega
  | succ j ih =>
    intro h1 h2
    have hj : all[j]? = some all[j] := by simp [show j < all.size by omega]
    rw [F.tset j _ u hj]
    by_cases e : i = j
    · subst e; rw [hj] at hi; cases hi; rw [if_pos hu]
    · rw [if_neg fun q => e (F.masks.dst i j _ _ u hi hj hu q)]
      exact ih (by omega) (by omega)

theorem Facts.tt_old (F : Facts P call nt all R anc) {u : Tmp} : ∀ j, j ≤ all.size → (∀ (i : Nat) (o : Oper), i < j → all[i]? = some o → o.dst ≠ some u) → (R.tt j).get u = (R.tt 0).get u := by
  intro j
  induction j with
  | zero => intro _ _; rfl
  | succ j ih =>
    intro h1 h2
    have hj : all[j]? = some all[j] := by simp [show j < all.size by omega]
    rw [F.tset j _ u hj, if_neg (h2 j _ (by omega) hj)]
    exact ih (by omega) fun i o hi => h2 i o (by omega)

theorem Inv.vals (F : Facts P call nt all R anc) (I : Inv P call nt all R ρ0 g0 w0 dfs D ρ s G a w) (hD : Closed all D) {j : Nat} {o : Oper} (hj : all[j]? = some o) (hn : ¬ D j) (he : ∀ e ∈ o.after, Region.binds .any e = true → D e.on)
    {u : Tmp} (hu : u ∈ o.looksAt all) : VR ρ (((R.tt j).get u).getD .undef) (a.tmps.getD u undef) := by
  have hjs : j < all.size := (Array.getElem?_eq_some_iff.1 hj).1
  by_cases h : ∃ (i : Nat) (oi : Oper), i < j ∧ all[i]? = some oi ∧ oi.dst = some u
  · obtain ⟨i, oi, h1, h2, h3⟩ := h
    rw [F.tt_set h2 h3 j h1 (by omega)]
    refine I.val u i oi ?_ h2 h3
    rcases F.masks.race i j oi o u h2 hj hu h3 with q | q
    · exact anc_in F.masks hD j o hj he i q
    · have := F.masks.low i j q; omega
  · have hno : ∀ (i : Nat) (oi : Oper), i < j → all[i]? = some oi → oi.dst ≠ some u := fun i oi h1 h2 h3 => h ⟨i, oi, h1, h2, h3⟩
    rw [F.tt_old j (by omega) hno]
    refine I.old u fun i oi hi h2 h3 => ?_
    rcases F.masks.race i j oi o u h2 hj hu h3 with q | q
    · exact hno i oi (F.masks.low j i q) h2 h3
    · exact hn (anc_in F.masks hD i oi h2 (hD i oi hi h2) j q)

theorem Inv.rel (F : Facts P call nt all R anc) (I : Inv P call nt all R ρ0 g0 w0 dfs D ρ s G a w) (hD : Closed all D) {j : Nat} {o : Oper} (hj : all[j]? = some o) (hn : ¬ D j) (he : ∀ e ∈ o.after, Region.binds .any e = true → D e.on) :
    OpRel ρ (R.tt j) a.eval o.op.operands.toList := fun x hx => by
  cases x with
  | tmp u =>
    refine I.vals F hD hj hn he (u := u) ?_
    unfold Oper.looksAt
    exact List.mem_append_left _ (List.mem_filterMap.2 ⟨.tmp u, hx, rfl⟩)
  | const v => exact cstA_rel ρ v
  | global g => exact .any _
  | func f => exact .fn f [] #[] .nil

theorem Inv.wanted (F : Facts P call nt all R anc) (I : Inv P call nt all R ρ0 g0 w0 dfs D ρ s G a w) (hD : Closed all D) {j : Nat} {o : Oper} (hj : all[j]? = some o) (hn : ¬ D j) (he : ∀ e ∈ o.after, Region.binds .any e = true → D e.on) :
    Region.wanted o (yielded all a.tmps) = R.bb j :=
  wanted_eq (F.want j o hj) fun j' want g d h1 h2 h3 => I.vals F hD hj hn he (u := d) (by
    unfold Oper.looksAt
    refine List.mem_append_right _ ?_
    rw [h1]
    simp [h2, h3])

theorem View.leaf (ρ : Ren) (n : Nat) (w : World) : View ρ ⟨n, .leaf⟩ w := ⟨⟨fun b x h => (by cases h), fun b b' x x' L L' h => (by cases h)⟩, fun b x h => (by cases h)⟩

/-- One operation, whichever comes next. -/
theorem Inv.one (hcall : CallOK P call) (F : Facts P call nt all R anc) (I : Inv P call nt all R ρ0 g0 w0 dfs D ρ s G a w) (hD : Closed all D) {j : Nat} {o : Oper} (hj : all[j]? = some o) (hn : ¬ D j)
    (he : ∀ e ∈ o.after, Region.binds .any e = true → D e.on) {Q : Exit → Act → World → Prop} {K : Act → World → Prop}
    (hK : ∀ ρ' s' G' a' w', Inv P call nt all R ρ0 g0 w0 dfs (fun i => D i ∨ i = j) ρ' s' G' a' w' → K a' w') : wpOp P all Q j K a w := by
  have hjs : j < all.size := (Array.getElem?_eq_some_iff.1 hj).1
  have hO := I.rel F hD hj hn he
  have hin := anc_in F.masks hD j o hj he
  have h0j : (R.mm 0).next ≤ (R.mm j).next := F.mono (Nat.zero_le _) (by omega)
  have hjn : (R.mm j).next ≤ (R.mm all.size).next := F.mono (by omega) (Nat.le_refl _)
  have hsj : s ≤ j ∨ j < s := by omega
  -- where nothing turns memory
  have quiet : R.hv j = false → ∀ h, R.hv h = true → ((D h ∨ h = j) ↔ h < s) := fun hh h hvh => by
    have : h ≠ j := fun e => by rw [e, hh] at hvh; cases hvh
    rw [← I.cutD h hvh]
    constructor
    · rintro (q | q)
      · exact q
      · exact absurd q this
    · exact .inl
  have fj : ∀ b, (R.mm j).next ≤ b → b < (R.mm (j + 1)).next → ρ b = none := I.fresh j hjs hn
  unfold wpOp
  rw [hj]
  simp only []
  rw [I.wanted F hD hj hn he]
  cases F.kind j o hj with
  | skip hb hv hm hh ha =>
    rw [hb, if_neg (by decide)]
    refine hK ρ s G _ w (I.go F hj I.step (fun _ _ e => e) (fun _ _ => rfl) (by rw [hv]; exact VR.undef _) I.cut (quiet hh) I.sn I.wf I.mem fun i y hi hs hy => ?_)
    rcases hi with hi | rfl
    · exact I.als i y hi hs hy
    · rw [ha] at hy; cases hy
  | pure hb hm hh ha h =>
    rw [hb, if_pos rfl]
    have hfr : Fresh ρ (R.mm j).next (R.mm j).next := fun b h1 h2 => by omega
    refine .inl (op_wp hcall (View.leaf ρ (R.mm j).next w) hO h hfr fun ρ' w' vc S hv => hK ρ' s _ _ w' (I.go F hj (I.step.extend S (fun b x h => by cases h) h0j hjn hfr) (S.sub hfr) (fun b _ => S.ren b (by omega)) hv I.cut (quiet hh) I.sn I.wf
      (fun b x h => (over_old rfl rfl).trans (I.mem b x h)) fun i y hi hs hy => ?_))
    rcases hi with hi | rfl
    · exact (over_old rfl rfl).trans (I.als i y hi hs hy)
    · rw [ha] at hy; cases hy
  | alloc hb hh y t2 ha h hy hnx ht =>
    rw [hb, if_pos rfl]
    have hfr : Fresh ρ (R.mm j).next ((R.mm j).next + 1) := fun b h1 h2 => fj b h1 (by omega)
    refine .inl (op_wp hcall (View.leaf ρ (R.mm j).next w) hO h hfr fun ρ' w' vc S hv => ?_)
    have S' : GStep ρ (T.leaf : T Blk).get (R.mm j).next w ρ' (fun b => if b = (R.mm j).next then some y else none) ((R.mm j).next + 1) w' :=
      GStep.less S (fun b x q => by
        split at q
        · rename_i e; cases q; rw [e]; exact hy
        · cases q) (fun b x q => by
        split at q
        · omega
        · cases q) rfl
    have hjn' : (R.mm j).next + 1 ≤ (R.mm all.size).next := by rw [← hnx]; exact F.mono (by omega) (Nat.le_refl _)
    have old : ∀ b, b ≠ (R.mm j).next → over G (T.leaf : T Blk).get (fun b => if b = (R.mm j).next then some y else none) b = G b := fun b hb => over_old (by rw [if_neg hb]) rfl
    have hsj : s ≤ j := by
      rcases Nat.lt_or_ge j s with q | q
      · exfalso
        rcases I.cut with rfl | ⟨h, hvh, rfl⟩
        · omega
        · have hne : h ≠ j := fun e => by rw [e, hh] at hvh; cases hvh
          exact hn (done_in F.masks hD (F.size h hvh) ((I.cutD h hvh).2 (by omega)) (F.hal h j y hvh (by omega) ha))
      · exact q
    refine hK ρ' s _ _ w' (I.go F hj (I.step.extend S' (fun b x h => by cases h) h0j hjn' hfr) (S'.sub hfr) (fun b q => S'.ren b (by omega)) hv I.cut (quiet hh) I.sn I.wf (fun b x q => ?_) fun i z hi hs hz => ?_)
    · rw [old b]
      · exact I.mem b x q
      · have := I.wf b x q
        have := F.mono hsj (by omega)
        omega
    · by_cases e : i = j
      · subst e; rw [ha] at hz; cases hz
        exact over_new (by rw [if_pos rfl])
      · have hi : D i := hi.resolve_right e
        rw [old]
        · exact I.als i z hi hs hz
        · have h1 := F.anext hz
          have h2 := F.asize i z hz
          rcases Nat.lt_or_ge i j with q | q
          · have := F.mono (show i + 1 ≤ j by omega) (by omega); omega
          · have := F.mono (show j + 1 ≤ i by omega) (by omega); omega
  | read hb hm hh ha h =>
    rw [hb, if_pos rfl]
    obtain ⟨μ, h, hμ⟩ := h s I.cut (fun h hvh hlt q => hn (done_in F.masks hD (F.size h hvh) ((I.cutD h hvh).2 hlt) q))
      (fun h hvh hge q => by have := (I.cutD h hvh).1 (hin h q); omega)
    have hw : (∀ b x, μ.t.get b = some x → G b = some x) ∧ (∀ b x, μ.t.get b = some x → b < μ.next) ∧ (R.mm 0).next ≤ μ.next ∧ μ.next ≤ (R.mm all.size).next := by
      rcases hμ with rfl | ⟨q1, rfl, q2, q3⟩
      · exact ⟨I.mem, I.wf, F.mono (Nat.zero_le _) I.sn, F.mono I.sn (Nat.le_refl _)⟩
      · refine ⟨fun b x hx => ?_, fun b x hx => ?_, h0j, hjn⟩
        · rcases F.between j q1 (by omega) q2 b x hx with q | ⟨i, r1, r2, r3, rfl⟩
          · exact I.mem b x q
          · exact I.als i x (hin i (q3 i x r1 r2 r3)) r1 r3
        · rcases F.between j q1 (by omega) q2 b x hx with q | ⟨i, r1, r2, r3, rfl⟩
          · have := I.wf b x q; have := F.mono q1 (show j ≤ all.size by omega); omega
          · have := F.anext r3; have := F.mono (show i + 1 ≤ j by omega) (by omega); omega
    obtain ⟨w1, w2, w3, w4⟩ := hw
    have hfr : Fresh ρ μ.next μ.next := fun b h1 h2 => by omega
    have V : View ρ μ w := ⟨I.step.sim.less w1, w2⟩
    have oe : ∀ b, over G μ.t.get μ.t.get b = G b := fun b => by
      cases hb : μ.t.get b with
      | some x => rw [over_new hb, w1 b x hb]
      | none => exact over_old hb hb
    refine .inl (op_wp hcall V hO h hfr fun ρ' w' vc S hv => hK ρ' s _ _ w' (I.go F hj (I.step.extend S w1 w3 w4 hfr) (S.sub hfr) (fun b _ => S.ren b (by omega)) hv I.cut (quiet hh) I.sn I.wf
      (fun b x h => (oe b).trans (I.mem b x h)) fun i y hi hs hy => ?_))
    rcases hi with hi | rfl
    · exact (oe _).trans (I.als i y hi hs hy)
    · rw [ha] at hy; cases hy
  | heavy hb hh ha h hnx =>
    rw [hb, if_pos rfl]
    have hsj : s ≤ j := by
      rcases Nat.lt_or_ge j s with q | q
      · exact absurd ((I.cutD j hh).2 q) hn
      · exact q
    have hno : ∀ h, R.hv h = true → s ≤ h → j ≤ h := fun h hvh hs => by
      rcases Nat.lt_or_ge h j with q | q
      · have := (I.cutD h hvh).1 (hin h (F.heav h j hvh hh q)); omega
      · exact q
    have w1 : ∀ b x, (R.mm j).t.get b = some x → G b = some x := fun b x hx => by
      rcases F.between j hsj (by omega) hno b x hx with q | ⟨i, r1, r2, r3, rfl⟩
      · exact I.mem b x q
      · exact I.als i x (hin i (F.hal j i x hh r2 r3)) r1 r3
    have w2 : ∀ b x, (R.mm j).t.get b = some x → b < (R.mm j).next := fun b x hx => by
      rcases F.between j hsj (by omega) hno b x hx with q | ⟨i, r1, r2, r3, rfl⟩
      · have := I.wf b x q; have := F.mono hsj (show j ≤ all.size by omega); omega
      · have := F.anext r3; have := F.mono (show i + 1 ≤ j by omega) (by omega); omega
    have hjn' : (R.mm (j + 1)).next ≤ (R.mm all.size).next := F.mono (by omega) (Nat.le_refl _)
    refine .inl (op_wp hcall ⟨I.step.sim.less w1, w2⟩ hO h fj fun ρ' w' vc S hv => hK ρ' (j + 1) _ _ w' (I.go F hj (I.step.extend S w1 h0j hjn' fj) (S.sub fj) (fun b q => S.ren b q) hv (.inr ⟨j, hh, rfl⟩) (fun h' hvh => ?_) (by omega) S.wf
      (fun b x q => over_new q) fun i y hi hs hy => ?_))
    · constructor
      · rintro (q | q)
        · have := (I.cutD h' hvh).1 q; omega
        · omega
      · intro q
        rcases Nat.lt_or_ge h' j with r | r
        · exact .inl (hin h' (F.heav h' j hvh hh r))
        · exact .inr (by omega)
    · have hij : i ≠ j := by omega
      have hi : D i := hi.resolve_right hij
      have g1 := F.mono hs (Nat.le_of_lt (F.asize i y hy))
      rw [over_old]
      · exact I.als i y hi (by omega) hy
      · cases hg : (R.mm (j + 1)).t.get (R.mm i).next with
        | none => rfl
        | some x => have := S.wf _ _ hg; omega
      · cases hg : (R.mm j).t.get (R.mm i).next with
        | none => rfl
        | some x => have := w2 _ _ hg; omega

end
end Go.Ev
