/- A region whose order is drawn: the proof's end. -/
import Derived.Test.YtkobbfimabpfeaaGreatDoorEvW
namespace Go.Ev

section
variable {P : Program} {call : Call} {nt : Nat} {all : Array Oper} {R : Trace} {anc : Nat → Nat → Prop}
variable {ρ0 : Ren} {g0 : Nat → Option Blk} {w0 : World} {dfs : List Deferred}

theorem listed_false {l : Array Bool} {i : Nat} (hi : i < l.size) (h : l.getD i false ≠ true) : l[i]? = some false := by
  have e : l[i]? = some l[i] := by simp [hi]
  have : l.getD i false = l[i] := by simp [hi]
  rw [this] at h
  rw [e]
  cases hh : l[i] with
  | false => rfl
  | true => exact absurd hh h

theorem all_listed (M : MasksOK all anc) {l : Array Bool} (hs : l.size = all.size) (h : Region.ready .any all l = []) : ∀ i, i < all.size → l.getD i false = true := by
  intro i
  induction i using Nat.strongRecOn with
  | _ i ih =>
    intro hi
    by_cases hl : l.getD i false = true
    · exact hl
    · exfalso
      have hf := listed_false (by omega) hl
      have ho : all[i]? = some all[i] := by simp [hi]
      have : i ∈ Region.ready .any all l := mem_ready.2 ⟨by simp [hf], all[i], ho, fun e he hb => ih e.on (M.low i e.on (M.edge i _ e ho he hb)) (by have := M.low i e.on (M.edge i _ e ho he hb); omega)⟩
      rw [h] at this
      cases this

theorem rep_false (n i : Nat) : ¬ (Array.replicate n false).getD i false = true := by
  by_cases h : i < n <;> simp [h]

theorem any_wp (hcall : CallOK P call) (F : Facts P call nt all R anc) {Q : Exit → Act → World → Prop}
    (hQ : ∀ ρ s G a w, Inv P call nt all R ρ0 g0 w0 dfs (fun i => i < all.size) ρ s G a w → Q .normal a w) : ∀ (fuel : Nat) (l : Array Bool) (a : Act) (w : World) (ρ : Ren) (s : Nat) (G : Nat → Option Blk),
    l.size = all.size → Closed all (fun i => l.getD i false = true) → l.toList.count false ≤ fuel → Inv P call nt all R ρ0 g0 w0 dfs (fun i => l.getD i false = true) ρ s G a w → wpAny P .any all Q fuel l a w := by
  intro fuel
  have done : ∀ (l : Array Bool) (a : Act) (w : World) (ρ : Ren) (s : Nat) (G : Nat → Option Blk), l.size = all.size → (∀ i, i < all.size → l.getD i false = true) → Inv P call nt all R ρ0 g0 w0 dfs (fun i => l.getD i false = true) ρ s G a w → Q .normal a w := by
    intro l a w ρ s G hs h I
    have e : (fun i => l.getD i false = true) = (fun i => i < all.size) := by
      funext i
      apply propext
      constructor
      · intro q
        rcases Nat.lt_or_ge i all.size with r | r
        · exact r
        · rw [← hs] at r; simp [Array.getElem?_eq_none r] at q
      · exact h i
    rw [e] at I
    exact hQ ρ s G a w I
  induction fuel with
  | zero =>
    intro l a w ρ s G hs hc hn I
    have h0 : l.toList.count false = 0 := by omega
    rw [List.count_eq_zero] at h0
    have full : ∀ i, i < all.size → l.getD i false = true := fun i hi => by
      by_cases q : l.getD i false = true
      · exact q
      · have := listed_false (by omega) q
        exact absurd (by simpa using Array.mem_of_getElem? this) h0
    refine ⟨?_, done l a w ρ s G hs full I⟩
    cases hr : Region.ready .any all l with
    | nil => rfl
    | cons i r =>
      have hi : i ∈ Region.ready .any all l := by rw [hr]; simp
      obtain ⟨h1, o, h2, h3⟩ := mem_ready.1 hi
      have hi : i < all.size := (Array.getElem?_eq_some_iff.1 h2).1
      have := full i hi
      simp [show i < l.size by omega] at h1 this
      rw [h1] at this; cases this
  | succ fuel ih =>
    intro l a w ρ s G hs hc hn I
    refine ⟨fun h => done l a w ρ s G hs (all_listed F.masks hs h) I, fun i hi => ?_⟩
    obtain ⟨h1, o, h2, h3⟩ := mem_ready.1 hi
    have hia : i < all.size := (Array.getElem?_eq_some_iff.1 h2).1
    have hil : i < l.size := by omega
    have hf : l[i]? = some false := by
      simp [hil] at h1
      simp [hil, h1]
    have hnD : ¬ l.getD i false = true := by simp [hf]
    refine Inv.one hcall F I hc h2 hnD h3 fun ρ' s' G' a' w' I' => ?_
    have e : (fun k => (l.setIfInBounds i true).getD k false = true) = fun k => l.getD k false = true ∨ k = i := by
      funext k
      apply propext
      by_cases hk : k = i
      · subst hk; simp [hil]
      · rw [getD_set_ne false (Ne.symm hk)]; simp [hk]
    refine ih (l.setIfInBounds i true) a' w' ρ' s' G' (by simpa using hs) ?_ ?_ (by rw [e]; exact I')
    · rw [e]
      intro j oj hj hoj ed he hb
      rcases hj with hj | rfl
      · exact .inl (hc j oj hj hoj ed he hb)
      · rw [h2] at hoj; cases hoj
        exact .inl (h3 ed he hb)
    · have hl : i < l.toList.length := by simpa using hil
      have el : l.toList[i] = false := by
        have := (Array.getElem?_eq_some_iff.1 hf).2
        simpa using this
      rw [Array.toList_setIfInBounds, List.count_set hl, el]
      simp
      simp at hn
      omega

theorem drawn_wp (hm : P.follows .mixedOrders = true) (hcall : CallOK P call) {id : Nat} {Q : Exit → Act → World → Prop} {t : T AV} {m : AMem} {w : World} {ρ : Ren} {a : Act} {x : X} {t' : T AV} {m' : AMem}
    (h : drawnA P call nt all t m = .mk x t' m') (V : View ρ m w) (hT : TR ρ nt t a.tmps) (hf : Fresh ρ m.next m'.next)
    (hQ : ∀ ρ' a' w', Step ρ m w ρ' m' w' → TR ρ' nt t' a'.tmps → a'.defers = a.defers → Q .normal a' w') : x = .norm ∧ m.next ≤ m'.next ∧ (Code.region id all true).wp P Q a w := by
  unfold drawnA at h
  cases hms : masks all with
  | none => rw [hms] at h; cases h
  | some ms =>
    rw [hms] at h
    obtain ⟨hx, R, e1, e2, e3, e4, e5, e6, e7⟩ := opsD_trace (show opsD P call nt all all.toList ms 0 t m ⟨0, 0, 0, m, [], []⟩ = .mk x t' m' from h)
    have hlen : all.toList.length = all.size := by simp
    rw [hlen] at e4 e5 e6
    have F : Facts P call nt all R _ := facts_of hms e6 (by rw [e3, e2]) fun i o ho => e7 i o (by simpa using ho)
    refine ⟨hx, ?_, ?_⟩
    · rw [← e2, ← e5]; exact F.mono (Nat.zero_le _) (Nat.le_refl _)
    · have hle : m.next ≤ m'.next := by rw [← e2, ← e5]; exact F.mono (Nat.zero_le _) (Nat.le_refl _)
      refine wp_region_any hm (any_wp (ρ0 := ρ) (g0 := m.t.get) (w0 := w) (dfs := a.defers) hcall F (fun ρ' s G a' w' I => ?_) all.size _ a _ ρ 0 m.t.get (by simp) ?_ (by simp) ?_)
      · -- all is done
        have hno : ∀ h, R.hv h = true → s ≤ h → all.size ≤ h := fun h hh hs => by
          have := F.size h hh
          have := (I.cutD h hh).1 this
          omega
        have hlt := F.between all.size I.sn (Nat.le_refl _) hno
        refine hQ ρ' a' w' ?_ ⟨I.size, fun u => ?_⟩ I.dfs
        · show GStep ρ m.t.get m.next w ρ' m'.t.get m'.next w'
          have := I.step
          rw [e2, e5] at this
          refine this.less (fun b y hb => ?_) (fun b y hb => ?_) rfl
          · rw [← e5] at hb
            rcases hlt b y hb with q | ⟨i, q1, q2, q3, rfl⟩
            · exact I.mem b y q
            · exact I.als i y q2 q1 q3
          · rw [← e5] at hb ⊢
            rcases hlt b y hb with q | ⟨i, q1, q2, q3, rfl⟩
            · have := I.wf b y q; have := F.mono I.sn (Nat.le_refl _); omega
            · have := F.anext q3; have := F.mono (show i + 1 ≤ all.size by omega) (Nat.le_refl _); omega
        · rw [← e4]
          by_cases hu : ∃ (i : Nat) (o : Oper), i < all.size ∧ all[i]? = some o ∧ o.dst = some u
          · obtain ⟨i, o, h1, h2, h3⟩ := hu
            rw [F.tt_set h2 h3 all.size h1 (Nat.le_refl _)]
            exact I.val u i o h1 h2 h3
          · have hno : ∀ (i : Nat) (o : Oper), i < all.size → all[i]? = some o → o.dst ≠ some u := fun i o h1 h2 h3 => hu ⟨i, o, h1, h2, h3⟩
            rw [F.tt_old all.size (Nat.le_refl _) hno]
            exact I.old u hno
      · intro j o hj
        exact absurd hj (rep_false _ _)
      · have S : GStep ρ m.t.get m.next w ρ m.t.get m.next { w with drawn := w.drawn + 1 } := GStep.drew V.sim V.wf _
        refine ⟨?_, .inl rfl, fun h hh => ?_, Nat.zero_le _, fun b y hb => ?_, fun b y hb => ?_, fun i y hi => ?_, fun i hi _ b h1 h2 => ?_, hT.size, fun u i o hi => ?_, fun u _ => ?_, rfl⟩
        · rw [e2, e5]
          exact ⟨fun b _ => rfl, hle, S.sim, fun b y hb => by have := V.wf b y hb; omega, S.img, S.imgR, S.keeps, S.size, S.os, S.tape, S.output⟩
        · constructor
          · intro q; exact absurd q (rep_false _ _)
          · intro q; omega
        · rw [e2] at hb ⊢; exact V.wf b y hb
        · rw [e2] at hb; exact hb
        · exact absurd hi (rep_false _ _)
        · refine hf b ?_ ?_
          · rw [← e2]; have := F.mono (Nat.zero_le i) (by omega); omega
          · rw [← e5]; have := F.mono (show i + 1 ≤ all.size by omega) (Nat.le_refl _); omega
        · exact absurd hi (rep_false _ _)
        · rw [e1]; exact hT.rel u

end
end Go.Ev
