/- strings.Join: its summary holds. All summaries of this program; the chain of what each layer begins with. The walk of begun4 and begun5: the evaluator's run by the kernel, and its soundness. The walk of begun6: the evaluator's run by the kernel, and its soundness. The walk of begun7: the evaluator's run by the kernel, and its soundness. The walk of begun8: the evaluator's run by the kernel, and its soundness. The table of what the laws take for granted; AutoAll in any world. AutoAll in any world. -/
import Derived.Test.YtehbmncbojngnaaGreatDoorEvGf
import Derived.Test.YtehbmncbojngnaaGreatDoorEvGn
section
namespace Go.Ev
set_option linter.all false
open Go.Proofs
theorem strsK_rel {ρ : Ren} (m : AMem) : ∀ {l : List AV} {vs : List Value} {ss : List (List Nat)}, VRs ρ l vs → strsK m l = some ss → ∃ xs : List ByteArray, vs = xs.map Value.string ∧ xs.map (fun x => x.data.toList.map UInt8.toNat) = ss
  | _, _, ss, .nil, h => by cases h; exact ⟨[], rfl, rfl⟩
  | _, _, ss, .cons v c l cs hv hs, h => by
    cases v <;> first
      | (cases h; done)
      | skip
    rename_i s
    have h : (match strsK m l with | some r => some (s :: r) | none => none) = some ss := h
    split at h
    · rename_i r hr
      cases h
      obtain ⟨xs, e1, e2⟩ := strsK_rel m hs hr
      cases hv with
      | str _ z hz => exact ⟨z :: xs, by rw [e1]; rfl, by simp [e2, hz]⟩
    · cases h
theorem joinL_eq (sep : List UInt8) : ∀ xs : List ByteArray, joinL (sep.map UInt8.toNat) (xs.map fun x => x.data.toList.map UInt8.toNat) = (Lib.join (xs.map (·.data.toList)) sep).map UInt8.toNat
  | [] => rfl
  | [x] => by simp [joinL, Lib.join_one]
  | x :: y :: r => by
    have ih := joinL_eq sep (y :: r)
    simp only [List.map_cons] at ih ⊢
    show x.data.toList.map UInt8.toNat ++ sep.map UInt8.toNat ++ joinL (sep.map UInt8.toNat) _ = _
    rw [ih, Lib.join_cons, Lib.join_cons]
    simp [Lib.joinTail]
theorem below_step {ρ : Ren} {m : AMem} {w w' : World} (V : View ρ m w) (B : RowKit.Below w.heap.size w w') : Step ρ m w ρ m w' where
  ren _ _ := rfl
  le := Nat.le_refl _
  sim := ⟨fun b x hb => (V.sim.blk b x hb).mono (fun _ _ e => e) fun L e => B.block _ (by obtain ⟨L', e1, e2⟩ := (V.sim.blk b x hb).loc; rw [e] at e1; cases e1; exact e2), V.sim.sep⟩
  wf := V.wf
  img b x L h1 h2 h3 := .inr ⟨b, x, L, h1, h2, h3, rfl⟩
  imgR b x L h1 h3 := .inr ⟨b, x, L, h1, h3, rfl⟩
  keeps k hk _ := B.block k hk
  size := B.size
  os := B.os
  tape := B.tape
  output := B.output
theorem join175 : SumOK Tryz.prog 175 joinSum := by
  intro args m v m' h ρ w cs V hv hfr
  have enter : ∀ cs, (callFunc 175 cs).run Tryz.prog w = .ok (.enter 175 cs) w := fun cs => codeOf_enter (by kernel_rfl) cs w
  unfold joinSum at h
  split at h
  · rename_i b off n cap sep
    rw [bif2_eq] at h
    split at h
    · rename_i hn
      have hn : n ≤ 1048576 := by simpa [Nat.ble_eq] using hn
      obtain ⟨ro, sg, E, N, c, hb, hN, h⟩ := elemsK_static h
      split at h
      · rename_i ss hss
        rw [fList_eq, bif2_eq] at h
        split at h
        · rename_i hlen
          have hlen : (joinL sep ss).length ≤ 1048576 := by simpa [Nat.ble_eq] using hlen
          cases h
          obtain ⟨x, y, hcs, hx, hy⟩ := VRs.two hv
          obtain ⟨z, rfl, hz⟩ := str_inv hy
          have e : cs = #[x, .string z] := by apply Array.ext'; simpa using hcs
          subst e
          obtain ⟨L, c0, el, fz, w1, w2, w3, w4, w5, w6, w7⟩ := V.sim.blk b _ hb
          have hrel : VRs ρ (cellsFrom c off (n * 1)) ((c0.toList.drop (L.base + off)).take n) := by
            refine VRs.of_get (by rw [cellsFrom_length]; simp; omega) fun i u hu => ?_
            have hi : i < n * 1 := by
              rcases Nat.lt_or_ge i (n * 1) with q | q
              · exact q
              · rw [List.getElem?_eq_none (by rw [cellsFrom_length]; exact q)] at hu; cases hu
            rw [cellsFrom_get _ _ _ _ hi] at hu
            cases hu
            obtain ⟨q, hq, hr⟩ := w6 (off + i) (by omega)
            refine ⟨q, ?_, hr⟩
            rw [List.getElem?_take, if_pos (by omega), List.getElem?_drop, Nat.add_assoc]
            simpa using hq
          obtain ⟨xs, e1, e2⟩ := strsK_rel m hrel hss
          have hxl : xs.length = n := by
            have := congrArg List.length e1
            simp at this
            omega
          have hcells : ∀ (j : Nat) x, xs[j]? = some x → w.cell? ⟨L.blk, L.base + off + j, none⟩ = some (.string x) := fun j q hq => by
            have hj : j < n := by
              have := (List.getElem?_eq_some_iff.1 hq).1; omega
            have h1 : ((c0.toList.drop (L.base + off)).take n)[j]? = some (.string q) := by rw [e1]; simp [hq]
            rw [List.getElem?_take, if_pos hj, List.getElem?_drop] at h1
            simp only [World.cell?, w2]
            simpa using h1
          have hje := joinL_eq z.data.toList xs
          rw [e2, hz] at hje
          have hjl : (Lib.join (xs.map (·.data.toList)) z.data.toList).length ≤ 140737488355328 := by
            have := congrArg List.length hje
            simp at this
            omega
          have hblk : L.blk < w.heap.size := by
            rcases Nat.lt_or_ge L.blk w.heap.size with q | q
            · exact q
            · simp [Array.getElem?_eq_none q] at w2
          have main : ∀ cc, n ≤ cc → Calls Tryz.prog 175 #[.slice (some ⟨L.blk, L.base + off, none⟩) n cc, .string z] w (Post ρ m w (.str (joinL sep ss)) m) := fun cc hcc => by
            have := Tryz.strings_Join L.blk (L.base + off) cc xs z w hcells hblk (by omega) (by omega) hjl
            rw [hxl] at this
            refine this.mono fun e w' ⟨he, hbel⟩ => ⟨_, ρ, he, below_step V hbel, .str _ _ ?_⟩
            rw [hje]
          refine .inl ⟨enter _, ?_⟩
          cases hx with
          | sliceE _ _ _ cc K hK hle => rw [w1] at hK; cases hK; exact main cc hle
          | sliceO _ _ _ cc K hK hle => rw [w1] at hK; cases hK; exact main cc hle
        · cases h
      · cases h
    · cases h
  · cases h
    obtain ⟨x, y, hcs, hx, hy⟩ := VRs.two hv
    obtain ⟨z, rfl, hz⟩ := str_inv hy
    have e : cs = #[x, .string z] := by apply Array.ext'; simpa using hcs
    subst e
    cases hx
    exact .inl ⟨enter _, (Tryz.strings_Join_none none 0 z w).mono fun e w' ⟨he, hw⟩ => ⟨_, ρ, he, hw ▸ V.refl, .str _ _ rfl⟩⟩
  · cases h
    obtain ⟨x, y, hcs, hx, hy⟩ := VRs.two hv
    obtain ⟨z, rfl, hz⟩ := str_inv hy
    have e : cs = #[x, .string z] := by apply Array.ext'; simpa using hcs
    subst e
    cases hx with
    | emp a c => exact .inl ⟨enter _, (Tryz.strings_Join_none (some a) c z w).mono fun e w' ⟨he, hw⟩ => ⟨_, ρ, he, hw ▸ V.refl, .str _ _ rfl⟩⟩
  · cases h
end Go.Ev
end
section
namespace Go.Ev
set_option linter.all false
open Go.Proofs
theorem sums0_ok : SumsOK Tryz.prog (sums0 Tryz.prog) := by
  intro f s hs
  unfold sums0 at hs
  split at hs
  · cases hs; exact sum64
  · cases hs; exact sum80
  · cases hs; exact join175
  · cases hs; exact idx177
  · cases hs
/-- The summaries, and those functions that answer true. -/
noncomputable def sumsB (l : List Nat) : Sums := fun f => bif2 (l.any (Nat.beq f)) (some begunSum) (sums0 Tryz.prog f)
theorem sumsB_ok {l : List Nat} (h : ∀ f, f ∈ l → SumOK Tryz.prog f begunSum) : SumsOK Tryz.prog (sumsB l) := by
  intro f s hs
  unfold sumsB at hs
  rw [bif2_eq] at hs
  split at hs
  · rename_i hf
    cases hs
    obtain ⟨g, hg, e⟩ := List.any_eq_true.1 hf
    have e : f = g := Nat.eq_of_beq_eq_true e
    subst e
    exact h f hg
  · exact sums0_ok f s hs
noncomputable def okTrue : OR → Bool
  | .mk (.bool true) _ => true
  | _ => false
theorem okTrue_inv {r : OR} (h : okTrue r = true) : ∃ m, r = .mk (.bool true) m := by
  unfold okTrue at h
  split at h
  · exact ⟨_, rfl⟩
  · cases h
theorem begun_of {l : List Nat} (h : ∀ f, f ∈ l → SumOK Tryz.prog f begunSum) {f : Nat} (hf : sumsB l f = none) (hr : okTrue (call Tryz.prog (sumsB l) 100000 f [] ⟨0, .leaf⟩) = true) : SumOK Tryz.prog f begunSum := by
  obtain ⟨m1, e⟩ := okTrue_inv hr
  exact begunSum_ok mixed (sumsB_ok h) hf e
end Go.Ev
end
section
namespace Go.Ev
set_option linter.all false
open Go.Proofs
theorem run154 : okTrue (call Tryz.prog (sumsB []) 100000 154 [] ⟨0, .leaf⟩) = true := by kernel_rfl
theorem begun154 : SumOK Tryz.prog 154 begunSum := begun_of (fun f hf => by cases hf) (by kernel_rfl) run154
theorem run119 : okTrue (call Tryz.prog (sumsB [154]) 100000 119 [] ⟨0, .leaf⟩) = true := by kernel_rfl
theorem begun119 : SumOK Tryz.prog 119 begunSum := begun_of (l := [154]) (fun f hf => by simp at hf; subst hf; exact begun154) (by kernel_rfl) run119
end Go.Ev
end
section
namespace Go.Ev
set_option linter.all false
open Go.Proofs
theorem run84 : okTrue (call Tryz.prog (sumsB [154, 119]) 100000 84 [] ⟨0, .leaf⟩) = true := by kernel_rfl
theorem begun84 : SumOK Tryz.prog 84 begunSum := begun_of (l := [154, 119]) (fun f hf => by
  simp at hf
  rcases hf with rfl | rfl
  · exact begun154
  · exact begun119) (by kernel_rfl) run84
end Go.Ev
end
section
namespace Go.Ev
set_option linter.all false
open Go.Proofs
theorem run50 : okTrue (call Tryz.prog (sumsB [154, 119, 84]) 100000 50 [] ⟨0, .leaf⟩) = true := by kernel_rfl
theorem begun50 : SumOK Tryz.prog 50 begunSum := begun_of (l := [154, 119, 84]) (fun f hf => by
  simp at hf
  rcases hf with rfl | rfl | rfl
  · exact begun154
  · exact begun119
  · exact begun84) (by kernel_rfl) run50
end Go.Ev
end
section
namespace Go.Ev
set_option linter.all false
open Go.Proofs
theorem run19 : okTrue (call Tryz.prog (sumsB [154, 119, 84, 50]) 100000 19 [] ⟨0, .leaf⟩) = true := by kernel_rfl
theorem begun19 : SumOK Tryz.prog 19 begunSum := begun_of (l := [154, 119, 84, 50]) (fun f hf => by
  simp at hf
  rcases hf with rfl | rfl | rfl | rfl
  · exact begun154
  · exact begun119
  · exact begun84
  · exact begun50) (by kernel_rfl) run19
end Go.Ev
end
section
namespace Go.Ev
set_option linter.all false
open Go.Proofs
theorem run8 : okTrue (call Tryz.prog (sumsB [154, 119, 84, 50, 19]) 100000 8 [] ⟨0, .leaf⟩) = true := by kernel_rfl
theorem begun8K : SumOK Tryz.prog 8 begunSum := begun_of (l := [154, 119, 84, 50, 19]) (fun f hf => by
  simp at hf
  rcases hf with rfl | rfl | rfl | rfl | rfl
  · exact begun154
  · exact begun119
  · exact begun84
  · exact begun50
  · exact begun19) (by kernel_rfl) run8
noncomputable def lawS : Sums := fun f => if f = 64 then some insW else if f = 8 then some begunSum else none
theorem lawS_ok : SumsOK Tryz.prog lawS := by
  intro f s hs
  unfold lawS at hs
  split at hs
  · rename_i h
    subst h; cases hs
    exact insW_ok
  · split at hs
    · rename_i h
      subst h; cases hs
      exact begun8K
    · cases hs
theorem lawS_none {f : Nat} (h : f ≠ 64) (k : f ≠ 8) : lawS f = none := by unfold lawS; rw [if_neg h, if_neg k]
end Go.Ev
end
section
namespace Go.Ev
set_option linter.all false
open Go.Proofs
set_option maxRecDepth 100000
variable {w : World} {H : Type} {enc : TypeId × Value → H} {sp : Nat → Bool} {held : Bool}
theorem lawS_plain {l : List Nat} (h : l.all (fun f => !(f == 64) && !(f == 8)) = true) : Plain lawS l := fun f hf => by
  have := List.all_eq_true.1 h f hf
  simp only [Bool.and_eq_true, Bool.not_eq_true', beq_eq_false_iff_ne, ne_eq] at this
  exact lawS_none this.1 this.2
/-- A law over a grammar that answers true in every memory answers true in every world. -/
theorem gram_law {f : Nat} (hf : lawS f = none) (hc : ∀ {m : AMem} {vt vr : AV} {g : GrD}, GramIs m vt vr g → ∃ r m', CallTo Tryz.prog lawS f [gramV vt g vr] m r m' ∧ r = .bool true)
    {r : Reach} {b0 : Nat} {v : Value} {d : DataW H} {p : List MemPlace} (hv : Value.okWide Tryz.prog w r b0 25 v) (h : DataW.Trod enc Tryz.prog w 0 sp held 25 v d p) :
    Calls Tryz.prog f #[v] w fun e w' => e = .returned (.bool true) ∧ RowKit.Below w.heap.size w w' := by
  obtain ⟨ρ, m, vt, vr, g, R, I, V⟩ := gram_in hv h
  obtain ⟨x, m', hx, rfl⟩ := hc I
  obtain ⟨n, e⟩ := hx.run
  exact run_ro mixed lawS_ok hf R e (fun b h1 _ => R.fr b h1) (.cons _ _ _ _ V .nil)
theorem law3 {r : Reach} {b0 : Nat} {v : Value} {d : DataW H} {p : List MemPlace} (hv : Value.okWide Tryz.prog w r b0 25 v) (h : DataW.Trod enc Tryz.prog w 0 sp held 25 v d p) :
    Calls Tryz.prog 3 #[v] w fun e w' => e = .returned (.bool true) ∧ RowKit.Below w.heap.size w w' :=
  gram_law (lawS_none (by decide) (by decide)) (fun I => call3 (lawS_plain (by decide)) rfl rfl I) hv h
end Go.Ev
end
