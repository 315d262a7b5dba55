/- strings.Join: its summary holds. -/
import Derived.Test.YtkobbfimabpfeaaGreatDoorEvInst3
import Derived.Test.YtkobbfimabpfeaaGreatDoorEvJoinLay3
namespace Go.Ev
open Go.Proofs

theorem strsK_rel {ρ : Ren} (m : AMem) : ∀ {l : List AV} {vs : List Value} {ss : List (List Nat)}, VRs ρ l vs → strsK m l = some ss → ∃ xs : List ByteArray, vs = xs.map Value.string ∧ xs.map (fun x => x.data.toList.map UInt8.toNat) = ss
  | _, _, ss, .nil, h => by cases h; exact ⟨[], rfl, rfl⟩
  | _, _, ss, .cons v c l cs hv hs, h => by
    cases v <;> first
      | (cases h; done)
      | skip
    rename_i s
    have h : (match strsK m l with | some r => some (s :: r) | none => none) = some ss := h
    split at h
    · rename_i r hr
      cases h
      obtain ⟨xs, e1, e2⟩ := strsK_rel m hs hr
      cases hv with
      | str _ z hz => exact ⟨z :: xs, by rw [e1]; rfl, by simp [e2, hz]⟩
    · cases h

theorem joinL_eq (sep : List UInt8) : ∀ xs : List ByteArray, joinL (sep.map UInt8.toNat) (xs.map fun x => x.data.toList.map UInt8.toNat) = (Lib.join (xs.map (·.data.toList)) sep).map UInt8.toNat
  | [] => rfl
  | [x] => by simp [joinL, Lib.join_one]
  | x :: y :: r => by
    have ih := joinL_eq sep (y :: r)
    simp only [List.map_cons] at ih ⊢
    show x.data.toList.map UInt8.toNat ++ sep.map UInt8.toNat ++ joinL (sep.map UInt8.toNat) _ = _
    rw [ih, Lib.join_cons, Lib.join_cons]
    simp [Lib.joinTail]

theorem below_step {ρ : Ren} {m : AMem} {w w' : World} (V : View ρ m w) (B : RowKit.Below w.heap.size w w') : Step ρ m w ρ m w' where
  ren _ _ := rfl
  le := Nat.le_refl _
  sim := ⟨fun b x hb => (V.sim.blk b x hb).mono (fun _ _ e => e) fun L e => B.block _ (by obtain ⟨L', e1, e2⟩ := (V.sim.blk b x hb).loc; rw [e] at e1; cases e1; exact e2), V.sim.sep⟩
  wf := V.wf
  img b x L h1 h2 h3 := .inr ⟨b, x, L, h1, h2, h3, rfl⟩
  imgR b x L h1 h3 := .inr ⟨b, x, L, h1, h3, rfl⟩
  keeps k hk _ := B.block k hk
  size := B.size
  os := B.os
  tape := B.tape
  output := B.output

theorem join175 : SumOK Tryz.prog 193 joinSum := by
  intro args m v m' h ρ w cs V hv hfr
  have enter : ∀ cs, (callFunc 193 cs).run Tryz.prog w = .ok (.enter 193 cs) w := fun cs => codeOf_enter (by kernel_rfl) cs w
  unfold joinSum at h
  split at h
  · rename_i b off n cap sep
    rw [bif2_eq] at h
    split at h
    · rename_i hn
      have hn : n ≤ 1048576 := by simpa [Nat.ble_eq] using hn
      obtain ⟨ro, sg, E, N, c, hb, hN, h⟩ := elemsK_static h
      split at h
      · rename_i ss hss
        rw [fList_eq, bif2_eq] at h
        split at h
        · rename_i hlen
          have hlen : (joinL sep ss).length ≤ 1048576 := by simpa [Nat.ble_eq] using hlen
          cases h
          obtain ⟨x, y, hcs, hx, hy⟩ := VRs.two hv
          obtain ⟨z, rfl, hz⟩ := str_inv hy
          have e : cs = #[x, .string z] := by apply Array.ext'; simpa using hcs
          subst e
          obtain ⟨L, c0, el, fz, w1, w2, w3, w4, w5, w6, w7⟩ := V.sim.blk b _ hb
          have hrel : VRs ρ (cellsFrom c off (n * 1)) ((c0.toList.drop (L.base + off)).take n) := by
            refine VRs.of_get (by rw [cellsFrom_length]; simp; omega) fun i u hu => ?_
            have hi : i < n * 1 := by
              rcases Nat.lt_or_ge i (n * 1) with q | q
              · exact q
              · rw [List.getElem?_eq_none (by rw [cellsFrom_length]; exact q)] at hu; cases hu
            rw [cellsFrom_get _ _ _ _ hi] at hu
            cases hu
            obtain ⟨q, hq, hr⟩ := w6 (off + i) (by omega)
            refine ⟨q, ?_, hr⟩
            rw [List.getElem?_take, if_pos (by omega), List.getElem?_drop, Nat.add_assoc]
            simpa using hq
          obtain ⟨xs, e1, e2⟩ := strsK_rel m hrel hss
          have hxl : xs.length = n := by
            have := congrArg List.length e1
            simp at this
            omega
          have hcells : ∀ (j : Nat) x, xs[j]? = some x → w.cell? ⟨L.blk, L.base + off + j, none⟩ = some (.string x) := fun j q hq => by
            have hj : j < n := by
              have := (List.getElem?_eq_some_iff.1 hq).1; omega
            have h1 : ((c0.toList.drop (L.base + off)).take n)[j]? = some (.string q) := by rw [e1]; simp [hq]
            rw [List.getElem?_take, if_pos hj, List.getElem?_drop] at h1
            simp only [World.cell?, w2]
            simpa using h1
          have hje := joinL_eq z.data.toList xs
          rw [e2, hz] at hje
          have hjl : (Lib.join (xs.map (·.data.toList)) z.data.toList).length ≤ 140737488355328 := by
            have := congrArg List.length hje
            simp at this
            omega
          have hblk : L.blk < w.heap.size := by
            rcases Nat.lt_or_ge L.blk w.heap.size with q | q
            · exact q
            · simp [Array.getElem?_eq_none q] at w2
          have main : ∀ cc, n ≤ cc → Calls Tryz.prog 193 #[.slice (some ⟨L.blk, L.base + off, none⟩) n cc, .string z] w (Post ρ m w (.str (joinL sep ss)) m) := fun cc hcc => by
            have := Tryz.strings_Join L.blk (L.base + off) cc xs z w hcells hblk (by omega) (by omega) hjl
            rw [hxl] at this
            refine this.mono fun e w' ⟨he, hbel⟩ => ⟨_, ρ, he, below_step V hbel, .str _ _ ?_⟩
            rw [hje]
          refine .inl ⟨enter _, ?_⟩
          cases hx with
          | sliceE _ _ _ cc K hK hle => rw [w1] at hK; cases hK; exact main cc hle
          | sliceO _ _ _ cc K hK hle => rw [w1] at hK; cases hK; exact main cc hle
        · cases h
      · cases h
    · cases h
  · cases h
    obtain ⟨x, y, hcs, hx, hy⟩ := VRs.two hv
    obtain ⟨z, rfl, hz⟩ := str_inv hy
    have e : cs = #[x, .string z] := by apply Array.ext'; simpa using hcs
    subst e
    cases hx
    exact .inl ⟨enter _, (Tryz.strings_Join_none none 0 z w).mono fun e w' ⟨he, hw⟩ => ⟨_, ρ, he, hw ▸ V.refl, .str _ _ rfl⟩⟩
  · cases h
    obtain ⟨x, y, hcs, hx, hy⟩ := VRs.two hv
    obtain ⟨z, rfl, hz⟩ := str_inv hy
    have e : cs = #[x, .string z] := by apply Array.ext'; simpa using hcs
    subst e
    cases hx with
    | emp a c => exact .inl ⟨enter _, (Tryz.strings_Join_none (some a) c z w).mono fun e w' ⟨he, hw⟩ => ⟨_, ρ, he, hw ▸ V.refl, .str _ _ rfl⟩⟩
  · cases h

end Go.Ev
