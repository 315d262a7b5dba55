/- The summaries of this program. DERIVED: THE SHELF's CONTRACTS AT THIS DUMP, IN PLAIN WORDS (tools/lay-plain.mjs out of 'TryzShelf.lean', which tools/lay-shelf.mjs wrote): THE SAME DECLARATIONS UNDER THE SAME NAMES: 'import', 'namespace', 'open', 'def', 'theorem' AND NOTHING ELSE: no command of the shelf's: FOR A HAND-IN. Each laying: the table of numbers ('.._ren') and one theorem, a field a fact of the dump's own or the kernel's comparison; each contract: ONE APPLICATION. strings.Join: its summary holds. All summaries of this program; the chain of what each layer begins with. -/
import Derived.Test.YtpgjlcbjcnbjkaaGreatDoorEvGc
import Derived.Test.YtpgjlcbjcnbjkaaGreatDoorProg
import Derived.KernelRfl
import Derived.Shelf.Strings.OnBuilder
import Derived.Test.YtpgjlcbjcnbjkaaGreatDoorChecked
section
namespace Go.Ev
open Go.Proofs

theorem mixed : Tryz.prog.follows .mixedOrders = true := by kernel_rfl

theorem over88 : SumOK Tryz.prog 282 overSum :=
  overSum_ok (fn := Tryz.f282) (tS := 23) (tR := 4) (e := 3) (i := (Tryz.prog.info? 3).getD default) (by kernel_rfl) (by kernel_rfl) (by kernel_rfl) (by kernel_rfl) (by kernel_rfl) (by kernel_rfl) (by kernel_rfl)

theorem idx177 : SumOK Tryz.prog 335 indexByteSum := indexByteSum_ok (fn := Tryz.f335) (by kernel_rfl) (by kernel_rfl) (by kernel_rfl) (by kernel_rfl) (by kernel_rfl)

noncomputable def elemOf (st : TypeId) : TypeId := match Tryz.prog.underlying st with
  | some (.slice e) => e
  | _ => 0

theorem over75 : SumOK Tryz.prog 279 overSum :=
  overSum_ok (fn := Tryz.f279) (tS := 217) (tR := 4) (e := elemOf 217) (i := (Tryz.prog.info? (elemOf 217)).getD default) (by kernel_rfl) (by kernel_rfl) (by kernel_rfl) (by kernel_rfl) (by kernel_rfl) (by kernel_rfl) (by kernel_rfl)

noncomputable def code80 : Code := Tryz.f239.body.getD .skip
noncomputable def parts80 : InsParts := (insParts code80).getD ⟨.skip, .skip, .skip, .skip, .skip, .skip, .skip, .skip⟩
noncomputable def code64 : Code := Tryz.f236.body.getD .skip
noncomputable def parts64 : InsParts := (insParts code64).getD ⟨.skip, .skip, .skip, .skip, .skip, .skip, .skip, .skip⟩

theorem ins80 : InsCode Tryz.prog Tryz.f239 code80 parts80 23 3 ((Tryz.prog.info? 3).getD default) where
  eq := ⟨_, _, _, _, rfl, ⟨_, _, _, _, _, _, _, _, _, rfl, ⟨rfl, rfl, rfl⟩, ⟨rfl, rfl, rfl⟩, ⟨rfl, rfl, rfl⟩, ⟨rfl, rfl, rfl⟩, ⟨rfl, rfl, rfl⟩, ⟨rfl, rfl, rfl⟩⟩,
    ⟨_, _, _, _, _, _, _, _, rfl, ⟨rfl, rfl, rfl⟩, ⟨rfl, rfl, rfl⟩, ⟨rfl, rfl, rfl⟩, ⟨rfl, rfl, rfl⟩, ⟨rfl, rfl, rfl⟩, ⟨rfl, rfl, rfl⟩⟩⟩
  res := rfl
  st := by kernel_rfl
  ei := by kernel_rfl

theorem ins64 : InsCode Tryz.prog Tryz.f236 code64 parts64 217 (elemOf 217) ((Tryz.prog.info? (elemOf 217)).getD default) where
  eq := ⟨_, _, _, _, rfl, ⟨_, _, _, _, _, _, _, _, _, rfl, ⟨rfl, rfl, rfl⟩, ⟨rfl, rfl, rfl⟩, ⟨rfl, rfl, rfl⟩, ⟨rfl, rfl, rfl⟩, ⟨rfl, rfl, rfl⟩, ⟨rfl, rfl, rfl⟩⟩,
    ⟨_, _, _, _, _, _, _, _, rfl, ⟨rfl, rfl, rfl⟩, ⟨rfl, rfl, rfl⟩, ⟨rfl, rfl, rfl⟩, ⟨rfl, rfl, rfl⟩, ⟨rfl, rfl, rfl⟩, ⟨rfl, rfl, rfl⟩⟩⟩
  res := rfl
  st := by kernel_rfl
  ei := by kernel_rfl

theorem sum80 : SumOK Tryz.prog 239 (insertSum Tryz.prog (sumsI 282) 60 239 1) :=
  insertSum_ok mixed (sumsI_ok over88) (code := code80) (p := parts80) (by kernel_rfl) ins80 (by kernel_rfl) (by decide) (by decide)
theorem sum64 : SumOK Tryz.prog 236 (insertSum Tryz.prog (sumsI 279) 60 236 2) :=
  insertSum_ok mixed (sumsI_ok over75) (code := code64) (p := parts64) (by kernel_rfl) ins64 (by kernel_rfl) (by decide) (by decide)
end Go.Ev
end
section
namespace Go.Proofs
open Go.Shelf
noncomputable def Tryz.lays156_ren : Go.Shelf.Ren := ⟨fun | 156 => 255 | 165 => 295 | 166 => 296 | 169 => 297 | 240 => 313 | 241 => 314 | 276 => 328 | 277 => 329 | n => n, fun | 31 => 35 | 9 => 9 | 3 => 3 | 4 => 4 | 0 => 0 | 20 => 20 | 72 => 360 | 76 => 363 | 70 => 358 | 37 => 22 | 75 => 362 | 127 => 369 | 164 => 378 | 5 => 5 | 80 => 79 | n => n, fun | n => n⟩
theorem Tryz.lays156 : Go.Proofs.Lays.n156 Tryz.prog Tryz.lays156_ren := {
  mixed := by kernel_rfl
  f156 := Tryz.func255.trans (congrArg some (by kernel_rfl))
  f165 := Tryz.func295.trans (congrArg some (by kernel_rfl))
  f166 := Tryz.func296.trans (congrArg some (by kernel_rfl))
  f169 := Tryz.func297.trans (congrArg some (by kernel_rfl))
  f240 := Tryz.func313.trans (congrArg some (by kernel_rfl))
  f241 := Tryz.func314.trans (congrArg some (by kernel_rfl))
  f276 := Tryz.func328.trans (congrArg some (by kernel_rfl))
  f277 := Tryz.func329.trans (congrArg some (by kernel_rfl))
  t0 := Tryz.underlying0
  a0 := Tryz.isAgg0
  z0 := Tryz.sizeOf0
  v0 := Tryz.zeroValue0
  t3 := Tryz.underlying3
  a3 := Tryz.isAgg3
  z3 := Tryz.sizeOf3
  v3 := Tryz.zeroValue3
  t4 := Tryz.underlying4
  a4 := Tryz.isAgg4
  z4 := Tryz.sizeOf4
  v4 := Tryz.zeroValue4
  t9 := Tryz.underlying9
  a9 := Tryz.isAgg9
  z9 := Tryz.sizeOf9
  v9 := Tryz.zeroValue9
  t20 := Tryz.underlying20
  a20 := Tryz.isAgg20
  z20 := Tryz.sizeOf20
  v20 := Tryz.zeroValue20
  t31 := Tryz.underlying35
  a31 := Tryz.isAgg35
  z31 := Tryz.sizeOf35
  v31 := Tryz.zeroValue35
  t37 := Tryz.underlying22
  a37 := Tryz.isAgg22
  z37 := Tryz.sizeOf22
  v37 := Tryz.zeroValue22
  t70 := Tryz.underlying358
  a70 := Tryz.isAgg358
  z70 := Tryz.sizeOf358
  v70 := Tryz.zeroValue358
  t72 := Tryz.underlying360
  a72 := Tryz.isAgg360
  z72 := Tryz.sizeOf360
  v72 := Tryz.zeroValue360
  t75 := Tryz.underlying362
  a75 := Tryz.isAgg362
  z75 := Tryz.sizeOf362
  v75 := Tryz.zeroValue362
  t76 := Tryz.underlying363
  a76 := Tryz.isAgg363
  z76 := Tryz.sizeOf363
  v76 := Tryz.zeroValue363
  t127 := Tryz.underlying369
  a127 := Tryz.isAgg369
  z127 := Tryz.sizeOf369
  v127 := Tryz.zeroValue369
  t164 := Tryz.underlying378
  a164 := Tryz.isAgg378
  z164 := Tryz.sizeOf378
  v164 := Tryz.zeroValue378 }
theorem Tryz.Builder_Extra_156 : Builder.Extra Tryz.prog Tryz.lays156_ren := {
  sizeBuilder := by kernel_rfl
  liesBuilder := by kernel_rfl
  t5 := Tryz.underlying5
  a5 := Tryz.isAgg5
  z5 := Tryz.sizeOf5
  v5 := Tryz.zeroValue5
  infoByte := by kernel_rfl
  cellsByte := by kernel_rfl
  sizeByte := by kernel_rfl
  neB5 := by decide }
open Go.RowKit in
/-- No element: the empty string; the world is as it was. (Whatever the slice's address and capacity: a nil slice too.) (LAID: no walk: one application.) -/
theorem Tryz.strings_Join_none (a : Option Addr) (c : Nat) (sep : ByteArray) (w : World) :
    Calls Tryz.prog 255 #[.slice a 0 c, .string sep] w fun e w' => e = .returned (.string ⟨#[]⟩) ∧ w' = w := Any.strings_Join_none Tryz.lays156 Tryz.Builder_Extra_156 a c sep w
open Go.RowKit in
/-- strings.Join: "Join concatenates the elements of its first argument to create a single string. The separator string sep is placed between elements in the resulting string.": HOWEVER MANY ELEMENTS. Below the heap's end the world is as it was. (LAID: no walk: one application.) -/
theorem Tryz.strings_Join (bk o c : Nat) (xs : List ByteArray) (sep : ByteArray) (w : World) (hcells : ∀ (j : Nat) x, xs[j]? = some x → w.cell? ⟨bk, o + j, none⟩ = some (.string x)) (hbk : bk < w.heap.size) (hN : xs.length ≤ 140737488355328) (hcap : xs.length ≤ c) (hlen : (Lib.join (xs.map (·.data.toList)) sep.data.toList).length ≤ 140737488355328) :
    Calls Tryz.prog 255 #[.slice (some ⟨bk, o, none⟩) xs.length c, .string sep] w fun e w' => e = .returned (.string ⟨(Lib.join (xs.map (·.data.toList)) sep.data.toList).toArray⟩) ∧ Below w.heap.size w w' := Any.strings_Join Tryz.lays156 Tryz.Builder_Extra_156 bk o c xs sep w hcells hbk hN hcap hlen
end Go.Proofs
end
section
namespace Go.Ev
open Go.Proofs

theorem strsK_rel {ρ : Ren} (m : AMem) : ∀ {l : List AV} {vs : List Value} {ss : List (List Nat)}, VRs ρ l vs → strsK m l = some ss → ∃ xs : List ByteArray, vs = xs.map Value.string ∧ xs.map (fun x => x.data.toList.map UInt8.toNat) = ss
  | _, _, ss, .nil, h => by cases h; exact ⟨[], rfl, rfl⟩
  | _, _, ss, .cons v c l cs hv hs, h => by
    cases v <;> first
      | (cases h; done)
      | skip
    rename_i s
    have h : (match strsK m l with | some r => some (s :: r) | none => none) = some ss := h
    split at h
    · rename_i r hr
      cases h
      obtain ⟨xs, e1, e2⟩ := strsK_rel m hs hr
      cases hv with
      | str _ z hz => exact ⟨z :: xs, by rw [e1]; rfl, by simp [e2, hz]⟩
    · cases h

theorem joinL_eq (sep : List UInt8) : ∀ xs : List ByteArray, joinL (sep.map UInt8.toNat) (xs.map fun x => x.data.toList.map UInt8.toNat) = (Lib.join (xs.map (·.data.toList)) sep).map UInt8.toNat
  | [] => rfl
  | [x] => by simp [joinL, Lib.join_one]
  | x :: y :: r => by
    have ih := joinL_eq sep (y :: r)
    simp only [List.map_cons] at ih ⊢
    show x.data.toList.map UInt8.toNat ++ sep.map UInt8.toNat ++ joinL (sep.map UInt8.toNat) _ = _
    rw [ih, Lib.join_cons, Lib.join_cons]
    simp [Lib.joinTail]

theorem below_step {ρ : Ren} {m : AMem} {w w' : World} (V : View ρ m w) (B : RowKit.Below w.heap.size w w') : Step ρ m w ρ m w' where
  ren _ _ := rfl
  le := Nat.le_refl _
  sim := ⟨fun b x hb => (V.sim.blk b x hb).mono (fun _ _ e => e) fun L e => B.block _ (by obtain ⟨L', e1, e2⟩ := (V.sim.blk b x hb).loc; rw [e] at e1; cases e1; exact e2), V.sim.sep⟩
  wf := V.wf
  img b x L h1 h2 h3 := .inr ⟨b, x, L, h1, h2, h3, rfl⟩
  imgR b x L h1 h3 := .inr ⟨b, x, L, h1, h3, rfl⟩
  keeps k hk _ := B.block k hk
  size := B.size
  os := B.os
  tape := B.tape
  output := B.output

theorem join175 : SumOK Tryz.prog 255 joinSum := by
  intro args m v m' h ρ w cs V hv hfr
  have enter : ∀ cs, (callFunc 255 cs).run Tryz.prog w = .ok (.enter 255 cs) w := fun cs => codeOf_enter (by kernel_rfl) cs w
  unfold joinSum at h
  split at h
  · rename_i b off n cap sep
    rw [bif2_eq] at h
    split at h
    · rename_i hn
      have hn : n ≤ 1048576 := by simpa [Nat.ble_eq] using hn
      obtain ⟨ro, sg, E, N, c, hb, hN, h⟩ := elemsK_static h
      split at h
      · rename_i ss hss
        rw [fList_eq, bif2_eq] at h
        split at h
        · rename_i hlen
          have hlen : (joinL sep ss).length ≤ 1048576 := by simpa [Nat.ble_eq] using hlen
          cases h
          obtain ⟨x, y, hcs, hx, hy⟩ := VRs.two hv
          obtain ⟨z, rfl, hz⟩ := str_inv hy
          have e : cs = #[x, .string z] := by apply Array.ext'; simpa using hcs
          subst e
          obtain ⟨L, c0, el, fz, w1, w2, w3, w4, w5, w6, w7⟩ := V.sim.blk b _ hb
          have hrel : VRs ρ (cellsFrom c off (n * 1)) ((c0.toList.drop (L.base + off)).take n) := by
            refine VRs.of_get (by rw [cellsFrom_length]; simp; omega) fun i u hu => ?_
            have hi : i < n * 1 := by
              rcases Nat.lt_or_ge i (n * 1) with q | q
              · exact q
              · rw [List.getElem?_eq_none (by rw [cellsFrom_length]; exact q)] at hu; cases hu
            rw [cellsFrom_get _ _ _ _ hi] at hu
            cases hu
            obtain ⟨q, hq, hr⟩ := w6 (off + i) (by omega)
            refine ⟨q, ?_, hr⟩
            rw [List.getElem?_take, if_pos (by omega), List.getElem?_drop, Nat.add_assoc]
            simpa using hq
          obtain ⟨xs, e1, e2⟩ := strsK_rel m hrel hss
          have hxl : xs.length = n := by
            have := congrArg List.length e1
            simp at this
            omega
          have hcells : ∀ (j : Nat) x, xs[j]? = some x → w.cell? ⟨L.blk, L.base + off + j, none⟩ = some (.string x) := fun j q hq => by
            have hj : j < n := by
              have := (List.getElem?_eq_some_iff.1 hq).1; omega
            have h1 : ((c0.toList.drop (L.base + off)).take n)[j]? = some (.string q) := by rw [e1]; simp [hq]
            rw [List.getElem?_take, if_pos hj, List.getElem?_drop] at h1
            simp only [World.cell?, w2]
            simpa using h1
          have hje := joinL_eq z.data.toList xs
          rw [e2, hz] at hje
          have hjl : (Lib.join (xs.map (·.data.toList)) z.data.toList).length ≤ 140737488355328 := by
            have := congrArg List.length hje
            simp at this
            omega
          have hblk : L.blk < w.heap.size := by
            rcases Nat.lt_or_ge L.blk w.heap.size with q | q
            · exact q
            · simp [Array.getElem?_eq_none q] at w2
          have main : ∀ cc, n ≤ cc → Calls Tryz.prog 255 #[.slice (some ⟨L.blk, L.base + off, none⟩) n cc, .string z] w (Post ρ m w (.str (joinL sep ss)) m) := fun cc hcc => by
            have := Tryz.strings_Join L.blk (L.base + off) cc xs z w hcells hblk (by omega) (by omega) hjl
            rw [hxl] at this
            refine this.mono fun e w' ⟨he, hbel⟩ => ⟨_, ρ, he, below_step V hbel, .str _ _ ?_⟩
            rw [hje]
          refine .inl ⟨enter _, ?_⟩
          cases hx with
          | sliceE _ _ _ cc K hK hle => rw [w1] at hK; cases hK; exact main cc hle
          | sliceO _ _ _ cc K hK hle => rw [w1] at hK; cases hK; exact main cc hle
        · cases h
      · cases h
    · cases h
  · cases h
    obtain ⟨x, y, hcs, hx, hy⟩ := VRs.two hv
    obtain ⟨z, rfl, hz⟩ := str_inv hy
    have e : cs = #[x, .string z] := by apply Array.ext'; simpa using hcs
    subst e
    cases hx
    exact .inl ⟨enter _, (Tryz.strings_Join_none none 0 z w).mono fun e w' ⟨he, hw⟩ => ⟨_, ρ, he, hw ▸ V.refl, .str _ _ rfl⟩⟩
  · cases h
    obtain ⟨x, y, hcs, hx, hy⟩ := VRs.two hv
    obtain ⟨z, rfl, hz⟩ := str_inv hy
    have e : cs = #[x, .string z] := by apply Array.ext'; simpa using hcs
    subst e
    cases hx with
    | emp a c => exact .inl ⟨enter _, (Tryz.strings_Join_none (some a) c z w).mono fun e w' ⟨he, hw⟩ => ⟨_, ρ, he, hw ▸ V.refl, .str _ _ rfl⟩⟩
  · cases h

end Go.Ev
end
section
namespace Go.Ev
open Go.Proofs

/-- The summaries of this program. -/
noncomputable def sums5 (P : Program) : Sums := fun f => match f with
  | 236 => some (insertSum P (sumsI 279) 60 236 2)
  | 239 => some (insertSum P (sumsI 282) 60 239 1)
  | 255 => some joinSum
  | 335 => some indexByteSum
  | _ => none

theorem sums5_ok : SumsOK Tryz.prog (sums5 Tryz.prog) := by
  intro f s hs
  unfold sums5 at hs
  split at hs
  · cases hs; exact sum64
  · cases hs; exact sum80
  · cases hs; exact join175
  · cases hs; exact idx177
  · cases hs

/-- The summaries, and those functions that answer true. -/
noncomputable def sumsB (l : List Nat) : Sums := fun f => bif2 (l.any (Nat.beq f)) (some begunSum) (sums5 Tryz.prog f)

theorem sumsB_ok {l : List Nat} (h : ∀ f, f ∈ l → SumOK Tryz.prog f begunSum) : SumsOK Tryz.prog (sumsB l) := by
  intro f s hs
  unfold sumsB at hs
  rw [bif2_eq] at hs
  split at hs
  · rename_i hf
    cases hs
    obtain ⟨g, hg, e⟩ := List.any_eq_true.1 hf
    have e : f = g := Nat.eq_of_beq_eq_true e
    subst e
    exact h f hg
  · exact sums5_ok f s hs

noncomputable def okTrue : OR → Bool
  | .mk (.bool true) _ => true
  | _ => false
theorem okTrue_inv {r : OR} (h : okTrue r = true) : ∃ m, r = .mk (.bool true) m := by
  unfold okTrue at h
  split at h
  · exact ⟨_, rfl⟩
  · cases h

theorem begun_of {l : List Nat} (h : ∀ f, f ∈ l → SumOK Tryz.prog f begunSum) {f : Nat} (hf : sumsB l f = none) (hr : okTrue (call Tryz.prog (sumsB l) 100000 f [] ⟨0, .leaf⟩) = true) : SumOK Tryz.prog f begunSum := by
  obtain ⟨m1, e⟩ := okTrue_inv hr
  exact begunSum_ok mixed (sumsB_ok h) hf e
end Go.Ev
end
