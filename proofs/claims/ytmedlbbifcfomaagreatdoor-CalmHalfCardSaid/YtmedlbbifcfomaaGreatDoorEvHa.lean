/- The summaries of this program. DERIVED: THE SHELF's CONTRACTS AT THIS DUMP, IN PLAIN WORDS (tools/lay-plain.mjs out of 'TryzShelf.lean', which tools/lay-shelf.mjs wrote): THE SAME DECLARATIONS UNDER THE SAME NAMES: 'import', 'namespace', 'open', 'def', 'theorem' AND NOTHING ELSE: no command of the shelf's: FOR A HAND-IN. Each laying: the table of numbers ('.._ren') and one theorem, a field a fact of the dump's own or the kernel's comparison; each contract: ONE APPLICATION. strings.Join: its summary holds. What is proved: slices.Sorted(maps.Keys(m)) at this program's own maps of texts, by the shelf's contracts; laid by the kit's tools, in plain words. disk.Names in any world, of a map of at most one key: by the shelf's contract. All summaries of this program; the chain of what each layer begins with. -/
import Derived.Test.YtmedlbbifcfomaaGreatDoorEvGc
import Derived.Test.YtmedlbbifcfomaaGreatDoorProg
import Derived.KernelRfl
import Derived.Shelf.Strings.OnBuilder
import Derived.Shelf.SlIter.Nil
import Derived.Shelf.SortM.Plain
import Derived.Shelf.SortM.SortNone
import Derived.Ground.GgzProg
import Derived.Ground.SlgmProg
import Derived.StringKeys
section
namespace Go.Ev
open Go.Proofs

theorem mixed : Tryz.prog.follows .mixedOrders = true := by kernel_rfl

theorem over88 : SumOK Tryz.prog 457 overSum :=
  overSum_ok (fn := Tryz.f457) (tS := 29) (tR := 4) (e := 3) (i := (Tryz.prog.info? 3).getD default) (by kernel_rfl) (by kernel_rfl) (by kernel_rfl) (by kernel_rfl) (by kernel_rfl) (by kernel_rfl) (by kernel_rfl)

theorem idx177 : SumOK Tryz.prog 447 indexByteSum := indexByteSum_ok (fn := Tryz.f447) (by kernel_rfl) (by kernel_rfl) (by kernel_rfl) (by kernel_rfl) (by kernel_rfl)

noncomputable def elemOf (st : TypeId) : TypeId := match Tryz.prog.underlying st with
  | some (.slice e) => e
  | _ => 0

theorem over75 : SumOK Tryz.prog 454 overSum :=
  overSum_ok (fn := Tryz.f454) (tS := 393) (tR := 4) (e := elemOf 393) (i := (Tryz.prog.info? (elemOf 393)).getD default) (by kernel_rfl) (by kernel_rfl) (by kernel_rfl) (by kernel_rfl) (by kernel_rfl) (by kernel_rfl) (by kernel_rfl)

noncomputable def code80 : Code := Tryz.f422.body.getD .skip
noncomputable def parts80 : InsParts := (insParts code80).getD ⟨.skip, .skip, .skip, .skip, .skip, .skip, .skip, .skip⟩
noncomputable def code64 : Code := Tryz.f419.body.getD .skip
noncomputable def parts64 : InsParts := (insParts code64).getD ⟨.skip, .skip, .skip, .skip, .skip, .skip, .skip, .skip⟩

theorem ins80 : InsCode Tryz.prog Tryz.f422 code80 parts80 29 3 ((Tryz.prog.info? 3).getD default) where
  eq := ⟨_, _, _, _, rfl, ⟨_, _, _, _, _, _, _, _, _, rfl, ⟨rfl, rfl, rfl⟩, ⟨rfl, rfl, rfl⟩, ⟨rfl, rfl, rfl⟩, ⟨rfl, rfl, rfl⟩, ⟨rfl, rfl, rfl⟩, ⟨rfl, rfl, rfl⟩⟩,
    ⟨_, _, _, _, _, _, _, _, rfl, ⟨rfl, rfl, rfl⟩, ⟨rfl, rfl, rfl⟩, ⟨rfl, rfl, rfl⟩, ⟨rfl, rfl, rfl⟩, ⟨rfl, rfl, rfl⟩, ⟨rfl, rfl, rfl⟩⟩⟩
  res := rfl
  st := by kernel_rfl
  ei := by kernel_rfl

theorem ins64 : InsCode Tryz.prog Tryz.f419 code64 parts64 393 (elemOf 393) ((Tryz.prog.info? (elemOf 393)).getD default) where
  eq := ⟨_, _, _, _, rfl, ⟨_, _, _, _, _, _, _, _, _, rfl, ⟨rfl, rfl, rfl⟩, ⟨rfl, rfl, rfl⟩, ⟨rfl, rfl, rfl⟩, ⟨rfl, rfl, rfl⟩, ⟨rfl, rfl, rfl⟩, ⟨rfl, rfl, rfl⟩⟩,
    ⟨_, _, _, _, _, _, _, _, rfl, ⟨rfl, rfl, rfl⟩, ⟨rfl, rfl, rfl⟩, ⟨rfl, rfl, rfl⟩, ⟨rfl, rfl, rfl⟩, ⟨rfl, rfl, rfl⟩, ⟨rfl, rfl, rfl⟩⟩⟩
  res := rfl
  st := by kernel_rfl
  ei := by kernel_rfl

theorem sum80 : SumOK Tryz.prog 422 (insertSum Tryz.prog (sumsI 457) 60 422 1) :=
  insertSum_ok mixed (sumsI_ok over88) (code := code80) (p := parts80) (by kernel_rfl) ins80 (by kernel_rfl) (by decide) (by decide)
theorem sum64 : SumOK Tryz.prog 419 (insertSum Tryz.prog (sumsI 454) 60 419 2) :=
  insertSum_ok mixed (sumsI_ok over75) (code := code64) (p := parts64) (by kernel_rfl) ins64 (by kernel_rfl) (by decide) (by decide)
end Go.Ev
end
section
namespace Go.Proofs
open Go.Shelf
noncomputable def Tryz.lays156_ren : Go.Shelf.Ren := ⟨fun | 156 => 285 | 165 => 361 | 166 => 362 | 169 => 363 | 240 => 404 | 241 => 405 | 276 => 441 | 277 => 442 | n => n, fun | 31 => 68 | 9 => 9 | 3 => 3 | 4 => 4 | 0 => 0 | 20 => 20 | 72 => 448 | 76 => 451 | 70 => 446 | 37 => 132 | 75 => 450 | 127 => 482 | 164 => 508 | 5 => 5 | 80 => 95 | n => n, fun | n => n⟩
theorem Tryz.lays156 : Go.Proofs.Lays.n156 Tryz.prog Tryz.lays156_ren := {
  mixed := by kernel_rfl
  f156 := Tryz.func285.trans (congrArg some (by kernel_rfl))
  f165 := Tryz.func361.trans (congrArg some (by kernel_rfl))
  f166 := Tryz.func362.trans (congrArg some (by kernel_rfl))
  f169 := Tryz.func363.trans (congrArg some (by kernel_rfl))
  f240 := Tryz.func404.trans (congrArg some (by kernel_rfl))
  f241 := Tryz.func405.trans (congrArg some (by kernel_rfl))
  f276 := Tryz.func441.trans (congrArg some (by kernel_rfl))
  f277 := Tryz.func442.trans (congrArg some (by kernel_rfl))
  t0 := Tryz.underlying0
  a0 := Tryz.isAgg0
  z0 := Tryz.sizeOf0
  v0 := Tryz.zeroValue0
  t3 := Tryz.underlying3
  a3 := Tryz.isAgg3
  z3 := Tryz.sizeOf3
  v3 := Tryz.zeroValue3
  t4 := Tryz.underlying4
  a4 := Tryz.isAgg4
  z4 := Tryz.sizeOf4
  v4 := Tryz.zeroValue4
  t9 := Tryz.underlying9
  a9 := Tryz.isAgg9
  z9 := Tryz.sizeOf9
  v9 := Tryz.zeroValue9
  t20 := Tryz.underlying20
  a20 := Tryz.isAgg20
  z20 := Tryz.sizeOf20
  v20 := Tryz.zeroValue20
  t31 := Tryz.underlying68
  a31 := Tryz.isAgg68
  z31 := Tryz.sizeOf68
  v31 := Tryz.zeroValue68
  t37 := Tryz.underlying132
  a37 := Tryz.isAgg132
  z37 := Tryz.sizeOf132
  v37 := Tryz.zeroValue132
  t70 := Tryz.underlying446
  a70 := Tryz.isAgg446
  z70 := Tryz.sizeOf446
  v70 := Tryz.zeroValue446
  t72 := Tryz.underlying448
  a72 := Tryz.isAgg448
  z72 := Tryz.sizeOf448
  v72 := Tryz.zeroValue448
  t75 := Tryz.underlying450
  a75 := Tryz.isAgg450
  z75 := Tryz.sizeOf450
  v75 := Tryz.zeroValue450
  t76 := Tryz.underlying451
  a76 := Tryz.isAgg451
  z76 := Tryz.sizeOf451
  v76 := Tryz.zeroValue451
  t127 := Tryz.underlying482
  a127 := Tryz.isAgg482
  z127 := Tryz.sizeOf482
  v127 := Tryz.zeroValue482
  t164 := Tryz.underlying508
  a164 := Tryz.isAgg508
  z164 := Tryz.sizeOf508
  v164 := Tryz.zeroValue508 }
theorem Tryz.Builder_Extra_156 : Builder.Extra Tryz.prog Tryz.lays156_ren := {
  sizeBuilder := by kernel_rfl
  liesBuilder := by kernel_rfl
  t5 := Tryz.underlying5
  a5 := Tryz.isAgg5
  z5 := Tryz.sizeOf5
  v5 := Tryz.zeroValue5
  infoByte := by kernel_rfl
  cellsByte := by kernel_rfl
  sizeByte := by kernel_rfl
  neB5 := by decide }
open Go.RowKit in
/-- No element: the empty string; the world is as it was. (Whatever the slice's address and capacity: a nil slice too.) (LAID: no walk: one application.) -/
theorem Tryz.strings_Join_none (a : Option Addr) (c : Nat) (sep : ByteArray) (w : World) :
    Calls Tryz.prog 285 #[.slice a 0 c, .string sep] w fun e w' => e = .returned (.string ⟨#[]⟩) ∧ w' = w := Any.strings_Join_none Tryz.lays156 Tryz.Builder_Extra_156 a c sep w
open Go.RowKit in
/-- strings.Join: "Join concatenates the elements of its first argument to create a single string. The separator string sep is placed between elements in the resulting string.": HOWEVER MANY ELEMENTS. Below the heap's end the world is as it was. (LAID: no walk: one application.) -/
theorem Tryz.strings_Join (bk o c : Nat) (xs : List ByteArray) (sep : ByteArray) (w : World) (hcells : ∀ (j : Nat) x, xs[j]? = some x → w.cell? ⟨bk, o + j, none⟩ = some (.string x)) (hbk : bk < w.heap.size) (hN : xs.length ≤ 140737488355328) (hcap : xs.length ≤ c) (hlen : (Lib.join (xs.map (·.data.toList)) sep.data.toList).length ≤ 140737488355328) :
    Calls Tryz.prog 285 #[.slice (some ⟨bk, o, none⟩) xs.length c, .string sep] w fun e w' => e = .returned (.string ⟨(Lib.join (xs.map (·.data.toList)) sep.data.toList).toArray⟩) ∧ Below w.heap.size w w' := Any.strings_Join Tryz.lays156 Tryz.Builder_Extra_156 bk o c xs sep w hcells hbk hN hcap hlen
end Go.Proofs
end
section
namespace Go.Ev
open Go.Proofs

theorem strsK_rel {ρ : Ren} (m : AMem) : ∀ {l : List AV} {vs : List Value} {ss : List (List Nat)}, VRs ρ l vs → strsK m l = some ss → ∃ xs : List ByteArray, vs = xs.map Value.string ∧ xs.map (fun x => x.data.toList.map UInt8.toNat) = ss
  | _, _, ss, .nil, h => by cases h; exact ⟨[], rfl, rfl⟩
  | _, _, ss, .cons v c l cs hv hs, h => by
    cases v <;> first
      | (cases h; done)
      | skip
    rename_i s
    have h : (match strsK m l with | some r => some (s :: r) | none => none) = some ss := h
    split at h
    · rename_i r hr
      cases h
      obtain ⟨xs, e1, e2⟩ := strsK_rel m hs hr
      cases hv with
      | str _ z hz => exact ⟨z :: xs, by rw [e1]; rfl, by simp [e2, hz]⟩
    · cases h

theorem joinL_eq (sep : List UInt8) : ∀ xs : List ByteArray, joinL (sep.map UInt8.toNat) (xs.map fun x => x.data.toList.map UInt8.toNat) = (Lib.join (xs.map (·.data.toList)) sep).map UInt8.toNat
  | [] => rfl
  | [x] => by simp [joinL, Lib.join_one]
  | x :: y :: r => by
    have ih := joinL_eq sep (y :: r)
    simp only [List.map_cons] at ih ⊢
    show x.data.toList.map UInt8.toNat ++ sep.map UInt8.toNat ++ joinL (sep.map UInt8.toNat) _ = _
    rw [ih, Lib.join_cons, Lib.join_cons]
    simp [Lib.joinTail]

theorem below_step {ρ : Ren} {m : AMem} {w w' : World} (V : View ρ m w) (B : RowKit.Below w.heap.size w w') : Step ρ m w ρ m w' where
  ren _ _ := rfl
  le := Nat.le_refl _
  sim := ⟨fun b x hb => (V.sim.blk b x hb).mono (fun _ _ e => e) fun L e => B.block _ (by obtain ⟨L', e1, e2⟩ := (V.sim.blk b x hb).loc; rw [e] at e1; cases e1; exact e2), V.sim.sep⟩
  wf := V.wf
  img b x L h1 h2 h3 := .inr ⟨b, x, L, h1, h2, h3, rfl⟩
  imgR b x L h1 h3 := .inr ⟨b, x, L, h1, h3, rfl⟩
  keeps k hk _ := B.block k hk
  size := B.size
  os := B.os
  tape := B.tape
  output := B.output

theorem join175 : SumOK Tryz.prog 285 joinSum := by
  intro args m v m' h ρ w cs V hv hfr
  have enter : ∀ cs, (callFunc 285 cs).run Tryz.prog w = .ok (.enter 285 cs) w := fun cs => codeOf_enter (by kernel_rfl) cs w
  unfold joinSum at h
  split at h
  · rename_i b off n cap sep
    rw [bif2_eq] at h
    split at h
    · rename_i hn
      have hn : n ≤ 1048576 := by simpa [Nat.ble_eq] using hn
      obtain ⟨ro, sg, E, N, c, hb, hN, h⟩ := elemsK_static h
      split at h
      · rename_i ss hss
        rw [fList_eq, bif2_eq] at h
        split at h
        · rename_i hlen
          have hlen : (joinL sep ss).length ≤ 1048576 := by simpa [Nat.ble_eq] using hlen
          cases h
          obtain ⟨x, y, hcs, hx, hy⟩ := VRs.two hv
          obtain ⟨z, rfl, hz⟩ := str_inv hy
          have e : cs = #[x, .string z] := by apply Array.ext'; simpa using hcs
          subst e
          obtain ⟨L, c0, el, fz, w1, w2, w3, w4, w5, w6, w7⟩ := V.sim.blk b _ hb
          have hrel : VRs ρ (cellsFrom c off (n * 1)) ((c0.toList.drop (L.base + off)).take n) := by
            refine VRs.of_get (by rw [cellsFrom_length]; simp; omega) fun i u hu => ?_
            have hi : i < n * 1 := by
              rcases Nat.lt_or_ge i (n * 1) with q | q
              · exact q
              · rw [List.getElem?_eq_none (by rw [cellsFrom_length]; exact q)] at hu; cases hu
            rw [cellsFrom_get _ _ _ _ hi] at hu
            cases hu
            obtain ⟨q, hq, hr⟩ := w6 (off + i) (by omega)
            refine ⟨q, ?_, hr⟩
            rw [List.getElem?_take, if_pos (by omega), List.getElem?_drop, Nat.add_assoc]
            simpa using hq
          obtain ⟨xs, e1, e2⟩ := strsK_rel m hrel hss
          have hxl : xs.length = n := by
            have := congrArg List.length e1
            simp at this
            omega
          have hcells : ∀ (j : Nat) x, xs[j]? = some x → w.cell? ⟨L.blk, L.base + off + j, none⟩ = some (.string x) := fun j q hq => by
            have hj : j < n := by
              have := (List.getElem?_eq_some_iff.1 hq).1; omega
            have h1 : ((c0.toList.drop (L.base + off)).take n)[j]? = some (.string q) := by rw [e1]; simp [hq]
            rw [List.getElem?_take, if_pos hj, List.getElem?_drop] at h1
            simp only [World.cell?, w2]
            simpa using h1
          have hje := joinL_eq z.data.toList xs
          rw [e2, hz] at hje
          have hjl : (Lib.join (xs.map (·.data.toList)) z.data.toList).length ≤ 140737488355328 := by
            have := congrArg List.length hje
            simp at this
            omega
          have hblk : L.blk < w.heap.size := by
            rcases Nat.lt_or_ge L.blk w.heap.size with q | q
            · exact q
            · simp [Array.getElem?_eq_none q] at w2
          have main : ∀ cc, n ≤ cc → Calls Tryz.prog 285 #[.slice (some ⟨L.blk, L.base + off, none⟩) n cc, .string z] w (Post ρ m w (.str (joinL sep ss)) m) := fun cc hcc => by
            have := Tryz.strings_Join L.blk (L.base + off) cc xs z w hcells hblk (by omega) (by omega) hjl
            rw [hxl] at this
            refine this.mono fun e w' ⟨he, hbel⟩ => ⟨_, ρ, he, below_step V hbel, .str _ _ ?_⟩
            rw [hje]
          refine .inl ⟨enter _, ?_⟩
          cases hx with
          | sliceE _ _ _ cc K hK hle => rw [w1] at hK; cases hK; exact main cc hle
          | sliceO _ _ _ cc K hK hle => rw [w1] at hK; cases hK; exact main cc hle
        · cases h
      · cases h
    · cases h
  · cases h
    obtain ⟨x, y, hcs, hx, hy⟩ := VRs.two hv
    obtain ⟨z, rfl, hz⟩ := str_inv hy
    have e : cs = #[x, .string z] := by apply Array.ext'; simpa using hcs
    subst e
    cases hx
    exact .inl ⟨enter _, (Tryz.strings_Join_none none 0 z w).mono fun e w' ⟨he, hw⟩ => ⟨_, ρ, he, hw ▸ V.refl, .str _ _ rfl⟩⟩
  · cases h
    obtain ⟨x, y, hcs, hx, hy⟩ := VRs.two hv
    obtain ⟨z, rfl, hz⟩ := str_inv hy
    have e : cs = #[x, .string z] := by apply Array.ext'; simpa using hcs
    subst e
    cases hx with
    | emp a c => exact .inl ⟨enter _, (Tryz.strings_Join_none (some a) c z w).mono fun e w' ⟨he, hw⟩ => ⟨_, ρ, he, hw ▸ V.refl, .str _ _ rfl⟩⟩
  · cases h

end Go.Ev
end
section
namespace Go.Proofs
open Go.RowKit Go.Maps Go.Sort
open Go.Shelf
noncomputable def Tryz.keys91_ren : Go.Shelf.Ren := ⟨fun | 7 => 91 | 10 => 159 | n => n, fun | 23 => 85 | 26 => 9 | 3 => 131 | 28 => 170 | 0 => 0 | 27 => 169 | 33 => 243 | 4 => 4 | n => n, fun | n => n⟩
theorem Tryz.keys91 : Go.Proofs.SlLaysZ.n7 Tryz.prog Tryz.keys91_ren := {
  mixed := by kernel_rfl
  f7 := ⟨Tryz.f91.name, by decide, Tryz.func91.trans (congrArg some (by kernel_rfl))⟩
  f10 := ⟨Tryz.f159.name, by decide, Tryz.func159.trans (congrArg some (by kernel_rfl))⟩
  t0 := Tryz.underlying0
  a0 := Tryz.isAgg0
  z0 := Tryz.sizeOf0
  v0 := Tryz.zeroValue0
  t4 := Tryz.underlying4
  a4 := Tryz.isAgg4
  z4 := Tryz.sizeOf4
  v4 := Tryz.zeroValue4
  t23 := Tryz.underlying85
  a23 := Tryz.isAgg85
  z23 := Tryz.sizeOf85
  v23 := Tryz.zeroValue85
  t26 := Tryz.underlying9
  a26 := Tryz.isAgg9
  z26 := Tryz.sizeOf9
  v26 := Tryz.zeroValue9
  t27 := Tryz.underlying169
  a27 := Tryz.isAgg169
  z27 := Tryz.sizeOf169
  v27 := Tryz.zeroValue169
  t28 := Tryz.underlying170
  a28 := Tryz.isAgg170
  z28 := Tryz.sizeOf170
  v28 := Tryz.zeroValue170
  t33 := Tryz.underlying243
  a33 := Tryz.isAgg243
  z33 := Tryz.sizeOf243
  v33 := Tryz.zeroValue243 }
noncomputable def Tryz.sorted90_ren : Go.Shelf.Ren := ⟨fun | 6 => 90 | 8 => 157 | 9 => 158 | 11 => 207 | 13 => 209 | 12 => 208 | 23 => 273 | 24 => 274 | 14 => 264 | 15 => 265 | 16 => 266 | 17 => 267 | 18 => 268 | 19 => 269 | 20 => 270 | 21 => 271 | 22 => 272 | 25 => 346 | 26 => 347 | 27 => 348 | 28 => 349 | 29 => 350 | 30 => 351 | 31 => 403 | n => n, fun | 26 => 9 | 28 => 170 | 24 => 68 | 0 => 0 | 3 => 3 | 37 => 248 | 48 => 291 | 50 => 247 | 4 => 4 | 40 => 364 | 39 => 363 | 45 => 369 | 5 => 5 | 9 => 9 | 51 => 434 | 55 => 438 | 57 => 480 | 58 => 354 | 33 => 243 | n => n, fun | n => n⟩
theorem Tryz.sorted90 : Go.Proofs.SlLaysZ.n6 Tryz.prog Tryz.sorted90_ren := {
  mixed := by kernel_rfl
  f6 := ⟨Tryz.f90.name, by decide, Tryz.func90.trans (congrArg some (by kernel_rfl))⟩
  f8 := ⟨Tryz.f157.name, by decide, Tryz.func157.trans (congrArg some (by kernel_rfl))⟩
  f11 := ⟨Tryz.f207.name, by decide, Tryz.func207.trans (congrArg some (by kernel_rfl))⟩
  t0 := Tryz.underlying0
  a0 := Tryz.isAgg0
  z0 := Tryz.sizeOf0
  v0 := Tryz.zeroValue0
  t24 := Tryz.underlying68
  a24 := Tryz.isAgg68
  z24 := Tryz.sizeOf68
  v24 := Tryz.zeroValue68
  t26 := Tryz.underlying9
  a26 := Tryz.isAgg9
  z26 := Tryz.sizeOf9
  v26 := Tryz.zeroValue9
  t28 := Tryz.underlying170
  a28 := Tryz.isAgg170
  z28 := Tryz.sizeOf170
  v28 := Tryz.zeroValue170
  i26 := by kernel_rfl }
noncomputable def Tryz.sort158_ren : Go.Shelf.Ren := ⟨fun | 6 => 158 | 8 => 209 | 9 => 208 | 19 => 273 | 20 => 274 | 21 => 264 | 22 => 265 | 23 => 266 | 24 => 267 | 25 => 268 | 26 => 269 | 27 => 270 | 28 => 271 | 29 => 272 | 36 => 346 | 31 => 347 | 32 => 348 | 37 => 349 | 38 => 350 | 39 => 351 | 41 => 403 | n => n, fun | 27 => 68 | 29 => 9 | 3 => 3 | 32 => 248 | 26 => 68 | 0 => 0 | 44 => 291 | 46 => 247 | 4 => 4 | 36 => 364 | 35 => 363 | 41 => 369 | 5 => 5 | 9 => 9 | 53 => 434 | 57 => 438 | 63 => 480 | 64 => 354 | n => n, fun | n => n⟩
theorem Tryz.sort158 : Go.Proofs.SlLaysM.n6 Tryz.prog Tryz.sort158_ren := {
  mixed := by kernel_rfl
  f6 := ⟨Tryz.f158.name, by decide, Tryz.func158.trans (congrArg some (by kernel_rfl))⟩
  f8 := Tryz.func209.trans (congrArg some (by kernel_rfl))
  f9 := ⟨Tryz.f208.name, by decide, Tryz.func208.trans (congrArg some (by kernel_rfl))⟩
  f19 := Tryz.func273.trans (congrArg some (by kernel_rfl))
  f20 := Tryz.func274.trans (congrArg some (by kernel_rfl))
  f21 := ⟨Tryz.f264.name, by decide, Tryz.func264.trans (congrArg some (by kernel_rfl))⟩
  f22 := ⟨Tryz.f265.name, by decide, Tryz.func265.trans (congrArg some (by kernel_rfl))⟩
  f23 := ⟨Tryz.f266.name, by decide, Tryz.func266.trans (congrArg some (by kernel_rfl))⟩
  f24 := ⟨Tryz.f267.name, by decide, Tryz.func267.trans (congrArg some (by kernel_rfl))⟩
  f25 := ⟨Tryz.f268.name, by decide, Tryz.func268.trans (congrArg some (by kernel_rfl))⟩
  f26 := ⟨Tryz.f269.name, by decide, Tryz.func269.trans (congrArg some (by kernel_rfl))⟩
  f27 := ⟨Tryz.f270.name, by decide, Tryz.func270.trans (congrArg some (by kernel_rfl))⟩
  f28 := ⟨Tryz.f271.name, by decide, Tryz.func271.trans (congrArg some (by kernel_rfl))⟩
  f29 := ⟨Tryz.f272.name, by decide, Tryz.func272.trans (congrArg some (by kernel_rfl))⟩
  f31 := Tryz.func347.trans (congrArg some (by kernel_rfl))
  f32 := Tryz.func348.trans (congrArg some (by kernel_rfl))
  f36 := ⟨Tryz.f346.name, by decide, Tryz.func346.trans (congrArg some (by kernel_rfl))⟩
  f37 := ⟨Tryz.f349.name, by decide, Tryz.func349.trans (congrArg some (by kernel_rfl))⟩
  f38 := ⟨Tryz.f350.name, by decide, Tryz.func350.trans (congrArg some (by kernel_rfl))⟩
  f39 := ⟨Tryz.f351.name, by decide, Tryz.func351.trans (congrArg some (by kernel_rfl))⟩
  f41 := ⟨Tryz.f403.name, by decide, Tryz.func403.trans (congrArg some (by kernel_rfl))⟩
  t0 := Tryz.underlying0
  a0 := Tryz.isAgg0
  z0 := Tryz.sizeOf0
  v0 := Tryz.zeroValue0
  t3 := Tryz.underlying3
  a3 := Tryz.isAgg3
  z3 := Tryz.sizeOf3
  v3 := Tryz.zeroValue3
  t4 := Tryz.underlying4
  a4 := Tryz.isAgg4
  z4 := Tryz.sizeOf4
  v4 := Tryz.zeroValue4
  t5 := Tryz.underlying5
  a5 := Tryz.isAgg5
  z5 := Tryz.sizeOf5
  v5 := Tryz.zeroValue5
  t9 := Tryz.underlying9
  a9 := Tryz.isAgg9
  z9 := Tryz.sizeOf9
  v9 := Tryz.zeroValue9
  t26 := Tryz.underlying68
  a26 := Tryz.isAgg68
  z26 := Tryz.sizeOf68
  v26 := Tryz.zeroValue68
  t27 := Tryz.underlying68
  a27 := Tryz.isAgg68
  z27 := Tryz.sizeOf68
  v27 := Tryz.zeroValue68
  t29 := Tryz.underlying9
  a29 := Tryz.isAgg9
  z29 := Tryz.sizeOf9
  v29 := Tryz.zeroValue9
  t32 := Tryz.underlying248
  a32 := Tryz.isAgg248
  z32 := Tryz.sizeOf248
  v32 := Tryz.zeroValue248
  t35 := Tryz.underlying363
  a35 := Tryz.isAgg363
  z35 := Tryz.sizeOf363
  v35 := Tryz.zeroValue363
  t36 := Tryz.underlying364
  a36 := Tryz.isAgg364
  z36 := Tryz.sizeOf364
  v36 := Tryz.zeroValue364
  t41 := Tryz.underlying369
  a41 := Tryz.isAgg369
  z41 := Tryz.sizeOf369
  v41 := Tryz.zeroValue369
  t44 := Tryz.underlying291
  a44 := Tryz.isAgg291
  z44 := Tryz.sizeOf291
  v44 := Tryz.zeroValue291
  t46 := Tryz.underlying247
  a46 := Tryz.isAgg247
  z46 := Tryz.sizeOf247
  v46 := Tryz.zeroValue247
  t53 := Tryz.underlying434
  a53 := Tryz.isAgg434
  z53 := Tryz.sizeOf434
  v53 := Tryz.zeroValue434
  t57 := Tryz.underlying438
  a57 := Tryz.isAgg438
  z57 := Tryz.sizeOf438
  v57 := Tryz.zeroValue438
  t63 := Tryz.underlying480
  a63 := Tryz.isAgg480
  z63 := Tryz.sizeOf480
  v63 := Tryz.zeroValue480
  t64 := Tryz.underlying354
  a64 := Tryz.isAgg354
  z64 := Tryz.sizeOf354
  v64 := Tryz.zeroValue354 }
/-- slices.Sort's two contracts at this dump, at the fence that asks nothing. -/
theorem Tryz.sorts90 (m : Nat) : AnyZ.SortsIn Tryz.prog Tryz.sorted90_ren Fence.wide m :=
  ⟨fun blk off cap ss W hH hblk hsz => callsIn_wide.2 (AnyM.slices_Sort_string Tryz.sort158 blk off cap ss W hH hblk hsz),
   fun p cap W => callsIn_wide.2 (AnyM.slices_Sort_string_none Tryz.sort158 p cap W)⟩

/-- **maps.Keys[map[string]*donatus/disk.file,string,*donatus/disk.file], at whatever map, the nil one too:** a function value over ONE NEW BLOCK, which holds the map. -/
theorem Tryz.maps_Keys_91 (mb : Option Nat) (W : World) : CallsIn Fence.wide 5 Tryz.prog 91 #[.map mb] W fun e w' => e = .returned (.func (.func 159) #[] #[.pointer (some ⟨W.heap.size, 0, none⟩)]) ∧ w' = W.alloc (.cells #[.map mb] 85) :=
  AnyZ.keys_in Tryz.keys91 Fence.wide 5 trivial rfl mb W

set_option maxHeartbeats 1000000 in
/-- **slices.Sorted[string] AT WHAT maps.Keys[map[string]*donatus/disk.file,string,*donatus/disk.file] HANDED BACK FOR A MAP THAT IS NOT nil** ('w': the world AHEAD of maps.Keys' call): A NEW SLICE THAT HOLDS THE MAP's KEYS, SORTED; nil just where it has none; nothing that lay before has turned. -/
theorem Tryz.slices_Sorted_keys_90_91 {H : Type} (b nn : Nat) (D0 : DataW H) (R : Value → Option (DataW H × List MemPlace)) (w : World) (hown : w.ownsMap Tryz.prog 9 R b nn D0) (hmax : Maps.size D0 ≤ maxLen) (hbytes : Maps.size D0 * 16 ≤ 140737488355328) :
    CallsIn Fence.wide 5 Tryz.prog 90 #[.func (.func 159) #[] #[.pointer (some ⟨w.heap.size, 0, none⟩)]] (w.alloc (.cells #[.map (some b)] 85)) fun e w' => ∃ (v : Value) (ss : List (List UInt8)), e = .returned v ∧ ss.Perm (strKeys D0) ∧
      w'.ownsRow (w.alloc (.cells #[.map (some b)] 85)).heap.size 9 1 v ss.length ((ss.mergeSort (fun x y => decide (x ≤ y))).map encStr) ∧ (v = .slice none 0 0 ↔ ss = []) ∧ Below (w.alloc (.cells #[.map (some b)] 85)).heap.size (w.alloc (.cells #[.map (some b)] 85)) w' := by
  have hbl := hown.lt
  have hseq : SeqGives Fence.wide 2 Tryz.prog 159 #[.pointer (some ⟨w.heap.size, 0, none⟩)] encStr (fun ss => ss.Perm (strKeys D0)) (Maps.size D0) (w.alloc (.cells #[.map (some b)] 85)) :=
    AnyZ.keys_gives (ρ := Tryz.keys91_ren) { Tryz.keys91 with } Fence.wide _ trivial rfl (by omega) w.heap.size b nn D0 _ (by simp) (by simp) (by
      obtain ⟨es, clock, hb, Ft, hs, hD⟩ := hown
      exact ⟨es, clock, (Below.heap_alloc _ _ b hbl).trans hb, Ft, hs, hD⟩)
  exact AnyZ.sorted_in Tryz.sorted90 Fence.wide 5 trivial trivial trivial trivial rfl (by omega) (Tryz.sorts90 _) (enters_of Tryz.func158 (by kernel_rfl) rfl) 159 #[.pointer (some ⟨w.heap.size, 0, none⟩)] trivial (enters_of Tryz.func159 (by kernel_rfl) rfl) _ _ hmax hbytes _ hseq

end Go.Proofs
end
section
namespace Go.Ev
open Go.RowKit Go.Maps Go.Sort Go.Shelf Go.Proofs
abbrev Rnil : Value → Option (DataW Unit × List MemPlace) := fun _ => some (.nil, [])
theorem list_le_one {α : Type} : ∀ {l : List α}, l.length ≤ 1 → l = [] ∨ ∃ x, l = [x]
  | [], _ => .inl rfl
  | [x], _ => .inr ⟨x, rfl⟩
  | _ :: _ :: _, h => by simp at h
set_option maxHeartbeats 4000000 in
theorem names46 : NamesOf Tryz.prog 46 := by
  intro p mb es ck w hp hm hle hk
  have hl : es.toList.length ≤ 1 := by simpa using hle
  have hfit : Go.WideElems.Fit Tryz.prog 9 Rnil es ck := by
    refine ⟨by unfold maxLen; omega, ⟨fun x hx => let ⟨_, _, _, h⟩ := hk x hx; h, ?_, ?_⟩, fun x hx => ?_⟩
    · rcases list_le_one hl with h | ⟨x, h⟩ <;> rw [h] <;> simp
    · rcases list_le_one hl with h | ⟨x, h⟩ <;> rw [h] <;> simp
    · obtain ⟨s, h1, h2, _⟩ := hk x hx
      refine ⟨(.string s.data.toList, .nil), ?_⟩
      unfold Go.WideElems.rd
      rw [h1, Go.WideMaps.keyOf_string_mk Tryz.underlying9 (by unfold maxLen; omega)]
      rfl
  have hown : w.ownsMap Tryz.prog 9 Rnil mb 1 (.map ((es.toList.map (Go.WideElems.rg Tryz.prog 9 Rnil)).foldr DataW.insert [])) := ⟨es, ck, hm, hfit, hle, rfl⟩
  have hsz : Maps.size (DataW.map ((es.toList.map (Go.WideElems.rg Tryz.prog 9 Rnil)).foldr DataW.insert []) : DataW Unit) ≤ 1 := by
    rcases list_le_one hl with h | ⟨x, h⟩ <;> rw [h] <;> simp [Maps.size, DataW.insert]
  refine (callsIn_wide (n := 6)).1 ?_
  have hfK : Fence.wide.fn 91 := trivial
  have hfS : Fence.wide.fn 90 := trivial
  refine callsIn_of_wp Tryz.func46 rfl trivial ?_ rfl
  simp only [Tryz.ntmps46, List.size_toArray, List.length_cons, List.length_nil, Nat.reduceAdd, Nat.reduceSub, Array.replicate_succ, Array.replicate_zero, List.push_toArray, List.append_toArray, List.nil_append, List.cons_append]
  gi_wp2_with (first
    | (gi_at_call 91; refine (Tryz.maps_Keys_91 _ _).mono ?_; rintro e w' ⟨rfl, rfl⟩)
    | (gi_at_call 90; refine (Tryz.slices_Sorted_keys_90_91 mb 1 _ Rnil w hown (by unfold maxLen; omega) (by omega)).mono ?_; rintro e w' ⟨v, ss, rfl, hS, hrow, hnil, hb⟩))
  go_ret
  have hrow' := Go.Proofs.ownsRow_base_a hrow (base' := w.heap.size) (by simp)
  have hbel : Below w.heap.size w w' := ((Below.refl _ w).alloc (Nat.le_refl _) _).trans (hb.mono (by simp))
  rcases list_le_one hl with h | ⟨x, h⟩
  · rw [h] at hS
    have : ss = [] := by simpa [strKeys] using hS
    subst this
    have h0 : es.size = 0 := by rw [← Array.length_toList, h]; rfl
    refine ⟨v, rfl, fun _ => hnil.2 rfl, ?_, hbel⟩
    rw [h0, h]
    simpa using hrow'
  · obtain ⟨s, h1, h2, _⟩ := hk x (by rw [h]; exact List.mem_singleton.2 rfl)
    have hrg : Go.WideElems.rg Tryz.prog 9 Rnil x = (.string s.data.toList, .nil) := by
      unfold Go.WideElems.rg Go.WideElems.rd
      rw [h1, Go.WideMaps.keyOf_string_mk Tryz.underlying9 (by unfold maxLen; omega)]
      rfl
    rw [h] at hS
    simp only [List.map_cons, List.map_nil, List.foldr_cons, List.foldr_nil, hrg] at hS
    have hS : ss.Perm [s.data.toList] := hS
    have : ss = [s.data.toList] := List.perm_singleton.1 hS
    subst this
    have h0 : es.size = 1 := by rw [← Array.length_toList, h]; rfl
    refine ⟨v, rfl, fun h => by omega, ?_, hbel⟩
    rw [h0, h]
    simp only [List.map_cons, List.map_nil, h1]
    simpa using hrow'
end Go.Ev
end
section
namespace Go.Ev
open Go.Proofs

/-- The summaries of this program. -/
noncomputable def sums8 (P : Program) : Sums := fun f => match f with
  | 419 => some (insertSum P (sumsI 454) 60 419 2)
  | 422 => some (insertSum P (sumsI 457) 60 422 1)
  | 285 => some joinSum
  | 447 => some indexByteSum
  | 46 => some namesSum
  | _ => none

theorem sums8_ok : SumsOK Tryz.prog (sums8 Tryz.prog) := by
  intro f s hs
  unfold sums8 at hs
  split at hs
  · cases hs; exact sum64
  · cases hs; exact sum80
  · cases hs; exact join175
  · cases hs; exact idx177
  · cases hs; exact namesSum_ok (fun cs w => codeOf_enter (by kernel_rfl) cs w) names46
  · cases hs

/-- The summaries, and those functions that answer true. -/
noncomputable def sumsB (l : List Nat) : Sums := fun f => bif2 (l.any (Nat.beq f)) (some begunSum) (sums8 Tryz.prog f)

theorem sumsB_ok {l : List Nat} (h : ∀ f, f ∈ l → SumOK Tryz.prog f begunSum) : SumsOK Tryz.prog (sumsB l) := by
  intro f s hs
  unfold sumsB at hs
  rw [bif2_eq] at hs
  split at hs
  · rename_i hf
    cases hs
    obtain ⟨g, hg, e⟩ := List.any_eq_true.1 hf
    have e : f = g := Nat.eq_of_beq_eq_true e
    subst e
    exact h f hg
  · exact sums8_ok f s hs

noncomputable def okTrue : OR → Bool
  | .mk (.bool true) _ => true
  | _ => false
theorem okTrue_inv {r : OR} (h : okTrue r = true) : ∃ m, r = .mk (.bool true) m := by
  unfold okTrue at h
  split at h
  · exact ⟨_, rfl⟩
  · cases h

theorem begun_of {l : List Nat} (h : ∀ f, f ∈ l → SumOK Tryz.prog f begunSum) {f : Nat} (hf : sumsB l f = none) (hr : okTrue (call Tryz.prog (sumsB l) 100000 f [] ⟨0, .leaf⟩) = true) : SumOK Tryz.prog f begunSum := by
  obtain ⟨m1, e⟩ := okTrue_inv hr
  exact begunSum_ok mixed (sumsB_ok h) hf e
end Go.Ev
end
