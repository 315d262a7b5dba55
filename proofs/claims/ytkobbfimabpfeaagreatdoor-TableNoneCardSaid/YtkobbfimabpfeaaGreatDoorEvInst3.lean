/- The summaries of this program. -/
import Derived.Test.YtkobbfimabpfeaaGreatDoorEvIns6
import Derived.Test.YtkobbfimabpfeaaGreatDoorProg
import Derived.KernelRfl
namespace Go.Ev
open Go.Proofs

theorem mixed : Tryz.prog.follows .mixedOrders = true := by kernel_rfl

theorem over88 : SumOK Tryz.prog 97 overSum :=
  overSum_ok (fn := Tryz.f97) (tS := 24) (tR := 4) (e := 3) (i := (Tryz.prog.info? 3).getD default) (by kernel_rfl) (by kernel_rfl) (by kernel_rfl) (by kernel_rfl) (by kernel_rfl) (by kernel_rfl) (by kernel_rfl)

theorem idx177 : SumOK Tryz.prog 195 indexByteSum := indexByteSum_ok (fn := Tryz.f195) (by kernel_rfl) (by kernel_rfl) (by kernel_rfl) (by kernel_rfl) (by kernel_rfl)

noncomputable def elemOf (st : TypeId) : TypeId := match Tryz.prog.underlying st with
  | some (.slice e) => e
  | _ => 0

theorem over75 : SumOK Tryz.prog 94 overSum :=
  overSum_ok (fn := Tryz.f94) (tS := 75) (tR := 4) (e := elemOf 75) (i := (Tryz.prog.info? (elemOf 75)).getD default) (by kernel_rfl) (by kernel_rfl) (by kernel_rfl) (by kernel_rfl) (by kernel_rfl) (by kernel_rfl) (by kernel_rfl)

noncomputable def code80 : Code := Tryz.f87.body.getD .skip
noncomputable def parts80 : InsParts := (insParts code80).getD ⟨.skip, .skip, .skip, .skip, .skip, .skip, .skip, .skip⟩
noncomputable def code64 : Code := Tryz.f84.body.getD .skip
noncomputable def parts64 : InsParts := (insParts code64).getD ⟨.skip, .skip, .skip, .skip, .skip, .skip, .skip, .skip⟩

theorem ins80 : InsCode Tryz.prog Tryz.f87 code80 parts80 24 3 ((Tryz.prog.info? 3).getD default) where
  eq := ⟨_, _, _, _, rfl, ⟨_, _, _, _, _, _, _, _, _, rfl, ⟨rfl, rfl, rfl⟩, ⟨rfl, rfl, rfl⟩, ⟨rfl, rfl, rfl⟩, ⟨rfl, rfl, rfl⟩, ⟨rfl, rfl, rfl⟩, ⟨rfl, rfl, rfl⟩⟩,
    ⟨_, _, _, _, _, _, _, _, rfl, ⟨rfl, rfl, rfl⟩, ⟨rfl, rfl, rfl⟩, ⟨rfl, rfl, rfl⟩, ⟨rfl, rfl, rfl⟩, ⟨rfl, rfl, rfl⟩, ⟨rfl, rfl, rfl⟩⟩⟩
  res := rfl
  st := by kernel_rfl
  ei := by kernel_rfl

theorem ins64 : InsCode Tryz.prog Tryz.f84 code64 parts64 75 (elemOf 75) ((Tryz.prog.info? (elemOf 75)).getD default) where
  eq := ⟨_, _, _, _, rfl, ⟨_, _, _, _, _, _, _, _, _, rfl, ⟨rfl, rfl, rfl⟩, ⟨rfl, rfl, rfl⟩, ⟨rfl, rfl, rfl⟩, ⟨rfl, rfl, rfl⟩, ⟨rfl, rfl, rfl⟩, ⟨rfl, rfl, rfl⟩⟩,
    ⟨_, _, _, _, _, _, _, _, rfl, ⟨rfl, rfl, rfl⟩, ⟨rfl, rfl, rfl⟩, ⟨rfl, rfl, rfl⟩, ⟨rfl, rfl, rfl⟩, ⟨rfl, rfl, rfl⟩, ⟨rfl, rfl, rfl⟩⟩⟩
  res := rfl
  st := by kernel_rfl
  ei := by kernel_rfl

theorem sum80 : SumOK Tryz.prog 87 (insertSum Tryz.prog (sumsI 97) 60 87 1) :=
  insertSum_ok mixed (sumsI_ok over88) (code := code80) (p := parts80) (by kernel_rfl) ins80 (by kernel_rfl) (by decide) (by decide)
theorem sum64 : SumOK Tryz.prog 84 (insertSum Tryz.prog (sumsI 94) 60 84 2) :=
  insertSum_ok mixed (sumsI_ok over75) (code := code64) (p := parts64) (by kernel_rfl) ins64 (by kernel_rfl) (by decide) (by decide)
end Go.Ev
