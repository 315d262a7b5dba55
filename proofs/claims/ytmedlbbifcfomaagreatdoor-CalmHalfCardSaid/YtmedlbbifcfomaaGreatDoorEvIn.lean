/- What a function comes to, noted. What a function comes to, noted. More notes. -/
import Derived.Test.YtmedlbbifcfomaaGreatDoorEvIk
import Derived.Test.YtmedlbbifcfomaaGreatDoorEvIl
import Derived.Test.YtmedlbbifcfomaaGreatDoorEvIm
section
namespace Go.Ev
open Go.Proofs
noncomputable def W810 : List AV → AMem → OR := fun args m => memoTry W810_0 args m (memoTry W810_1 args m (memoTry W810_2 args m (memoTry W810_3 args m (memoTry W810_4 args m (memoTry W810_5 args m (memoTry W810_6 args m (call Tryz.prog q8Y 100000 10 args m)))))))
theorem W810_ok : SumOK Tryz.prog 10 W810 := memoSum_ok W810_0_ok (memoSum_ok W810_1_ok (memoSum_ok W810_2_ok (memoSum_ok W810_3_ok (memoSum_ok W810_4_ok (memoSum_ok W810_5_ok (memoSum_ok W810_6_ok (fun args m v m1 h => call_sound mixed q8Y_ok 100000 10 args m v m1 h)))))))
end Go.Ev
end
section
namespace Go.Ev
open Go.Proofs
noncomputable def W823 : List AV → AMem → OR := fun args m => memoTry W823_0 args m (call Tryz.prog q8Y 100000 23 args m)
theorem W823_ok : SumOK Tryz.prog 23 W823 := memoSum_ok W823_0_ok (fun args m v m1 h => call_sound mixed q8Y_ok 100000 23 args m v m1 h)
end Go.Ev
end
section
namespace Go.Ev
open Go.Proofs
noncomputable def q8W : Sums := addS 23 W823 (addS 10 W810 (q8Y))
theorem q8W_ok : SumsOK Tryz.prog q8W := addS_ok W823_ok (addS_ok W810_ok (q8Y_ok))
end Go.Ev
end
