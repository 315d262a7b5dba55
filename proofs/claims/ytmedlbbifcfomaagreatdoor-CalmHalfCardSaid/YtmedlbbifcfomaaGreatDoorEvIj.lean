/- What a function comes to, noted. What a function comes to, noted. What a function comes to, noted. More notes. -/
import Derived.Test.YtmedlbbifcfomaaGreatDoorEvIa
import Derived.Test.YtmedlbbifcfomaaGreatDoorEvIb
import Derived.Test.YtmedlbbifcfomaaGreatDoorEvIc
import Derived.Test.YtmedlbbifcfomaaGreatDoorEvId
import Derived.Test.YtmedlbbifcfomaaGreatDoorEvIe
import Derived.Test.YtmedlbbifcfomaaGreatDoorEvIf
import Derived.Test.YtmedlbbifcfomaaGreatDoorEvIg
import Derived.Test.YtmedlbbifcfomaaGreatDoorEvIh
import Derived.Test.YtmedlbbifcfomaaGreatDoorEvIi
section
namespace Go.Ev
open Go.Proofs
noncomputable def Y8123 : List AV → AMem → OR := fun args m => memoTry Y8123_0 args m (memoTry Y8123_1 args m (memoTry Y8123_2 args m (memoTry Y8123_3 args m (memoTry Y8123_4 args m (memoTry Y8123_5 args m (memoTry Y8123_6 args m (memoTry Y8123_7 args m (memoTry Y8123_8 args m (memoTry Y8123_9 args m (memoTry Y8123_10 args m (memoTry Y8123_11 args m (memoTry Y8123_12 args m (memoTry Y8123_13 args m (memoTry Y8123_14 args m (call Tryz.prog q8Z 100000 123 args m)))))))))))))))
theorem Y8123_ok : SumOK Tryz.prog 123 Y8123 := memoSum_ok Y8123_0_ok (memoSum_ok Y8123_1_ok (memoSum_ok Y8123_2_ok (memoSum_ok Y8123_3_ok (memoSum_ok Y8123_4_ok (memoSum_ok Y8123_5_ok (memoSum_ok Y8123_6_ok (memoSum_ok Y8123_7_ok (memoSum_ok Y8123_8_ok (memoSum_ok Y8123_9_ok (memoSum_ok Y8123_10_ok (memoSum_ok Y8123_11_ok (memoSum_ok Y8123_12_ok (memoSum_ok Y8123_13_ok (memoSum_ok Y8123_14_ok (fun args m v m1 h => call_sound mixed q8Z_ok 100000 123 args m v m1 h)))))))))))))))
end Go.Ev
end
section
namespace Go.Ev
open Go.Proofs
noncomputable def Y8149 : List AV → AMem → OR := fun args m => memoTry Y8149_0 args m (memoTry Y8149_1 args m (memoTry Y8149_2 args m (memoTry Y8149_3 args m (memoTry Y8149_4 args m (memoTry Y8149_5 args m (memoTry Y8149_6 args m (memoTry Y8149_7 args m (memoTry Y8149_8 args m (memoTry Y8149_9 args m (memoTry Y8149_10 args m (memoTry Y8149_11 args m (memoTry Y8149_12 args m (memoTry Y8149_13 args m (memoTry Y8149_14 args m (call Tryz.prog q8Z 100000 149 args m)))))))))))))))
theorem Y8149_ok : SumOK Tryz.prog 149 Y8149 := memoSum_ok Y8149_0_ok (memoSum_ok Y8149_1_ok (memoSum_ok Y8149_2_ok (memoSum_ok Y8149_3_ok (memoSum_ok Y8149_4_ok (memoSum_ok Y8149_5_ok (memoSum_ok Y8149_6_ok (memoSum_ok Y8149_7_ok (memoSum_ok Y8149_8_ok (memoSum_ok Y8149_9_ok (memoSum_ok Y8149_10_ok (memoSum_ok Y8149_11_ok (memoSum_ok Y8149_12_ok (memoSum_ok Y8149_13_ok (memoSum_ok Y8149_14_ok (fun args m v m1 h => call_sound mixed q8Z_ok 100000 149 args m v m1 h)))))))))))))))
end Go.Ev
end
section
namespace Go.Ev
open Go.Proofs
noncomputable def Y886 : List AV → AMem → OR := fun args m => memoTry Y886_0 args m (memoTry Y886_1 args m (memoTry Y886_2 args m (memoTry Y886_3 args m (memoTry Y886_4 args m (call Tryz.prog q8Z 100000 86 args m)))))
theorem Y886_ok : SumOK Tryz.prog 86 Y886 := memoSum_ok Y886_0_ok (memoSum_ok Y886_1_ok (memoSum_ok Y886_2_ok (memoSum_ok Y886_3_ok (memoSum_ok Y886_4_ok (fun args m v m1 h => call_sound mixed q8Z_ok 100000 86 args m v m1 h)))))
end Go.Ev
end
section
namespace Go.Ev
open Go.Proofs
noncomputable def q8Y : Sums := addS 86 Y886 (addS 149 Y8149 (addS 123 Y8123 (q8Z)))
theorem q8Y_ok : SumsOK Tryz.prog q8Y := addS_ok Y886_ok (addS_ok Y8149_ok (addS_ok Y8123_ok (q8Z_ok)))
end Go.Ev
end
