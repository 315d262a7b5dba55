/- All notes. -/
import Derived.Test.YtmedlbbifcfomaaGreatDoorEvHg
import Derived.Test.YtmedlbbifcfomaaGreatDoorEvHh
import Derived.Test.YtmedlbbifcfomaaGreatDoorEvHd
import Derived.Test.YtmedlbbifcfomaaGreatDoorEvHf
import Derived.Test.YtmedlbbifcfomaaGreatDoorEvHe
import Derived.Test.YtmedlbbifcfomaaGreatDoorEvHc
namespace Go.Ev
open Go.Proofs
noncomputable def q8Z : Sums := addS 227 M8227 (addS 100 G8100 (addS 437 R8437 (addS 473 K8473 (addS 472 S8472 (addS 170 L8170 (addS 168 T8168 (addS 226 A8226 (addS 435 O8435 (addS 210 X8210 (addS 92 X892 ((sums8 Tryz.prog))))))))))))
theorem q8Z_ok : SumsOK Tryz.prog q8Z := addS_ok M8227_ok (addS_ok G8100_ok (addS_ok R8437_ok (addS_ok K8473_ok (addS_ok S8472_ok (addS_ok L8170_ok (addS_ok T8168_ok (addS_ok A8226_ok (addS_ok O8435_ok (addS_ok X8210_ok (addS_ok X892_ok (sums8_ok)))))))))))
end Go.Ev
