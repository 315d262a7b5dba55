/- What is proved: the ties of this program, as the given text of ties states them, each of the closed facts a lemma of its own: at one go they take more memory than a process may have. Nothing is assumed beyond what the given constants themselves say. -/
import Derived.Test.YtmedlbbifcfomaaGreatDoorRows
import Derived.LaidByTextLater
import Derived.SevenTiedAt
namespace Go.Proofs.YtmedlbbifcfomaaGreatDoor
open Go
theorem ownNoOwnUnsafe : Tryz.pinned.checked.prog.headLifts.contains "ownunsafe" = false := by kernel_rfl
set_option maxHeartbeats 8000000 in
theorem ownTie : Tryz.prog.laidByTextLater [("strconv.ErrSyntax", Rows.laid_strconv_ErrSyntax), ("strconv.ErrRange", Rows.laid_strconv_ErrRange), ("internal/strconv.uint64pow10", Rows.laid_internal_strconv_uint64pow10), ("math/bits.deBruijn32tab", Rows.laid_math_bits_deBruijn32tab), ("math/bits.deBruijn64tab", Rows.laid_math_bits_deBruijn64tab)] [.sentinel, .sentinel, .data, .data, .data] true :=
  Program.laidByTextLater_by_run 400 8 (by as_aux_lemma => kernel_rfl) (by as_aux_lemma => kernel_rfl) (by as_aux_lemma => kernel_rfl) (by as_aux_lemma => kernel_rfl) (by as_aux_lemma => kernel_rfl) (by as_aux_lemma => kernel_rfl) (fun _ _ => by as_aux_lemma => kernel_rfl) (fun _ _ => by as_aux_lemma => kernel_rfl) (fun _ _ => by as_aux_lemma => kernel_rfl)
theorem nodePack_own_tie : Rows.nodePackRow.laidByTextAt .later Tryz.pinned [.sentinel, .sentinel, .data, .data, .data] true :=
  OpenClaim.laidByTextAt_later rfl rfl ownTie ownNoOwnUnsafe
theorem worldSizes_own_tie : Rows.worldSizesRow.laidByTextAt .later Tryz.pinned [.sentinel, .sentinel, .data, .data, .data] true :=
  OpenClaim.laidByTextAt_later rfl rfl ownTie ownNoOwnUnsafe
theorem worldDown_own_tie : Rows.worldDownRow.laidByTextAt .later Tryz.pinned [.sentinel, .sentinel, .data, .data, .data] true :=
  OpenClaim.laidByTextAt_later rfl rfl ownTie ownNoOwnUnsafe
theorem worldSend_own_tie : Rows.worldSendRow.laidByTextAt .later Tryz.pinned [.sentinel, .sentinel, .data, .data, .data] true :=
  OpenClaim.laidByTextAt_later rfl rfl ownTie ownNoOwnUnsafe
theorem calmHalf_own_tie : Rows.calmHalfRow.laidByTextAt .later Tryz.pinned [.sentinel, .sentinel, .data, .data, .data] true :=
  OpenClaim.laidByTextAt_later rfl rfl ownTie ownNoOwnUnsafe
theorem nodePackUpto_own_tie : Rows.nodePackUptoRow.laidByTextAt .later Tryz.pinned [.sentinel, .sentinel, .data, .data, .data] true :=
  OpenClaim.laidByTextAt_later rfl rfl ownTie ownNoOwnUnsafe
theorem worldSizesUpto_own_tie : Rows.worldSizesUptoRow.laidByTextAt .later Tryz.pinned [.sentinel, .sentinel, .data, .data, .data] true :=
  OpenClaim.laidByTextAt_later rfl rfl ownTie ownNoOwnUnsafe
theorem worldDownUpto_own_tie : Rows.worldDownUptoRow.laidByTextAt .later Tryz.pinned [.sentinel, .sentinel, .data, .data, .data] true :=
  OpenClaim.laidByTextAt_later rfl rfl ownTie ownNoOwnUnsafe
theorem worldSendUpto_own_tie : Rows.worldSendUptoRow.laidByTextAt .later Tryz.pinned [.sentinel, .sentinel, .data, .data, .data] true :=
  OpenClaim.laidByTextAt_later rfl rfl ownTie ownNoOwnUnsafe
theorem calmHalfUpto_own_tie : Rows.calmHalfUptoRow.laidByTextAt .later Tryz.pinned [.sentinel, .sentinel, .data, .data, .data] true :=
  OpenClaim.laidByTextAt_later rfl rfl ownTie ownNoOwnUnsafe
end Go.Proofs.YtmedlbbifcfomaaGreatDoor
