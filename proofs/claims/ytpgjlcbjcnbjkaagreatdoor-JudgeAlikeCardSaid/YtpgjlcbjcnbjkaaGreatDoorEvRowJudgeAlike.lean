/-
  THE SHELL OF A PROOF OF 'Rows.JudgeAlikeSaid' ('donatus/donatuslaw33.JudgeAlike'), WRITTEN BY PROGRAM (proof-skeleton.mjs) off the guide's own print for that function. Not trusted: Lean checks it.
  YOURS ARE THE HOLES MARKED 'HOLE' (each bears 'sorry'). ALL ELSE IS THE GUIDE's TEMPLATE (howto/template/XProofs.lean) at this function's number and types: leave it.
-/
import Derived.Test.YtpgjlcbjcnbjkaaGreatDoorRows
import Derived.WalkKit
import Derived.ProofKit
import Derived.OpenShut
import Derived.Below
import Derived.LaidMore
import Derived.LaidLaws
import Derived.ChangeVars
import Derived.JoinedOf
import Derived.ChangeSame
import Derived.Stop.Joined
import Derived.Carry
import Derived.Lib.SmallJoins
import Derived.SliceStrings
import Derived.ChangeArms
import Derived.Test.YtpgjlcbjcnbjkaaGreatDoorEvJudge5
namespace Go.Proofs.YtpgjlcbjcnbjkaaGreatDoor.judgeAlike
open Go.ChangeShapes Go.WideShapes Go.ChangeAt Go.RowKit
set_option linter.unusedVariables false      -- a walk need not use every 'w<i>' (that an integer argument fits its kind)

theorem own : ownKnob Tryz.prog.godebug = none := by kernel_rfl

/-! ### STEP 1: THE WALK: the Go text returns true. 'Grown w w'': the world has at most new blocks (Derived/RowKit3.lean). Part the cases AHEAD of 'go_enter' where a test parts the walk; take each callee by a contract of your own. -/
theorem laidOut : laidOutB Tryz.prog = true := by kernel_rfl
open Go.Proofs.YtpgjlcbjcnbjkaaGreatDoorW.PrintWords in
theorem walk (e0 : Int) (s0 : ByteArray) (t0 : Int) (A0 : Option Addr) (c0 : Nat) (xs0 : List ByteArray) (e1 : Int) (s1 : ByteArray) (t1 : Int) (A1 : Option Addr) (c1 : Nat) (xs1 : List ByteArray) (w : World)
    (h0 : Kd.C Kd.string w A0 xs0.length xs0) (l0 : xs0.length ≤ c0) (h1 : Kd.C Kd.string w A1 xs1.length xs1) (l1 : xs1.length ≤ c1) :
    Calls Tryz.prog 9 #[.agg #[.int .i64 e0, .string s0, .int .i64 t0, .slice A0 xs0.length c0], .agg #[.int .i64 e1, .string s1, .int .i64 t1, .slice A1 xs1.length c1]] w fun e w' => e = .returned (.bool true) ∧ Below w.heap.size w w' := PJ.judge9 Go.Ev.begun38_calls e0 s0 t0 A0 c0 xs0 e1 s1 t1 A1 c1 xs1 w h0 l0 h1 l1

/-- A list of texts that came in, as it is read. -/
theorem texts_read {H : Type} {enc : TypeId × Value → H} {W : World} {n : Nat} {v : Value} {y : DataW H × List MemPlace} (h : DataW.trod enc Tryz.prog W 0 (fun _ => true) true n 35 [v] = some y) :
    ∃ (A : Option Addr) (c : Nat) (xs : List ByteArray), v = .slice A xs.length c ∧ xs.length ≤ c ∧ Go.Proofs.YtpgjlcbjcnbjkaaGreatDoorW.PrintWords.Kd.C Go.Proofs.YtpgjlcbjcnbjkaaGreatDoorW.PrintWords.Kd.string W A xs.length xs := by
  rcases open_strings Tryz.underlying35 Tryz.underlying9 (by kernel_rfl) h with ⟨hc, _⟩ | ⟨a, len, cap, ss, hc, _, hl, hm, hs, _, hcell, _⟩
  · obtain rfl : v = .slice none 0 0 := by simpa using hc
    exact ⟨none, 0, [], rfl, Nat.le_refl _, Go.Proofs.YtpgjlcbjcnbjkaaGreatDoorW.PrintWords.Kd.C_nil _ _⟩
  · obtain rfl : v = .slice (some a) len cap := by simpa using hc
    have hs' : ss.length = cap := by simpa using hs
    have ht : (ss.take len).length = len := by simp; omega
    unfold maxLen at hm
    refine ⟨some a, cap, ss.take len, by rw [ht], by omega, Go.Proofs.YtpgjlcbjcnbjkaaGreatDoorW.PrintWords.Kd.C_of_reads (d := ByteArray.empty) ⟨rfl, by omega, fun _ => ⟨a, rfl, fun j hj => ?_⟩⟩⟩
    rw [hcell j (by omega)]
    simp [List.getD, show j < len by omega]

set_option maxRecDepth 100000 in
/-- An answer that came in, as it is read. -/
theorem answer_read {H : Type} {enc : TypeId × Value → H} {W : World} {b : Nat} {v : Value} {d : DataW H} {p : List MemPlace} (hv : Value.okWide Tryz.prog W .any b 81 v) (h : DataW.Trod enc Tryz.prog W 0 (fun _ => true) true 81 v d p) :
    ∃ (e : Int) (s : ByteArray) (t : Int) (A : Option Addr) (c : Nat) (xs : List ByteArray), v = .agg #[.int .i64 e, .string s, .int .i64 t, .slice A xs.length c] ∧ xs.length ≤ c ∧ Go.Proofs.YtpgjlcbjcnbjkaaGreatDoorW.PrintWords.Kd.C Go.Proofs.YtpgjlcbjcnbjkaaGreatDoorW.PrintWords.Kd.string W A xs.length xs := by
  obtain ⟨x0, x1, x2, x3, y0, y1, y2, y3, n, rfl, _, _, h0, h1, h2, h3⟩ := Go.Joins.open_agg4 Tryz.underlying81 (by kernel_rfl) (by kernel_rfl) hv h
  obtain ⟨e, he, _, _⟩ := DataW.trod_int Tryz.underlying48 h0
  obtain ⟨s, hs, _, _⟩ := DataW.trod_string Tryz.underlying9 h1
  obtain ⟨t, ht, _, _⟩ := DataW.trod_int Tryz.underlying3 h2
  obtain ⟨A, c, xs, rfl, hl, hr⟩ := texts_read h3
  obtain rfl : x0 = .int .i64 e := by simpa using he
  obtain rfl : x1 = .string s := by simpa using hs
  obtain rfl : x2 = .int .i64 t := by simpa using ht
  exact ⟨e, s, t, A, c, xs, rfl, hl, hr⟩


theorem door_met (os : Os) (args : Array Value) : laidMetH Tryz.prog Rows.judgeAlikeRow.laid ((World.doorLaid Tryz.prog 4000 os).forCall (fun _ _ => 0) ⟨#[], args, []⟩).memory :=
  laidMetH_of_parts3 (fuel := 8) (laidMet_of_run' 8 (by kernel_rfl) (by kernel_rfl)) (by kernel_rfl) (by kernel_rfl)


/-- No place was met ahead of the call: old memory is as it was. -/
theorem post_of_empty {H : Type} {enc : TypeId × Value → H} {P : Program} {f : Func} {s : ChangeSpec} {apart fresh handsOn again : Bool} {W W' : World} {args : Array Value} {v : Value} {ds gs : List (DataW H)}
    (hW : DataW.Whole enc P f.params.toList s.vars apart W args.toList ds gs [])
    (hres : ∀ (b : Nat) (sp : Nat → Bool) (hd : Bool), DataW.TrodAll enc P W' b sp hd f.resultTypes.toList (v.resultList f.resultTypes.size) (s.fn H (ds ++ gs)).results [])
    (hargs : ∀ sp : Nat → Bool, DataW.TrodAll enc P W' 0 sp true f.params.toList args.toList (s.fn H (ds ++ gs)).args [])
    (hvars : ∀ sp : Nat → Bool, DataW.TrodVars enc P W' sp s.vars (s.fn H (ds ++ gs)).vars [])
    (hk : W.keptBut W' (fun p => p ∈ ([] : List MemPlace)))
    (hok : ∀ (j : Nat) (t : TypeId) (r : Value), f.resultTypes[j]? = some t → (v.resultList f.resultTypes.size)[j]? = some r → Value.okWide P W' .any 0 t r) :
    s.post enc P f apart fresh handsOn again W args v W' := by
  refine ⟨ds, gs, [], [], [], [], hW, hres _ _ _, hargs _, hvars _, World.keptBut_mono (fun p hp => by cases hp) hk, fun _ => ?_⟩
  obtain ⟨_, _, _, _, _, hz, hn⟩ := hW
  refine ⟨hok, _, _, ([] ++ []) ++ [], ⟨[] ++ [], [], trodAll_append (hargs _) (hres _ _ _), hvars _, rfl, ?_, ?_⟩, ?_⟩
  · intro b off hp; simp at hp
  · intro ha; simp
  · intro p hp _; simp at hp

set_option maxRecDepth 100000 in
theorem lifted (os : Os) (started : os.Started) (H : Type) (enc : TypeId × Value → H) :
    ReturnsInHanded {} Tryz.checked os 9 .any (fun w args => (Rows.judgeAlikeSpec.pre enc Tryz.prog Tryz.f9 [] false w args ∧ laidMetH Tryz.prog Rows.judgeAlikeRow.laid w) ∧ sizedMet enc Tryz.prog Tryz.f9 (OpenSpec.ofChange Rows.judgeAlikeSpec) false w args)
      (Rows.judgeAlikeSpec.post enc Tryz.prog Tryz.f9 false true false false) := by
  refine returnsInHanded_of_change_and (C := Tryz.checked) (X := fun w _ => laidMetH Tryz.prog Rows.judgeAlikeRow.laid w) (fun _ _ _ hh h => h.of_heap hh) own started (by kernel_rfl) Tryz.func9
    (ChangeSpec.witness_shaped (enc := enc) (C := Tryz.checked) (os := os) (X := fun w _ => laidMetH Tryz.prog Rows.judgeAlikeRow.laid w) false (World.doorLaid Tryz.prog 4000 os) #[.agg #[.int .i64 0, .string ByteArray.empty, .int .i64 0, .slice none 0 0], .agg #[.int .i64 0, .string ByteArray.empty, .int .i64 0, .slice none 0 0]] 8 rfl (World.shaped_of_RefB (by kernel_rfl) (by kernel_rfl)) (by kernel_rfl) (by kernel_rfl) (by kernel_rfl) (door_met os _)) ?_
  intro W base args ds gs before hval0 hW _ _ hL _
  have hW' := hW
  obtain ⟨p, q, hA0, hV, rfl, hfz, hnd⟩ := hW
  have hA : DataW.TrodAll enc Tryz.prog W 0 (fun _ => true) true Tryz.f9.params.toList args.toList ds p := hA0
  have hval : ∀ (j : Nat) t v, Tryz.f9.params[j]? = some t → args[j]? = some v → Value.okWide Tryz.prog W .any base t v := hval0
  rw [Tryz.params9] at hA hval
  obtain ⟨v0, vs0, d0, ds0, p0, q0, hargs, rfl, rfl, h0, r0⟩ := trodAll_cons hA
  obtain ⟨v1, vs1, d1, ds1, p1, q1, rfl, rfl, rfl, h1, r1⟩ := trodAll_cons r0
  obtain ⟨rfl, rfl, rfl⟩ := trodAll_nil r1
  obtain rfl : args = #[v0, v1] := by cases args; simp_all
  obtain ⟨rfl, rfl⟩ := trodVars_none hV
  have k0 := h0
  have lt0 : ∀ x ∈ p0, x.block < W.heap.size := by obtain ⟨m, hm⟩ := k0; exact DataW.trod_lt m _ _ _ hm
  obtain ⟨e0, s0, t0, A0, c0, xs0, rfl, l0, g0⟩ := answer_read (hval 0 81 v0 rfl rfl) h0
  have k1 := h1
  have lt1 : ∀ x ∈ p1, x.block < W.heap.size := by obtain ⟨m, hm⟩ := k1; exact DataW.trod_lt m _ _ _ hm
  obtain ⟨e1, s1, t1, A1, c1, xs1, rfl, l1, g1⟩ := answer_read (hval 1 81 v1 rfl rfl) h1
  clear hA0 hval0
  refine (walk e0 s0 t0 A0 c0 xs0 e1 s1 t1 A1 c1 xs1 W g0 l0 g1 l1).mono fun e W' ⟨he, bel⟩ => ?_
  subst he
  exact ⟨_, rfl, _, _, _, [], _, [], hW', trodAll_mk1 (shut_bool Tryz.underlying4 _), (trodAll_cons_mk (Below.trod laidOut (by kernel_rfl) (of_decide_eq_true (by kernel_rfl)) k0 bel lt0) (trodAll_cons_mk (Below.trod laidOut (by kernel_rfl) (of_decide_eq_true (by kernel_rfl)) k1 bel lt1) trodAll_mk0)), rfl, bel.frame _, fun h => by cases h⟩

theorem both {a b : Bool} (ha : a = true) (hb : b = true) : (a && b) = true := by rw [ha, hb]; rfl
set_option maxHeartbeats 8000000 in
theorem facts : joinedFacts Tryz.checked.prog 9 Tryz.f9 Rows.judgeAlikeSpec Rows.judgeAlikeRow = true := by
  unfold joinedFacts
  repeat' (with_reducible refine both ?_ ?_)
  all_goals as_aux_lemma => kernel_rfl
set_option maxRecDepth 100000 in
theorem over : Rows.judgeAlikeRow.holds Tryz.pinned (OpenSpec.ofChange Rows.judgeAlikeSpec) :=
  OpenClaim.holds_of_wide 9 Tryz.f9 rfl rfl rfl rfl rfl rfl rfl ⟨rfl, rfl, rfl, rfl, rfl⟩ rfl rfl rfl rfl rfl (by kernel_rfl) Tryz.func9 facts
    (of_decide_eq_true (by kernel_rfl)) (by unfold Func.isWrapper; first | (rw [if_pos (by decide +kernel)]; kernel_rfl) | (rw [if_neg (by decide +kernel)]; exact ⟨rfl, rfl⟩))
    (fun os started H enc _ => lifted os started H enc)

theorem proved : Rows.JudgeAlikeSaid := over
#print axioms proved
end Go.Proofs.YtpgjlcbjcnbjkaaGreatDoor.judgeAlike
