/- Are two rows of items the same; where does one stand among others: Equal, the program's test, IndexFunc. The evaluator as a logic, 8: parts of slices, copy, append of noughts. slices.Insert of one item: where there is no room. slices.Insert, summed: what its sum comes to with fuel enough. slices.Insert at the end, and into nothing. slices.Insert where there is room: what lies behind the first steps. slices.Insert in the middle. slices.Insert, whole. slices.Insert of one item: its contract. The plain law of a set: an item that isn't there, laid where it belongs. A set's Add. A set's Add of what isn't there. The evaluator as a logic, 9: rules that name the memory behind an operation; elements of rows by their cells. The evaluator as a logic, 10: two ways behind a question. -/
import Derived.Test.YtehbmncbojngnaaGreatDoorEvGf
section
namespace Go.Ev
set_option linter.all false
open Go.Proofs
set_option maxRecDepth 10000
theorem neq54 {x y : Int × Int} {m : AMem} {l : Bool} : aBin2 Tryz.prog .neq 54 l (itV x) (itV y) m = .mk (.bool (!decide (x = y))) m := by
  have e : aBin2 Tryz.prog .neq 54 l (itV x) (itV y) m = (match (match iEq x.1 y.1 with | true => (match iEq x.2 y.2 with | true => some true | false => some false) | false => some false) with | some r => flip .neq r m | none => .fail 22) := by kernel_rfl
  rw [e, iEq_eq, iEq_eq]
  by_cases h1 : x.1 = y.1
  · by_cases h2 : x.2 = y.2
    · rw [show (x.1 == y.1) = true by simp [h1], show (x.2 == y.2) = true by simp [h2], decide_eq_true (Prod.ext h1 h2)]; rfl
    · rw [show (x.1 == y.1) = true by simp [h1], show (x.2 == y.2) = false by simp [h2], decide_eq_false (fun h => h2 (by rw [h]))]; rfl
  · rw [show (x.1 == y.1) = false by simp [h1], decide_eq_false (fun h => h1 (by rw [h]))]; rfl
theorem dEq {i j : Nat} (h : i = j) : decide (Int.ofNat i = Int.ofNat j) = true := decide_eq_true (by rw [h])
theorem dNe {i j : Nat} (h : i ≠ j) : decide (Int.ofNat i = Int.ofNat j) = false := decide_eq_false fun k => h (Int.ofNat.inj k)
theorem call48 {S : Sums} (hS : S 48 = none) {m : AMem} {u v : AV} {xs ys : List (Int × Int)} (hu : RowIs itC 2 m u xs) (hv : RowIs itC 2 m v ys) (hx : xs.length < 1048576) : CallTo Tryz.prog S 48 [u, v] m (.bool (decide (xs = ys))) m := by
  suffices H : ∃ r m', CallTo Tryz.prog S 48 [u, v] m r m' ∧ r = .bool (decide (xs = ys)) ∧ m' = m by
    obtain ⟨r, m', h, rfl, rfl⟩ := H
    exact h
  refine XP.call hS cd48 nt48 ?_
  show XP _ _ _ _ (toT .leaf [(1, v), (0, u)]) m _
  unfold Tryz.f48
  dsimp only [Option.getD_some]
  refine XP.seq ?_; refine XP.regionS ?_; refine RP.o1 (.assign rfl) rfl rfl ?_; refine RP.nil ?_; refine XP.seq ?_; refine XP.seq ?_; refine XP.regionS ?_; refine RP.o1 (.move rfl) rfl rfl ?_; refine RP.o1 (.len rfl (rowLen hu)) rfl rfl ?_; refine RP.o1 (.move rfl) rfl rfl ?_; refine RP.o1 (.len rfl (rowLen hv)) rfl rfl ?_; refine RP.o1 (.bin rfl rfl neq_is) rfl rfl ?_; refine RP.nil ?_
  refine XP.condS _ rfl ?_  -- if t10
  by_cases hlen : xs.length = ys.length
  · rw [dEq hlen]
    refine XP.skip ?_; refine XP.seq ?_; refine XP.seq ?_; refine XP.regionS ?_; refine RP.o1 (.move rfl) rfl rfl ?_; refine RP.o1 (.len rfl (rowLen hu)) rfl rfl ?_; refine RP.o1 (.move rfl) rfl rfl ?_; refine RP.nil ?_
    refine XP.block ?_  -- block 0
    refine XP.while (fun d t m1 => ∃ i t0, t = toT t0 [(13, .int .i64 (.ofNat i)), (12, .int .i64 (.ofNat xs.length)), (1, v), (0, u)] ∧ d = xs.length - i ∧ i ≤ xs.length ∧ (∀ k : Nat, k < i → xs[k]? = ys[k]?) ∧ m1 = m) ?_ xs.length _ _ ?_
    rotate_left
    · exact ⟨0, _, toT_less (.cons rfl (.cons rfl (.cons rfl (.cons rfl .nil)))), rfl, Nat.zero_le _, fun k hk => absurd hk (Nat.not_lt_zero _), rfl⟩
    rintro d t m1 ⟨i, t0, rfl, rfl, hin, hsame, rfl⟩
    refine XP.seq ?_; refine XP.regionS ?_; refine RP.o1 (.bin rfl rfl lss_is) rfl rfl ?_; refine RP.nil ?_; refine XP.seq ?_
    refine XP.condS _ rfl ?_  -- if t14
    by_cases hlt : i < xs.length
    · rw [dlt hlt]
      refine XP.skip ?_
      obtain ⟨x, hx1⟩ : ∃ x, xs[i]? = some x := ⟨xs[i]'hlt, List.getElem?_eq_getElem _⟩
      obtain ⟨y, hy1⟩ : ∃ y, ys[i]? = some y := ⟨ys[i]'(by omega), List.getElem?_eq_getElem _⟩
      rcases hu with ⟨_, rfl⟩ | ⟨_, rfl⟩ | ⟨b, off, cap, rfl, R⟩
      · cases hx1
      · cases hx1
      rcases hv with ⟨_, rfl⟩ | ⟨_, rfl⟩ | ⟨b2, off2, cap2, rfl, R2⟩
      · cases hy1
      · cases hy1
      obtain ⟨E1, N1, hb1, hn1⟩ := R.blk
      obtain ⟨E2, N2, hb2, hn2⟩ := R2.blk
      refine XP.seq ?_
      refine XP.block ?_  -- block 1
      refine XP.seq ?_; refine XP.regionS ?_; refine RP.o1 (.move rfl) rfl rfl ?_; refine RP.o1 (.assign rfl) rfl rfl ?_; refine RP.nil ?_; refine XP.seq ?_; refine XP.drawnS (ms := [0, 0, 3, 7, 0, 0, 48, 112, 255]) (by kernel_rfl) ?_; refine DP.pure (.move rfl) rfl rfl rfl ?_; refine DP.pure (.move rfl) rfl rfl rfl ?_; refine DP.pure (.indexAddr rfl rfl ix46 hlt) rfl rfl rfl ?_; refine DP.read (fun _ => op_loadN (l := itC x) (ev_is rfl) lay54 (fun j hj => R.at_ i _ hx1 j hj) hb1 (by show off + i * 2 + 2 ≤ N1; omega)) rfl rfl rfl (fun _ => op_load_leaf) (.inl (by kernel_rfl)) (fun _ => cuts_nil) ?_
      refine DP.pure (.move rfl) rfl rfl rfl ?_; refine DP.pure (.move rfl) rfl rfl rfl ?_; refine DP.pure (.indexAddr rfl rfl ix46 (by omega)) rfl rfl rfl ?_; refine DP.read (fun _ => op_loadN (l := itC y) (ev_is rfl) lay54 (fun j hj => R2.at_ i _ hy1 j hj) hb2 (by show off2 + i * 2 + 2 ≤ N2; omega)) rfl rfl rfl (fun _ => op_load_leaf) (.inl (by kernel_rfl)) (fun _ => cuts_nil) ?_
      refine DP.pure (.bin rfl rfl neq54) rfl rfl rfl ?_; refine DP.nil ?_
      refine XP.condS _ rfl ?_  -- if t24
      by_cases hxy : x = y
      · rw [decide_eq_true hxy]
        refine XP.skip ?_; refine XP.regionS ?_; refine RP.o1 (.bin rfl rfl (v := .int .i64 (.ofNat (i + 1))) (add_is (by show _ ≤ (i : Int) + 1; omega) (by show (i : Int) + 1 < _; omega))) rfl rfl ?_
        refine RP.o1 (.move rfl) rfl rfl ?_; refine RP.nil ?_
        refine ⟨xs.length - (i + 1), by omega, i + 1, _, toT_less (.cons rfl (.cons rfl (.cons rfl (.cons rfl .nil)))), rfl, hlt, fun k hk => ?_, rfl⟩
        rcases Nat.lt_or_ge k i with h | h
        · exact hsame k h
        · obtain rfl : k = i := by omega
          rw [hx1, hy1, hxy]
      · rw [decide_eq_false hxy]
        refine XP.seq ?_; refine XP.regionS ?_; refine RP.o1 (.assign rfl) rfl rfl ?_; refine RP.nil ?_
        refine XP.ret ⟨.inr rfl, _, _, oneRes rfl, ?_, rfl⟩
        rw [decide_eq_false (fun h => hxy (by rw [h, hy1] at hx1; injection hx1 with e; exact e.symm))]; rfl
    · rw [dnlt hlt]
      refine XP.exit ?_; refine XP.seq ?_; refine XP.regionS ?_; refine RP.o1 (.assign rfl) rfl rfl ?_; refine RP.nil ?_
      refine XP.ret ⟨.inr rfl, _, _, oneRes rfl, ?_, rfl⟩
      rw [decide_eq_true]
      · rfl
      · apply List.ext_getElem?
        intro k
        by_cases hk : k < i
        · exact hsame k hk
        · rw [List.getElem?_eq_none (by omega), List.getElem?_eq_none (by omega)]
  · rw [dNe hlen]
    refine XP.seq ?_; refine XP.regionS ?_; refine RP.o1 (.assign rfl) rfl rfl ?_; refine RP.nil ?_
    refine XP.ret ⟨.inr rfl, _, _, oneRes rfl, ?_, rfl⟩
    rw [decide_eq_false (fun h => hlen (by rw [h]))]; rfl
/-- The program's test: is a row that one? -/
theorem call47 {S : Sums} (hS : Plain S [47, 48]) {m : AMem} {kb : Nat} {u v : AV} {xs ys : List (Int × Int)} (hc : m.cell kb 0 = some v) (hu : RowIs itC 2 m u xs) (hv : RowIs itC 2 m v ys) (hx : xs.length < 1048576) : CallTo Tryz.prog S 47 [u, .ptr kb 0] m (.bool (decide (xs = ys))) m := by
  suffices H : ∃ r m', CallTo Tryz.prog S 47 [u, .ptr kb 0] m r m' ∧ r = .bool (decide (xs = ys)) ∧ m' = m by
    obtain ⟨r, m', h, rfl, rfl⟩ := H
    exact h
  refine XP.call (hS 47 (by decide)) cd47 nt47 ?_
  show XP _ _ _ _ (toT .leaf [(1, .ptr kb 0), (0, u)]) m _
  unfold Tryz.f47
  dsimp only [Option.getD_some]
  refine XP.seq ?_; refine XP.regionS ?_; refine RP.o1 (.assign rfl) rfl rfl ?_; refine RP.nil ?_; refine XP.seq ?_; refine XP.regionS ?_; refine RP.o1 (.move rfl) rfl rfl ?_; refine RP.o1 (.load1 rfl lay46 hc) rfl rfl ?_; refine RP.o1 (.callS rfl rfl (call48 (hS 48 (by decide)) hu hv hx)) rfl rfl ?_; refine RP.o1 (.assign rfl) rfl rfl ?_; refine RP.nil ?_
  exact XP.ret ⟨.inr rfl, _, _, oneRes rfl, rfl, rfl⟩
/-- A row of rows of items. -/
noncomputable def KernsIs (m : AMem) (v : AV) (ks : List (List (Int × Int))) : Prop := ∃ raw : List AV, RowIs (fun a => [a]) 1 m v raw ∧ raw.length = ks.length ∧ ∀ (i : Nat) a k, raw[i]? = some a → ks[i]? = some k → RowIs itC 2 m a k
theorem rowLen68 {m : AMem} {v : AV} {raw : List AV} (h : RowIs (fun a => [a]) 1 m v raw) {M : AMem} : aLen Tryz.prog 68 v M = .mk (.int .i64 (.ofNat raw.length)) M := by
  rcases h with ⟨rfl, rfl⟩ | ⟨rfl, rfl⟩ | ⟨b, off, cap, rfl, _⟩
  · exact len68n
  · exact len68e
  · exact len68
/-- Where a row of items stands first; -1: nowhere. -/
noncomputable def firstAt (ks : List (List (Int × Int))) (k : List (Int × Int)) : Int := match ks.findIdx? (fun x => decide (x = k)) with
  | some i => Int.ofNat i
  | none => -1
theorem call46 {S : Sums} (hS : Plain S [46, 47, 48]) {m : AMem} {kb : Nat} {u v : AV} {ks : List (List (Int × Int))} {k : List (Int × Int)} (hc : m.cell kb 0 = some v) (hu : KernsIs m u ks) (hv : RowIs itC 2 m v k) (hx : ks.length < 1048576) (hl : ∀ x ∈ ks, x.length < 1048576) :
    CallTo Tryz.prog S 46 [u, .fn 47 [.ptr kb 0]] m (.int .i64 (firstAt ks k)) m := by
  have hS' : Plain S [47, 48] := fun f hf => hS f (by simp at hf ⊢; omega)
  suffices H : ∃ r m', CallTo Tryz.prog S 46 [u, .fn 47 [.ptr kb 0]] m r m' ∧ r = .int .i64 (firstAt ks k) ∧ m' = m by
    obtain ⟨r, m', h, rfl, rfl⟩ := H
    exact h
  obtain ⟨raw, hraw, hlen, hrel⟩ := hu
  refine XP.call (hS 46 (by decide)) cd46 nt46 ?_
  show XP _ _ _ _ (toT .leaf [(1, .fn 47 [.ptr kb 0]), (0, u)]) m _
  unfold Tryz.f46
  dsimp only [Option.getD_some]
  refine XP.seq ?_; refine XP.regionS ?_; refine RP.o1 (.assign rfl) rfl rfl ?_; refine RP.nil ?_; refine XP.seq ?_; refine XP.seq ?_; refine XP.regionS ?_; refine RP.o1 (.move rfl) rfl rfl ?_; refine RP.o1 (.len rfl (rowLen68 hraw)) rfl rfl ?_; refine RP.o1 (.move rfl) rfl rfl ?_; refine RP.nil ?_
  refine XP.block ?_  -- block 0
  refine XP.while (fun d t m1 => ∃ i t0, t = toT t0 [(8, .int .i64 (.ofNat i)), (7, .int .i64 (.ofNat raw.length)), (1, .fn 47 [.ptr kb 0]), (0, u)] ∧ d = raw.length - i ∧ i ≤ raw.length ∧ (∀ (j : Nat) x, j < i → ks[j]? = some x → x ≠ k) ∧ m1 = m) ?_ raw.length _ _ ?_
  rotate_left
  · exact ⟨0, _, toT_less (.cons rfl (.cons rfl (.cons rfl (.cons rfl .nil)))), rfl, Nat.zero_le _, fun j _ hj => absurd hj (Nat.not_lt_zero _), rfl⟩
  rintro d t m1 ⟨i, t0, rfl, rfl, hin, hne, rfl⟩
  refine XP.seq ?_; refine XP.regionS ?_; refine RP.o1 (.bin rfl rfl lss_is) rfl rfl ?_; refine RP.nil ?_; refine XP.seq ?_
  refine XP.condS _ rfl ?_  -- if t9
  by_cases hlt : i < raw.length
  · rw [dlt hlt]
    refine XP.skip ?_
    obtain ⟨a, ha⟩ : ∃ a, raw[i]? = some a := ⟨raw[i]'hlt, List.getElem?_eq_getElem _⟩
    obtain ⟨x, hx1⟩ : ∃ x, ks[i]? = some x := ⟨ks[i]'(by omega), List.getElem?_eq_getElem _⟩
    have hxr := hrel i a x ha hx1
    rcases hraw with ⟨_, rfl⟩ | ⟨_, rfl⟩ | ⟨b, off, cap, rfl, R⟩
    · cases ha
    · cases ha
    refine XP.seq ?_
    refine XP.block ?_  -- block 1
    refine XP.seq ?_; refine XP.regionS ?_; refine RP.o1 (.move rfl) rfl rfl ?_; refine RP.o1 (.assign rfl) rfl rfl ?_; refine RP.nil ?_; refine XP.seq ?_; refine XP.regionS ?_; refine RP.o1 (.move rfl) rfl rfl ?_; refine RP.o1 (.move rfl) rfl rfl ?_; refine RP.o1 (.move rfl) rfl rfl ?_; refine RP.o1 (.indexAddr rfl rfl ix68 hlt) rfl rfl ?_; refine RP.o1 (.load1 rfl lay46 ((R.at_ i a ha 0 (by decide)).trans rfl)) rfl rfl ?_; refine RP.o1 (.callS rfl rfl (call47 hS' hc hxr hv (hl x (List.mem_of_getElem? hx1)))) rfl rfl ?_; refine RP.nil ?_
    refine XP.condS _ rfl ?_  -- if t16
    by_cases hxk : x = k
    · rw [decide_eq_true hxk]
      refine XP.seq ?_; refine XP.regionS ?_; refine RP.o1 (.move rfl) rfl rfl ?_; refine RP.o1 (.assign rfl) rfl rfl ?_; refine RP.nil ?_
      refine XP.ret ⟨.inr rfl, _, _, oneRes rfl, ?_, rfl⟩
      have : ks.findIdx? (fun x => decide (x = k)) = some i := by
        rw [List.findIdx?_eq_some_iff_getElem]
        obtain ⟨h1, h2⟩ := List.getElem?_eq_some_iff.1 hx1
        refine ⟨h1, by rw [h2]; simpa using hxk, fun j hj => ?_⟩
        simpa using hne j _ hj (List.getElem?_eq_getElem (by omega))
      rw [firstAt, this]
    · rw [decide_eq_false hxk]
      refine XP.skip ?_; refine XP.regionS ?_; refine RP.o1 (.bin rfl rfl (v := .int .i64 (.ofNat (i + 1))) (add_is (by show _ ≤ (i : Int) + 1; omega) (by show (i : Int) + 1 < _; omega))) rfl rfl ?_
      refine RP.o1 (.move rfl) rfl rfl ?_; refine RP.nil ?_
      refine ⟨raw.length - (i + 1), by omega, i + 1, _, toT_less (.cons rfl (.cons rfl (.cons rfl (.cons rfl .nil)))), rfl, hlt, fun j y hj hy => ?_, rfl⟩
      rcases Nat.lt_or_ge j i with h | h
      · exact hne j y h hy
      · obtain rfl : j = i := by omega
        rw [hx1] at hy; cases hy; exact hxk
  · rw [dnlt hlt]
    refine XP.exit ?_; refine XP.seq ?_; refine XP.regionS ?_; refine RP.o1 (.assign rfl) rfl rfl ?_; refine RP.nil ?_
    refine XP.ret ⟨.inr rfl, _, _, oneRes rfl, ?_, rfl⟩
    have : ks.findIdx? (fun x => decide (x = k)) = none := by
      rw [List.findIdx?_eq_none_iff]
      intro x hx
      obtain ⟨j, hj, e⟩ := List.getElem_of_mem hx
      simpa using hne j x (by omega) (by rw [List.getElem?_eq_getElem hj, e])
    rw [firstAt, this]; rfl
end Go.Ev
end
section
namespace Go.Ev
set_option linter.all false
section
variable {P : Program} {ty e : TypeId} {j : TypeInfo} {m : AMem} {b off len : Nat}
theorem op_slice {call : Call} {t0 : T AV} {σ : List (Nat × AV)} {m' : AMem} {x : Operand} {lo hi mx : Option Operand} {vx v : AV} {vlo vhi vmx : Option AV} (hx : ev σ x = some vx) (h1 : lo.map (evA (toT t0 σ)) = vlo) (h2 : hi.map (evA (toT t0 σ)) = vhi) (h3 : mx.map (evA (toT t0 σ)) = vmx)
    (h : aSlice P ty vx vlo vhi vmx m = .mk v m') : opTab (.slice ty x lo hi mx) P call (toT t0 σ) m = .mk v m' := by
  show evK (toT t0 σ) x (fun x => evO (toT t0 σ) lo fun lo => evO (toT t0 σ) hi fun hi => evO (toT t0 σ) mx fun mx => aSlice P ty x lo hi mx m) = _
  rw [evK_eq, evO_eq, evO_eq, evO_eq, ev_is hx, h1, h2, h3, h]
theorem map_some {t0 : T AV} {σ : List (Nat × AV)} {x : Operand} {v : AV} (h : ev σ x = some v) : (some x).map (evA (toT t0 σ)) = some v := by rw [Option.map_some, ev_is h]
/-- s[i:], the capacity being known. -/
theorem slice_from {c i : Nat} {k : IntKind} (ht : P.underlying ty = some (.slice e)) (hj : P.info? e = some j) (hi : i ≤ len) (hc : len ≤ c) :
    ∃ o, aSlice P ty (.slice b off len (some c)) (some (.int k (.ofNat i))) none none m = .mk (.slice b o (len - i) (some (c - i))) m ∧ (i < c → o = off + i * j.size) := by
  refine ⟨bif2 (Nat.beq c i) off (Nat.add off (Nat.mul i j.size)), ?_, ?_⟩
  · unfold aSlice
    rw [ht]
    simp only [hj]
    show bif2 ((Option.isSome none || !Option.isSome (none : Option AV)) && Nat.ble i len && Nat.ble len c && Nat.ble c c) (cutAt b off j.size i len c m) _ = _
    rw [Nat.ble_eq_true_of_le hi, Nat.ble_eq_true_of_le hc, Nat.ble_eq_true_of_le (Nat.le_refl c)]
    show bif2 true (cutAt b off j.size i len c m) _ = _
    rw [bif2_eq, if_pos rfl]
    unfold cutAt
    rw [fNat_eq, fNat_eq, fNat_eq]
    rfl
  · intro h
    rw [bif2_eq, if_neg (fun k => by have := Nat.eq_of_beq_eq_true k; omega)]; rfl
/-- s[:i], the capacity being known. -/
theorem slice_to {c i : Nat} {k : IntKind} (ht : P.underlying ty = some (.slice e)) (hj : P.info? e = some j) (hi : i ≤ c) : aSlice P ty (.slice b off len (some c)) none (some (.int k (.ofNat i))) none m = .mk (.slice b off i (some c)) m := by
  unfold aSlice
  rw [ht]
  simp only [hj]
  show bif2 ((Option.isSome (some (AV.int k (.ofNat i))) || !Option.isSome (none : Option AV)) && Nat.ble 0 i && Nat.ble i c && Nat.ble c c) (cutAt b off j.size 0 i c m) _ = _
  rw [Nat.ble_eq_true_of_le (Nat.zero_le i), Nat.ble_eq_true_of_le hi, Nat.ble_eq_true_of_le (Nat.le_refl c)]
  show bif2 true (cutAt b off j.size 0 i c m) _ = _
  rw [bif2_eq, if_pos rfl]
  unfold cutAt
  rw [fNat_eq, fNat_eq, fNat_eq, bif2_eq]
  have : (if Nat.beq c 0 = true then off else Nat.add off (Nat.mul 0 j.size)) = off := by split <;> simp
  rw [this]
  rfl
/-- s[i:], the capacity being open. -/
theorem slice_rest {i N : Nat} {k : IntKind} (ht : P.underlying ty = some (.slice e)) (hj : P.info? e = some j) (hi : i < len) (hb : m.blk b j.size N) : aSlice P ty (.slice b off len none) (some (.int k (.ofNat i))) none none m = .mk (.slice b (off + i * j.size) (len - i) none) m := by
  obtain ⟨ro, sg, c, eb⟩ := hb
  unfold aSlice
  rw [ht]
  simp only [hj]
  show bif2 (Nat.ble i len && Nat.ble len len) (bif2 (Nat.beq i 0) (.mk (.slice b off len none) m) (bif2 (Nat.blt i len) (blkK m b fun _ E _ _ => bif2 (Nat.beq E j.size) (fNat (Nat.add off (Nat.mul i j.size)) fun o => fNat (Nat.sub len i) fun n => .mk (.slice b o n none) m) (.fail 69)) (.mk .emp m))) _ = _
  rw [Nat.ble_eq_true_of_le (Nat.le_of_lt hi), Nat.ble_eq_true_of_le (Nat.le_refl len)]
  show bif2 true (bif2 (Nat.beq i 0) _ _) _ = _
  rw [bif2_eq, if_pos rfl, bif2_eq]
  by_cases h0 : i = 0
  · subst h0
    rw [if_pos (show Nat.beq 0 0 = true from rfl)]
    simp
  · rw [if_neg (fun k => h0 (Nat.eq_of_beq_eq_true k)), bif2_eq, if_pos (by simpa [Nat.blt_eq] using hi)]
    unfold blkK
    rw [eb]
    simp only
    rw [bif2_eq, if_pos (Nat.beq_refl _), fNat_eq, fNat_eq]
    rfl
/-- No memory: such a part can't be told. -/
theorem slice_rest_leaf {i n : Nat} {k : IntKind} (ht : P.underlying ty = some (.slice e)) (hj : P.info? e = some j) (h0 : 0 < i) (hi : i < len) : ∃ c, aSlice P ty (.slice b off len none) (some (.int k (.ofNat i))) none none ⟨n, .leaf⟩ = .fail c := by
  refine ⟨33, ?_⟩
  unfold aSlice
  rw [ht]
  simp only [hj]
  show bif2 (Nat.ble i len && Nat.ble len len) (bif2 (Nat.beq i 0) (OR.mk (.slice b off len none) ⟨n, .leaf⟩) (bif2 (Nat.blt i len) (OR.fail 33) (OR.mk .emp ⟨n, .leaf⟩))) _ = _
  rw [Nat.ble_eq_true_of_le (Nat.le_of_lt hi), Nat.ble_eq_true_of_le (Nat.le_refl len)]
  show bif2 true (bif2 (Nat.beq i 0) _ _) _ = _
  rw [bif2_eq, if_pos rfl, bif2_eq, if_neg (fun k => by have := Nat.eq_of_beq_eq_true k; omega), bif2_eq, if_pos (by simpa [Nat.blt_eq] using hi)]
theorem op_slice_leaf {call : Call} {t0 : T AV} {σ : List (Nat × AV)} {n : Nat} {x : Operand} {lo hi mx : Option Operand} {vx : AV} {vlo vhi vmx : Option AV} (hx : ev σ x = some vx) (h1 : lo.map (evA (toT t0 σ)) = vlo) (h2 : hi.map (evA (toT t0 σ)) = vhi) (h3 : mx.map (evA (toT t0 σ)) = vmx)
    (h : ∃ c, aSlice P ty vx vlo vhi vmx ⟨n, .leaf⟩ = .fail c) : ∃ c, opTab (.slice ty x lo hi mx) P call (toT t0 σ) ⟨n, .leaf⟩ = .fail c := by
  obtain ⟨c, h⟩ := h
  refine ⟨c, ?_⟩
  show evK (toT t0 σ) x (fun x => evO (toT t0 σ) lo fun lo => evO (toT t0 σ) hi fun hi => evO (toT t0 σ) mx fun mx => aSlice P ty x lo hi mx ⟨n, .leaf⟩) = _
  rw [evK_eq, evO_eq, evO_eq, evO_eq, ev_is hx, h1, h2, h3, h]
variable {α : Type} {enc : α → List AV} {sz : Nat}
/-- copy of one element. -/
theorem copy_is {dt : TypeId} {i : TypeInfo} {z : List AV} {cap : Option Nat} {v : AV} {ys : List α} {N : Nat} (he : Enc enc sz) (hz : 0 < sz) (hi : elemInfo P dt = some (i, z)) (hs : i.size = sz) (hy : RowIs enc sz m v ys) (hl : ys.length ≤ len) (ho : m.own b sz N) (hn : off + ys.length * sz ≤ N) :
    aCopy P dt (.slice b off len cap) v m = .mk (.int .i64 (.ofNat ys.length)) (m.write b off (flat enc ys)) := by
  unfold aCopy
  rw [hi]
  simp only [hy.lenA]
  rw [fNat_eq, bif2_eq, if_pos (Nat.ble_eq_true_of_le hl), hs, elems_is he hz hy]
  exact storeK_is _ _ _ _ _ ho (by rw [flat_length he.len]; exact hn) (flat_plain he.plain _)
theorem op_copy {call : Call} {t0 : T AV} {σ : List (Nat × AV)} {m' : AMem} {s x : Operand} {t1 t2 : TypeId} {a c v : AV} (hs : ev σ s = some a) (hx : ev σ x = some c) (h : aCopy P t1 a c m = .mk v m') : opTab (.call ⟨.builtin .copy, #[s, x], #[t1, t2]⟩) P call (toT t0 σ) m = .mk v m' := by
  show evsK (toT t0 σ) [s, x] (fun vs => builtinA P .copy #[t1, t2] vs m) = _
  rw [evsK_eq]
  show aCopy P t1 (evA (toT t0 σ) s) (evA (toT t0 σ) x) m = _
  rw [ev_is hs, ev_is hx, h]
/-- append(s[:i], make(S, k)...), where there is no room. -/
theorem append_zeros {st xt : TypeId} {i : TypeInfo} {z : List AV} {c k : Nat} {kk : IntKind} {xs : List α} (he : Enc enc sz) (hz : 0 < sz) (hi : elemInfo P st = some (i, z)) (hs : i.size = sz) (hx : P.underlying xt = some (.int kk)) (R : RowAt enc sz m b off xs) (h0 : 0 < k) (hc : c < xs.length + k) (hk : xs.length + k ≤ 1048576) :
    aAppend P st (some xt) (.slice b off xs.length (some c)) (.int .i64 (.ofNat k)) m = .mk (.slice m.next 0 (xs.length + k) none) (m.new true sz (flat enc xs ++ repA z k)) := by
  unfold aAppend
  rw [hi]
  simp only
  have ha : appendable P (some xt) = false := by unfold appendable; simp only [hx]
  rw [ha]
  show bif2 true (aAppendZ P i z (some xt) (.slice b off xs.length (some c)) (.int .i64 (.ofNat k)) m) _ = _
  rw [bif2_eq, if_pos rfl]
  show bif2 (intT P (some xt) && Nat.blt 0 k && Nat.blt c (Nat.add xs.length k) && Nat.ble (Nat.add xs.length k) 1048576) (elemsK m i.size xs.length (.slice b off xs.length (some c)) fun old => fNat (Nat.add xs.length k) fun n => growA i.size (old ++ repA z k) n m) _ = _
  have hT : intT P (some xt) = true := by unfold intT; simp only [hx]
  have h1 : Nat.blt 0 k = true := by simpa [Nat.blt_eq] using h0
  have h2 : Nat.blt c (Nat.add xs.length k) = true := by simpa [Nat.blt_eq] using hc
  rw [hT, h1, h2, show Nat.ble (Nat.add xs.length k) 1048576 = true from Nat.ble_eq_true_of_le hk]
  show bif2 true (elemsK m i.size xs.length (.slice b off xs.length (some c)) _) _ = _
  rw [bif2_eq, if_pos rfl, hs, elems_is he hz (.inr (.inr ⟨b, off, some c, rfl, R⟩)), fNat_eq, grow_is]
  rfl
end
end Go.Ev
end
section
namespace Go.Ev
set_option linter.all false
open Go.Proofs
set_option maxRecDepth 10000
theorem und46 : Tryz.prog.underlying 46 = some (.slice 54) := by kernel_rfl
theorem inf54x : (Tryz.prog.info? 54).map (·.size) = some 2 := by kernel_rfl
theorem inf54 : ∃ j, Tryz.prog.info? 54 = some j ∧ j.size = 2 := by
  have := inf54x
  cases e : Tryz.prog.info? 54 with
  | none => rw [e] at this; cases this
  | some j => rw [e] at this; exact ⟨j, rfl, by simpa using this⟩
theorem cap46 {b o n c : Nat} {m : AMem} : aCap Tryz.prog 46 (.slice b o n (some c)) m = .mk (.int .i64 (.ofNat c)) m := by kernel_rfl
theorem op_cap {P : Program} {call : Call} {t0 : T AV} {σ : List (Nat × AV)} {m m' : AMem} {x : Operand} {st : TypeId} {a v : AV} (hx : ev σ x = some a) (h : aCap P st a m = .mk v m') : opTab (.call ⟨.builtin .cap, #[x], #[st]⟩) P call (toT t0 σ) m = .mk v m' := by
  rw [opTab_cap, ev_is hx, h]
theorem RowAt.of_flat {α : Type} {enc : α → List AV} {sz : Nat} {m : AMem} {b : Nat} {xs : List α} (he : Enc enc sz) (hlt : b < m.next) (ho : m.own b sz (xs.length * sz)) (h : ∀ q, q < xs.length * sz → m.cell b q = (flat enc xs)[q]?) : RowAt enc sz m b 0 xs :=
  ⟨hlt, ⟨sz, _, ho.blk, by omega⟩, fun i x hx j hj => by
    have hi := (List.getElem?_eq_some_iff.1 hx).1
    have : i * sz + j < xs.length * sz := by
      have : (i + 1) * sz ≤ xs.length * sz := Nat.mul_le_mul_right _ hi
      rw [Nat.succ_mul] at this; omega
    rw [Nat.zero_add, h _ this]
    exact flat_get he.len xs i x hx j hj⟩
/-- Three parts laid one behind the other are the row. -/
theorem three_rows {m : AMem} {xs : List (Int × Int)} {x : Int × Int} {i : Nat} {z : List AV} (hz : z.length = 2) (hi : i ≤ xs.length) :
    RowAt itC 2 (((m.new true 2 (flat itC (xs.take i) ++ repA z (xs.length + 1 - i))).write m.next (i * 2) (flat itC [x])).write m.next ((i + 1) * 2) (flat itC (xs.drop i))) m.next 0 (xs.take i ++ x :: xs.drop i) ∧
    (((m.new true 2 (flat itC (xs.take i) ++ repA z (xs.length + 1 - i))).write m.next (i * 2) (flat itC [x])).write m.next ((i + 1) * 2) (flat itC (xs.drop i))).own m.next 2 ((xs.length + 1) * 2) := by
  have l1 : (flat itC (xs.take i)).length = i * 2 := by rw [flat_length encIt.len, List.length_take, Nat.min_eq_left hi]
  have l2 : (flat itC [x]).length = 2 := by rw [flat_length encIt.len]; rfl
  have l3 : (flat itC (xs.drop i)).length = (xs.length - i) * 2 := by rw [flat_length encIt.len, List.length_drop]
  have l0 : (flat itC (xs.take i) ++ repA z (xs.length + 1 - i)).length = (xs.length + 1) * 2 := by rw [List.length_append, l1, repA_length, hz]; omega
  have o1 : (m.new true 2 (flat itC (xs.take i) ++ repA z (xs.length + 1 - i))).own m.next 2 ((xs.length + 1) * 2) := by
    have := AMem.new_own m true 2 (flat itC (xs.take i) ++ repA z (xs.length + 1 - i)); rwa [l0] at this
  have o2 := AMem.write_own _ m.next (i * 2) (flat itC [x]) o1
  have o3 := AMem.write_own _ m.next ((i + 1) * 2) (flat itC (xs.drop i)) o2
  have ln : (xs.take i ++ x :: xs.drop i).length = xs.length + 1 := by simp; omega
  refine ⟨RowAt.of_flat encIt (by rw [AMem.write_next, AMem.write_next]; exact Nat.lt_succ_self _) (by rw [ln]; exact o3) fun q hq => ?_, o3⟩
  rw [ln] at hq
  rw [AMem.write_cell _ _ _ _ o2 (by rw [l3]; omega), AMem.write_cell _ _ _ _ o1 (by rw [l2]; omega), AMem.new_cell, l2, l3]
  have e : flat itC (xs.take i ++ x :: xs.drop i) = flat itC (xs.take i) ++ (flat itC [x] ++ flat itC (xs.drop i)) := by rw [flat_append]; rfl
  rw [e]
  by_cases c1 : q < i * 2
  · rw [if_neg (by omega), if_neg (by omega), List.getElem?_append_left (by omega), List.getElem?_append_left (by omega)]
  · by_cases c2 : q < (i + 1) * 2
    · rw [if_neg (by omega), if_pos (by omega), List.getElem?_append_right (by omega), l1, List.getElem?_append_left (by omega)]
    · rw [if_pos (by omega), List.getElem?_append_right (by omega), l1, List.getElem?_append_right (by omega), l2]
      congr 1
      omega
theorem insGrow64 {S : Sums} (hS : S 64 = none) {m : AMem} {b off vb : Nat} {xs : List (Int × Int)} {x : Int × Int} {i : Nat} (hi : i < xs.length) (hx : xs.length < 1048576) (R : RowAt itC 2 m b off xs) (hv : RowIs itC 2 m (.slice vb 0 1 (some 1)) [x]) :
    ∃ m', CallTo Tryz.prog S 64 [.slice b off xs.length (some xs.length), .int .i64 (.ofNat i), .slice vb 0 1 (some 1)] m (.slice m.next 0 (xs.length + 1) none) m' ∧ Kp Nothing m m' ∧ m'.next = m.next + 1 ∧ RowAt itC 2 m' m.next 0 (xs.take i ++ x :: xs.drop i) ∧ m'.own m.next 2 ((xs.length + 1) * 2) := by
  suffices H : ∃ r m', CallTo Tryz.prog S 64 [.slice b off xs.length (some xs.length), .int .i64 (.ofNat i), .slice vb 0 1 (some 1)] m r m' ∧ r = .slice m.next 0 (xs.length + 1) none ∧ Kp Nothing m m' ∧ m'.next = m.next + 1 ∧ RowAt itC 2 m' m.next 0 (xs.take i ++ x :: xs.drop i) ∧ m'.own m.next 2 ((xs.length + 1) * 2) by
    obtain ⟨r, m', h, rfl, k⟩ := H
    exact ⟨m', h, k⟩
  obtain ⟨j54, hj, sj⟩ := inf54
  obtain ⟨i46, e46, s46⟩ := ei46
  refine XP.call hS cd64 nt64 ?_
  show XP _ _ _ _ (toT .leaf [(2, .slice vb 0 1 (some 1)), (1, .int .i64 (.ofNat i)), (0, .slice b off xs.length (some xs.length))]) m _
  unfold Tryz.f64
  dsimp only [Option.getD_some]
  refine XP.seq ?_; refine XP.regionS ?_; refine RP.o1 (.assign rfl) rfl rfl ?_; refine RP.nil ?_
  obtain ⟨o1, hs1, _⟩ := slice_from (b := b) (off := off) (m := m) (k := .i64) und46 hj (Nat.le_of_lt hi) (Nat.le_refl xs.length)
  refine XP.seq ?_; refine XP.regionS ?_; refine RP.o1 (.move rfl) rfl rfl ?_; refine RP.o1 (.move rfl) rfl rfl ?_; refine RP.o1 (OpTo.of fun _ => op_slice rfl (map_some rfl) rfl rfl hs1) rfl rfl ?_; refine RP.nil ?_; refine XP.seq ?_; refine XP.regionS ?_; refine RP.o1 (.move rfl) rfl rfl ?_; refine RP.o1 (.len rfl len46) rfl rfl ?_; refine RP.o1 (.assign rfl) rfl rfl ?_; refine RP.nil ?_; refine XP.seq ?_; refine XP.seq ?_; refine XP.regionS ?_; refine RP.o1 (.move rfl) rfl rfl ?_; refine RP.o1 (.bin rfl rfl eql_is) rfl rfl ?_; refine RP.nil ?_
  refine XP.condS false rfl ?_  -- if t16
  refine XP.skip ?_; refine XP.seq ?_; refine XP.regionS ?_; refine RP.o1 (.move rfl) rfl rfl ?_; refine RP.o1 (.len rfl len46) rfl rfl ?_; refine RP.o1 (.assign rfl) rfl rfl ?_; refine RP.nil ?_; refine XP.seq ?_; refine XP.seq ?_; refine XP.regionS ?_; refine RP.o1 (.move rfl) rfl rfl ?_; refine RP.o1 (.move rfl) rfl rfl ?_; refine RP.o1 (.bin rfl rfl eql_is) rfl rfl ?_
  rw [dNe (by omega : i ≠ xs.length)]
  refine RP.nil ?_
  refine XP.condS false rfl ?_  -- if t22
  refine XP.skip ?_; refine XP.seq ?_; refine XP.seq ?_; refine XP.regionS ?_; refine RP.o1 (.move rfl) rfl rfl ?_; refine RP.o1 (.move rfl) rfl rfl ?_; refine RP.o1 (.bin rfl rfl (v := .int .i64 (.ofNat (xs.length + 1))) (add_is (by show _ ≤ (xs.length : Int) + 1; omega) (by show (xs.length : Int) + 1 < _; omega))) rfl rfl ?_
  refine RP.o1 (.move rfl) rfl rfl ?_; refine RP.o1 (OpTo.of fun _ => op_cap rfl cap46) rfl rfl ?_; refine RP.o1 (.bin rfl rfl gtr_is) rfl rfl ?_
  rw [dlt (by omega : xs.length < xs.length + 1)]
  refine RP.nil ?_
  refine XP.condS true rfl ?_  -- if t31
  have hd : ∀ k, k < 2 → True := fun _ _ => trivial
  have Rt : RowAt itC 2 m b off (xs.take i) := ⟨R.lt, by obtain ⟨E, N, h1, h2⟩ := R.blk; exact ⟨E, N, h1, by simp only [List.length_take]; omega⟩, fun k y hy j hj => R.at_ k y (by rw [List.getElem?_take] at hy; split at hy; exact hy; cases hy) j hj⟩
  have lt : (xs.take i).length = i := by simp; omega
  have hs2 := slice_to (b := b) (off := off) (len := xs.length) (m := m) (k := .i64) (i := i) und46 hj (Nat.le_of_lt hi)
  have hap := append_zeros (st := 46) (xt := 3) (c := xs.length) (k := xs.length + 1 - i) encIt (by decide) e46 s46 und3 Rt (by omega) (by rw [lt]; omega) (by rw [lt]; omega)
  rw [lt, show i + (xs.length + 1 - i) = xs.length + 1 by omega] at hap
  obtain ⟨T1, T2⟩ := three_rows (m := m) (x := x) (z := [.int .i64 (.ofNat 0), .int .i64 (.ofNat 0)]) rfl (Nat.le_of_lt hi)
  refine XP.seq ?_; refine XP.regionS ?_; refine RP.o1 (.move rfl) rfl rfl ?_; refine RP.o1 (.move rfl) rfl rfl ?_; refine RP.o1 (OpTo.of fun _ => op_slice rfl rfl (map_some rfl) rfl hs2) rfl rfl ?_; refine RP.o1 (.move rfl) rfl rfl ?_; refine RP.o1 (.move rfl) rfl rfl ?_; refine RP.o1 (.bin rfl rfl (v := .int .i64 (.ofNat (xs.length + 1))) (add_is (by show _ ≤ (xs.length : Int) + 1; omega) (by show (xs.length : Int) + 1 < _; omega))) rfl rfl ?_
  refine RP.o1 (.move rfl) rfl rfl ?_; refine RP.o1 (.bin rfl rfl (v := .int .i64 (.ofNat (xs.length + 1 - i))) ((sub_is (by show _ ≤ ((xs.length + 1 : Nat) : Int) - (i : Int); omega) (by show ((xs.length + 1 : Nat) : Int) - (i : Int) < _; omega)).trans (by rw [show Int.ofNat (xs.length + 1) - Int.ofNat i = Int.ofNat (xs.length + 1 - i) from (Int.ofNat_sub (by omega)).symm]))) rfl rfl ?_
  refine RP.op (OpTo.of fun _ => op_append rfl rfl hap) rfl rfl (Nat.le_succ _) ?_; refine RP.o1 (.assign rfl) rfl rfl ?_; refine RP.nil ?_
  have K1 : Kp Nothing m (m.new true 2 (flat itC (xs.take i) ++ repA [.int .i64 (.ofNat 0), .int .i64 (.ofNat 0)] (xs.length + 1 - i))) := (Kp.refl m).new _ _ _
  have O1 : (m.new true 2 (flat itC (xs.take i) ++ repA [.int .i64 (.ofNat 0), .int .i64 (.ofNat 0)] (xs.length + 1 - i))).own m.next 2 ((xs.length + 1) * 2) := by
    have := AMem.new_own m true 2 (flat itC (xs.take i) ++ repA [.int .i64 (.ofNat 0), .int .i64 (.ofNat 0)] (xs.length + 1 - i))
    rwa [List.length_append, flat_length encIt.len, lt, repA_length, show i * 2 + (xs.length + 1 - i) * ([AV.int .i64 (.ofNat 0), .int .i64 (.ofNat 0)] : List AV).length = (xs.length + 1) * 2 by simp; omega] at this
  have NM : (m.new true 2 (flat itC (xs.take i) ++ repA [.int .i64 (.ofNat 0), .int .i64 (.ofNat 0)] (xs.length + 1 - i))).next = m.next + 1 := rfl
  generalize m.new true 2 (flat itC (xs.take i) ++ repA [.int .i64 (.ofNat 0), .int .i64 (.ofNat 0)] (xs.length + 1 - i)) = M1 at K1 O1 T1 T2 NM ⊢
  have hs3 := slice_rest (b := m.next) (off := 0) (len := xs.length + 1) (m := M1) (k := .i64) (i := i) und46 hj (by omega) (by rw [sj]; exact O1.blk)
  rw [sj, Nat.zero_add] at hs3
  have hv1 := hv.stay (K1.mono fun _ _ h => h.elim)
  have hc1 := copy_is (b := m.next) (off := i * 2) (len := xs.length + 1 - i) (cap := none) encIt (by decide) e46 s46 hv1 (by simp; omega) O1 (by simp; omega)
  refine XP.seq ?_; refine XP.regionS ?_; refine RP.o1 (.move rfl) rfl rfl ?_; refine RP.o1 (.move rfl) rfl rfl ?_; refine RP.o1 (OpTo.of fun _ => op_slice rfl (map_some rfl) rfl rfl hs3) rfl rfl ?_; refine RP.o1 (.move rfl) rfl rfl ?_; refine RP.op (OpTo.of fun _ => op_copy rfl rfl hc1) rfl rfl (by rw [AMem.write_next]; exact Nat.le_refl _) ?_
  refine RP.nil ?_
  have K2 : Kp Nothing m (M1.write m.next (i * 2) (flat itC [x])) := K1.write (.inl (Nat.le_refl _))
  have N2 : (M1.write m.next (i * 2) (flat itC [x])).next = M1.next := AMem.write_next _ _ _ _
  have O2 := AMem.write_own M1 m.next (i * 2) (flat itC [x]) O1
  generalize M1.write m.next (i * 2) (flat itC [x]) = M2 at K2 N2 O2 T1 T2 ⊢
  have hs4 := slice_rest (b := m.next) (off := 0) (len := xs.length + 1) (m := M2) (k := .i64) (i := i + 1) und46 hj (by omega) (by rw [sj]; exact O2.blk)
  rw [sj, Nat.zero_add] at hs4
  obtain ⟨o5, hs5, ho5⟩ := slice_from (b := b) (off := off) (m := ⟨M2.next, .leaf⟩) (k := .i64) und46 hj (Nat.le_of_lt hi) (Nat.le_refl xs.length)
  rw [ho5 hi, sj] at hs5
  have R2 := R.keep K2 id
  have ld : (xs.drop i).length = xs.length - i := List.length_drop
  have Rd : RowIs itC 2 M2 (.slice b (off + i * 2) (xs.length - i) (some (xs.length - i))) (xs.drop i) := .inr (.inr ⟨b, off + i * 2, some (xs.length - i), by rw [ld], R2.lt,
    by obtain ⟨E, N, h1, h2⟩ := R2.blk; exact ⟨E, N, h1, by rw [ld]; omega⟩, fun k y hy j hj => by
      have := R2.at_ (i + k) y (by rwa [List.getElem?_drop] at hy) j hj
      rw [← this]
      congr 1
      omega⟩)
  have hc2 := copy_is (b := m.next) (off := (i + 1) * 2) (len := xs.length + 1 - (i + 1)) (cap := none) encIt (by decide) e46 s46 Rd (by rw [ld]; omega) O2 (by rw [ld]; omega)
  refine XP.seq ?_; refine XP.drawnS (ms := [0, 0, 0, 6, 15, 0, 0, 96, 255]) (by kernel_rfl) ?_; refine DP.pure (.move rfl) rfl rfl rfl ?_; refine DP.pure (.move rfl) rfl rfl rfl ?_; refine DP.pure (.move rfl) rfl rfl rfl ?_; refine DP.pure (.bin rfl rfl (v := .int .i64 (.ofNat (i + 1))) (add_is (by show _ ≤ (i : Int) + 1; omega) (by show (i : Int) + 1 < _; omega))) rfl rfl rfl ?_
  refine DP.read (fun _ => op_slice rfl (map_some rfl) rfl rfl hs4) rfl rfl rfl (fun _ => op_slice_leaf rfl (map_some rfl) rfl rfl (slice_rest_leaf und46 hj (by omega) (by omega))) (.inl (by kernel_rfl)) (fun _ => cuts_nil) ?_; refine DP.pure (.move rfl) rfl rfl rfl ?_; refine DP.pure (.move rfl) rfl rfl rfl ?_; refine DP.pure (OpTo.of fun _ => op_slice rfl (map_some rfl) rfl rfl hs5) rfl rfl rfl ?_; refine DP.heavy (OpTo.of fun _ => op_copy rfl rfl hc2) rfl rfl rfl (by kernel_rfl) (by kernel_rfl) (by rw [AMem.write_next]; exact Nat.le_refl _) (pk_drop (by kernel_rfl) pk_nil) ?_
  refine DP.nil ?_; refine XP.seq ?_; refine XP.regionS ?_; refine RP.o1 (.move rfl) rfl rfl ?_; refine RP.o1 (.assign rfl) rfl rfl ?_; refine RP.nil ?_
  exact XP.ret ⟨.inr rfl, _, _, oneRes rfl, rfl, K2.write (.inl (Nat.le_refl _)), by rw [AMem.write_next, N2]; exact NM, T1, T2⟩
end Go.Ev
end
section
namespace Go.Ev
set_option linter.all false
open Go.Proofs
/-- The sum comes to this, with fuel enough. -/
noncomputable def SumTo (s : Nat → List AV → AMem → OR) (args : List AV) (m : AMem) (v : AV) (m' : AMem) : Prop := ∃ N, ∀ n, N ≤ n → s n args m = .mk v m'
theorem SumTo.unique {s : Nat → List AV → AMem → OR} {args : List AV} {m m1 m2 : AMem} {v1 v2 : AV} (h1 : SumTo s args m v1 m1) (h2 : SumTo s args m v2 m2) : v1 = v2 ∧ m1 = m2 := by
  obtain ⟨N1, h1⟩ := h1
  obtain ⟨N2, h2⟩ := h2
  have e := (h1 (N1 + N2) (by omega)).symm.trans (h2 (N1 + N2) (by omega))
  injection e with e1 e2
  exact ⟨e1, e2⟩
open Classical in
/-- The limit of a sum. -/
noncomputable def limSum (s : Nat → List AV → AMem → OR) (args : List AV) (m : AMem) : OR :=
  if h : ∃ r : AV × AMem, SumTo s args m r.1 r.2 then .mk (Classical.choose h).1 (Classical.choose h).2 else .fail 3200
theorem limSum_eq {s : Nat → List AV → AMem → OR} {args : List AV} {m m' : AMem} {v : AV} (h : SumTo s args m v m') : limSum s args m = .mk v m' := by
  have he : ∃ r : AV × AMem, SumTo s args m r.1 r.2 := ⟨(v, m'), h⟩
  unfold limSum
  rw [dif_pos he]
  obtain ⟨e1, e2⟩ := (Classical.choose_spec he).unique h
  rw [e1, e2]
theorem limSum_ok {P : Program} {f : FuncId} {s : Nat → List AV → AMem → OR} (hs : ∀ n, SumOK P f (s n)) : SumOK P f (limSum s) := by
  intro args m v m' h
  unfold limSum at h
  split at h
  case isTrue he =>
    obtain ⟨N, hN⟩ := Classical.choose_spec he
    injection h with e1 e2
    have := hN N (Nat.le_refl _)
    rw [e1, e2] at this
    exact hs N args m v m' this
  case isFalse => cases h
/-- slices.Insert of an item's row. -/
noncomputable def insW : List AV → AMem → OR := limSum fun n => insertSum Tryz.prog (sumsI 75) n 64 2
theorem insW_ok : SumOK Tryz.prog 64 insW := limSum_ok fun _ =>
  insertSum_ok mixed (sumsI_ok over75) (code := code64) (p := parts64) (by kernel_rfl) ins64 (by kernel_rfl) (by decide) (by decide)
/-- Where its code is walked from beginning to end. -/
theorem insW_walk {args : List AV} {m m' : AMem} {v : AV} (hn : ∀ n, insertSum Tryz.prog (sumsI 75) n 64 2 args m = callF Tryz.prog (sumsI 75) (exec Tryz.prog (sumsI 75) n) 64 args m) (h : CallTo Tryz.prog (sumsI 75) 64 args m v m') : insW args m = .mk v m' := by
  obtain ⟨N, h⟩ := h
  exact limSum_eq ⟨N, fun n hN => (hn n).trans (h n hN)⟩
end Go.Ev
end
section
namespace Go.Ev
set_option linter.all false
open Go.Proofs
set_option maxRecDepth 10000
theorem slice_end {P : Program} {ty e : TypeId} {j : TypeInfo} {m : AMem} {b off len : Nat} {k : IntKind} (ht : P.underlying ty = some (.slice e)) (hj : P.info? e = some j) : ∃ v, aSlice P ty (.slice b off len none) (some (.int k (.ofNat len))) none none m = .mk v m := by
  refine ⟨bif2 (Nat.beq len 0) (.slice b off len none) .emp, ?_⟩
  unfold aSlice
  rw [ht]
  simp only [hj]
  show bif2 (Nat.ble len len && Nat.ble len len) (bif2 (Nat.beq len 0) (.mk (.slice b off len none) m) (bif2 (Nat.blt len len) (blkK m b fun _ E _ _ => bif2 (Nat.beq E j.size) (fNat (Nat.add off (Nat.mul len j.size)) fun o => fNat (Nat.sub len len) fun n => .mk (.slice b o n none) m) (.fail 69)) (.mk .emp m))) _ = _
  rw [Nat.ble_eq_true_of_le (Nat.le_refl len)]
  show bif2 true _ _ = _
  have hl : Nat.blt len len = false := by
    cases h : Nat.blt len len with
    | false => rfl
    | true => rw [Nat.blt_eq] at h; omega
  rw [bif2_eq, if_pos rfl, hl]
  cases Nat.beq len 0 <;> rfl
theorem insEnd64 {S : Sums} (hS : S 64 = none) {m : AMem} {b off vb : Nat} {xs : List (Int × Int)} {x : Int × Int} (hx : xs.length < 1048576) (R : RowAt itC 2 m b off xs) (ho : m.own b 2 (off + xs.length * 2)) (hv : RowIs itC 2 m (.slice vb 0 1 (some 1)) [x]) :
    CallTo Tryz.prog S 64 [.slice b off xs.length none, .int .i64 (.ofNat xs.length), .slice vb 0 1 (some 1)] m (.slice m.next 0 (xs.length + 1) none) ((m.drop b).new true 2 (flat itC (xs ++ [x]))) := by
  suffices H : ∃ r m', CallTo Tryz.prog S 64 [.slice b off xs.length none, .int .i64 (.ofNat xs.length), .slice vb 0 1 (some 1)] m r m' ∧ r = .slice m.next 0 (xs.length + 1) none ∧ m' = (m.drop b).new true 2 (flat itC (xs ++ [x])) by
    obtain ⟨r, m', h, rfl, rfl⟩ := H
    exact h
  obtain ⟨j54, hj, sj⟩ := inf54
  obtain ⟨i46, e46, s46⟩ := ei46
  refine XP.call hS cd64 nt64 ?_
  show XP _ _ _ _ (toT .leaf [(2, .slice vb 0 1 (some 1)), (1, .int .i64 (.ofNat xs.length)), (0, .slice b off xs.length none)]) m _
  unfold Tryz.f64
  dsimp only [Option.getD_some]
  refine XP.seq ?_; refine XP.regionS ?_; refine RP.o1 (.assign rfl) rfl rfl ?_; refine RP.nil ?_
  obtain ⟨o1, hs1⟩ := slice_end (b := b) (off := off) (len := xs.length) (m := m) (k := .i64) und46 hj
  refine XP.seq ?_; refine XP.regionS ?_; refine RP.o1 (.move rfl) rfl rfl ?_; refine RP.o1 (.move rfl) rfl rfl ?_; refine RP.o1 (OpTo.of fun _ => op_slice rfl (map_some rfl) rfl rfl hs1) rfl rfl ?_; refine RP.nil ?_; refine XP.seq ?_; refine XP.regionS ?_; refine RP.o1 (.move rfl) rfl rfl ?_; refine RP.o1 (.len rfl len46) rfl rfl ?_; refine RP.o1 (.assign rfl) rfl rfl ?_; refine RP.nil ?_; refine XP.seq ?_; refine XP.seq ?_; refine XP.regionS ?_; refine RP.o1 (.move rfl) rfl rfl ?_; refine RP.o1 (.bin rfl rfl eql_is) rfl rfl ?_; refine RP.nil ?_
  refine XP.condS false rfl ?_  -- if t16
  refine XP.skip ?_; refine XP.seq ?_; refine XP.regionS ?_; refine RP.o1 (.move rfl) rfl rfl ?_; refine RP.o1 (.len rfl len46) rfl rfl ?_; refine RP.o1 (.assign rfl) rfl rfl ?_; refine RP.nil ?_; refine XP.seq ?_; refine XP.seq ?_; refine XP.regionS ?_; refine RP.o1 (.move rfl) rfl rfl ?_; refine RP.o1 (.move rfl) rfl rfl ?_; refine RP.o1 (.bin rfl rfl eql_is) rfl rfl ?_
  rw [show decide (Int.ofNat xs.length = Int.ofNat xs.length) = true from decide_eq_true rfl]
  refine RP.nil ?_
  refine XP.condS true rfl ?_  -- if t22
  have hap := append_own (st := 46) (xt := some 46) encIt (by decide) e46 s46 ap46 R ho hv (by simp) (Nat.le_of_lt hx) (by simp)
  refine XP.seq ?_; refine XP.regionS ?_; refine RP.o1 (.move rfl) rfl rfl ?_; refine RP.o1 (.move rfl) rfl rfl ?_; refine RP.op (OpTo.of fun _ => op_append rfl rfl hap) rfl rfl (Nat.le_succ _) ?_; refine RP.o1 (.assign rfl) rfl rfl ?_; refine RP.nil ?_
  exact XP.ret ⟨.inr rfl, _, _, oneRes rfl, rfl, rfl⟩
theorem insNil64 {S : Sums} (hS : S 64 = none) {m : AMem} {vb : Nat} {x : Int × Int} (hv : RowIs itC 2 m (.slice vb 0 1 (some 1)) [x]) :
    CallTo Tryz.prog S 64 [.nils, .int .i64 (.ofNat 0), .slice vb 0 1 (some 1)] m (.slice m.next 0 1 none) (m.new true 2 (flat itC [x])) := by
  suffices H : ∃ r m', CallTo Tryz.prog S 64 [.nils, .int .i64 (.ofNat 0), .slice vb 0 1 (some 1)] m r m' ∧ r = .slice m.next 0 1 none ∧ m' = m.new true 2 (flat itC [x]) by
    obtain ⟨r, m', h, rfl, rfl⟩ := H
    exact h
  obtain ⟨j54, hj, sj⟩ := inf54
  obtain ⟨i46, e46, s46⟩ := ei46
  refine XP.call hS cd64 nt64 ?_
  show XP _ _ _ _ (toT .leaf [(2, .slice vb 0 1 (some 1)), (1, .int .i64 (.ofNat 0)), (0, .nils)]) m _
  unfold Tryz.f64
  dsimp only [Option.getD_some]
  refine XP.seq ?_; refine XP.regionS ?_; refine RP.o1 (.assign rfl) rfl rfl ?_; refine RP.nil ?_
  have hs1 : aSlice Tryz.prog 46 .nils (some (.int .i64 (.ofNat 0))) none none m = .mk .nils m := by
    unfold aSlice
    rw [und46]
    simp only [hj]
    rfl
  refine XP.seq ?_; refine XP.regionS ?_; refine RP.o1 (.move rfl) rfl rfl ?_; refine RP.o1 (.move rfl) rfl rfl ?_; refine RP.o1 (OpTo.of fun _ => op_slice rfl (map_some rfl) rfl rfl hs1) rfl rfl ?_; refine RP.nil ?_; refine XP.seq ?_; refine XP.regionS ?_; refine RP.o1 (.move rfl) rfl rfl ?_; refine RP.o1 (.len rfl len46) rfl rfl ?_; refine RP.o1 (.assign rfl) rfl rfl ?_; refine RP.nil ?_; refine XP.seq ?_; refine XP.seq ?_; refine XP.regionS ?_; refine RP.o1 (.move rfl) rfl rfl ?_; refine RP.o1 (.bin rfl rfl eql_is) rfl rfl ?_; refine RP.nil ?_
  refine XP.condS false rfl ?_  -- if t16
  refine XP.skip ?_; refine XP.seq ?_; refine XP.regionS ?_; refine RP.o1 (.move rfl) rfl rfl ?_; refine RP.o1 (.len rfl len46n) rfl rfl ?_; refine RP.o1 (.assign rfl) rfl rfl ?_; refine RP.nil ?_; refine XP.seq ?_; refine XP.seq ?_; refine XP.regionS ?_; refine RP.o1 (.move rfl) rfl rfl ?_; refine RP.o1 (.move rfl) rfl rfl ?_; refine RP.o1 (.bin rfl rfl eql_is) rfl rfl ?_; refine RP.nil ?_
  refine XP.condS true rfl ?_  -- if t22
  have hap := append_nil (st := 46) (xt := some 46) encIt (by decide) e46 s46 ap46 hv (by simp) (by simp)
  refine XP.seq ?_; refine XP.regionS ?_; refine RP.o1 (.move rfl) rfl rfl ?_; refine RP.o1 (.move rfl) rfl rfl ?_; refine RP.op (OpTo.of fun _ => op_append rfl rfl hap) rfl rfl (Nat.le_succ _) ?_; refine RP.o1 (.assign rfl) rfl rfl ?_; refine RP.nil ?_
  exact XP.ret ⟨.inr rfl, _, _, oneRes rfl, rfl, rfl⟩
end Go.Ev
end
section
namespace Go.Ev
set_option linter.all false
open Go.Proofs
set_option maxRecDepth 10000
theorem copy_part {P : Program} {α : Type} {enc : α → List AV} {sz : Nat} {m : AMem} {b off : Nat} {dt : TypeId} {i : TypeInfo} {z : List AV} {cap c2 : Option Nat} {b2 off2 L : Nat} {ys : List α} {N : Nat} (he : Enc enc sz) (hz : 0 < sz) (hi : elemInfo P dt = some (i, z)) (hs : i.size = sz) (hy : RowAt enc sz m b2 off2 ys) (hl : ys.length ≤ L) (ho : m.own b sz N) (hn : off + ys.length * sz ≤ N) :
    aCopy P dt (.slice b off ys.length cap) (.slice b2 off2 L c2) m = .mk (.int .i64 (.ofNat ys.length)) (m.write b off (flat enc ys)) := by
  unfold aCopy
  rw [hi]
  show fNat (bif2 (Nat.ble L ys.length) L ys.length) _ = _
  have e : bif2 (Nat.ble L ys.length) L ys.length = ys.length := by
    rw [bif2_eq]
    split
    · rename_i h
      have := Nat.le_of_ble_eq_true h
      omega
    · rfl
  rw [e, fNat_eq, hs]
  show bif2 (Nat.ble ys.length L) (loadK m b2 off2 (Nat.mul ys.length sz) _) _ = _
  rw [bif2_eq, if_pos (Nat.ble_eq_true_of_le hl)]
  refine (hy.load he hz).trans ?_
  exact storeK_is _ _ _ _ _ ho (by rw [flat_length he.len]; exact hn) (flat_plain he.plain _)
theorem over_is {m : AMem} {vb b a1 a2 c1 c2 E N K : Nat} {a3 c3 : Option Nat} {ro : Bool} {c : T AV} (hv : m.t.get vb = some (.cells ro false E (N + 1) c)) (ho : m.own b 2 (K + 1)) (hne : vb ≠ b) :
    overSum [.slice vb a1 a2 a3, .slice b c1 c2 c3] m = .mk (.bool false) m := by
  obtain ⟨sg, d, e⟩ := ho
  unfold overSum
  simp only [hv, e]
  rw [bif2_eq, if_neg (fun k => hne (Nat.eq_of_beq_eq_true k))]
/-- Two parts laid into the row. -/
theorem two_rows {m : AMem} {b : Nat} {xs : List (Int × Int)} {x : Int × Int} {i : Nat} (hi : i ≤ xs.length) (R : RowAt itC 2 m b 0 xs) (ho : m.own b 2 ((xs.length + 1) * 2)) :
    RowAt itC 2 ((m.write b ((i + 1) * 2) (flat itC (xs.drop i))).write b (i * 2) (flat itC [x])) b 0 (xs.take i ++ x :: xs.drop i) ∧ ((m.write b ((i + 1) * 2) (flat itC (xs.drop i))).write b (i * 2) (flat itC [x])).own b 2 ((xs.length + 1) * 2) := by
  have l1 : (flat itC (xs.take i)).length = i * 2 := by rw [flat_length encIt.len, List.length_take, Nat.min_eq_left hi]
  have l2 : (flat itC [x]).length = 2 := by rw [flat_length encIt.len]; rfl
  have l3 : (flat itC (xs.drop i)).length = (xs.length - i) * 2 := by rw [flat_length encIt.len, List.length_drop]
  have lx : (flat itC xs).length = xs.length * 2 := flat_length encIt.len xs
  have o2 := AMem.write_own m b ((i + 1) * 2) (flat itC (xs.drop i)) ho
  have o3 := AMem.write_own _ b (i * 2) (flat itC [x]) o2
  have ln : (xs.take i ++ x :: xs.drop i).length = xs.length + 1 := by simp; omega
  refine ⟨RowAt.of_flat encIt (by rw [AMem.write_next, AMem.write_next]; exact R.lt) (by rw [ln]; exact o3) fun q hq => ?_, o3⟩
  rw [ln] at hq
  rw [AMem.write_cell _ _ _ _ o2 (by rw [l2]; omega), AMem.write_cell _ _ _ _ ho (by rw [l3]; omega), l2, l3]
  have e : flat itC (xs.take i ++ x :: xs.drop i) = flat itC (xs.take i) ++ (flat itC [x] ++ flat itC (xs.drop i)) := by rw [flat_append]; rfl
  have ex : flat itC xs = flat itC (xs.take i) ++ flat itC (xs.drop i) := by rw [← flat_append, List.take_append_drop]
  rw [e]
  by_cases c1 : q < i * 2
  · rw [if_neg (by omega), if_neg (by omega), List.getElem?_append_left (by omega)]
    have := R.cells encIt (by decide) q (by omega)
    rw [Nat.zero_add] at this
    rw [this, ex, List.getElem?_append_left (by omega)]
  · by_cases c2 : q < (i + 1) * 2
    · rw [if_pos (by omega), List.getElem?_append_right (by omega), l1, List.getElem?_append_left (by omega)]
    · rw [if_neg (by omega), if_pos (by omega), List.getElem?_append_right (by omega), l1, List.getElem?_append_right (by omega), l2]
      congr 1
      omega
theorem insRest64 {S : Sums} (hS : S 75 = some overSum) {m : AMem} {t0 : T AV} {b vb E N : Nat} {ro : Bool} {c : T AV} {xs : List (Int × Int)} {x : Int × Int} {i : Nat} (hi : i < xs.length) (hx : xs.length < 1048576) (R : RowAt itC 2 m b 0 xs) (ho : m.own b 2 ((xs.length + 1) * 2)) (hv : RowIs itC 2 m (.slice vb 0 1 (some 1)) [x])
    (hvb : m.t.get vb = some (.cells ro false E (N + 1) c)) (hne : vb ≠ b) :
    XP Tryz.prog S 95 parts64.rest (toT t0 [(0, .slice b 0 (xs.length + 1) none), (7, .int .i64 (.ofNat 1)), (8, .int .i64 (.ofNat xs.length)), (1, .int .i64 (.ofNat i)), (2, .slice vb 0 1 (some 1))]) m fun y t m' => y = .ret ∧ t.get 6 = some (.slice b 0 (xs.length + 1) none) ∧ m'.next = m.next ∧
      m' = (m.write b ((i + 1) * 2) (flat itC (xs.drop i))).write b (i * 2) (flat itC [x]) := by
  obtain ⟨j54, hj, sj⟩ := inf54
  obtain ⟨i46, e46, s46⟩ := ei46
  have hs1 := slice_rest (b := b) (off := 0) (len := xs.length + 1) (m := m) (k := .i64) (i := i + 1) und46 hj (by omega) (by rw [sj]; exact ho.blk)
  have hs2 := slice_rest (b := b) (off := 0) (len := xs.length + 1) (m := m) (k := .i64) (i := i) und46 hj (by omega) (by rw [sj]; exact ho.blk)
  rw [sj, Nat.zero_add] at hs1 hs2
  have ld : (xs.drop i).length = xs.length - i := List.length_drop
  have Rd : RowAt itC 2 m b (i * 2) (xs.drop i) := ⟨R.lt,
    by obtain ⟨E, N, h1, h2⟩ := R.blk; exact ⟨E, N, h1, by rw [ld]; omega⟩, fun k y hy j hj => by
      have := R.at_ (i + k) y (by rwa [List.getElem?_drop] at hy) j hj
      rw [← this]
      congr 1
      omega⟩
  refine XP.seq ?_; refine XP.seq ?_; refine XP.regionS ?_; refine RP.o1 (.move rfl) rfl rfl ?_; refine RP.o1 (.move rfl) rfl rfl ?_; refine RP.o1 (.move rfl) rfl rfl ?_; refine RP.o1 (.move rfl) rfl rfl ?_; refine RP.o1 (.bin rfl rfl (v := .int .i64 (.ofNat (i + 1))) (add_is (by show _ ≤ (i : Int) + 1; omega) (by show (i : Int) + 1 < _; omega))) rfl rfl ?_
  refine RP.o1 (OpTo.of fun _ => op_slice rfl (map_some rfl) rfl rfl hs1) rfl rfl ?_; refine RP.o1 (OpTo.callS rfl rfl (CallTo.sum hS (over_is (K := (xs.length + 1) * 2 - 1) hvb (by rw [show (xs.length + 1) * 2 - 1 + 1 = (xs.length + 1) * 2 by omega]; exact ho) hne))) rfl rfl ?_
  refine RP.o1 (.not_ rfl) rfl rfl ?_; refine RP.nil ?_
  refine XP.condS true rfl ?_  -- if t68
  have hc1 := copy_part (dt := 46) (b := b) (off := (i + 1) * 2) (cap := none) (c2 := none) (L := xs.length + 1 - i) encIt (by decide) e46 s46 Rd (by rw [ld]; omega) ho (by rw [ld]; omega)
  rw [ld] at hc1
  rw [show xs.length + 1 - (i + 1) = xs.length - i by omega] at hs1
  have K1 := AMem.write_own m b ((i + 1) * 2) (flat itC (xs.drop i)) ho
  have hs3 := slice_rest (b := b) (off := 0) (len := xs.length + 1) (m := m.write b ((i + 1) * 2) (flat itC (xs.drop i))) (k := .i64) (i := i) und46 hj (by omega) (by rw [sj]; exact K1.blk)
  rw [sj, Nat.zero_add] at hs3
  have K : Kp (fun a => a = b) m (m.write b ((i + 1) * 2) (flat itC (xs.drop i))) := (Kp.refl m).write (.inr rfl)
  have hv1 := hv.keep K (fun a _ _ _ h => by cases h; exact hne)
  have hc2 := copy_is (b := b) (off := i * 2) (len := xs.length + 1 - i) (cap := none) encIt (by decide) e46 s46 hv1 (by simp; omega) K1 (by simp; omega)
  refine XP.seq ?_; refine XP.drawnS (ms := [0, 0, 0, 6, 15, 0, 0, 96, 255]) (by kernel_rfl) ?_; refine DP.pure (.move rfl) rfl rfl rfl ?_; refine DP.pure (.move rfl) rfl rfl rfl ?_; refine DP.pure (.move rfl) rfl rfl rfl ?_; refine DP.pure (.bin rfl rfl (v := .int .i64 (.ofNat (i + 1))) (add_is (by show _ ≤ (i : Int) + 1; omega) (by show (i : Int) + 1 < _; omega))) rfl rfl rfl ?_
  refine DP.read (fun _ => op_slice rfl (map_some rfl) rfl rfl hs1) rfl rfl rfl (fun _ => op_slice_leaf rfl (map_some rfl) rfl rfl (slice_rest_leaf und46 hj (by omega) (by omega))) (.inl (by kernel_rfl)) (fun _ => cuts_nil) ?_; refine DP.pure (.move rfl) rfl rfl rfl ?_; refine DP.pure (.move rfl) rfl rfl rfl ?_
  by_cases h0 : i = 0
  · have hs0 : aSlice Tryz.prog 46 (.slice b 0 (xs.length + 1) none) (some (.int .i64 (.ofNat i))) none none ⟨m.next, .leaf⟩ = .mk (.slice b (i * 2) (xs.length + 1 - i) none) ⟨m.next, .leaf⟩ := by
      subst h0
      unfold aSlice
      rw [und46]
      simp only [hj]
      show bif2 (Nat.ble 0 (xs.length + 1) && Nat.ble (xs.length + 1) (xs.length + 1)) _ _ = _
      rw [Nat.ble_eq_true_of_le (Nat.zero_le _), Nat.ble_eq_true_of_le (Nat.le_refl _)]
      rfl
    refine DP.pure (OpTo.of fun _ => op_slice rfl (map_some rfl) rfl rfl hs0) rfl rfl rfl ?_; refine DP.heavy (OpTo.of fun _ => op_copy rfl rfl hc1) rfl rfl rfl (by kernel_rfl) (by kernel_rfl) (by rw [AMem.write_next]; exact Nat.le_refl _) (pk_drop (by kernel_rfl) pk_nil) ?_
    refine DP.nil ?_; refine XP.seq ?_; refine XP.regionS ?_; refine RP.o1 (.move rfl) rfl rfl ?_; refine RP.o1 (.move rfl) rfl rfl ?_; refine RP.o1 (OpTo.of fun _ => op_slice rfl (map_some rfl) rfl rfl hs3) rfl rfl ?_; refine RP.o1 (.move rfl) rfl rfl ?_; refine RP.op (OpTo.of fun _ => op_copy rfl rfl hc2) rfl rfl (by rw [AMem.write_next m, AMem.write_next, AMem.write_next]; exact Nat.le_refl _) ?_
    refine RP.nil ?_; refine XP.seq ?_; refine XP.regionS ?_; refine RP.o1 (.move rfl) rfl rfl ?_; refine RP.o1 (.assign rfl) rfl rfl ?_; refine RP.nil ?_
    exact XP.ret ⟨rfl, look_is rfl, by rw [AMem.write_next, AMem.write_next], rfl⟩
  · refine DP.read (fun _ => op_slice rfl (map_some rfl) rfl rfl hs2) rfl rfl rfl (fun _ => op_slice_leaf rfl (map_some rfl) rfl rfl (slice_rest_leaf und46 hj (by omega) (by omega))) (.inl (by kernel_rfl)) (fun _ => cuts_nil) ?_; refine DP.heavy (OpTo.of fun _ => op_copy rfl rfl hc1) rfl rfl rfl (by kernel_rfl) (by kernel_rfl) (by rw [AMem.write_next]; exact Nat.le_refl _) (pk_drop (by kernel_rfl) (pk_drop (by kernel_rfl) pk_nil)) ?_
    refine DP.nil ?_; refine XP.seq ?_; refine XP.regionS ?_; refine RP.o1 (.move rfl) rfl rfl ?_; refine RP.o1 (.move rfl) rfl rfl ?_; refine RP.o1 (OpTo.of fun _ => op_slice rfl (map_some rfl) rfl rfl hs3) rfl rfl ?_; refine RP.o1 (.move rfl) rfl rfl ?_; refine RP.op (OpTo.of fun _ => op_copy rfl rfl hc2) rfl rfl (by rw [AMem.write_next m, AMem.write_next, AMem.write_next]; exact Nat.le_refl _) ?_
    refine RP.nil ?_; refine XP.seq ?_; refine XP.regionS ?_; refine RP.o1 (.move rfl) rfl rfl ?_; refine RP.o1 (.assign rfl) rfl rfl ?_; refine RP.nil ?_
    exact XP.ret ⟨rfl, look_is rfl, by rw [AMem.write_next, AMem.write_next], rfl⟩
end Go.Ev
end
section
namespace Go.Ev
set_option linter.all false
open Go.Proofs
set_option maxRecDepth 10000
/-- With fuel enough. -/
noncomputable def Lim (f : Nat → OR) (r : OR) : Prop := ∃ N, ∀ n, N ≤ n → f n = r
theorem Lim.norm {P : Program} {S : Sums} {nt : Nat} {c : Code} {t : T AV} {m : AMem} {r : OR} {k : Nat → T AV → AMem → OR} (h : XP P S nt c t m fun y t' m' => y = .norm ∧ Lim (fun n => k n t' m') r) : Lim (fun n => normK (exec P S n nt c t m) (k n)) r := by
  obtain ⟨y, t', m', ⟨N1, h1⟩, rfl, N2, h2⟩ := h
  refine ⟨N1 + N2, fun n hn => ?_⟩
  show normK (exec P S n nt c t m) (k n) = r
  rw [h1 n (by omega)]
  exact h2 n (by omega)
theorem Lim.ret {P : Program} {S : Sums} {nt : Nat} {c : Code} {t : T AV} {m : AMem} {r : OR} {k : Nat → T AV → AMem → OR} (h : XP P S nt c t m fun y t' m' => y = .ret ∧ Lim (fun n => k n t' m') r) : Lim (fun n => retK (exec P S n nt c t m) (k n)) r := by
  obtain ⟨y, t', m', ⟨N1, h1⟩, rfl, N2, h2⟩ := h
  refine ⟨N1 + N2, fun n hn => ?_⟩
  show retK (exec P S n nt c t m) (k n) = r
  rw [h1 n (by omega)]
  exact h2 n (by omega)
theorem insChk_is {t : T AV} {b off len : Nat} {r : OR} (h0 : t.get 0 = some (.slice b off len none)) (h7 : t.get 7 = some (.int .i64 (.ofNat 1))) (h8 : t.get 8 = some (.int .i64 (.ofNat len))) (hl : len ≤ 1048576) : insChk b off len t r = r := by
  unfold insChk
  rw [h0, h7, h8]
  show bif2 (Nat.beq b b && Nat.beq off off && Nat.beq len len && Nat.beq 1 1 && Nat.beq len len && Nat.ble len 1048576) r _ = r
  rw [Nat.beq_refl, Nat.beq_refl, Nat.beq_refl, Nat.ble_eq_true_of_le hl]
  rfl
theorem Lim.chk {t : T AV} {b off len : Nat} {f : Nat → OR} {r : OR} (h0 : t.get 0 = some (.slice b off len none)) (h7 : t.get 7 = some (.int .i64 (.ofNat 1))) (h8 : t.get 8 = some (.int .i64 (.ofNat len))) (hl : len ≤ 1048576) (h : Lim f r) : Lim (fun n => insChk b off len t (f n)) r := by
  obtain ⟨N, h⟩ := h
  exact ⟨N, fun n hn => (insChk_is h0 h7 h8 hl).trans (h n hn)⟩
noncomputable def setsS (v : AV) : List Nat → List (Nat × AV) → List (Nat × AV)
  | [], σ => σ
  | i :: l, σ => setsS v l ((i, v) :: σ)
theorem setsK_is {v : AV} {t0 : T AV} {k : T AV → OR} : ∀ (l : List Nat) (σ : List (Nat × AV)), setsK v l (toT t0 σ) k = k (toT t0 (setsS v l σ))
  | [], _ => rfl
  | i :: l, σ => by
    show T.setK _ (some v) (toT t0 σ) i (fun t => setsK v l t k) = _
    rw [T.setK_is]
    exact setsK_is l ((i, v) :: σ)
theorem Lim.sets {v : AV} {t0 : T AV} {l : List Nat} {σ : List (Nat × AV)} {k : Nat → T AV → OR} {r : OR} (h : Lim (fun n => k n (toT t0 (setsS v l σ))) r) : Lim (fun n => setsK v l (toT t0 σ) (k n)) r := by
  obtain ⟨N, h⟩ := h
  exact ⟨N, fun n hn => (setsK_is l σ).trans (h n hn)⟩
theorem own_is {m : AMem} {b size N : Nat} {r : OR} (h : m.own b size N) : ownK m b size r = r := by
  obtain ⟨sg, c, e⟩ := h
  unfold ownK
  rw [e]
  show bif2 (Nat.beq size size) r _ = r
  rw [Nat.beq_refl]; rfl
theorem eqVs_ints : ∀ (l : List AV) (n : Nat), (∀ a ∈ l, ∃ k x, a = .int k x) → l.length + 1 < n → eqV.eqVs n l l = true
  | [], n, _, h => by
    match n, h with
    | n + 1, _ => rfl
  | a :: l, n, hl, h => by
    match n, h with
    | n + 1, h =>
      obtain ⟨k, x, rfl⟩ := hl a (List.mem_cons_self ..)
      show bif2 (eqV n (.int k x) (.int k x)) (eqV.eqVs n l l) false = true
      have hn : n = (n - 1) + 1 := by simp only [List.length_cons] at h; omega
      rw [hn, eqV_int, ← hn, eqVs_ints l n (fun a ha => hl a (List.mem_cons_of_mem _ ha)) (by simp only [List.length_cons] at h; omega)]
      rfl
theorem insShift64 {m : AMem} {b vb E N : Nat} {ro : Bool} {c : T AV} {xs : List (Int × Int)} {x : Int × Int} {i : Nat} (hi : i < xs.length) (hx : xs.length < 1048576) (R : RowAt itC 2 m b 0 xs) (ho : m.own b 2 (xs.length * 2)) (hv : RowIs itC 2 m (.slice vb 0 1 (some 1)) [x])
    (hvb : m.t.get vb = some (.cells ro false E (N + 1) c)) (hne : vb ≠ b) {k : Nat → List AV → OR} {r : OR} (hk : Lim (fun n => k n (flat itC (xs.take i ++ x :: xs.drop i))) r) :
    Lim (fun n => insShift Tryz.prog (sumsI 75) n 95 parts64 2 b 0 xs.length (.int .i64 (.ofNat i)) (.slice vb 0 1 (some 1)) m (k n)) r := by
  have hS : (sumsI 75) 75 = some overSum := rfl
  obtain ⟨j54, hj, sj⟩ := inf54
  have lx : (flat itC xs).length = xs.length * 2 := flat_length encIt.len xs
  unfold insShift
  simp only [own_is ho, elems_is encIt (by decide : 0 < 2) (.inr (.inr ⟨b, 0, none, rfl, R⟩) : RowIs itC 2 m (.slice b 0 xs.length none) xs), putK_is, T.setK_is]
  have hM : ∃ M : AMem, M = ⟨m.next, m.t.put b (some (.cells false true 2 (Nat.add 0 (Nat.mul (Nat.succ xs.length) 2)) (T.leaf.puts 0 (flat itC xs ++ repA [AV.any] 2))))⟩ := ⟨_, rfl⟩
  obtain ⟨M, hM⟩ := hM
  rw [← hM]
  have gb : M.t.get b = some (.cells false true 2 ((xs.length + 1) * 2) (T.leaf.puts 0 (flat itC xs ++ repA [AV.any] 2))) := by
    rw [hM, T.get_put, if_pos rfl, show Nat.add 0 (Nat.mul (Nat.succ xs.length) 2) = (xs.length + 1) * 2 from Nat.zero_add _]
  have oM : M.own b 2 ((xs.length + 1) * 2) := ⟨_, _, gb⟩
  have nM : M.next = m.next := by rw [hM]
  have cM : ∀ q, q < xs.length * 2 → M.cell b q = (flat itC xs)[q]? := fun q hq => by
    unfold AMem.cell
    rw [gb]
    show (if q < (xs.length + 1) * 2 then some (((T.leaf.puts 0 (flat itC xs ++ repA [AV.any] 2)).get q).getD .any) else none) = _
    rw [if_pos (by omega), T.get_puts, if_pos (by rw [List.length_append, lx]; omega), Nat.sub_zero, List.getElem?_append_left (by omega), List.getElem?_eq_getElem (by omega)]
    rfl
  have RM : RowAt itC 2 M b 0 xs := ⟨by rw [nM]; exact R.lt, ⟨2, _, oM.blk, by omega⟩, fun i x hx j hj => by
    have hi := (List.getElem?_eq_some_iff.1 hx).1
    have : (i + 1) * 2 ≤ xs.length * 2 := Nat.mul_le_mul_right _ hi
    rw [Nat.zero_add, cM _ (by omega)]
    exact flat_get encIt.len xs i x hx j hj⟩
  have KM : Kp (fun a => a = b) m M := ⟨by rw [nM]; exact Nat.le_refl _, fun c hc hd => by rw [hM, T.get_put, if_neg hd]⟩
  have vM := hv.keep KM (fun a _ _ _ h => by cases h; exact hne)
  have gv : M.t.get vb = some (.cells ro false E (N + 1) c) := by rw [hM, T.get_put, if_neg hne]; exact hvb
  clear hM
  have hM2 := two_rows (x := x) (Nat.le_of_lt hi) RM oM
  have hrest := fun t0 => insRest64 (t0 := t0) (x := x) hS hi hx RM oM vM gv hne
  refine Lim.norm ?_
  show XP _ _ _ _ (toT .leaf [(2, .slice vb 0 1 (some 1)), (1, .int .i64 (.ofNat i)), (0, .slice b 0 xs.length none)]) M _
  refine XP.regionS ?_; refine RP.o1 (.assign rfl) rfl rfl ?_
  refine RP.nil ⟨rfl, ?_⟩
  have hs1 := slice_rest (b := b) (off := 0) (len := xs.length) (m := M) (k := .i64) (i := i) und46 hj hi (by rw [sj]; exact oM.blk)
  refine Lim.norm ?_; refine XP.regionS ?_; refine RP.o1 (.move rfl) rfl rfl ?_; refine RP.o1 (.move rfl) rfl rfl ?_; refine RP.o1 (OpTo.of fun _ => op_slice rfl (map_some rfl) rfl rfl hs1) rfl rfl ?_
  refine RP.nil ⟨rfl, ?_⟩
  refine Lim.norm ?_; refine XP.regionS ?_; refine RP.o1 (.move rfl) rfl rfl ?_; refine RP.o1 (.len rfl len46) rfl rfl ?_; refine RP.o1 (.assign rfl) rfl rfl ?_
  refine RP.nil ⟨rfl, ?_⟩
  refine Lim.norm ?_; refine XP.seq ?_; refine XP.regionS ?_; refine RP.o1 (.move rfl) rfl rfl ?_; refine RP.o1 (.bin rfl rfl eql_is) rfl rfl ?_; refine RP.nil ?_
  refine XP.condS false rfl ?_  -- if t16
  refine XP.skip ⟨rfl, ?_⟩
  refine Lim.norm ?_; refine XP.regionS ?_; refine RP.o1 (.move rfl) rfl rfl ?_; refine RP.o1 (.len rfl len46) rfl rfl ?_; refine RP.o1 (.assign rfl) rfl rfl ?_
  refine RP.nil ⟨rfl, ?_⟩
  refine Lim.norm ?_; refine XP.seq ?_; refine XP.regionS ?_; refine RP.o1 (.move rfl) rfl rfl ?_; refine RP.o1 (.move rfl) rfl rfl ?_; refine RP.o1 (.bin rfl rfl eql_is) rfl rfl ?_
  rw [dNe (by omega : i ≠ xs.length)]
  refine RP.nil ?_
  refine XP.condS false rfl ?_  -- if t22
  refine XP.skip ⟨rfl, ?_⟩
  refine Lim.chk (look_is rfl) (look_is rfl) (look_is rfl) (Nat.le_of_lt hx) ?_; refine Lim.sets ?_; refine Lim.sets ?_; refine Lim.norm ?_
  refine XP.condS false rfl ?_  -- if t31
  refine XP.skip ⟨rfl, ?_⟩
  refine Lim.chk (look_is rfl) (look_is rfl) (look_is rfl) (Nat.le_of_lt hx) ?_; refine Lim.sets ?_; refine Lim.sets ?_
  dsimp only [setsS, putS]
  rw [toT_less (τ := [(0, .slice b 0 (xs.length + 1) none), (7, .int .i64 (.ofNat 1)), (8, .int .i64 (.ofNat xs.length)), (1, .int .i64 (.ofNat i)), (2, .slice vb 0 1 (some 1))]) (.cons rfl (.cons rfl (.cons rfl (.cons rfl (.cons rfl .nil)))))]
  obtain ⟨y, t', m', h1, rfl, h6, hn, hm⟩ := hrest _
  subst hm
  refine Lim.ret ⟨.ret, t', _, h1, rfl, ?_⟩
  simp only [h6]
  obtain ⟨RR, oo⟩ := hM2
  have lr : (xs.take i ++ x :: xs.drop i).length = xs.length + 1 := by simp; omega
  have he := fun K => elems_is encIt (by decide : 0 < 2) (.inr (.inr ⟨b, 0, none, rfl, RR⟩) : RowIs itC 2 _ (.slice b 0 _ none) (xs.take i ++ x :: xs.drop i)) (k := K)
  rw [lr] at he
  obtain ⟨N0, hk⟩ := hk
  refine ⟨N0, fun n hN => ?_⟩
  show bif2 (Nat.beq b b && Nat.beq 0 0 && Nat.beq (xs.length + 1) (xs.length + 1) && Nat.beq (AMem.next _) m.next) (ownK _ b 2 (elemsK _ 2 (Nat.succ xs.length) (.slice b 0 (Nat.succ xs.length) none) (k n))) (.fail 3113) = r
  rw [hn, nM, Nat.beq_refl, Nat.beq_refl, Nat.beq_refl, Nat.beq_refl]
  show bif2 true _ (.fail 3113) = r
  rw [bif2_eq, if_pos rfl, own_is oo]
  exact (he _).trans (hk n hN)
end Go.Ev
end
section
namespace Go.Ev
set_option linter.all false
open Go.Proofs
set_option maxRecDepth 10000
theorem insGrowL {m : AMem} {b vb : Nat} {xs : List (Int × Int)} {x : Int × Int} {i : Nat} (hi : i < xs.length) (hx : xs.length < 1048576) (R : RowAt itC 2 m b 0 xs) (hv : RowIs itC 2 m (.slice vb 0 1 (some 1)) [x]) {k : Nat → List AV → OR} {r : OR} (hk : Lim (fun n => k n (flat itC (xs.take i ++ x :: xs.drop i))) r) :
    Lim (fun n => insGrow Tryz.prog (sumsI 75) n 64 2 b 0 xs.length (.int .i64 (.ofNat i)) (.slice vb 0 1 (some 1)) m (k n)) r := by
  obtain ⟨m', ⟨N1, h1⟩, _, hn, RR, oo⟩ := insGrow64 (S := sumsI 75) rfl (vb := vb) (x := x) hi hx R hv
  obtain ⟨N0, hk⟩ := hk
  have lr : (xs.take i ++ x :: xs.drop i).length = xs.length + 1 := by simp; omega
  have he := fun K => elems_is encIt (by decide : 0 < 2) (.inr (.inr ⟨m.next, 0, none, rfl, RR⟩) : RowIs itC 2 _ (.slice m.next 0 _ none) (xs.take i ++ x :: xs.drop i)) (k := K)
  rw [lr] at he
  refine ⟨N0 + N1, fun n hN => ?_⟩
  show insGrow Tryz.prog (sumsI 75) n 64 2 b 0 xs.length (.int .i64 (.ofNat i)) (.slice vb 0 1 (some 1)) m (k n) = r
  unfold insGrow
  rw [h1 n (by omega)]
  show bif2 (Nat.beq m.next m.next && Nat.beq 0 0 && Nat.beq (xs.length + 1) (xs.length + 1) && Nat.beq m'.next (m.next + 1)) (ownK m' m.next 2 (elemsK m' 2 (xs.length + 1) (.slice m.next 0 (xs.length + 1) none) (k n))) (.fail 3115) = r
  rw [hn, Nat.beq_refl, Nat.beq_refl, Nat.beq_refl, Nat.beq_refl]
  show bif2 true _ (.fail 3115) = r
  rw [bif2_eq, if_pos rfl, own_is oo]
  exact (he _).trans (hk n (by omega))
theorem itC_ints (xs : List (Int × Int)) : ∀ a ∈ flat itC xs, ∃ k x, a = AV.int k x := by
  induction xs with
  | nil => intro a ha; cases ha
  | cons y ys ih =>
    intro a ha
    have e : flat itC (y :: ys) = itC y ++ flat itC ys := rfl
    rw [e, List.mem_append] at ha
    rcases ha with h | h
    · have e2 : itC y = [.int .i64 y.1, .int .i64 y.2] := rfl
      rw [e2] at h
      simp only [List.mem_cons, List.not_mem_nil, or_false] at h
      rcases h with rfl | rfl
      · exact ⟨_, _, rfl⟩
      · exact ⟨_, _, rfl⟩
    · exact ih a h
theorem pa64 : insParts (Tryz.f64.body.getD .skip) = some parts64 := by kernel_rfl
theorem insMid64 {m : AMem} {b vb N E : Nat} {ro : Bool} {c : T AV} {xs : List (Int × Int)} {x : Int × Int} {i : Nat} (hi : i < xs.length) (hx : xs.length < 490) (R : RowAt itC 2 m b 0 xs) (ho : m.own b 2 (xs.length * 2)) (hv : RowAt itC 2 m vb 0 [x]) (hvb : m.t.get vb = some (.cells ro false E (N + 1) c)) (hne : vb ≠ b) :
    insW [.slice b 0 xs.length none, .int .i64 (.ofNat i), .slice vb 0 1 (some 1)] m = .mk (.slice m.next 0 (xs.length + 1) none) (((m.drop b).drop vb).new true 2 (flat itC (xs.take i ++ x :: xs.drop i))) := by
  obtain ⟨sg, d, gb⟩ := ho
  have hM : ∃ M : AMem, M = ⟨m.next, (T.leaf.put b (m.t.get b)).put vb (m.t.get vb)⟩ := ⟨_, rfl⟩
  obtain ⟨M, hM⟩ := hM
  have nM : M.next = m.next := by rw [hM]
  have eb : M.t.get b = m.t.get b := by rw [hM, T.get_put, if_neg (fun k => hne k.symm), T.get_put, if_pos rfl]
  have ev : M.t.get vb = m.t.get vb := by rw [hM, T.get_put, if_pos rfl]
  have RM : RowAt itC 2 M b 0 xs := by
    obtain ⟨E, N, h1, h2⟩ := R.blk
    exact ⟨by rw [nM]; exact R.lt, ⟨E, N, AMem.blk_of h1 eb, h2⟩, fun i x hx j hj => by rw [AMem.cell_of eb]; exact R.at_ i x hx j hj⟩
  have vM : RowAt itC 2 M vb 0 [x] := by
    obtain ⟨E, N, h1, h2⟩ := hv.blk
    exact ⟨by rw [nM]; exact hv.lt, ⟨E, N, AMem.blk_of h1 ev, h2⟩, fun i x hx j hj => by rw [AMem.cell_of ev]; exact hv.at_ i x hx j hj⟩
  have oM : M.own b 2 (xs.length * 2) := ⟨sg, d, eb.trans gb⟩
  have vI : RowIs itC 2 M (.slice vb 0 1 (some 1)) [x] := .inr (.inr ⟨vb, 0, some 1, rfl, vM⟩)
  have lr : (flat itC (xs.take i ++ x :: xs.drop i)).length = (xs.length + 1) * 2 := by rw [flat_length encIt.len]; simp; omega
  have hE : eqV.eqVs 1000 (flat itC (xs.take i ++ x :: xs.drop i)) (flat itC (xs.take i ++ x :: xs.drop i)) = true := eqVs_ints _ 1000 (itC_ints _) (by rw [lr]; omega)
  rw [gb, hvb] at hM
  have e : ∀ n, insertSum Tryz.prog (sumsI 75) n 64 2 [.slice b 0 xs.length none, .int .i64 (.ofNat i), .slice vb 0 1 (some 1)] m =
      insGrow Tryz.prog (sumsI 75) n 64 2 b 0 xs.length (.int .i64 (.ofNat i)) (.slice vb 0 1 (some 1)) M (fun l1 => insShift Tryz.prog (sumsI 75) n 95 parts64 2 b 0 xs.length (.int .i64 (.ofNat i)) (.slice vb 0 1 (some 1)) M fun l2 =>
        bif2 (eqV.eqVs 1000 l1 l2) (growA 2 l1 (Nat.succ xs.length) ((m.drop b).drop vb)) (.fail 3124)) := fun n => by
    have hb : Nat.blt i xs.length = true := by rw [Nat.blt_eq]; exact hi
    unfold insertSum
    simp only [hb, bif2_eq, cd64]
    rw [if_pos trivial]
    unfold insMid
    simp only [pa64, bif2_eq]
    rw [if_neg (fun k => hne (Nat.eq_of_beq_eq_true k).symm)]
    unfold twoK
    simp only [gb, hvb, T.setK_is]
    rw [← hM, nt64]
    rfl
  refine limSum_eq ?_
  show Lim (fun n => insertSum Tryz.prog (sumsI 75) n 64 2 _ m) _
  rw [show (fun n => insertSum Tryz.prog (sumsI 75) n 64 2 [.slice b 0 xs.length none, .int .i64 (.ofNat i), .slice vb 0 1 (some 1)] m) = _ from funext e]
  refine insGrowL hi (by omega) RM vI (k := fun n l1 => insShift Tryz.prog (sumsI 75) n 95 parts64 2 b 0 xs.length (.int .i64 (.ofNat i)) (.slice vb 0 1 (some 1)) M fun l2 =>
        bif2 (eqV.eqVs 1000 l1 l2) (growA 2 l1 (Nat.succ xs.length) ((m.drop b).drop vb)) (.fail 3124)) (x := x) ?_
  refine insShift64 hi (by omega) RM oM vI (ev.trans hvb) hne (k := fun _ l2 => bif2 (eqV.eqVs 1000 (flat itC (xs.take i ++ x :: xs.drop i)) l2) (growA 2 (flat itC (xs.take i ++ x :: xs.drop i)) (Nat.succ xs.length) ((m.drop b).drop vb)) (.fail 3124)) ?_
  rw [hE]
  refine ⟨0, fun _ _ => ?_⟩
  simp only [bif2_eq, if_pos]
  rw [grow_is]
  rfl
/-- The two others. -/
theorem insEndW {m : AMem} {b vb : Nat} {xs : List (Int × Int)} {x : Int × Int} (hx : xs.length < 1048576) (R : RowAt itC 2 m b 0 xs) (ho : m.own b 2 (xs.length * 2)) (hv : RowAt itC 2 m vb 0 [x]) :
    insW [.slice b 0 xs.length none, .int .i64 (.ofNat xs.length), .slice vb 0 1 (some 1)] m = .mk (.slice m.next 0 (xs.length + 1) none) ((m.drop b).new true 2 (flat itC (xs ++ [x]))) :=
  insW_walk (fun n => by
    have hb : Nat.blt xs.length xs.length = false := by
      cases h : Nat.blt xs.length xs.length with
      | false => rfl
      | true => rw [Nat.blt_eq] at h; omega
    unfold insertSum
    simp only [hb, bif2_eq]
    rfl) (insEnd64 rfl hx R (by rw [Nat.zero_add]; exact ho) (.inr (.inr ⟨vb, 0, some 1, rfl, hv⟩)))
theorem insNilW {m : AMem} {vb : Nat} {x : Int × Int} (hv : RowAt itC 2 m vb 0 [x]) : insW [.nils, .int .i64 (.ofNat 0), .slice vb 0 1 (some 1)] m = .mk (.slice m.next 0 1 none) (m.new true 2 (flat itC [x])) :=
  insW_walk (fun _ => rfl) (insNil64 rfl (.inr (.inr ⟨vb, 0, some 1, rfl, hv⟩)))
end Go.Ev
end
section
namespace Go.Ev
set_option linter.all false
open Go.Proofs
theorem new_rows {M : AMem} (zs : List (Int × Int)) : RowAt itC 2 (M.new true 2 (flat itC zs)) M.next 0 zs ∧ (M.new true 2 (flat itC zs)).own M.next 2 (zs.length * 2) := by
  have h := AMem.new_own M true 2 (flat itC zs)
  rw [flat_length encIt.len] at h
  exact ⟨RowAt.new encIt, h⟩
theorem insW_is {m : AMem} {v : AV} {vb N E : Nat} {ro : Bool} {c : T AV} {xs : List (Int × Int)} {x : Int × Int} {i : Nat} (hi : i ≤ xs.length) (hx : xs.length < 490) (h : (v = .nils ∧ xs = []) ∨ ∃ b, v = .slice b 0 xs.length none ∧ RowAt itC 2 m b 0 xs ∧ m.own b 2 (xs.length * 2) ∧ vb ≠ b)
    (hv : RowAt itC 2 m vb 0 [x]) (hvb : m.t.get vb = some (.cells ro false E (N + 1) c)) :
    ∃ m', insW [v, .int .i64 (.ofNat i), .slice vb 0 1 (some 1)] m = .mk (.slice m.next 0 (xs.length + 1) none) m' ∧ m'.next = m.next + 1 ∧ Kp (fun a => a = vb ∨ ∃ o n c, v = .slice a o n c) m m' ∧ RowAt itC 2 m' m.next 0 (xs.take i ++ x :: xs.drop i) ∧ m'.own m.next 2 ((xs.length + 1) * 2) := by
  have ln : (xs.take i ++ x :: xs.drop i).length = xs.length + 1 := by simp; omega
  rcases h with ⟨rfl, rfl⟩ | ⟨b, rfl, R, ho, hne⟩
  · have : i = 0 := by simpa using hi
    subst this
    obtain ⟨r1, r2⟩ := new_rows (M := m) [x]
    exact ⟨_, insNilW hv, rfl, (Kp.refl m).new _ _ _, r1, r2⟩
  · by_cases he : i = xs.length
    · subst he
      obtain ⟨r1, r2⟩ := new_rows (M := m.drop b) (xs ++ [x])
      have e : xs.take xs.length ++ x :: xs.drop xs.length = xs ++ [x] := by simp
      rw [e]
      refine ⟨_, insEndW (by omega) R ho hv, rfl, ((Kp.refl m).drop (.inr (.inr ⟨_, _, _, rfl⟩))).new _ _ _, r1, ?_⟩
      have : (xs ++ [x]).length = xs.length + 1 := by simp
      rw [this] at r2
      exact r2
    · obtain ⟨r1, r2⟩ := new_rows (M := (m.drop b).drop vb) (xs.take i ++ x :: xs.drop i)
      rw [ln] at r2
      exact ⟨_, insMid64 (by omega) hx R ho hv hvb hne, rfl, (((Kp.refl m).drop (.inr (.inr ⟨_, _, _, rfl⟩))).drop (.inr (.inl rfl))).new _ _ _, r1, r2⟩
end Go.Ev
end
section
namespace Go.Ev
set_option linter.all false
open Go.Proofs
theorem get_ins {α : Type} {xs : List α} {x : α} {i : Nat} (hi : i ≤ xs.length) (k : Nat) : (xs.take i ++ x :: xs.drop i)[k]? = if k < i then xs[k]? else if k = i then some x else xs[k - 1]? := by
  have l1 : (xs.take i).length = i := by rw [List.length_take, Nat.min_eq_left hi]
  by_cases c1 : k < i
  · rw [if_pos c1, List.getElem?_append_left (by omega), List.getElem?_take, if_pos c1]
  · rw [if_neg c1, List.getElem?_append_right (by omega), l1]
    by_cases c2 : k = i
    · subst c2; rw [if_pos rfl, Nat.sub_self]; rfl
    · rw [if_neg c2, show k - i = (k - i - 1) + 1 by omega, List.getElem?_cons_succ, List.getElem?_drop]
      congr 1
      omega
theorem cmpIt_else {y z : Int × Int} (h : ¬ cmpIt z y < 0) (hne : z ≠ y) : cmpIt y z < 0 := by
  rw [cmpIt_neg] at *
  have : ¬ (z.1 = y.1 ∧ z.2 = y.2) := fun k => hne (Prod.ext k.1 k.2)
  omega
theorem Sorted.ins {xs : List (Int × Int)} {x : Int × Int} {i : Nat} (hs : Sorted xs) (C : CutAt xs x i i) (hn : ¬ ∃ y, xs[i]? = some y ∧ cmpIt y x = 0) : Sorted (xs.take i ++ x :: xs.drop i) := by
  intro p q y z hpq hy hz
  rw [get_ins C.top] at hy hz
  by_cases c1 : q < i
  · rw [if_pos (by omega)] at hy; rw [if_pos c1] at hz
    exact hs p q y z hpq hy hz
  · rw [if_neg c1] at hz
    by_cases c2 : q = i
    · rw [if_pos c2] at hz; rw [if_pos (by omega)] at hy
      cases hz
      exact C.low p y (by omega) hy
    · rw [if_neg c2] at hz
      by_cases c3 : p < i
      · rw [if_pos c3] at hy
        exact hs p (q - 1) y z (by omega) hy hz
      · rw [if_neg c3] at hy
        by_cases c4 : p = i
        · rw [if_pos c4] at hy
          cases hy
          refine cmpIt_else (C.high (q - 1) z (by omega) hz) fun e => ?_
          subst e
          by_cases c5 : q - 1 = i
          · rw [c5] at hz
            exact hn ⟨z, hz, cmpIt_zero.2 rfl⟩
          · have hl := (List.getElem?_eq_some_iff.1 hz).1
            have hi : xs[i]? = some (xs[i]'(by omega)) := List.getElem?_eq_getElem _
            exact C.high i _ (Nat.le_refl _) hi (hs i (q - 1) _ z (by omega) hi hz)
        · rw [if_neg c4] at hy
          exact hs (p - 1) (q - 1) y z (by omega) hy hz
/-- What is there then. -/
theorem mem_ins {xs : List (Int × Int)} {x y : Int × Int} {i : Nat} : y ∈ xs.take i ++ x :: xs.drop i ↔ y = x ∨ y ∈ xs := by
  have : y ∈ xs ↔ y ∈ xs.take i ∨ y ∈ xs.drop i := by rw [← List.mem_append, List.take_append_drop]
  rw [List.mem_append, List.mem_cons, this]
  exact ⟨fun h => by rcases h with h | h | h <;> simp [h], fun h => by rcases h with h | h | h <;> simp [h]⟩
end Go.Ev
end
section
namespace Go.Ev
set_option linter.all false
open Go.Proofs
set_option maxRecDepth 10000
theorem cut_mem {xs : List (Int × Int)} {x : Int × Int} {i : Nat} (hs : Sorted xs) (C : CutAt xs x i i) : (∃ y, xs[i]? = some y ∧ cmpIt y x = 0) ↔ x ∈ xs := by
  constructor
  · rintro ⟨y, hy, e⟩
    rw [cmpIt_zero] at e
    subst e
    exact List.mem_of_getElem? hy
  · intro h
    obtain ⟨k, hk⟩ := List.getElem?_of_mem h
    have h0 : ¬ cmpIt x x < 0 := by rw [cmpIt_zero.2 rfl]; decide
    rcases Nat.lt_trichotomy k i with c | c | c
    · exact absurd (C.low k x c hk) h0
    · subst c; exact ⟨x, hk, cmpIt_zero.2 rfl⟩
    · have hl := (List.getElem?_eq_some_iff.1 hk).1
      have hi : xs[i]? = some (xs[i]'(by omega)) := List.getElem?_eq_getElem _
      exact absurd (hs i k _ x c hi hk) (C.high i _ (Nat.le_refl _) hi)
theorem add_found {S : Sums} (hS : Plain S [43, 44, 60, 61, 62, 63, 73, 74]) {m : AMem} {g : Nat} {v : AV} {xs : List (Int × Int)} (h : SetIs m g v xs) (hx : xs.length < 490) (x : Int × Int) (hm : x ∈ xs) :
    ∃ m', CallTo Tryz.prog S 44 [.ptr g 0, itV x] m (.bool false) m' ∧ Kp Nothing m m' := by
  have h44 := hS 44 (by decide)
  have hS' : Plain S [43, 60, 61, 62, 63, 73, 74] := fun f hf => hS f (by simp at hf ⊢; omega)
  suffices H : ∃ r m', CallTo Tryz.prog S 44 [.ptr g 0, itV x] m r m' ∧ r = .bool false ∧ Kp Nothing m m' by
    obtain ⟨r, m', h, rfl, k⟩ := H
    exact ⟨m', h, k⟩
  refine XP.call h44 cd44 nt44 ?_
  show XP _ _ _ _ (toT .leaf [(1, itV x), (0, .ptr g 0)]) m _
  unfold Tryz.f44
  dsimp only [Option.getD_some]
  refine XP.seq ?_; refine XP.regionS ?_; refine RP.op (.box rfl rfl) rfl rfl (Nat.le_succ _) ?_; refine RP.o1 (.assign rfl) rfl rfl ?_; refine RP.nil ?_
  have K0 : Kp Nothing m (m.new false 1 (itV x).cells) := (Kp.refl m).new _ _ _
  have B0 : (m.new false 1 (itV x).cells).own m.next 1 2 := AMem.new_own _ _ _ _
  have c0 : ∀ j, j < 2 → (m.new false 1 (itV x).cells).cell m.next (0 + j) = (itC x)[j]? := fun j _ => by rw [Nat.zero_add, AMem.new_cell]; rfl
  have h1 := h.keep K0 id (fun _ _ _ _ _ => id)
  generalize m.new false 1 (itV x).cells = M at K0 B0 c0 h1 ⊢
  obtain ⟨i, b, m2, hcall, K2, hC, hb⟩ := call62 hS' h1 (by omega) x
  have hbt : b = true := hb.2 ((cut_mem h.srt hC).2 hm)
  subst hbt
  refine XP.seq ?_; refine XP.regionS ?_; refine RP.o1 (.move rfl) rfl rfl ?_; refine RP.o1 (.loadN (l := itC x) rfl lay54 c0 B0.blk (by show 0 + 2 ≤ 2; omega)) rfl rfl ?_
  refine RP.op (.callS rfl rfl hcall) rfl rfl K2.le ?_; refine RP.o1 (.move rfl) rfl rfl ?_; refine RP.o1 (.extract rfl rfl) rfl rfl ?_; refine RP.o1 (.extract rfl rfl) rfl rfl ?_; refine RP.o1 (.assign rfl) rfl rfl ?_; refine RP.o1 (.assign rfl) rfl rfl ?_; refine RP.nil ?_; refine XP.seq ?_; refine XP.seq ?_; refine XP.regionS ?_; refine RP.o1 (.move rfl) rfl rfl ?_; refine RP.o1 (.move rfl) rfl rfl ?_; refine RP.skip ⟨_,_,_,rfl,rfl,rfl,rfl⟩ rfl ?_; refine RP.skip ⟨_,_,_,rfl,rfl,rfl,rfl⟩ rfl ?_; refine RP.o1 (.pick (b := true) rfl rfl) rfl rfl ?_; refine RP.nil ?_
  refine XP.condS true rfl ?_  -- if t17
  refine XP.seq ?_; refine XP.regionS ?_; refine RP.o1 (.assign rfl) rfl rfl ?_; refine RP.nil ?_
  exact XP.ret ⟨.inr rfl, _, _, oneRes rfl, rfl, K0.trans K2⟩
end Go.Ev
end
section
namespace Go.Ev
set_option linter.all false
open Go.Proofs
set_option maxRecDepth 10000
theorem add_new {S : Sums} (hS : Plain S [43, 44, 60, 61, 62, 63, 73, 74]) (h64 : S 64 = some insW) {m : AMem} {g : Nat} {v : AV} {xs : List (Int × Int)} (h : SetIs m g v xs) (hx : xs.length < 490) (x : Int × Int) (hm : x ∉ xs) :
    ∃ m' i, CallTo Tryz.prog S 44 [.ptr g 0, itV x] m (.bool true) m' ∧ CutAt xs x i i ∧ Kp (fun a => a = g ∨ ∃ o n c, v = .slice a o n c) m m' ∧ ∃ v', SetIs m' g v' (xs.take i ++ x :: xs.drop i) ∧ ∀ b o n c, v' = .slice b o n c → m.next ≤ b := by
  have h44 := hS 44 (by decide)
  have h63 := hS 63 (by decide)
  have hS' : Plain S [43, 60, 61, 62, 63, 73, 74] := fun f hf => hS f (by simp at hf ⊢; omega)
  suffices H : ∃ r m', CallTo Tryz.prog S 44 [.ptr g 0, itV x] m r m' ∧ r = .bool true ∧ ∃ i, CutAt xs x i i ∧ Kp (fun a => a = g ∨ ∃ o n c, v = .slice a o n c) m m' ∧ ∃ v', SetIs m' g v' (xs.take i ++ x :: xs.drop i) ∧ ∀ b o n c, v' = .slice b o n c → m.next ≤ b by
    obtain ⟨r, m', h, rfl, i, k⟩ := H
    exact ⟨m', i, h, k⟩
  obtain ⟨i46, e46, s46⟩ := ei46
  refine XP.call h44 cd44 nt44 ?_
  show XP _ _ _ _ (toT .leaf [(1, itV x), (0, .ptr g 0)]) m _
  unfold Tryz.f44
  dsimp only [Option.getD_some]
  refine XP.seq ?_; refine XP.regionS ?_; refine RP.op (.box rfl rfl) rfl rfl (Nat.le_succ _) ?_; refine RP.o1 (.assign rfl) rfl rfl ?_; refine RP.nil ?_
  have K0 : Kp Nothing m (m.new false 1 (itV x).cells) := (Kp.refl m).new _ _ _
  have B0 : (m.new false 1 (itV x).cells).own m.next 1 2 := AMem.new_own _ _ _ _
  have c0 : ∀ j, j < 2 → (m.new false 1 (itV x).cells).cell m.next (0 + j) = (itC x)[j]? := fun j _ => by rw [Nat.zero_add, AMem.new_cell]; rfl
  have h1 := h.keep K0 id (fun _ _ _ _ _ => id)
  have hMn : m.next < (m.new false 1 (itV x).cells).next := Nat.lt_succ_self _
  generalize m.new false 1 (itV x).cells = M at K0 B0 c0 h1 hMn ⊢
  obtain ⟨i, b, m2, hcall, K2, hC, hb⟩ := call62 hS' h1 (by omega) x
  have hbt : b = false := by
    cases b with
    | false => rfl
    | true => exact absurd ((cut_mem h.srt hC).1 (hb.1 rfl)) hm
  subst hbt
  refine XP.seq ?_; refine XP.regionS ?_; refine RP.o1 (.move rfl) rfl rfl ?_; refine RP.o1 (.loadN (l := itC x) rfl lay54 c0 B0.blk (by show 0 + 2 ≤ 2; omega)) rfl rfl ?_
  refine RP.op (.callS rfl rfl hcall) rfl rfl K2.le ?_; refine RP.o1 (.move rfl) rfl rfl ?_; refine RP.o1 (.extract rfl rfl) rfl rfl ?_; refine RP.o1 (.extract rfl rfl) rfl rfl ?_; refine RP.o1 (.assign rfl) rfl rfl ?_; refine RP.o1 (.assign rfl) rfl rfl ?_; refine RP.nil ?_; refine XP.seq ?_; refine XP.seq ?_; refine XP.regionS ?_; refine RP.o1 (.move rfl) rfl rfl ?_; refine RP.o1 (.move rfl) rfl rfl ?_
  have h2 := h1.keep K2 id (fun _ _ _ _ _ => id)
  have KA := K0.trans K2
  have e0 : m2.t.get m.next = M.t.get m.next := K2.old m.next (by obtain ⟨sg, d, e⟩ := B0; exact hMn) id
  have B2 := AMem.own_of B0 e0
  have c2 : ∀ j, j < 2 → m2.cell m.next (0 + j) = (itC x)[j]? := fun j hj => (AMem.cell_of e0 _).trans (c0 j hj)
  clear hcall hb
  refine RP.o1 (.move rfl) rfl ⟨_,_,_,rfl,rfl,rfl,rfl⟩ ?_; refine RP.o1 (.callS rfl rfl (call63 h63 h2.fn)) rfl ⟨_,_,_,rfl,rfl,rfl,rfl⟩ ?_; refine RP.o1 (.pick (b := false) rfl rfl) rfl rfl ?_; refine RP.nil ?_
  refine XP.condS false rfl ?_  -- if t17
  refine XP.skip ?_
  have hlt : ∀ b o n c, v = .slice b o n c → b < m2.next := fun b o n c e => by
    rcases h2.row with ⟨rfl, _⟩ | ⟨b', rfl, R, _⟩
    · cases e
    · cases e; exact R.lt
  have K3 : Kp Nothing m2 (m2.new false 2 (itC x)) := (Kp.refl m2).new _ _ _
  have h3 := h2.keep K3 id (fun _ _ _ _ _ => id)
  have V3 : RowAt itC 2 (m2.new false 2 (itC x)) m2.next 0 [x] := RowAt.new (xs := [x]) encIt
  obtain ⟨m4, hw, n4, K4, R4, o4⟩ := insW_is (m := m2.new false 2 (itC x)) (v := v) (vb := m2.next) (x := x) (i := i) hC.top hx (by
    rcases h3.row with q | ⟨b, e, R, ho, hne⟩
    · exact .inl q
    · exact .inr ⟨b, e, R, ho, Nat.ne_of_gt (hlt b _ _ _ e)⟩) V3 (by rw [AMem.new_get, if_pos rfl]; rfl)
  have hg : ¬ (g = m2.next ∨ ∃ o n c, v = .slice g o n c) := fun k => by
    rcases k with k | ⟨o, n, c, e⟩
    · have := h2.lt; omega
    · rcases h2.row with ⟨q, _⟩ | ⟨b', q, _, _, hne⟩
      · rw [q] at e; cases e
      · rw [q] at e; cases e; exact hne rfl
  have e4 := K4.old g h3.lt hg
  have o5 := AMem.own_of h3.own e4
  refine XP.seq ?_; refine XP.drawnS (ms := [0, 0, 2, 6, 14, 0, 0, 64, 254, 511, 1023, 2047]) (by kernel_rfl) ?_; refine DP.pure (.move rfl) rfl rfl rfl ?_; refine DP.pure (.move rfl) rfl rfl rfl ?_; refine DP.pure (.nilCheck rfl) rfl rfl rfl ?_; refine DP.pure (.fieldAddr rfl fa101_1) rfl rfl rfl ?_; refine DP.read (fun _ => op_load1 (ev_is rfl) lay46 h2.sl) rfl rfl rfl (fun _ => op_load_leaf) (.inl (by kernel_rfl)) (fun _ => cuts_nil) ?_; refine DP.pure (.move rfl) rfl rfl rfl ?_; refine DP.read (fun _ => op_loadN (l := itC x) (ev_is rfl) lay54 c2 B2.blk (by show 0 + 2 ≤ 2; omega)) rfl rfl rfl (fun _ => op_load_leaf) (.inl (by kernel_rfl)) (fun _ => cuts_nil) ?_
  refine DP.make (.buildSlice rfl e46 (by rw [s46]; rfl) (by rw [s46]; rfl)) rfl rfl rfl ?_
  rw [s46]
  refine DP.heavy (.callS rfl rfl (CallTo.sum h64 hw)) rfl rfl rfl (by kernel_rfl) (by kernel_rfl) (by rw [n4]; exact Nat.le_succ _) (pk_drop (by kernel_rfl) (pk_drop (by kernel_rfl) pk_nil)) ?_
  refine DP.pure (.nilCheck rfl) rfl rfl rfl ?_; refine DP.pure (.fieldAddr rfl fa101_1) rfl rfl rfl ?_; refine DP.heavy (.store rfl rfl lay46 rfl o5 (by decide) rfl) rfl rfl rfl (by kernel_rfl) (by kernel_rfl) (by rw [AMem.write_next]; exact Nat.le_refl _) pk_nil ?_
  refine DP.nil ?_; refine XP.seq ?_; refine XP.regionS ?_; refine RP.o1 (.assign rfl) rfl rfl ?_; refine RP.nil ?_
  refine XP.ret ⟨.inr rfl, _, _, oneRes rfl, rfl, i, hC, ?_, ?_⟩
  · have k : Kp (fun a => a = m2.next ∨ ∃ o n c, v = .slice a o n c) m m4 := (KA.mono fun _ _ (h : Nothing _) => h.elim).trans ((K3.mono fun _ _ (h : Nothing _) => h.elim).trans K4)
    have k2 : Kp (fun a => a = g ∨ ∃ o n c, v = .slice a o n c) m m4 := k.mono fun a ha q => by
      rcases q with q | q
      · have := KA.le; omega
      · exact .inr q
    exact k2.write (.inr (.inl rfl))
  · have hn : g ≠ (m2.new false 2 (itC x)).next := Nat.ne_of_lt h3.lt
    have el : (m4.write g (0 + 1) (AV.slice (m2.new false 2 (itC x)).next 0 (xs.length + 1) none).cells).t.get (m2.new false 2 (itC x)).next = m4.t.get (m2.new false 2 (itC x)).next := AMem.write_old _ _ _ _ (fun k => hn k.symm)
    have ln : (xs.take i ++ x :: xs.drop i).length = xs.length + 1 := by have := hC.top; simp; omega
    refine ⟨_, ⟨AMem.write_own _ _ _ _ o5, by rw [AMem.write_next, n4]; exact Nat.lt_succ_of_lt h3.lt, ?_, ?_, .inr ⟨(m2.new false 2 (itC x)).next, by rw [ln], ?_, ?_, fun k => hn k.symm⟩, h.srt.ins hC (fun k => hm ((cut_mem h.srt hC).1 k))⟩, fun b o n c e => by injection e with e; subst e; have := KA.le; have := K3.le; omega⟩
    · rw [AMem.write_cell _ _ _ _ o5 (by show 0 + 1 + 1 ≤ 2; omega), if_neg (by omega)]
      exact (AMem.cell_of e4 0).trans h3.fn
    · rw [AMem.write_cell _ _ _ _ o5 (by show 0 + 1 + 1 ≤ 2; omega), if_pos (by show 0 + 1 ≤ 1 ∧ 1 < 0 + 1 + 1; omega)]
      rfl
    · obtain ⟨E, N, b1, b2⟩ := R4.blk
      exact ⟨by rw [AMem.write_next, n4]; exact Nat.lt_succ_self _, ⟨E, N, AMem.blk_of b1 el, b2⟩, fun k y hy j hj => by rw [AMem.cell_of el]; exact R4.at_ k y hy j hj⟩
    · rw [ln]; exact AMem.own_of o4 el
end Go.Ev
end
section
namespace Go.Ev
set_option linter.all false
open Go.Proofs
/-- Cells that stand at a place. -/
structure ElAt (m : AMem) (b o : Nat) (cs : List AV) : Prop where
  at_ : ∀ j, j < cs.length → m.cell b (o + j) = cs[j]?
  blk : ∃ E N, m.blk b E N ∧ o + cs.length ≤ N
  lt : b < m.next
theorem ElAt.get {m : AMem} {b o j : Nat} {cs : List AV} {v : AV} (h : ElAt m b o cs) (e : cs[j]? = some v) : m.cell b (o + j) = some v := by
  obtain ⟨hj, _⟩ := List.getElem?_eq_some_iff.1 e
  exact (h.at_ j hj).trans e
theorem ElAt.get0 {m : AMem} {b o : Nat} {cs : List AV} {v : AV} (h : ElAt m b o cs) (e : cs[0]? = some v) : m.cell b o = some v := h.get (j := 0) e
theorem ElAt.up {m m' : AMem} {b o : Nat} {cs : List AV} (h : ElAt m b o cs) (k : Kp Nothing m m') : ElAt m' b o cs := by
  have e := k.old b h.lt id
  obtain ⟨E, N, h1, h2⟩ := h.blk
  exact ⟨fun j hj => (AMem.cell_of e _).trans (h.at_ j hj), ⟨E, N, AMem.blk_of h1 e, h2⟩, Nat.lt_of_lt_of_le h.lt k.le⟩
theorem BoxIs.get {m : AMem} {b j : Nat} {l : List AV} {v : AV} (h : BoxIs m b l) (e : l[j]? = some v) : m.cell b j = some v := (h.at_ j).trans e
theorem BoxIs.up {m m' : AMem} {b : Nat} {l : List AV} (h : BoxIs m b l) (k : Kp Nothing m m') : BoxIs m' b l := h.keep k id
theorem RowIs.up {α : Type} {enc : α → List AV} {sz : Nat} {m m' : AMem} {v : AV} {xs : List α} (h : RowIs enc sz m v xs) (k : Kp Nothing m m') : RowIs enc sz m' v xs := h.keep k (fun _ _ _ _ _ => id)
theorem GrowIs.up {α : Type} {enc : α → List AV} {sz lo : Nat} {m m' : AMem} {v : AV} {xs : List α} (h : GrowIs enc sz lo m v xs) (k : Kp Nothing m m') : GrowIs enc sz lo m' v xs := h.keep k (fun _ _ _ _ _ => id)
theorem RulesIs.up {m m' : AMem} {v : AV} {rs : List Rl} (h : RulesIs m v rs) (k : Kp Nothing m m') : RulesIs m' v rs := h.stay (k.mono fun _ _ h => h.elim)
theorem SetIs.up {m m' : AMem} {g : Nat} {v : AV} {xs : List (Int × Int)} (h : SetIs m g v xs) (k : Kp Nothing m m') : SetIs m' g v xs := h.keep k id (fun _ _ _ _ _ => id)
theorem Kp.any {D : Nat → Prop} {m m' : AMem} (h : Kp Nothing m m') : Kp D m m' := h.mono fun _ _ h => h.elim
/-- What was turned is younger. -/
theorem Kp.young {D : Nat → Prop} {m M M' : AMem} (h : Kp Nothing m M) (k : Kp D M M') (hd : ∀ b, D b → m.next ≤ b) : Kp Nothing m M' :=
  ⟨Nat.le_trans h.le k.le, fun b hb _ => (k.old b (Nat.lt_of_lt_of_le hb h.le) fun d => by have := hd b d; omega).trans (h.old b hb id)⟩
section
variable {α : Type} {enc : α → List AV} {sz : Nat} {m M : AMem} {v : AV} {xs : List α}
theorem RowIs.elem (he : Enc enc sz) (h : RowIs enc sz m v xs) (K : Kp Nothing m M) {i : Nat} {x : α} (hx : xs[i]? = some x) : ∃ b off cap, v = .slice b off xs.length cap ∧ i < xs.length ∧ ElAt M b (off + i * sz) (enc x) := by
  rcases h.up K with ⟨_, rfl⟩ | ⟨_, rfl⟩ | ⟨b, off, cap, rfl, R⟩
  · cases hx
  · cases hx
  · obtain ⟨hi, _⟩ := List.getElem?_eq_some_iff.1 hx
    obtain ⟨E, N, h1, h2⟩ := R.blk
    refine ⟨b, off, cap, rfl, hi, fun j hj => R.at_ i x hx j (by rw [← he.len x]; exact hj), ⟨E, N, h1, ?_⟩, R.lt⟩
    rw [he.len]
    have : (i + 1) * sz ≤ xs.length * sz := Nat.mul_le_mul_right _ hi
    rw [Nat.succ_mul] at this
    omega
end
theorem RowIs.plain {α : Type} {enc : α → List AV} {sz : Nat} {m : AMem} {v : AV} {xs : List α} (h : RowIs enc sz m v xs) : v.plain = true := by
  rcases h with ⟨rfl, _⟩ | ⟨rfl, _⟩ | ⟨_, _, _, rfl, _⟩ <;> rfl
theorem encI : Enc intC 1 := ⟨fun _ => rfl, fun _ => rfl⟩
theorem RulesIs.elem {m M : AMem} {v : AV} {rs : List Rl} (h : RulesIs m v rs) (K : Kp Nothing m M) {i : Nat} {r : Rl} (hx : rs[i]? = some r) :
    ∃ b off cap vr, v = .slice b off rs.length cap ∧ i < rs.length ∧ ElAt M b (off + i * 4) [.int .i64 r.left, vr, .int .i64 r.level, .int .i64 r.assoc] ∧ RowIs intC 1 M vr r.right ∧ [.int .i64 r.left, vr, .int .i64 r.level, .int .i64 r.assoc].all AV.plain = true := by
  obtain ⟨raw, h1, h2, h3⟩ := h.up K
  obtain ⟨hi, _⟩ := List.getElem?_eq_some_iff.1 hx
  obtain ⟨q, hq⟩ : ∃ q, raw[i]? = some q := ⟨raw[i]'(by omega), List.getElem?_eq_getElem _⟩
  obtain ⟨e1, e2, e3, R⟩ := h3 i q r hq hx
  rcases h1 with ⟨_, rfl⟩ | ⟨_, rfl⟩ | ⟨b, off, cap, rfl, RR⟩
  · cases hq
  · cases hq
  · obtain ⟨E, N, b1, b2⟩ := RR.blk
    refine ⟨b, off, cap, q.2.1, by rw [h2], hi, ⟨fun j hj => ?_, ⟨E, N, b1, ?_⟩, RR.lt⟩, R, by show (true && (q.2.1.plain && (true && (true && true)))) = true; rw [R.plain]; rfl⟩
    · rw [← e1, ← e2, ← e3]; exact RR.at_ i q hq j hj
    · have : (i + 1) * 4 ≤ raw.length * 4 := Nat.mul_le_mul_right _ (by omega)
      show off + i * 4 + 4 ≤ N
      omega
section
variable {P : Program} {S : Sums} {nt : Nat}
variable {all : Array Oper} {dst : Option Tmp} {ty : TypeId} {pos : String} {af : Array Edge} {g : Option (Nat × Bool)} {l : List Oper} {t0 : T AV} {σ : List (Nat × AV)} {m : AMem} {Q : T AV → AMem → Prop}
theorem RP.box {tb : TypeId} {x : Operand} {v : AV} (hx : ev σ x = some v) (hp : v.onAgg (fun _ => true) v.plain = true) (hd : dstOk nt dst = true) (hg : WP all σ g true)
    (k : ∀ m', Kp Nothing m m' → BoxIs m' m.next v.cells → m'.next = m.next + 1 → RP P S nt all l t0 (putS dst (.ptr m.next 0) σ) m' Q) : RP P S nt all (⟨dst, .box tb x, ty, pos, af, g⟩ :: l) t0 σ m Q :=
  RP.op (.box hx hp) hd hg (Nat.le_succ _) (k _ ((Kp.refl m).new _ _ _) BoxIs.new rfl)
theorem RP.alloc {tb : TypeId} {z : List AV} (hz : zeroA P tb = some z) (hd : dstOk nt dst = true) (hg : WP all σ g true)
    (k : ∀ m', Kp Nothing m m' → BoxIs m' m.next z → m'.next = m.next + 1 → RP P S nt all l t0 (putS dst (.ptr m.next 0) σ) m' Q) : RP P S nt all (⟨dst, .alloc tb, ty, pos, af, g⟩ :: l) t0 σ m Q :=
  RP.op (.alloc hz) hd hg (Nat.le_succ _) (k _ ((Kp.refl m).new _ _ _) BoxIs.new rfl)
/-- A store into a part of a variable of one's own. -/
noncomputable def setL (l : List AV) (d : Nat) (c : List AV) : List AV := l.take d ++ c ++ l.drop (d + c.length)
theorem setL_get {l c : List AV} {d : Nat} (h : d + c.length ≤ l.length) (j : Nat) : (setL l d c)[j]? = if d ≤ j ∧ j < d + c.length then c[j - d]? else l[j]? := by
  unfold setL
  have l1 : (l.take d).length = d := by rw [List.length_take]; omega
  have l2 : (l.take d ++ c).length = d + c.length := by rw [List.length_append, l1]
  by_cases h1 : j < d
  · rw [if_neg (by omega), List.getElem?_append_left (by omega), List.getElem?_append_left (by omega), List.getElem?_take, if_pos h1]
  · by_cases h2 : j < d + c.length
    · rw [if_pos ⟨by omega, h2⟩, List.getElem?_append_left (by omega), List.getElem?_append_right (by omega), l1]
    · rw [if_neg (by omega), List.getElem?_append_right (by omega), l2, List.getElem?_drop]
      congr 1; omega
theorem BoxIs.set {m : AMem} {b d : Nat} {l c : List AV} (h : BoxIs m b l) (hl : d + c.length ≤ l.length) : BoxIs (m.write b d c) b (setL l d c) := by
  have e : (setL l d c).length = l.length := by simp [setL]; omega
  refine ⟨by rw [e]; exact AMem.write_own _ _ _ _ h.own, by rw [AMem.write_next]; exact h.lt, fun j => ?_⟩
  rw [AMem.write_cell _ _ _ _ h.own hl, setL_get hl, h.at_ j]
theorem RP.store {ty' : TypeId} {a x : Operand} {b d k : Nat} {v : AV} {lc : List AV} {ag : Bool} (ha : ev σ a = some (.ptr b d)) (hx : ev σ x = some v) (hl : layout P ty' = some (ag, k)) (hc : v.cells.length = k) (B : BoxIs m b lc) (hn : Nat.ble (d + k) lc.length = true) (hp : v.cells.all AV.plain = true)
    (hd : dstOk nt dst = true) (hg : WP all σ g true) (kk : ∀ m', Kp (fun c => c = b) m m' → BoxIs m' b (setL lc d v.cells) → m'.next = m.next → RP P S nt all l t0 (putS dst .undef σ) m' Q) :
    RP P S nt all (⟨dst, .store ty' a x, ty, pos, af, g⟩ :: l) t0 σ m Q := by
  have hn := Nat.le_of_ble_eq_true hn
  exact RP.op (.store ha hx hl hc B.own hn hp) hd hg (by rw [AMem.write_next]; exact Nat.le_refl _) (kk _ ((Kp.refl m).write (.inr rfl)) (B.set (by rw [hc]; exact hn)) (AMem.write_next _ _ _ _))
theorem OpTo.loadE {ty' : TypeId} {a : Operand} {b o : Nat} {cs : List AV} (ha : ev σ a = some (.ptr b o)) (E : ElAt m b o cs) {k : Nat} (hl : layout P ty' = some (true, k)) (hk : cs.length = k) : OpTo P S (.load ty' a) (toT t0 σ) m (.agg cs) m := by
  subst hk
  obtain ⟨_, _, h1, h2⟩ := E.blk
  exact .loadN ha hl E.at_ h1 h2
theorem op_loadE {call : Call} {ty' : TypeId} {a : Operand} {b o : Nat} {cs : List AV} (ha : ev σ a = some (.ptr b o)) (E : ElAt m b o cs) {k : Nat} (hl : layout P ty' = some (true, k)) (hk : cs.length = k) : opTab (.load ty' a) P call (toT t0 σ) m = .mk (.agg cs) m := by
  subst hk
  obtain ⟨_, _, h1, h2⟩ := E.blk
  exact op_loadN (ev_is ha) hl E.at_ h1 h2
theorem BoxIs.el {b : Nat} {cs : List AV} (h : BoxIs m b cs) : ElAt m b 0 cs := ⟨fun j _ => by rw [Nat.zero_add]; exact h.at_ j, ⟨_, _, h.own.blk, by omega⟩, h.lt⟩
/-- The number behind. -/
theorem inc_is {ty' : TypeId} {lit : Bool} {i : Nat} (h : i < 4611686018427387904) : aBin2 P .add ty' lit (.int .i64 (.ofNat i)) (.int .i64 1) m = .mk (.int .i64 (.ofNat (i + 1))) m :=
  add_is (a := Int.ofNat i) (b := 1) (by show _ ≤ (i : Int) + 1; omega) (by show (i : Int) + 1 < _; omega)
theorem lss_nat {ty' : TypeId} {lit : Bool} {i n : Nat} : aBin2 P .lss ty' lit (.int .i64 (.ofNat i)) (.int .i64 (.ofNat n)) m = .mk (.bool (decide (i < n))) m := by
  rw [lss_is]
  by_cases h : i < n
  · rw [decide_eq_true h, decide_eq_true (show Int.ofNat i < Int.ofNat n from Int.ofNat_lt.2 h)]
  · rw [decide_eq_false h, decide_eq_false (show ¬ Int.ofNat i < Int.ofNat n from fun k => h (Int.ofNat_lt.1 k))]
end
section
variable {P : Program} {S : Sums} {nt : Nat}
variable {all : Array Oper} {dst : Option Tmp} {ty : TypeId} {pos : String} {af : Array Edge} {g : Option (Nat × Bool)} {l : List Oper} {a : Nat} {ms : List Nat} {j : Nat} {t0 : T AV} {σ : List (Nat × AV)} {m : AMem} {d : DSt} {Q : T AV → AMem → Prop}
end
end Go.Ev
end
section
namespace Go.Ev
set_option linter.all false
section
variable {P : Program} {S : Sums} {nt : Nat} {t0 : T AV} {σ : List (Nat × AV)} {m : AMem}
theorem XP.condD {v : Operand} {a b : Code} {Q : X → T AV → AMem → Prop} {p : Prop} [Decidable p] (hv : ev σ v = some (.bool (decide p))) (h1 : p → XP P S nt a (toT t0 σ) m Q) (h2 : ¬ p → XP P S nt b (toT t0 σ) m Q) : XP P S nt (.cond v a b) (toT t0 σ) m Q := by
  by_cases h : p
  · rw [decide_eq_true h] at hv; exact XP.condS true hv (h1 h)
  · rw [decide_eq_false h] at hv; exact XP.condS false hv (h2 h)
theorem XP.condN {v : Operand} {a b : Code} {Q : X → T AV → AMem → Prop} {p : Prop} [Decidable p] (hv : ev σ v = some (.bool (!decide p))) (h1 : p → XP P S nt b (toT t0 σ) m Q) (h2 : ¬ p → XP P S nt a (toT t0 σ) m Q) : XP P S nt (.cond v a b) (toT t0 σ) m Q := by
  by_cases h : p
  · rw [decide_eq_true h] at hv; exact XP.condS false hv (h1 h)
  · rw [decide_eq_false h] at hv; exact XP.condS true hv (h2 h)
theorem XP.condB {v : Operand} {a b : Code} {Q : X → T AV → AMem → Prop} {c : Bool} (hv : ev σ v = some (.bool c)) (h1 : c = true → XP P S nt a (toT t0 σ) m Q) (h2 : c = false → XP P S nt b (toT t0 σ) m Q) : XP P S nt (.cond v a b) (toT t0 σ) m Q := by
  cases c with
  | true => exact XP.condS true hv (h1 rfl)
  | false => exact XP.condS false hv (h2 rfl)
end
theorem cells_pl {a : AV} (h : a.plain = true) : a.cells = [a] := by cases a <;> first | rfl | (cases h)
theorem all_plain {a : AV} (h : a.plain = true) : a.cells.all AV.plain = true := by rw [cells_pl h]; show (a.plain && true) = true; rw [h]; rfl
section
variable {P : Program} {S : Sums} {nt : Nat}
variable {all : Array Oper} {dst : Option Tmp} {ty : TypeId} {pos : String} {af : Array Edge} {g : Option (Nat × Bool)} {l : List Oper} {a : Nat} {ms : List Nat} {j : Nat} {t0 : T AV} {σ : List (Nat × AV)} {m : AMem} {d : DSt} {Q : T AV → AMem → Prop}
theorem DP.store {ty' : TypeId} {p x : Operand} {b o k : Nat} {v : AV} {lc : List AV} {ag : Bool} {pend : List Pend} (ha : ev σ p = some (.ptr b o)) (hx : ev σ x = some v) (hl : layout P ty' = some (ag, k)) (hc : v.cells.length = k) (B : BoxIs m b lc) (hn : Nat.ble (o + k) lc.length = true) (hp : v.cells.all AV.plain = true)
    (hd : dstOk nt dst = true) (hg : WP all σ g true) (hh : subA d.hv a = true) (hal : subA d.als a = true)
    (hpk : ∀ m' (call : Call) (k : List Pend → Res), pendK P call a m' d.pend k = k pend)
    (kk : ∀ m', Kp (fun c => c = b) m m' → BoxIs m' b (setL lc o v.cells) → m'.next = m.next → DP P S nt all l ms (j + 1) t0 (putS dst .undef σ) m' ⟨d.als, 0, Nat.lor d.hv (Nat.shiftLeft 1 j), m', (j, d.base) :: d.st, pend⟩ Q) :
    DP P S nt all (⟨dst, .store ty' p x, ty, pos, af, g⟩ :: l) (a :: ms) j t0 σ m d Q := by
  have hn := Nat.le_of_ble_eq_true hn
  exact DP.heavy (.store ha hx hl hc B.own hn hp) hd rfl hg hh hal (by rw [AMem.write_next]; exact Nat.le_refl _) (hpk _) (kk _ ((Kp.refl m).write (.inr rfl)) (B.set (by rw [hc]; exact hn)) (AMem.write_next _ _ _ _))
/-- Not wanted: what asks was not reckoned. -/
noncomputable def WU (all : Array Oper) (σ : List (Nat × AV)) (g : Nat × Bool) : Prop := ∃ o d, all[g.1]? = some o ∧ o.dst = some d ∧ look σ d = some .undef
theorem WU.wants {all : Array Oper} {t0 : T AV} {σ : List (Nat × AV)} {g : Nat × Bool} (h : WU all σ g) : Wants all (toT t0 σ) (some g) false := by
  obtain ⟨o, d, h1, h2, h3⟩ := h
  show wantedA all (toT t0 σ) g.1 g.2 = _
  unfold wantedA
  rw [h1]
  simp only [h2]
  rw [look_is h3]
  rfl
theorem RP.skipU {op : Op} {gg : Nat × Bool} (hg : WU all σ gg) (hd : dstOk nt dst = true) (k : RP P S nt all l t0 (putS dst .undef σ) m Q) : RP P S nt all (⟨dst, op, ty, pos, af, some gg⟩ :: l) t0 σ m Q := by
  obtain ⟨t', m', a, b⟩ := k
  exact ⟨t', m', .skip hd (hg.wants) (by rw [putDst_is]; exact a), b⟩
/-- A value of which no more is known than that it may stand in a cell. -/
theorem DP.storeP {ty' : TypeId} {p x : Operand} {b o : Nat} {v : AV} {lc : List AV} {ag : Bool} {pend : List Pend} (ha : ev σ p = some (.ptr b o)) (hx : ev σ x = some v) (hl : layout P ty' = some (ag, 1)) (hp : v.plain = true) (B : BoxIs m b lc) (hn : Nat.ble (o + 1) lc.length = true)
    (hd : dstOk nt dst = true) (hg : WP all σ g true) (hh : subA d.hv a = true) (hal : subA d.als a = true)
    (hpk : ∀ m' (call : Call) (k : List Pend → Res), pendK P call a m' d.pend k = k pend)
    (kk : ∀ m', Kp (fun c => c = b) m m' → BoxIs m' b (setL lc o [v]) → m'.next = m.next → DP P S nt all l ms (j + 1) t0 (putS dst .undef σ) m' ⟨d.als, 0, Nat.lor d.hv (Nat.shiftLeft 1 j), m', (j, d.base) :: d.st, pend⟩ Q) :
    DP P S nt all (⟨dst, .store ty' p x, ty, pos, af, g⟩ :: l) (a :: ms) j t0 σ m d Q :=
  DP.store ha hx hl (by rw [cells_pl hp]; rfl) B hn (all_plain hp) hd hg hh hal hpk fun m' K B N => kk m' K (by rw [cells_pl hp] at B; exact B) N
theorem RP.storeP {ty' : TypeId} {p x : Operand} {b o : Nat} {v : AV} {lc : List AV} {ag : Bool} (ha : ev σ p = some (.ptr b o)) (hx : ev σ x = some v) (hl : layout P ty' = some (ag, 1)) (hp : v.plain = true) (B : BoxIs m b lc) (hn : Nat.ble (o + 1) lc.length = true)
    (hd : dstOk nt dst = true) (hg : WP all σ g true) (kk : ∀ m', Kp (fun c => c = b) m m' → BoxIs m' b (setL lc o [v]) → m'.next = m.next → RP P S nt all l t0 (putS dst .undef σ) m' Q) :
    RP P S nt all (⟨dst, .store ty' p x, ty, pos, af, g⟩ :: l) t0 σ m Q :=
  RP.store ha hx hl (by rw [cells_pl hp]; rfl) B hn (all_plain hp) hd hg fun m' K B N => kk m' K (by rw [cells_pl hp] at B; exact B) N
end
end Go.Ev
end
