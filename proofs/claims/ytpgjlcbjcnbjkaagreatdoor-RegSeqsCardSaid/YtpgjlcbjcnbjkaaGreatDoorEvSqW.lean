/- The walk of RegSeqs. -/
import Derived.Test.YtpgjlcbjcnbjkaaGreatDoorEvHo
import Derived.Test.YtpgjlcbjcnbjkaaGreatDoorEvHq
import Derived.LoopTactic
import Derived.StillTactics
namespace Go.Proofs.YtpgjlcbjcnbjkaaGreatDoor.RP
open Go.RowKit Go.Proofs.YtpgjlcbjcnbjkaaGreatDoorW.PrintWords Go.Proofs.YtpgjlcbjcnbjkaaGreatDoorW.PrintLast Go.Proofs.YtpgjlcbjcnbjkaaGreatDoorW.PrintMore
set_option linter.unusedVariables false
noncomputable def left25 : Value → Nat
  | .int _ n => 25 - n.toNat
  | _ => 0
noncomputable def left4 : Value → Nat
  | .int _ n => 4 - n.toNat
  | _ => 0
abbrev lastV (a b d : Int) : Array Value := #[.int .i64 0, .int .i64 a, .int .i64 b, .int .i64 d, .int .i64 0, .int .i64 0]
theorem wrap_small {y : Int} (h1 : -9223372036854775808 ≤ y) (h2 : y ≤ 9223372036854775807) : IntKind.i64.wrap y = y := by
  simp [IntKind.wrap, IntKind.bits, IntKind.signed]
  omega
theorem wrap_cl (y : Int) : IntKind.i64.wrap (1 + (IntKind.i64.wrap (y.tmod 3 + 3)).tmod 3) = 1 ∨ IntKind.i64.wrap (1 + (IntKind.i64.wrap (y.tmod 3 + 3)).tmod 3) = 2 ∨ IntKind.i64.wrap (1 + (IntKind.i64.wrap (y.tmod 3 + 3)).tmod 3) = 3 := by
  have h1 : -3 < y.tmod 3 := Int.lt_tmod_of_pos y (by decide)
  have h2 : y.tmod 3 < 3 := Int.tmod_lt_of_pos y (by decide)
  rw [wrap_small (y := y.tmod 3 + 3) (by omega) (by omega)]
  have hz : 0 < y.tmod 3 + 3 := by omega
  generalize y.tmod 3 + 3 = z at hz ⊢
  have h3 : z.tmod 3 < 3 := Int.tmod_lt_of_pos z (by decide)
  have h4 : 0 ≤ z.tmod 3 := Int.tmod_nonneg 3 (by omega)
  rw [wrap_small (by omega) (by omega)]
  omega
theorem wrap_sq (y : Int) : 1 ≤ IntKind.i64.wrap (1 + (IntKind.i64.wrap (y.tmod 20 + 20)).tmod 20) ∧ IntKind.i64.wrap (1 + (IntKind.i64.wrap (y.tmod 20 + 20)).tmod 20) ≤ 20 := by
  have h1 : -20 < y.tmod 20 := Int.lt_tmod_of_pos y (by decide)
  have h2 : y.tmod 20 < 20 := Int.tmod_lt_of_pos y (by decide)
  rw [wrap_small (y := y.tmod 20 + 20) (by omega) (by omega)]
  have hz : 0 < y.tmod 20 + 20 := by omega
  generalize y.tmod 20 + 20 = z at hz ⊢
  have h3 : z.tmod 20 < 20 := Int.tmod_lt_of_pos z (by decide)
  have h4 : 0 ≤ z.tmod 20 := Int.tmod_nonneg 20 (by omega)
  rw [wrap_small (by omega) (by omega)]
  omega
theorem regS_blk {w w' : World} {g : Ev.Loc} {a b d : Int} (h : w'.heap[g.blk]? = w.heap[g.blk]?) (R : Ev.RegS w g a b d) : Ev.RegS w' g a b d := by
  obtain ⟨⟨cs, elem, fz, h1, rest⟩, h2, h3, h4, h5, h6, h7⟩ := R
  exact ⟨⟨cs, elem, fz, h.trans h1, rest⟩, h2, h3, h4, h5, h6, h7⟩
theorem regS_lt {w : World} {g : Ev.Loc} {a b d : Int} (R : Ev.RegS w g a b d) : g.blk < w.heap.size := by
  obtain ⟨⟨cs, elem, fz, h1, rest⟩, _⟩ := R
  exact blk_lt h1
/-- What the rounds know: the Reg, the law's own row of numbers, and that nothing older was turned. -/
structure SI (w0 w : World) (g : Ev.Loc) (gl : Nat) (a b d x y z : Int) : Prop where
  reg : Ev.RegS w g a b d
  last : Bk w gl 83 (lastV x y z)
  below : Below w0.heap.size w0 w
  gw : w0.heap.size ≤ g.blk
  lw : w0.heap.size ≤ gl
  ne : gl ≠ g.blk
section
variable {w0 w w' : World} {g : Ev.Loc} {gl : Nat} {a b d x y z : Int}
theorem SI.apart (S : SI w0 w g gl a b d x y z) {a' b' d' : Int} (R : Ev.RegS w' g a' b' d') (ap : Ev.Apart w w' g.blk) : SI w0 w' g gl a' b' d' x y z :=
  ⟨R, ⟨(ap.keeps gl (blk_lt S.last.blk) S.ne).trans S.last.blk⟩,
   ⟨ap.os.trans S.below.os, ap.tape.trans S.below.tape, ap.output.trans S.below.output, Nat.le_trans S.below.size ap.size, fun k hk => (ap.keeps k (Nat.lt_of_lt_of_le hk S.below.size) (by have := S.gw; omega)).trans (S.below.block k hk)⟩, S.gw, S.lw, S.ne⟩
theorem SI.more (S : SI w0 w g gl a b d x y z) (hb : Below w.heap.size w w') : SI w0 w' g gl a b d x y z :=
  ⟨regS_blk (hb.block _ (regS_lt S.reg)) S.reg, S.last.below hb, below_step S.below hb, S.gw, S.lw, S.ne⟩
theorem SI.drew (S : SI w0 w g gl a b d x y z) : SI w0 w.drew g gl a b d x y z :=
  ⟨regS_blk (w := w) rfl S.reg, ⟨S.last.blk⟩, ⟨S.below.os, S.below.tape, S.below.output, S.below.size, S.below.block⟩, S.gw, S.lw, S.ne⟩
theorem SI.far (S : SI w0 w g gl a b d x y z) {k : Nat} (hk : KeepBut w w' k none) (h1 : g.blk ≠ k) (h2 : gl ≠ k) (hb : Below w0.heap.size w0 w') : SI w0 w' g gl a b d x y z :=
  ⟨regS_blk (hk.2 _ (regS_lt S.reg) h1 (by simp)) S.reg, S.last.kept hk h2, hb, S.gw, S.lw, S.ne⟩
theorem SI.put (S : SI w0 w g gl a b d x y z) (i : Nat) (v : Value) {x' y' z' : Int} (h : (lastV x y z).setIfInBounds i v = lastV x' y' z') : SI w0 (w.setCell ⟨gl, i, none⟩ v) g gl a b d x' y' z' := by
  have hk := (KeepBut.refl w gl none).set_ i v
  refine ⟨regS_blk (hk.2 _ (regS_lt S.reg) (fun e => S.ne e.symm) (by simp)) S.reg, ⟨blk_put S.last.blk i v h⟩, below_set S.below S.lw, S.gw, S.lw, S.ne⟩
end
theorem addr_blk (a : Addr) (i : Nat) : (a.add i).block = a.block := by unfold Addr.add; split <;> rfl
theorem sel1 (a b d : Int) : Ev.sel 1 a b d = a := rfl
theorem sel2 (a b d : Int) : Ev.sel 2 a b d = b := rfl
theorem sel3 (a b d : Int) : Ev.sel 3 a b d = d := rfl
theorem up1_1 (q x : Int) : Ev.up1 1 q x 1 = q := rfl
theorem up1_2 (q x : Int) : Ev.up1 1 q x 2 = x := rfl
theorem up1_3 (q x : Int) : Ev.up1 1 q x 3 = x := rfl
theorem up2_1 (q x : Int) : Ev.up1 2 q x 1 = x := rfl
theorem up2_2 (q x : Int) : Ev.up1 2 q x 2 = q := rfl
theorem up2_3 (q x : Int) : Ev.up1 2 q x 3 = x := rfl
theorem up3_1 (q x : Int) : Ev.up1 3 q x 1 = x := rfl
theorem up3_2 (q x : Int) : Ev.up1 3 q x 2 = x := rfl
theorem up3_3 (q x : Int) : Ev.up1 3 q x 3 = q := rfl
/-- Three cells stored. -/
abbrev set3 (w : World) (g : Nat) (a b c : Value) : World := ((w.setCell ⟨g, 0, none⟩ a).setCell ⟨g, 1, none⟩ b).setCell ⟨g, 2, none⟩ c
theorem Bk.set3 {w : World} {g : Nat} {t : TypeId} {x y z : Value} (h : Bk w g t #[x, y, z]) (a b c : Value) : Bk (RP.set3 w g a b c) g t #[a, b, c] :=
  ⟨blk_put (blk_put (blk_put h.blk 0 a rfl) 1 b rfl) 2 c rfl⟩
theorem SI.set3 {w0 w : World} {g : Ev.Loc} {gl : Nat} {a b d x y z : Int} (S : SI w0 w g gl a b d x y z) {k : Nat} (h1 : g.blk ≠ k) (h2 : gl ≠ k) (h3 : w0.heap.size ≤ k) (u v t : Value) : SI w0 (RP.set3 w k u v t) g gl a b d x y z :=
  S.far ((((KeepBut.refl w k none).set_ 0 u).set_ 1 v).set_ 2 t) h1 h2 (below_set (below_set (below_set S.below h3) h3) h3)
theorem Bk.cells3 {w : World} {g : Nat} {t : TypeId} {a b c : Value} (h : Bk w g t #[a, b, c]) : (w.cell? ⟨g, 0, none⟩ = some a ∧ w.cell? ⟨g, 1, none⟩ = some b ∧ w.cell? ⟨g, 2, none⟩ = some c) ∧ w.frozen? ⟨g, 0, none⟩ = false ∧ w.frozen? ⟨g, 1, none⟩ = false ∧ w.frozen? ⟨g, 2, none⟩ = false :=
  ⟨⟨(blk_cell h.blk 0).trans rfl, (blk_cell h.blk 1).trans rfl, (blk_cell h.blk 2).trans rfl⟩, blk_frozen h.blk 0, blk_frozen h.blk 1, blk_frozen h.blk 2⟩
theorem Bk.lasts {w : World} {g : Nat} {t : TypeId} {a b d : Int} (h : Bk w g t (lastV a b d)) : (w.cell? ⟨g, 1, none⟩ = some (.int .i64 a) ∧ w.cell? ⟨g, 2, none⟩ = some (.int .i64 b) ∧ w.cell? ⟨g, 3, none⟩ = some (.int .i64 d)) ∧ w.frozen? ⟨g, 1, none⟩ = false ∧ w.frozen? ⟨g, 2, none⟩ = false ∧ w.frozen? ⟨g, 3, none⟩ = false :=
  ⟨⟨(blk_cell h.blk 1).trans rfl, (blk_cell h.blk 2).trans rfl, (blk_cell h.blk 3).trans rfl⟩, blk_frozen h.blk 1, blk_frozen h.blk 2, blk_frozen h.blk 3⟩
set_option maxHeartbeats 8000000 in
set_option maxRecDepth 100000 in
theorem seqs8 (sa sb : Addr) (n cs m cc : Nat) (w : World) (hn : n ≤ 9223372036854775807) (hm : m ≤ 9223372036854775807) (xs ys : Nat → Int)
    (A B : Option Addr) (hA : ∀ i, i < n → A = some sa) (hB : ∀ i, i < m → B = some sb)
    (hx : ∀ i, i < n → w.cell? (sa.add i) = some (.int .i64 (xs i))) (hy : ∀ i, i < m → w.cell? (sb.add i) = some (.int .i64 (ys i))) (hbs : ∀ i, i < n → sa.block < w.heap.size) (hbc : ∀ i, i < m → sb.block < w.heap.size) :
    Calls Tryz.prog 8 #[.slice A n cs, .slice B m cc] w fun e w' => e = .returned (.bool true) ∧ Below w.heap.size w w' := by
  have HB := Aside0.mk (Below.refl w.heap.size w)
  go_enter Tryz.func8, Tryz.ntmps8
  go_wp2_with (first
    | (go_at_call 22; ((with_reducible refine (begun22_calls _).mono ?_); rintro e w1 ⟨rfl, hb⟩; have HB1 := Aside0.mk (below_step HB.out hb); clear hb HB; have HB := HB1; clear HB1))
    | (go_at_call 30; ((with_reducible refine (Ev.new30 _).mono ?_); rintro e w2 ⟨g, rfl, hg1, hg2, R, hb⟩; have HB1 := Aside0.mk (below_step HB.out hb); clear hb; have gw : w.heap.size ≤ g.blk := Nat.le_trans HB.out.size hg1; clear HB; have HB := HB1; clear HB1))
    | ((with_reducible refine gate_dst (N := 7) rfl ?_); refine box_event ?hg (N := 7) ?hd (cs := lastV 0 0 0) (t := 83) ?hr ?_; (case hd => rfl); (case hg => rfl); (case hr => first | (go_simp; done) | (go_simp; rfl)); intro gl hgl w3 hbox hb; have S0 : SI w w3 g gl 0 0 0 0 0 0 := ⟨regS_blk (hb.block _ hg2) R, ⟨hbox⟩, below_step HB.out hb, gw, (by rw [hgl]; exact HB.out.size), (by rw [hgl]; exact (Nat.ne_of_lt hg2).symm)⟩; clear hbox hb hgl HB R gw hg1 hg2))
  go_loopw [8] (fun s wr => ∃ (i : Nat) (a b d : Int), s = .int .i64 i ∧ i ≤ 25 ∧ i ≤ n ∧ i ≤ m ∧ SI w wr g gl a b d a b d) (fun s _ => left25 s)
  case atStart => exact ⟨0, 0, 0, 0, rfl, by omega, by omega, by omega, S0⟩
  case round =>
    clear S0
    obtain ⟨i, a, b, d, rfl, h25, hin, him, S⟩ := hrel
    by_cases c : i < n ∧ i < m ∧ i < 25
    · have ux := (S.below.cell (p := sa.add i) (by rw [addr_blk]; exact hbs i c.1)).trans (hx i c.1)
      have uy := (S.below.cell (p := sb.add i) (by rw [addr_blk]; exact hbc i c.2.1)).trans (hy i c.2.1)
      cases hA i c.1
      cases hB i c.2.1
      go_wp2
      go_still (by kernel_rfl)
      have w0 := wrap_cl (ys i)
      have w1 := wrap_sq (xs i)
      generalize IntKind.i64.wrap (1 + (IntKind.i64.wrap ((ys i).tmod 3 + 3)).tmod 3) = k at w0 ⊢
      generalize IntKind.i64.wrap (1 + (IntKind.i64.wrap ((xs i).tmod 20 + 20)).tmod 20) = q at w1 ⊢
      clear ux uy
      have S1 := S.drew
      have P31 := Ev.apply31 w0 w1.1 w1.2 S1.reg
      clear S
      rcases w0 with rfl | rfl | rfl
      case inl =>
        simp only [sel1] at P31
        by_cases hq : q < a
        · simp only [hq, if_true] at P31
          go_wp2_with (first
            | (go_at_call 31; ((with_reducible refine P31.mono ?_); rintro e w4 ⟨⟨rfl, R5⟩, ap⟩; have S2 := S1.apart R5 ap; clear R5 ap P31 S1))
            | ((with_reducible refine gate_dst (N := 11) rfl ?_); refine box_event ?hg (N := 11) ?hd (cs := #[.int .i64 0, .int .i64 0, .int .i64 0]) (t := 69) ?hr ?_; (case hd => rfl); (case hg => rfl); (case hr => first | (go_simp; done) | (go_simp; rfl)); intro g5 hg5 w5 hbox hb; have S3 := S2.more hb; have K5 := Bk.mk hbox; have n1 : g.blk ≠ g5 := (by rw [hg5]; exact Nat.ne_of_lt (regS_lt S2.reg)); have n2 : gl ≠ g5 := (by rw [hg5]; exact Nat.ne_of_lt (blk_lt S2.last.blk)); have n3 : w.heap.size ≤ g5 := (by rw [hg5]; exact S2.below.size); clear hbox hb hg5 S2; obtain ⟨⟨p0, p1, p2⟩, f0, f1, f2⟩ := K5.cells3; obtain ⟨⟨l1, l2, l3⟩, h1, h2, h3⟩ := S3.last.lasts))
          have S4 := S3.set3 n1 n2 n3 (.int .i64 0) (.int .i64 0) (.int .i64 0)
          clear p0 p1 p2 f0 f1 f2 l1 l2 l3 h1 h2 h3 K5 S3
          go_loopw [13] (fun s wr => ∃ (j : Nat), s = .int .i64 j ∧ 1 ≤ j ∧ j ≤ 4 ∧ SI w wr g gl a b d a b d) (fun s _ => left4 s)
          case atStart => exact ⟨1, rfl, by omega, by omega, S4⟩
          case round =>
            obtain ⟨j, rfl, j1, j4, T⟩ := hrel
            obtain h | h | h | h : j = 1 ∨ j = 2 ∨ j = 3 ∨ j = 4 := by omega
            all_goals subst h
            case inr.inr.inr =>
              go_wp2
              exact ⟨⟨i + 1, a, b, d, by simp, by omega, by omega, by omega, T⟩, by simp [left25]; omega⟩
            case inl =>
              have P34 := Ev.told34 (k := 1) (by decide) T.reg
              simp only [sel1] at P34
              go_wp2_with (first
                | (go_at_call 34; ((with_reducible refine P34.mono ?_); rintro e w14 ⟨rfl, R15, ap⟩; have T2 := T.apart R15 ap; clear R15 ap P34 T))
                | ((with_reducible refine gate_dst (N := 15) rfl ?_); refine box_event ?hg (N := 15) ?hd (cs := #[.int .i64 0, .int .i64 0, .int .i64 0]) (t := 69) ?hr ?_; (case hd => rfl); (case hg => rfl); (case hr => first | (go_simp; done) | (go_simp; rfl)); intro g6 hg5 w15 hbox hb; have T3 := T2.more hb; have K5 := Bk.mk hbox; have m1 : g.blk ≠ g6 := (by rw [hg5]; exact Nat.ne_of_lt (regS_lt T2.reg)); have m2 : gl ≠ g6 := (by rw [hg5]; exact Nat.ne_of_lt (blk_lt T2.last.blk)); have m3 : w.heap.size ≤ g6 := (by rw [hg5]; exact T2.below.size); clear hbox hb hg5 T2; obtain ⟨⟨p0, p1, p2⟩, f0, f1, f2⟩ := K5.cells3; obtain ⟨⟨l1, l2, l3⟩, h1, h2, h3⟩ := T3.last.lasts))
              exact ⟨⟨2, rfl, by omega, by omega, T3.set3 m1 m2 m3 _ _ _⟩, by decide⟩
            case inr.inl =>
              have P34 := Ev.told34 (k := 2) (by decide) T.reg
              simp only [sel2] at P34
              go_wp2_with (first
                | (go_at_call 34; ((with_reducible refine P34.mono ?_); rintro e w14 ⟨rfl, R15, ap⟩; have T2 := T.apart R15 ap; clear R15 ap P34 T))
                | ((with_reducible refine gate_dst (N := 15) rfl ?_); refine box_event ?hg (N := 15) ?hd (cs := #[.int .i64 0, .int .i64 0, .int .i64 0]) (t := 69) ?hr ?_; (case hd => rfl); (case hg => rfl); (case hr => first | (go_simp; done) | (go_simp; rfl)); intro g6 hg5 w15 hbox hb; have T3 := T2.more hb; have K5 := Bk.mk hbox; have m1 : g.blk ≠ g6 := (by rw [hg5]; exact Nat.ne_of_lt (regS_lt T2.reg)); have m2 : gl ≠ g6 := (by rw [hg5]; exact Nat.ne_of_lt (blk_lt T2.last.blk)); have m3 : w.heap.size ≤ g6 := (by rw [hg5]; exact T2.below.size); clear hbox hb hg5 T2; obtain ⟨⟨p0, p1, p2⟩, f0, f1, f2⟩ := K5.cells3; obtain ⟨⟨l1, l2, l3⟩, h1, h2, h3⟩ := T3.last.lasts))
              exact ⟨⟨3, rfl, by omega, by omega, T3.set3 m1 m2 m3 _ _ _⟩, by decide⟩
            case inr.inr.inl =>
              have P34 := Ev.told34 (k := 3) (by decide) T.reg
              simp only [sel3] at P34
              go_wp2_with (first
                | (go_at_call 34; ((with_reducible refine P34.mono ?_); rintro e w14 ⟨rfl, R15, ap⟩; have T2 := T.apart R15 ap; clear R15 ap P34 T))
                | ((with_reducible refine gate_dst (N := 15) rfl ?_); refine box_event ?hg (N := 15) ?hd (cs := #[.int .i64 0, .int .i64 0, .int .i64 0]) (t := 69) ?hr ?_; (case hd => rfl); (case hg => rfl); (case hr => first | (go_simp; done) | (go_simp; rfl)); intro g6 hg5 w15 hbox hb; have T3 := T2.more hb; have K5 := Bk.mk hbox; have m1 : g.blk ≠ g6 := (by rw [hg5]; exact Nat.ne_of_lt (regS_lt T2.reg)); have m2 : gl ≠ g6 := (by rw [hg5]; exact Nat.ne_of_lt (blk_lt T2.last.blk)); have m3 : w.heap.size ≤ g6 := (by rw [hg5]; exact T2.below.size); clear hbox hb hg5 T2; obtain ⟨⟨p0, p1, p2⟩, f0, f1, f2⟩ := K5.cells3; obtain ⟨⟨l1, l2, l3⟩, h1, h2, h3⟩ := T3.last.lasts))
              exact ⟨⟨4, rfl, by omega, by omega, T3.set3 m1 m2 m3 _ _ _⟩, by decide⟩
        · simp only [hq, if_false, up1_1, up1_2, up1_3] at P31
          go_wp2_with (first
            | (go_at_call 31; ((with_reducible refine P31.mono ?_); rintro e w4 ⟨⟨rfl, R5⟩, ap⟩; have S2 := S1.apart R5 ap; clear R5 ap P31 S1))
            | ((with_reducible refine gate_dst (N := 11) rfl ?_); refine box_event ?hg (N := 11) ?hd (cs := #[.int .i64 0, .int .i64 0, .int .i64 0]) (t := 69) ?hr ?_; (case hd => rfl); (case hg => rfl); (case hr => first | (go_simp; done) | (go_simp; rfl)); intro g5 hg5 w5 hbox hb; have S3 := S2.more hb; have K5 := Bk.mk hbox; have n1 : g.blk ≠ g5 := (by rw [hg5]; exact Nat.ne_of_lt (regS_lt S2.reg)); have n2 : gl ≠ g5 := (by rw [hg5]; exact Nat.ne_of_lt (blk_lt S2.last.blk)); have n3 : w.heap.size ≤ g5 := (by rw [hg5]; exact S2.below.size); clear hbox hb hg5 S2; obtain ⟨⟨p0, p1, p2⟩, f0, f1, f2⟩ := K5.cells3; obtain ⟨⟨l1, l2, l3⟩, h1, h2, h3⟩ := S3.last.lasts))
          have S4 := (S3.set3 n1 n2 n3 (.int .i64 15) (.int .i64 0) (.int .i64 0)).put 1 (.int .i64 q) (x' := q) (y' := b) (z' := d) rfl
          clear p0 p1 p2 f0 f1 f2 l1 l2 l3 h1 h2 h3 K5 S3
          go_loopw [13] (fun s wr => ∃ (j : Nat), s = .int .i64 j ∧ 1 ≤ j ∧ j ≤ 4 ∧ SI w wr g gl q b d q b d) (fun s _ => left4 s)
          case atStart => exact ⟨1, rfl, by omega, by omega, S4⟩
          case round =>
            obtain ⟨j, rfl, j1, j4, T⟩ := hrel
            obtain h | h | h | h : j = 1 ∨ j = 2 ∨ j = 3 ∨ j = 4 := by omega
            all_goals subst h
            case inr.inr.inr =>
              go_wp2
              exact ⟨⟨i + 1, q, b, d, by simp, by omega, by omega, by omega, T⟩, by simp [left25]; omega⟩
            case inl =>
              have P34 := Ev.told34 (k := 1) (by decide) T.reg
              simp only [sel1] at P34
              go_wp2_with (first
                | (go_at_call 34; ((with_reducible refine P34.mono ?_); rintro e w14 ⟨rfl, R15, ap⟩; have T2 := T.apart R15 ap; clear R15 ap P34 T))
                | ((with_reducible refine gate_dst (N := 15) rfl ?_); refine box_event ?hg (N := 15) ?hd (cs := #[.int .i64 0, .int .i64 0, .int .i64 0]) (t := 69) ?hr ?_; (case hd => rfl); (case hg => rfl); (case hr => first | (go_simp; done) | (go_simp; rfl)); intro g6 hg5 w15 hbox hb; have T3 := T2.more hb; have K5 := Bk.mk hbox; have m1 : g.blk ≠ g6 := (by rw [hg5]; exact Nat.ne_of_lt (regS_lt T2.reg)); have m2 : gl ≠ g6 := (by rw [hg5]; exact Nat.ne_of_lt (blk_lt T2.last.blk)); have m3 : w.heap.size ≤ g6 := (by rw [hg5]; exact T2.below.size); clear hbox hb hg5 T2; obtain ⟨⟨p0, p1, p2⟩, f0, f1, f2⟩ := K5.cells3; obtain ⟨⟨l1, l2, l3⟩, h1, h2, h3⟩ := T3.last.lasts))
              exact ⟨⟨2, rfl, by omega, by omega, T3.set3 m1 m2 m3 _ _ _⟩, by decide⟩
            case inr.inl =>
              have P34 := Ev.told34 (k := 2) (by decide) T.reg
              simp only [sel2] at P34
              go_wp2_with (first
                | (go_at_call 34; ((with_reducible refine P34.mono ?_); rintro e w14 ⟨rfl, R15, ap⟩; have T2 := T.apart R15 ap; clear R15 ap P34 T))
                | ((with_reducible refine gate_dst (N := 15) rfl ?_); refine box_event ?hg (N := 15) ?hd (cs := #[.int .i64 0, .int .i64 0, .int .i64 0]) (t := 69) ?hr ?_; (case hd => rfl); (case hg => rfl); (case hr => first | (go_simp; done) | (go_simp; rfl)); intro g6 hg5 w15 hbox hb; have T3 := T2.more hb; have K5 := Bk.mk hbox; have m1 : g.blk ≠ g6 := (by rw [hg5]; exact Nat.ne_of_lt (regS_lt T2.reg)); have m2 : gl ≠ g6 := (by rw [hg5]; exact Nat.ne_of_lt (blk_lt T2.last.blk)); have m3 : w.heap.size ≤ g6 := (by rw [hg5]; exact T2.below.size); clear hbox hb hg5 T2; obtain ⟨⟨p0, p1, p2⟩, f0, f1, f2⟩ := K5.cells3; obtain ⟨⟨l1, l2, l3⟩, h1, h2, h3⟩ := T3.last.lasts))
              exact ⟨⟨3, rfl, by omega, by omega, T3.set3 m1 m2 m3 _ _ _⟩, by decide⟩
            case inr.inr.inl =>
              have P34 := Ev.told34 (k := 3) (by decide) T.reg
              simp only [sel3] at P34
              go_wp2_with (first
                | (go_at_call 34; ((with_reducible refine P34.mono ?_); rintro e w14 ⟨rfl, R15, ap⟩; have T2 := T.apart R15 ap; clear R15 ap P34 T))
                | ((with_reducible refine gate_dst (N := 15) rfl ?_); refine box_event ?hg (N := 15) ?hd (cs := #[.int .i64 0, .int .i64 0, .int .i64 0]) (t := 69) ?hr ?_; (case hd => rfl); (case hg => rfl); (case hr => first | (go_simp; done) | (go_simp; rfl)); intro g6 hg5 w15 hbox hb; have T3 := T2.more hb; have K5 := Bk.mk hbox; have m1 : g.blk ≠ g6 := (by rw [hg5]; exact Nat.ne_of_lt (regS_lt T2.reg)); have m2 : gl ≠ g6 := (by rw [hg5]; exact Nat.ne_of_lt (blk_lt T2.last.blk)); have m3 : w.heap.size ≤ g6 := (by rw [hg5]; exact T2.below.size); clear hbox hb hg5 T2; obtain ⟨⟨p0, p1, p2⟩, f0, f1, f2⟩ := K5.cells3; obtain ⟨⟨l1, l2, l3⟩, h1, h2, h3⟩ := T3.last.lasts))
              exact ⟨⟨4, rfl, by omega, by omega, T3.set3 m1 m2 m3 _ _ _⟩, by decide⟩
      case inr.inl =>
        simp only [sel2] at P31
        by_cases hq : q < b
        · simp only [hq, if_true] at P31
          go_wp2_with (first
            | (go_at_call 31; ((with_reducible refine P31.mono ?_); rintro e w4 ⟨⟨rfl, R5⟩, ap⟩; have S2 := S1.apart R5 ap; clear R5 ap P31 S1))
            | ((with_reducible refine gate_dst (N := 11) rfl ?_); refine box_event ?hg (N := 11) ?hd (cs := #[.int .i64 0, .int .i64 0, .int .i64 0]) (t := 69) ?hr ?_; (case hd => rfl); (case hg => rfl); (case hr => first | (go_simp; done) | (go_simp; rfl)); intro g5 hg5 w5 hbox hb; have S3 := S2.more hb; have K5 := Bk.mk hbox; have n1 : g.blk ≠ g5 := (by rw [hg5]; exact Nat.ne_of_lt (regS_lt S2.reg)); have n2 : gl ≠ g5 := (by rw [hg5]; exact Nat.ne_of_lt (blk_lt S2.last.blk)); have n3 : w.heap.size ≤ g5 := (by rw [hg5]; exact S2.below.size); clear hbox hb hg5 S2; obtain ⟨⟨p0, p1, p2⟩, f0, f1, f2⟩ := K5.cells3; obtain ⟨⟨l1, l2, l3⟩, h1, h2, h3⟩ := S3.last.lasts))
          have S4 := S3.set3 n1 n2 n3 (.int .i64 0) (.int .i64 0) (.int .i64 0)
          clear p0 p1 p2 f0 f1 f2 l1 l2 l3 h1 h2 h3 K5 S3
          go_loopw [13] (fun s wr => ∃ (j : Nat), s = .int .i64 j ∧ 1 ≤ j ∧ j ≤ 4 ∧ SI w wr g gl a b d a b d) (fun s _ => left4 s)
          case atStart => exact ⟨1, rfl, by omega, by omega, S4⟩
          case round =>
            obtain ⟨j, rfl, j1, j4, T⟩ := hrel
            obtain h | h | h | h : j = 1 ∨ j = 2 ∨ j = 3 ∨ j = 4 := by omega
            all_goals subst h
            case inr.inr.inr =>
              go_wp2
              exact ⟨⟨i + 1, a, b, d, by simp, by omega, by omega, by omega, T⟩, by simp [left25]; omega⟩
            case inl =>
              have P34 := Ev.told34 (k := 1) (by decide) T.reg
              simp only [sel1] at P34
              go_wp2_with (first
                | (go_at_call 34; ((with_reducible refine P34.mono ?_); rintro e w14 ⟨rfl, R15, ap⟩; have T2 := T.apart R15 ap; clear R15 ap P34 T))
                | ((with_reducible refine gate_dst (N := 15) rfl ?_); refine box_event ?hg (N := 15) ?hd (cs := #[.int .i64 0, .int .i64 0, .int .i64 0]) (t := 69) ?hr ?_; (case hd => rfl); (case hg => rfl); (case hr => first | (go_simp; done) | (go_simp; rfl)); intro g6 hg5 w15 hbox hb; have T3 := T2.more hb; have K5 := Bk.mk hbox; have m1 : g.blk ≠ g6 := (by rw [hg5]; exact Nat.ne_of_lt (regS_lt T2.reg)); have m2 : gl ≠ g6 := (by rw [hg5]; exact Nat.ne_of_lt (blk_lt T2.last.blk)); have m3 : w.heap.size ≤ g6 := (by rw [hg5]; exact T2.below.size); clear hbox hb hg5 T2; obtain ⟨⟨p0, p1, p2⟩, f0, f1, f2⟩ := K5.cells3; obtain ⟨⟨l1, l2, l3⟩, h1, h2, h3⟩ := T3.last.lasts))
              exact ⟨⟨2, rfl, by omega, by omega, T3.set3 m1 m2 m3 _ _ _⟩, by decide⟩
            case inr.inl =>
              have P34 := Ev.told34 (k := 2) (by decide) T.reg
              simp only [sel2] at P34
              go_wp2_with (first
                | (go_at_call 34; ((with_reducible refine P34.mono ?_); rintro e w14 ⟨rfl, R15, ap⟩; have T2 := T.apart R15 ap; clear R15 ap P34 T))
                | ((with_reducible refine gate_dst (N := 15) rfl ?_); refine box_event ?hg (N := 15) ?hd (cs := #[.int .i64 0, .int .i64 0, .int .i64 0]) (t := 69) ?hr ?_; (case hd => rfl); (case hg => rfl); (case hr => first | (go_simp; done) | (go_simp; rfl)); intro g6 hg5 w15 hbox hb; have T3 := T2.more hb; have K5 := Bk.mk hbox; have m1 : g.blk ≠ g6 := (by rw [hg5]; exact Nat.ne_of_lt (regS_lt T2.reg)); have m2 : gl ≠ g6 := (by rw [hg5]; exact Nat.ne_of_lt (blk_lt T2.last.blk)); have m3 : w.heap.size ≤ g6 := (by rw [hg5]; exact T2.below.size); clear hbox hb hg5 T2; obtain ⟨⟨p0, p1, p2⟩, f0, f1, f2⟩ := K5.cells3; obtain ⟨⟨l1, l2, l3⟩, h1, h2, h3⟩ := T3.last.lasts))
              exact ⟨⟨3, rfl, by omega, by omega, T3.set3 m1 m2 m3 _ _ _⟩, by decide⟩
            case inr.inr.inl =>
              have P34 := Ev.told34 (k := 3) (by decide) T.reg
              simp only [sel3] at P34
              go_wp2_with (first
                | (go_at_call 34; ((with_reducible refine P34.mono ?_); rintro e w14 ⟨rfl, R15, ap⟩; have T2 := T.apart R15 ap; clear R15 ap P34 T))
                | ((with_reducible refine gate_dst (N := 15) rfl ?_); refine box_event ?hg (N := 15) ?hd (cs := #[.int .i64 0, .int .i64 0, .int .i64 0]) (t := 69) ?hr ?_; (case hd => rfl); (case hg => rfl); (case hr => first | (go_simp; done) | (go_simp; rfl)); intro g6 hg5 w15 hbox hb; have T3 := T2.more hb; have K5 := Bk.mk hbox; have m1 : g.blk ≠ g6 := (by rw [hg5]; exact Nat.ne_of_lt (regS_lt T2.reg)); have m2 : gl ≠ g6 := (by rw [hg5]; exact Nat.ne_of_lt (blk_lt T2.last.blk)); have m3 : w.heap.size ≤ g6 := (by rw [hg5]; exact T2.below.size); clear hbox hb hg5 T2; obtain ⟨⟨p0, p1, p2⟩, f0, f1, f2⟩ := K5.cells3; obtain ⟨⟨l1, l2, l3⟩, h1, h2, h3⟩ := T3.last.lasts))
              exact ⟨⟨4, rfl, by omega, by omega, T3.set3 m1 m2 m3 _ _ _⟩, by decide⟩
        · simp only [hq, if_false, up2_1, up2_2, up2_3] at P31
          go_wp2_with (first
            | (go_at_call 31; ((with_reducible refine P31.mono ?_); rintro e w4 ⟨⟨rfl, R5⟩, ap⟩; have S2 := S1.apart R5 ap; clear R5 ap P31 S1))
            | ((with_reducible refine gate_dst (N := 11) rfl ?_); refine box_event ?hg (N := 11) ?hd (cs := #[.int .i64 0, .int .i64 0, .int .i64 0]) (t := 69) ?hr ?_; (case hd => rfl); (case hg => rfl); (case hr => first | (go_simp; done) | (go_simp; rfl)); intro g5 hg5 w5 hbox hb; have S3 := S2.more hb; have K5 := Bk.mk hbox; have n1 : g.blk ≠ g5 := (by rw [hg5]; exact Nat.ne_of_lt (regS_lt S2.reg)); have n2 : gl ≠ g5 := (by rw [hg5]; exact Nat.ne_of_lt (blk_lt S2.last.blk)); have n3 : w.heap.size ≤ g5 := (by rw [hg5]; exact S2.below.size); clear hbox hb hg5 S2; obtain ⟨⟨p0, p1, p2⟩, f0, f1, f2⟩ := K5.cells3; obtain ⟨⟨l1, l2, l3⟩, h1, h2, h3⟩ := S3.last.lasts))
          have S4 := (S3.set3 n1 n2 n3 (.int .i64 15) (.int .i64 0) (.int .i64 0)).put 2 (.int .i64 q) (x' := a) (y' := q) (z' := d) rfl
          clear p0 p1 p2 f0 f1 f2 l1 l2 l3 h1 h2 h3 K5 S3
          go_loopw [13] (fun s wr => ∃ (j : Nat), s = .int .i64 j ∧ 1 ≤ j ∧ j ≤ 4 ∧ SI w wr g gl a q d a q d) (fun s _ => left4 s)
          case atStart => exact ⟨1, rfl, by omega, by omega, S4⟩
          case round =>
            obtain ⟨j, rfl, j1, j4, T⟩ := hrel
            obtain h | h | h | h : j = 1 ∨ j = 2 ∨ j = 3 ∨ j = 4 := by omega
            all_goals subst h
            case inr.inr.inr =>
              go_wp2
              exact ⟨⟨i + 1, a, q, d, by simp, by omega, by omega, by omega, T⟩, by simp [left25]; omega⟩
            case inl =>
              have P34 := Ev.told34 (k := 1) (by decide) T.reg
              simp only [sel1] at P34
              go_wp2_with (first
                | (go_at_call 34; ((with_reducible refine P34.mono ?_); rintro e w14 ⟨rfl, R15, ap⟩; have T2 := T.apart R15 ap; clear R15 ap P34 T))
                | ((with_reducible refine gate_dst (N := 15) rfl ?_); refine box_event ?hg (N := 15) ?hd (cs := #[.int .i64 0, .int .i64 0, .int .i64 0]) (t := 69) ?hr ?_; (case hd => rfl); (case hg => rfl); (case hr => first | (go_simp; done) | (go_simp; rfl)); intro g6 hg5 w15 hbox hb; have T3 := T2.more hb; have K5 := Bk.mk hbox; have m1 : g.blk ≠ g6 := (by rw [hg5]; exact Nat.ne_of_lt (regS_lt T2.reg)); have m2 : gl ≠ g6 := (by rw [hg5]; exact Nat.ne_of_lt (blk_lt T2.last.blk)); have m3 : w.heap.size ≤ g6 := (by rw [hg5]; exact T2.below.size); clear hbox hb hg5 T2; obtain ⟨⟨p0, p1, p2⟩, f0, f1, f2⟩ := K5.cells3; obtain ⟨⟨l1, l2, l3⟩, h1, h2, h3⟩ := T3.last.lasts))
              exact ⟨⟨2, rfl, by omega, by omega, T3.set3 m1 m2 m3 _ _ _⟩, by decide⟩
            case inr.inl =>
              have P34 := Ev.told34 (k := 2) (by decide) T.reg
              simp only [sel2] at P34
              go_wp2_with (first
                | (go_at_call 34; ((with_reducible refine P34.mono ?_); rintro e w14 ⟨rfl, R15, ap⟩; have T2 := T.apart R15 ap; clear R15 ap P34 T))
                | ((with_reducible refine gate_dst (N := 15) rfl ?_); refine box_event ?hg (N := 15) ?hd (cs := #[.int .i64 0, .int .i64 0, .int .i64 0]) (t := 69) ?hr ?_; (case hd => rfl); (case hg => rfl); (case hr => first | (go_simp; done) | (go_simp; rfl)); intro g6 hg5 w15 hbox hb; have T3 := T2.more hb; have K5 := Bk.mk hbox; have m1 : g.blk ≠ g6 := (by rw [hg5]; exact Nat.ne_of_lt (regS_lt T2.reg)); have m2 : gl ≠ g6 := (by rw [hg5]; exact Nat.ne_of_lt (blk_lt T2.last.blk)); have m3 : w.heap.size ≤ g6 := (by rw [hg5]; exact T2.below.size); clear hbox hb hg5 T2; obtain ⟨⟨p0, p1, p2⟩, f0, f1, f2⟩ := K5.cells3; obtain ⟨⟨l1, l2, l3⟩, h1, h2, h3⟩ := T3.last.lasts))
              exact ⟨⟨3, rfl, by omega, by omega, T3.set3 m1 m2 m3 _ _ _⟩, by decide⟩
            case inr.inr.inl =>
              have P34 := Ev.told34 (k := 3) (by decide) T.reg
              simp only [sel3] at P34
              go_wp2_with (first
                | (go_at_call 34; ((with_reducible refine P34.mono ?_); rintro e w14 ⟨rfl, R15, ap⟩; have T2 := T.apart R15 ap; clear R15 ap P34 T))
                | ((with_reducible refine gate_dst (N := 15) rfl ?_); refine box_event ?hg (N := 15) ?hd (cs := #[.int .i64 0, .int .i64 0, .int .i64 0]) (t := 69) ?hr ?_; (case hd => rfl); (case hg => rfl); (case hr => first | (go_simp; done) | (go_simp; rfl)); intro g6 hg5 w15 hbox hb; have T3 := T2.more hb; have K5 := Bk.mk hbox; have m1 : g.blk ≠ g6 := (by rw [hg5]; exact Nat.ne_of_lt (regS_lt T2.reg)); have m2 : gl ≠ g6 := (by rw [hg5]; exact Nat.ne_of_lt (blk_lt T2.last.blk)); have m3 : w.heap.size ≤ g6 := (by rw [hg5]; exact T2.below.size); clear hbox hb hg5 T2; obtain ⟨⟨p0, p1, p2⟩, f0, f1, f2⟩ := K5.cells3; obtain ⟨⟨l1, l2, l3⟩, h1, h2, h3⟩ := T3.last.lasts))
              exact ⟨⟨4, rfl, by omega, by omega, T3.set3 m1 m2 m3 _ _ _⟩, by decide⟩
      case inr.inr =>
        simp only [sel3] at P31
        by_cases hq : q < d
        · simp only [hq, if_true] at P31
          go_wp2_with (first
            | (go_at_call 31; ((with_reducible refine P31.mono ?_); rintro e w4 ⟨⟨rfl, R5⟩, ap⟩; have S2 := S1.apart R5 ap; clear R5 ap P31 S1))
            | ((with_reducible refine gate_dst (N := 11) rfl ?_); refine box_event ?hg (N := 11) ?hd (cs := #[.int .i64 0, .int .i64 0, .int .i64 0]) (t := 69) ?hr ?_; (case hd => rfl); (case hg => rfl); (case hr => first | (go_simp; done) | (go_simp; rfl)); intro g5 hg5 w5 hbox hb; have S3 := S2.more hb; have K5 := Bk.mk hbox; have n1 : g.blk ≠ g5 := (by rw [hg5]; exact Nat.ne_of_lt (regS_lt S2.reg)); have n2 : gl ≠ g5 := (by rw [hg5]; exact Nat.ne_of_lt (blk_lt S2.last.blk)); have n3 : w.heap.size ≤ g5 := (by rw [hg5]; exact S2.below.size); clear hbox hb hg5 S2; obtain ⟨⟨p0, p1, p2⟩, f0, f1, f2⟩ := K5.cells3; obtain ⟨⟨l1, l2, l3⟩, h1, h2, h3⟩ := S3.last.lasts))
          have S4 := S3.set3 n1 n2 n3 (.int .i64 0) (.int .i64 0) (.int .i64 0)
          clear p0 p1 p2 f0 f1 f2 l1 l2 l3 h1 h2 h3 K5 S3
          go_loopw [13] (fun s wr => ∃ (j : Nat), s = .int .i64 j ∧ 1 ≤ j ∧ j ≤ 4 ∧ SI w wr g gl a b d a b d) (fun s _ => left4 s)
          case atStart => exact ⟨1, rfl, by omega, by omega, S4⟩
          case round =>
            obtain ⟨j, rfl, j1, j4, T⟩ := hrel
            obtain h | h | h | h : j = 1 ∨ j = 2 ∨ j = 3 ∨ j = 4 := by omega
            all_goals subst h
            case inr.inr.inr =>
              go_wp2
              exact ⟨⟨i + 1, a, b, d, by simp, by omega, by omega, by omega, T⟩, by simp [left25]; omega⟩
            case inl =>
              have P34 := Ev.told34 (k := 1) (by decide) T.reg
              simp only [sel1] at P34
              go_wp2_with (first
                | (go_at_call 34; ((with_reducible refine P34.mono ?_); rintro e w14 ⟨rfl, R15, ap⟩; have T2 := T.apart R15 ap; clear R15 ap P34 T))
                | ((with_reducible refine gate_dst (N := 15) rfl ?_); refine box_event ?hg (N := 15) ?hd (cs := #[.int .i64 0, .int .i64 0, .int .i64 0]) (t := 69) ?hr ?_; (case hd => rfl); (case hg => rfl); (case hr => first | (go_simp; done) | (go_simp; rfl)); intro g6 hg5 w15 hbox hb; have T3 := T2.more hb; have K5 := Bk.mk hbox; have m1 : g.blk ≠ g6 := (by rw [hg5]; exact Nat.ne_of_lt (regS_lt T2.reg)); have m2 : gl ≠ g6 := (by rw [hg5]; exact Nat.ne_of_lt (blk_lt T2.last.blk)); have m3 : w.heap.size ≤ g6 := (by rw [hg5]; exact T2.below.size); clear hbox hb hg5 T2; obtain ⟨⟨p0, p1, p2⟩, f0, f1, f2⟩ := K5.cells3; obtain ⟨⟨l1, l2, l3⟩, h1, h2, h3⟩ := T3.last.lasts))
              exact ⟨⟨2, rfl, by omega, by omega, T3.set3 m1 m2 m3 _ _ _⟩, by decide⟩
            case inr.inl =>
              have P34 := Ev.told34 (k := 2) (by decide) T.reg
              simp only [sel2] at P34
              go_wp2_with (first
                | (go_at_call 34; ((with_reducible refine P34.mono ?_); rintro e w14 ⟨rfl, R15, ap⟩; have T2 := T.apart R15 ap; clear R15 ap P34 T))
                | ((with_reducible refine gate_dst (N := 15) rfl ?_); refine box_event ?hg (N := 15) ?hd (cs := #[.int .i64 0, .int .i64 0, .int .i64 0]) (t := 69) ?hr ?_; (case hd => rfl); (case hg => rfl); (case hr => first | (go_simp; done) | (go_simp; rfl)); intro g6 hg5 w15 hbox hb; have T3 := T2.more hb; have K5 := Bk.mk hbox; have m1 : g.blk ≠ g6 := (by rw [hg5]; exact Nat.ne_of_lt (regS_lt T2.reg)); have m2 : gl ≠ g6 := (by rw [hg5]; exact Nat.ne_of_lt (blk_lt T2.last.blk)); have m3 : w.heap.size ≤ g6 := (by rw [hg5]; exact T2.below.size); clear hbox hb hg5 T2; obtain ⟨⟨p0, p1, p2⟩, f0, f1, f2⟩ := K5.cells3; obtain ⟨⟨l1, l2, l3⟩, h1, h2, h3⟩ := T3.last.lasts))
              exact ⟨⟨3, rfl, by omega, by omega, T3.set3 m1 m2 m3 _ _ _⟩, by decide⟩
            case inr.inr.inl =>
              have P34 := Ev.told34 (k := 3) (by decide) T.reg
              simp only [sel3] at P34
              go_wp2_with (first
                | (go_at_call 34; ((with_reducible refine P34.mono ?_); rintro e w14 ⟨rfl, R15, ap⟩; have T2 := T.apart R15 ap; clear R15 ap P34 T))
                | ((with_reducible refine gate_dst (N := 15) rfl ?_); refine box_event ?hg (N := 15) ?hd (cs := #[.int .i64 0, .int .i64 0, .int .i64 0]) (t := 69) ?hr ?_; (case hd => rfl); (case hg => rfl); (case hr => first | (go_simp; done) | (go_simp; rfl)); intro g6 hg5 w15 hbox hb; have T3 := T2.more hb; have K5 := Bk.mk hbox; have m1 : g.blk ≠ g6 := (by rw [hg5]; exact Nat.ne_of_lt (regS_lt T2.reg)); have m2 : gl ≠ g6 := (by rw [hg5]; exact Nat.ne_of_lt (blk_lt T2.last.blk)); have m3 : w.heap.size ≤ g6 := (by rw [hg5]; exact T2.below.size); clear hbox hb hg5 T2; obtain ⟨⟨p0, p1, p2⟩, f0, f1, f2⟩ := K5.cells3; obtain ⟨⟨l1, l2, l3⟩, h1, h2, h3⟩ := T3.last.lasts))
              exact ⟨⟨4, rfl, by omega, by omega, T3.set3 m1 m2 m3 _ _ _⟩, by decide⟩
        · simp only [hq, if_false, up3_1, up3_2, up3_3] at P31
          go_wp2_with (first
            | (go_at_call 31; ((with_reducible refine P31.mono ?_); rintro e w4 ⟨⟨rfl, R5⟩, ap⟩; have S2 := S1.apart R5 ap; clear R5 ap P31 S1))
            | ((with_reducible refine gate_dst (N := 11) rfl ?_); refine box_event ?hg (N := 11) ?hd (cs := #[.int .i64 0, .int .i64 0, .int .i64 0]) (t := 69) ?hr ?_; (case hd => rfl); (case hg => rfl); (case hr => first | (go_simp; done) | (go_simp; rfl)); intro g5 hg5 w5 hbox hb; have S3 := S2.more hb; have K5 := Bk.mk hbox; have n1 : g.blk ≠ g5 := (by rw [hg5]; exact Nat.ne_of_lt (regS_lt S2.reg)); have n2 : gl ≠ g5 := (by rw [hg5]; exact Nat.ne_of_lt (blk_lt S2.last.blk)); have n3 : w.heap.size ≤ g5 := (by rw [hg5]; exact S2.below.size); clear hbox hb hg5 S2; obtain ⟨⟨p0, p1, p2⟩, f0, f1, f2⟩ := K5.cells3; obtain ⟨⟨l1, l2, l3⟩, h1, h2, h3⟩ := S3.last.lasts))
          have S4 := (S3.set3 n1 n2 n3 (.int .i64 15) (.int .i64 0) (.int .i64 0)).put 3 (.int .i64 q) (x' := a) (y' := b) (z' := q) rfl
          clear p0 p1 p2 f0 f1 f2 l1 l2 l3 h1 h2 h3 K5 S3
          go_loopw [13] (fun s wr => ∃ (j : Nat), s = .int .i64 j ∧ 1 ≤ j ∧ j ≤ 4 ∧ SI w wr g gl a b q a b q) (fun s _ => left4 s)
          case atStart => exact ⟨1, rfl, by omega, by omega, S4⟩
          case round =>
            obtain ⟨j, rfl, j1, j4, T⟩ := hrel
            obtain h | h | h | h : j = 1 ∨ j = 2 ∨ j = 3 ∨ j = 4 := by omega
            all_goals subst h
            case inr.inr.inr =>
              go_wp2
              exact ⟨⟨i + 1, a, b, q, by simp, by omega, by omega, by omega, T⟩, by simp [left25]; omega⟩
            case inl =>
              have P34 := Ev.told34 (k := 1) (by decide) T.reg
              simp only [sel1] at P34
              go_wp2_with (first
                | (go_at_call 34; ((with_reducible refine P34.mono ?_); rintro e w14 ⟨rfl, R15, ap⟩; have T2 := T.apart R15 ap; clear R15 ap P34 T))
                | ((with_reducible refine gate_dst (N := 15) rfl ?_); refine box_event ?hg (N := 15) ?hd (cs := #[.int .i64 0, .int .i64 0, .int .i64 0]) (t := 69) ?hr ?_; (case hd => rfl); (case hg => rfl); (case hr => first | (go_simp; done) | (go_simp; rfl)); intro g6 hg5 w15 hbox hb; have T3 := T2.more hb; have K5 := Bk.mk hbox; have m1 : g.blk ≠ g6 := (by rw [hg5]; exact Nat.ne_of_lt (regS_lt T2.reg)); have m2 : gl ≠ g6 := (by rw [hg5]; exact Nat.ne_of_lt (blk_lt T2.last.blk)); have m3 : w.heap.size ≤ g6 := (by rw [hg5]; exact T2.below.size); clear hbox hb hg5 T2; obtain ⟨⟨p0, p1, p2⟩, f0, f1, f2⟩ := K5.cells3; obtain ⟨⟨l1, l2, l3⟩, h1, h2, h3⟩ := T3.last.lasts))
              exact ⟨⟨2, rfl, by omega, by omega, T3.set3 m1 m2 m3 _ _ _⟩, by decide⟩
            case inr.inl =>
              have P34 := Ev.told34 (k := 2) (by decide) T.reg
              simp only [sel2] at P34
              go_wp2_with (first
                | (go_at_call 34; ((with_reducible refine P34.mono ?_); rintro e w14 ⟨rfl, R15, ap⟩; have T2 := T.apart R15 ap; clear R15 ap P34 T))
                | ((with_reducible refine gate_dst (N := 15) rfl ?_); refine box_event ?hg (N := 15) ?hd (cs := #[.int .i64 0, .int .i64 0, .int .i64 0]) (t := 69) ?hr ?_; (case hd => rfl); (case hg => rfl); (case hr => first | (go_simp; done) | (go_simp; rfl)); intro g6 hg5 w15 hbox hb; have T3 := T2.more hb; have K5 := Bk.mk hbox; have m1 : g.blk ≠ g6 := (by rw [hg5]; exact Nat.ne_of_lt (regS_lt T2.reg)); have m2 : gl ≠ g6 := (by rw [hg5]; exact Nat.ne_of_lt (blk_lt T2.last.blk)); have m3 : w.heap.size ≤ g6 := (by rw [hg5]; exact T2.below.size); clear hbox hb hg5 T2; obtain ⟨⟨p0, p1, p2⟩, f0, f1, f2⟩ := K5.cells3; obtain ⟨⟨l1, l2, l3⟩, h1, h2, h3⟩ := T3.last.lasts))
              exact ⟨⟨3, rfl, by omega, by omega, T3.set3 m1 m2 m3 _ _ _⟩, by decide⟩
            case inr.inr.inl =>
              have P34 := Ev.told34 (k := 3) (by decide) T.reg
              simp only [sel3] at P34
              go_wp2_with (first
                | (go_at_call 34; ((with_reducible refine P34.mono ?_); rintro e w14 ⟨rfl, R15, ap⟩; have T2 := T.apart R15 ap; clear R15 ap P34 T))
                | ((with_reducible refine gate_dst (N := 15) rfl ?_); refine box_event ?hg (N := 15) ?hd (cs := #[.int .i64 0, .int .i64 0, .int .i64 0]) (t := 69) ?hr ?_; (case hd => rfl); (case hg => rfl); (case hr => first | (go_simp; done) | (go_simp; rfl)); intro g6 hg5 w15 hbox hb; have T3 := T2.more hb; have K5 := Bk.mk hbox; have m1 : g.blk ≠ g6 := (by rw [hg5]; exact Nat.ne_of_lt (regS_lt T2.reg)); have m2 : gl ≠ g6 := (by rw [hg5]; exact Nat.ne_of_lt (blk_lt T2.last.blk)); have m3 : w.heap.size ≤ g6 := (by rw [hg5]; exact T2.below.size); clear hbox hb hg5 T2; obtain ⟨⟨p0, p1, p2⟩, f0, f1, f2⟩ := K5.cells3; obtain ⟨⟨l1, l2, l3⟩, h1, h2, h3⟩ := T3.last.lasts))
              exact ⟨⟨4, rfl, by omega, by omega, T3.set3 m1 m2 m3 _ _ _⟩, by decide⟩
    · go_wp2_with (first
        | (go_at_call 33; ((with_reducible refine (Ev.len33 S.reg).mono ?_); rintro e w4 ⟨rfl, R4, ap⟩)))
      all_goals (go_ret; exact ⟨rfl, (S.apart R4 ap).below⟩)
end Go.Proofs.YtpgjlcbjcnbjkaaGreatDoor.RP
