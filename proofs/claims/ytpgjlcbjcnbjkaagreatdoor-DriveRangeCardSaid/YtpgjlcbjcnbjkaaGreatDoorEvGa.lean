/- The evaluator: a deterministic run of the model's code over names in place of addresses. Plain definitions; what they are worth is shown in the texts behind. What the evaluator's values and memories stand for in a world; how such a view goes on; the small laws of the evaluator's own words. What the evaluator's values and memories stand for in a world, and how such a view goes on. Memory: what the evaluator's loads, stores and new blocks are in a world. Operations: each that the evaluator carries out is carried out alike by the model. Operations, on: strings, structs, nils; unary ones; parts, bounds. Operations, on: unary ones, conversions, fields, elements, parts, lengths. Operations, on: what makes memory and writes it. Operations, on: stores, append, copy, clear; bytes and strings; lengths; the builtins. -/
import Derived.Orders
import Derived.LoopN
import Derived.Below
import Derived.Laws.Rows
import Derived.Laws.Cells
import Derived.Laws.World
import Derived.Laws.Append
import Derived.Laws.Tables
import Derived.Laws.StructEq
import Derived.Laws.BytesString
import Derived.Laws.Slices
import Derived.Laws.MakeOwn
section
namespace Go.Ev

/-! ### Tries -/

inductive T (α : Type) where
  | leaf
  | node (v : Option α) (l r : T α)

noncomputable def T.get {α : Type} (t : T α) : Nat → Option α :=
  @T.rec α (fun _ => Nat → Option α) (fun _ => none)
    (fun v _ _ hl hr i => @Nat.rec (fun _ => Option α) v (fun _ _ => @Nat.rec (fun _ => Option α) (hr (Nat.div i 2)) (fun _ _ => hl (Nat.div i 2)) (Nat.mod i 2)) i) t

/-- A place in an empty one. -/
noncomputable def T.oneK {α β : Type} (z : β) (v : Option α) (n : Nat) : Nat → (T α → β) → β :=
  @Nat.rec (fun _ => Nat → (T α → β) → β) (fun _ _ => z)
    (fun _ ih i k => @Nat.rec (fun _ => β) (k (.node v .leaf .leaf)) (fun _ _ => @Nat.rec (fun _ => β) (ih (Nat.div i 2) fun r => k (.node none .leaf r)) (fun _ _ => ih (Nat.div i 2) fun l => k (.node none l .leaf)) (Nat.mod i 2)) i) n

/-- 'set', what comes of it handed on; 'z' where the fuel for an empty one is used up. -/
noncomputable def T.setK {α β : Type} (z : β) (v : Option α) (t : T α) : Nat → (T α → β) → β :=
  @T.rec α (fun _ => Nat → (T α → β) → β) (fun i k => T.oneK z v 64 i k)
    (fun w l r hl hr i k => @Nat.rec (fun _ => β) (k (.node v l r)) (fun _ _ => @Nat.rec (fun _ => β) (hr (Nat.div i 2) fun r => k (.node w l r)) (fun _ _ => hl (Nat.div i 2) fun l => k (.node w l r)) (Nat.mod i 2)) i) t

/-! ### Values, memory -/

inductive AV where
  | any
  | bool (b : Bool)
  | int (k : IntKind) (n : Int)
  | str (s : List Nat)
  | ptr (b off : Nat)
  | nilp
  | slice (b off len : Nat) (cap : Option Nat)
  | nils
  | emp
  | map (b : Nat)
  | nilm
  | fn (f : FuncId) (cap : List AV)
  | nilf
  | iface (t : TypeId) (v : AV)
  | nili
  | agg (l : List AV)
  | tup (l : List AV)
  deriving Inhabited

abbrev AV.undef : AV := .tup []

/-- An entry of a map: its key, its element, its stamp (where that is known). -/
structure Ent where
  k : AV
  v : AV
  born : Option Nat

inductive Blk where
  | cells (ro sg : Bool) (E n : Nat) (c : T AV)
  | map (ro : Bool) (ck : Nat) (es : List Ent)

structure AMem where
  next : Nat
  t : T Blk

inductive OR where
  | fail (c : Nat)
  | mk (v : AV) (m : AMem)

inductive X where
  | norm
  | exit (id : Nat)
  | ret

inductive Res where
  | fail (c : Nat)
  | mk (x : X) (t : T AV) (m : AMem)

/-! ### One kind of value, and all others -/

section
variable {γ : Type}
noncomputable def AV.onInt (a : AV) : (IntKind → Int → γ) → γ → γ :=
  @AV.rec (fun _ => (IntKind → Int → γ) → γ → γ) (fun _ => PUnit) (fun _ d => d) (fun _ _ d => d) (fun k n h _ => h k n) (fun _ _ d => d) (fun _ _ _ d => d) (fun _ d => d) (fun _ _ _ _ _ d => d) (fun _ d => d) (fun _ d => d) (fun _ _ d => d) (fun _ d => d) (fun a0 a1 _ => (fun _ _ _ d => d) a0 a1) (fun _ d => d) (fun a0 a1 _ => (fun _ _ _ d => d) a0 a1) (fun _ d => d) (fun a0 _ => (fun _ _ d => d) a0) (fun a0 _ => (fun _ _ d => d) a0) ⟨⟩ (fun _ _ _ _ => ⟨⟩) a
noncomputable def AV.onBool (a : AV) : (Bool → γ) → γ → γ :=
  @AV.rec (fun _ => (Bool → γ) → γ → γ) (fun _ => PUnit) (fun _ d => d) (fun b h _ => h b) (fun _ _ _ d => d) (fun _ _ d => d) (fun _ _ _ d => d) (fun _ d => d) (fun _ _ _ _ _ d => d) (fun _ d => d) (fun _ d => d) (fun _ _ d => d) (fun _ d => d) (fun a0 a1 _ => (fun _ _ _ d => d) a0 a1) (fun _ d => d) (fun a0 a1 _ => (fun _ _ _ d => d) a0 a1) (fun _ d => d) (fun a0 _ => (fun _ _ d => d) a0) (fun a0 _ => (fun _ _ d => d) a0) ⟨⟩ (fun _ _ _ _ => ⟨⟩) a
noncomputable def AV.onStr (a : AV) : (List Nat → γ) → γ → γ :=
  @AV.rec (fun _ => (List Nat → γ) → γ → γ) (fun _ => PUnit) (fun _ d => d) (fun _ _ d => d) (fun _ _ _ d => d) (fun s h _ => h s) (fun _ _ _ d => d) (fun _ d => d) (fun _ _ _ _ _ d => d) (fun _ d => d) (fun _ d => d) (fun _ _ d => d) (fun _ d => d) (fun a0 a1 _ => (fun _ _ _ d => d) a0 a1) (fun _ d => d) (fun a0 a1 _ => (fun _ _ _ d => d) a0 a1) (fun _ d => d) (fun a0 _ => (fun _ _ d => d) a0) (fun a0 _ => (fun _ _ d => d) a0) ⟨⟩ (fun _ _ _ _ => ⟨⟩) a
noncomputable def AV.onPtr (a : AV) : (Nat → Nat → γ) → γ → γ :=
  @AV.rec (fun _ => (Nat → Nat → γ) → γ → γ) (fun _ => PUnit) (fun _ d => d) (fun _ _ d => d) (fun _ _ _ d => d) (fun _ _ d => d) (fun b o h _ => h b o) (fun _ d => d) (fun _ _ _ _ _ d => d) (fun _ d => d) (fun _ d => d) (fun _ _ d => d) (fun _ d => d) (fun a0 a1 _ => (fun _ _ _ d => d) a0 a1) (fun _ d => d) (fun a0 a1 _ => (fun _ _ _ d => d) a0 a1) (fun _ d => d) (fun a0 _ => (fun _ _ d => d) a0) (fun a0 _ => (fun _ _ d => d) a0) ⟨⟩ (fun _ _ _ _ => ⟨⟩) a
noncomputable def AV.onSlice (a : AV) : (Nat → Nat → Nat → Option Nat → γ) → γ → γ :=
  @AV.rec (fun _ => (Nat → Nat → Nat → Option Nat → γ) → γ → γ) (fun _ => PUnit) (fun _ d => d) (fun _ _ d => d) (fun _ _ _ d => d) (fun _ _ d => d) (fun _ _ _ d => d) (fun _ d => d) (fun b o l c h _ => h b o l c) (fun _ d => d) (fun _ d => d) (fun _ _ d => d) (fun _ d => d) (fun a0 a1 _ => (fun _ _ _ d => d) a0 a1) (fun _ d => d) (fun a0 a1 _ => (fun _ _ _ d => d) a0 a1) (fun _ d => d) (fun a0 _ => (fun _ _ d => d) a0) (fun a0 _ => (fun _ _ d => d) a0) ⟨⟩ (fun _ _ _ _ => ⟨⟩) a
noncomputable def AV.onFn (a : AV) : (FuncId → List AV → γ) → γ → γ :=
  @AV.rec (fun _ => (FuncId → List AV → γ) → γ → γ) (fun _ => PUnit) (fun _ d => d) (fun _ _ d => d) (fun _ _ _ d => d) (fun _ _ d => d) (fun _ _ _ d => d) (fun _ d => d) (fun _ _ _ _ _ d => d) (fun _ d => d) (fun _ d => d) (fun _ _ d => d) (fun _ d => d) (fun a0 a1 _ => (fun f c h _ => h f c) a0 a1) (fun _ d => d) (fun a0 a1 _ => (fun _ _ _ d => d) a0 a1) (fun _ d => d) (fun a0 _ => (fun _ _ d => d) a0) (fun a0 _ => (fun _ _ d => d) a0) ⟨⟩ (fun _ _ _ _ => ⟨⟩) a
noncomputable def AV.onAgg (a : AV) : (List AV → γ) → γ → γ :=
  @AV.rec (fun _ => (List AV → γ) → γ → γ) (fun _ => PUnit) (fun _ d => d) (fun _ _ d => d) (fun _ _ _ d => d) (fun _ _ d => d) (fun _ _ _ d => d) (fun _ d => d) (fun _ _ _ _ _ d => d) (fun _ d => d) (fun _ d => d) (fun _ _ d => d) (fun _ d => d) (fun a0 a1 _ => (fun _ _ _ d => d) a0 a1) (fun _ d => d) (fun a0 a1 _ => (fun _ _ _ d => d) a0 a1) (fun _ d => d) (fun a0 _ => (fun l h _ => h l) a0) (fun a0 _ => (fun _ _ d => d) a0) ⟨⟩ (fun _ _ _ _ => ⟨⟩) a
noncomputable def AV.onTup (a : AV) : (List AV → γ) → γ → γ :=
  @AV.rec (fun _ => (List AV → γ) → γ → γ) (fun _ => PUnit) (fun _ d => d) (fun _ _ d => d) (fun _ _ _ d => d) (fun _ _ d => d) (fun _ _ _ d => d) (fun _ d => d) (fun _ _ _ _ _ d => d) (fun _ d => d) (fun _ d => d) (fun _ _ d => d) (fun _ d => d) (fun a0 a1 _ => (fun _ _ _ d => d) a0 a1) (fun _ d => d) (fun a0 a1 _ => (fun _ _ _ d => d) a0 a1) (fun _ d => d) (fun a0 _ => (fun _ _ d => d) a0) (fun a0 _ => (fun l h _ => h l) a0) ⟨⟩ (fun _ _ _ _ => ⟨⟩) a
end

noncomputable def bif2 {γ : Type} (b : Bool) (x y : γ) : γ := @Bool.rec (fun _ => γ) y x b

/-! ### Numbers -/

noncomputable def fNat {β : Type} (n : Nat) (k : Nat → β) : β := @Nat.rec (fun _ => β) (k 0) (fun p _ => k (.succ p)) n

noncomputable def fInt {β : Type} (n : Int) (k : Int → β) : β := @Int.rec (fun _ => β) (fun a => fNat a fun a => k (.ofNat a)) (fun a => fNat a fun a => k (.negSucc a)) n

/-- Where numbers of a kind that are not below zero end. -/
noncomputable def topOf (k : IntKind) : Nat := @IntKind.rec (fun _ => Nat) 128 32768 2147483648 9223372036854775808 256 65536 4294967296 18446744073709551616 k

noncomputable def wrapK {β : Type} (k : IntKind) (n : Int) (c : Int → β) : β :=
  @Int.rec (fun _ => β) (fun a => fNat a fun a => bif2 (Nat.blt a (topOf k)) (c (.ofNat a)) (fInt (k.wrap (.ofNat a)) c)) (fun a => fInt (k.wrap (.negSucc a)) c) n

noncomputable def iLt (a b : Int) : Bool :=
  @Int.rec (fun _ => Bool) (fun a => @Int.rec (fun _ => Bool) (fun b => Nat.blt a b) (fun _ => false) b) (fun a => @Int.rec (fun _ => Bool) (fun _ => true) (fun b => Nat.blt b a) b) a

noncomputable def iEq (a b : Int) : Bool :=
  @Int.rec (fun _ => Bool) (fun a => @Int.rec (fun _ => Bool) (fun b => Nat.beq a b) (fun _ => false) b) (fun a => @Int.rec (fun _ => Bool) (fun _ => false) (fun b => Nat.beq a b) b) a

noncomputable def kNum (k : IntKind) : Nat := @IntKind.rec (fun _ => Nat) 0 1 2 3 4 5 6 7 k
noncomputable def kEq (j k : IntKind) : Bool := Nat.beq (kNum j) (kNum k)

noncomputable def fBool {β : Type} (b : Bool) (k : Bool → β) : β := @Bool.rec (fun _ => β) (k false) (k true) b

noncomputable def lEq : List Nat → List Nat → Bool
  | [], [] => true
  | a :: x, b :: y => bif2 (Nat.beq a b) (lEq x y) false
  | _, _ => false

noncomputable def lLt : List Nat → List Nat → Bool
  | _, [] => false
  | [], _ :: _ => true
  | a :: x, b :: y => bif2 (Nat.blt a b) true (bif2 (Nat.beq a b) (lLt x y) false)

/-- A list, each of its numbers reckoned. -/
noncomputable def fList {β : Type} (l : List Nat) : (List Nat → β) → β :=
  @List.rec Nat (fun _ => (List Nat → β) → β) (fun k => k []) (fun a _ ih k => fNat a fun a => ih fun l => k (a :: l)) l

abbrev IntOp := IntKind → Int → Int → AMem → OR
noncomputable def iAdd : IntOp := fun k a b m => wrapK k (Int.add a b) fun n => .mk (.int k n) m
noncomputable def iSub : IntOp := fun k a b m => wrapK k (Int.sub a b) fun n => .mk (.int k n) m
noncomputable def iMul : IntOp := fun k a b m => wrapK k (Int.mul a b) fun n => .mk (.int k n) m
noncomputable def iQuo : IntOp := fun k a b m => bif2 (iEq b 0) (.fail 11) (wrapK k (Int.tdiv a b) fun n => .mk (.int k n) m)
noncomputable def iRem : IntOp := fun k a b m => bif2 (iEq b 0) (.fail 11) (bif2 (iEq b 1) (.mk (.int k 0) m) (fInt (Int.tmod a b) fun n => .mk (.int k n) m))
noncomputable def iBool (r : Bool) (m : AMem) : OR := @Bool.rec (fun _ => OR) (.mk (.bool false) m) (.mk (.bool true) m) r
noncomputable def iEqlO : IntOp := fun _ a b m => iBool (iEq a b) m
noncomputable def iNeqO : IntOp := fun _ a b m => iBool (!iEq a b) m
noncomputable def iLssO : IntOp := fun _ a b m => iBool (iLt a b) m
noncomputable def iLeqO : IntOp := fun _ a b m => iBool (!iLt b a) m
noncomputable def iGtrO : IntOp := fun _ a b m => iBool (iLt b a) m
noncomputable def iGeqO : IntOp := fun _ a b m => iBool (!iLt a b) m
/-- Bit by bit, of numbers that are not below zero. -/
noncomputable def iBits (f : Nat → Nat → Nat) : IntOp := fun k a b m =>
  @Int.rec (fun _ => OR) (fun x => @Int.rec (fun _ => OR) (fun y => bif2 (Nat.blt x (2 ^ k.bits) && Nat.blt y (2 ^ k.bits)) (wrapK k (.ofNat (f x y)) fun n => .mk (.int k n) m) (.fail 13)) (fun _ => .fail 13) b) (fun _ => .fail 13) a
noncomputable def iBad : IntOp := fun _ _ _ _ => .fail 12
noncomputable def iAnd : IntOp := iBits Nat.land
noncomputable def iOr : IntOp := iBits Nat.lor
noncomputable def iXor : IntOp := iBits Nat.xor
noncomputable def iShl : IntOp := fun k a b m =>
  @Int.rec (fun _ => OR) (fun y => wrapK k (Int.mul a (.ofNat (2 ^ (bif2 (Nat.ble y k.bits) y k.bits)))) fun n => .mk (.int k n) m) (fun _ => .fail 15) b
noncomputable def iShr : IntOp := fun k a b m =>
  @Int.rec (fun _ => OR) (fun y => fInt (Int.fdiv a (.ofNat (2 ^ (bif2 (Nat.ble y k.bits) y k.bits)))) fun n => .mk (.int k n) m) (fun _ => .fail 15) b
noncomputable def intTab (op : BinOp) : IntOp :=
  @BinOp.rec (fun _ => IntOp) iAdd iSub iMul iQuo iRem iAnd iOr iXor iBad iBad iBad iEqlO iNeqO iLssO iLeqO iGtrO iGeqO op
/-- Operands of unlike kinds serve at a shift alone. -/
noncomputable def isShift (op : BinOp) : Bool :=
  @BinOp.rec (fun _ => Bool) false false false false false false false false true true false false false false false false false op
noncomputable def iBin (op : BinOp) (k : IntKind) (a : Int) (k' : IntKind) (b : Int) (m : AMem) : OR :=
  bif2 (isShift op) (@BinOp.rec (fun _ => IntOp) iBad iBad iBad iBad iBad iBad iBad iBad iShl iShr iBad iBad iBad iBad iBad iBad iBad op k a b m)
    (bif2 (kEq k k') (intTab op k a b m) (.fail 19))

noncomputable def aStr (op : BinOp) (a b : List Nat) (m : AMem) : OR :=
  match op with
  | .add => bif2 (Nat.blt (Nat.add a.length b.length) 9223372036854775807) (.mk (.str (a ++ b)) m) (.fail 16)
  | .eql => iBool (lEq a b) m
  | .neq => iBool (!lEq a b) m
  | .lss => iBool (lLt a b) m
  | .leq => iBool (lLt a b || lEq a b) m
  | .gtr => iBool (!(lLt a b || lEq a b)) m
  | .geq => iBool (!lLt a b) m
  | _ => .fail 17

/-- Are two scalars of a type the same? (numbers, bools, strings) -/
noncomputable def sEq (d : Option TypeDesc) (x y : AV) : Option Bool :=
  match d, x, y with
  | some .bool, .bool a, .bool b => some (a == b)
  | some (.int _), .int j a, .int k b => bif2 (kEq j k) (some (iEq a b)) none
  | some .string, .str a, .str b => some (lEq a b)
  | _, _, _ => none

section
variable (P : Program)

/-- Two structs of scalar fields. -/
noncomputable def aggEq : List Field → List AV → List AV → Option Bool
  | [], _, _ => some true
  | f :: fs, xs, ys =>
    bif2 (f.name == "_") none
    (match xs[f.offset]?, ys[f.offset]? with
    | some x, some y => match sEq (P.underlying f.type) x y with
      | some true => aggEq fs xs ys
      | some false => some false
      | none => none
    | _, _ => none)

/-- Two structs of scalar fields and of structs of such. -/
noncomputable def aggEq1 : List Field → List AV → List AV → Option Bool
  | [], _, _ => some true
  | f :: fs, xs, ys =>
    bif2 (f.name == "_") none
    (match P.underlying f.type with
    | some (.struct gs) => match P.info? f.type with
      | some i => bif2 (P.stoodInHeld f.type) none (match aggEq P gs.toList ((xs.drop f.offset).take i.size) ((ys.drop f.offset).take i.size) with
        | some true => aggEq1 fs xs ys
        | some false => some false
        | none => none)
      | none => none
    | d => match xs[f.offset]?, ys[f.offset]? with
      | some x, some y => match sEq d x y with
        | some true => aggEq1 fs xs ys
        | some false => some false
        | none => none
      | _, _ => none)

noncomputable def flip (op : BinOp) (r : Bool) (m : AMem) : OR :=
  match op with
  | .eql => iBool r m
  | .neq => iBool (!r) m
  | _ => .fail 18

/-- Is it of a type that may be held against nil? 0: a pointer's, 1: a slice's, 2: a map's, 3: a function's -/
noncomputable def nilKind (t : TypeId) : Option Nat :=
  match P.underlying t with
  | some (.pointer _) => some 0
  | some (.slice _) => some 1
  | some (.map _ _) => some 2
  | some (.func _ _ _) => some 3
  | _ => none
/-- The kind of a value that may be nil, and whether it is. -/
noncomputable def nilOf (x : AV) : Option (Nat × Bool) :=
  match x with
  | .nilp => some (0, true)
  | .ptr _ _ => some (0, false)
  | .nils => some (1, true)
  | .slice _ _ _ _ | .emp => some (1, false)
  | .nilm => some (2, true)
  | .map _ => some (2, false)
  | .nilf => some (3, true)
  | .fn _ _ => some (3, false)
  | _ => none
noncomputable def aNil (op : BinOp) (t : TypeId) (x y : AV) (m : AMem) : OR :=
  match nilOf x, nilOf y, nilKind P t with
  | some (i, a), some (j, b), some k => bif2 (Nat.beq i j && Nat.beq i k && (a || b)) (flip op (a && b) m) (.fail 21)
  | _, _, _ => .fail 21

noncomputable def aAggEq (op : BinOp) (t : TypeId) (xs ys : List AV) (m : AMem) : OR :=
  match P.underlying t with
  | some (.struct fs) => bif2 (!P.eqGuardType P.depth t && !P.stoodInHeld t) (match aggEq1 P fs.toList xs ys with | some r => flip op r m | none => .fail 22) (.fail 22)
  | _ => .fail 22

/-- '==' with a nil of an interface type; 'lit': is one of the two the literal nil? -/
noncomputable def aIface (op : BinOp) (t : TypeId) (lit : Bool) (x y : AV) (m : AMem) : OR :=
  match x, y, P.underlying t with
  | .nili, .nili, some (.interface _) => bif2 lit (flip op true m) (.fail 24)
  | .nili, .iface _ _, some (.interface _) => flip op false m
  | .iface _ _, .nili, some (.interface _) => flip op false m
  | _, _, _ => .fail 26

/-- What is neither two numbers nor two strings. -/
noncomputable def aBinRest (op : BinOp) (t : TypeId) (lit : Bool) (x y : AV) (m : AMem) : OR :=
  match x with
  | .bool a => y.onBool (fun b => match P.underlying t with
    | some .bool => flip op (a == b) m
    | _ => .fail 20) (.fail 20)
  | .agg xs => y.onAgg (fun ys => aAggEq P op t xs ys m) (.fail 22)
  | .nili => aIface P op t lit .nili y m
  | .iface i v => aIface P op t lit (.iface i v) y m
  | x => aNil P op t x y m

noncomputable def aBin (op : BinOp) (t : TypeId) (lit : Bool) (x y : AV) (m : AMem) : OR :=
  x.onInt (fun k a => y.onInt (fun k' b => iBin op k a k' b m) (.fail 23)) (x.onStr (fun a => y.onStr (fun b => aStr op a b m) (.fail 23)) (aBinRest P op t lit x y m))
/-- Two pointers, none of them nil. -/
noncomputable def aPtrEq (op : BinOp) (t : TypeId) (b o b' o' : Nat) (m : AMem) : OR :=
  match P.underlying t with
  | some (.pointer e) => match P.info? e with
    | some i => bif2 (Nat.beq i.size 0) (.fail 301) (bif2 (Nat.beq b b') (flip op (Nat.beq o o') m) (match m.t.get b, m.t.get b' with
      | some (.cells ro false _ _ _), some (.cells ro' false _ _ _) => bif2 (ro && ro') (.fail 302) (flip op false m)
      | _, _ => .fail 303))
    | none => .fail 304
  | _ => .fail 305

noncomputable def aBin2 (op : BinOp) (t : TypeId) (lit : Bool) (x y : AV) (m : AMem) : OR :=
  x.onPtr (fun b o => y.onPtr (fun b' o' => aPtrEq P op t b o b' o' m) (aBin P op t lit x y m)) (aBin P op t lit x y m)
end

/-! ### Operands -/

noncomputable def scal : Value → AV
  | .bool b => .bool b
  | .int k n => .int k n
  | .string s => .str (s.data.toList.map UInt8.toNat)
  | .pointer none => .nilp
  | .slice none 0 0 => .nils
  | .map none => .nilm
  | .nilFunc => .nilf
  | .nilIface => .nili
  | _ => .any

noncomputable def scals : List Value → List AV
  | [] => []
  | v :: l => scal v :: scals l

noncomputable def cst {β : Type} (v : Value) (k : AV → β) : β :=
  match v with
  | .bool b => k (.bool b)
  | .int i n => k (.int i n)
  | .string s => fList (s.data.toList.map UInt8.toNat) fun l => k (.str l)
  | .agg cs => k (.agg (scals cs.toList))
  | .tuple cs => match cs.toList with
    | [] => k .undef
    | _ => k .any
  | v => k (scal v)

section
variable {β : Type}
noncomputable def evTmp (i : Tmp) (t : T AV) (k : AV → β) : β := @Option.rec AV (fun _ => β) (k .undef) k (t.get i)
noncomputable def evConst (v : Value) (_ : T AV) (k : AV → β) : β := cst v k
noncomputable def evGlobal (_ : Nat) (_ : T AV) (k : AV → β) : β := k .any
noncomputable def evFunc (f : FuncId) (_ : T AV) (k : AV → β) : β := k (.fn f [])
noncomputable def evK (t : T AV) (x : Operand) (k : AV → β) : β := @Operand.rec (fun _ => T AV → (AV → β) → β) evTmp evConst evGlobal evFunc x t k

noncomputable def evsK (t : T AV) (l : List Operand) : (List AV → β) → β :=
  @List.rec Operand (fun _ => (List AV → β) → β) (fun k => k []) (fun x _ ih k => evK t x fun v => ih fun vs => k (v :: vs)) l
noncomputable def evPs (t : T AV) (l : List (Nat × Operand)) : (List (Nat × AV) → β) → β :=
  @List.rec (Nat × Operand) (fun _ => (List (Nat × AV) → β) → β) (fun k => k []) (fun x _ ih k => evK t x.2 fun v => ih fun vs => k ((x.1, v) :: vs)) l

noncomputable def evO (t : T AV) (x : Option Operand) (k : Option AV → β) : β :=
  match x with
  | none => k none
  | some x => evK t x fun v => k (some v)
end

/-! ### Memory -/

noncomputable def AV.cells (v : AV) : List AV := v.onAgg (fun l => l) [v]

/-- Nothing that is made of parts, nothing unknown. -/
noncomputable def AV.plain (v : AV) : Bool :=
  @AV.rec (fun _ => Bool) (fun _ => PUnit) false (fun _ => true) (fun _ _ => true) (fun _ => true) (fun _ _ => true) true (fun _ _ _ _ => true) true true (fun _ => true) true (fun a0 a1 _ => (fun _ _ => true) a0 a1) true (fun a0 a1 _ => (fun _ _ => true) a0 a1) true (fun a0 _ => (fun _ => false) a0) (fun a0 _ => (fun _ => false) a0) ⟨⟩ (fun _ _ _ _ => ⟨⟩) v

section
variable {β : Type}
/-- Cells into a trie, from a place on. -/
noncomputable def putK (z : β) (l : List AV) : Nat → T AV → (T AV → β) → β :=
  @List.rec AV (fun _ => Nat → T AV → (T AV → β) → β) (fun _ c k => k c) (fun v _ ih i c k => T.setK z (some v) c i fun c => fNat (Nat.succ i) fun i => ih i c k) l
/-- n cells from a place on ('any' where nothing is known). -/
noncomputable def takeK (c : T AV) (n : Nat) : Nat → (List AV → β) → β :=
  @Nat.rec (fun _ => Nat → (List AV → β) → β) (fun _ k => k [])
    (fun _ ih i k => @Option.rec AV (fun _ => β) (ih (Nat.succ i) fun l => k (.any :: l)) (fun v => ih (Nat.succ i) fun l => k (v :: l)) (c.get i)) n
end

noncomputable def newBlk (sg : Bool) (E : Nat) (l : List AV) (m : AMem) (k : Nat → AMem → OR) : OR :=
  putK (.fail 30) l 0 .leaf fun c => fNat l.length fun n => T.setK (.fail 31) (some (.cells false sg E n c)) m.t m.next fun t => fNat (Nat.succ m.next) fun nx => k m.next ⟨nx, t⟩

/-- A block's cells. -/
noncomputable def blkK (m : AMem) (b : Nat) (k : Bool → Nat → Nat → T AV → OR) : OR :=
  @Option.rec Blk (fun _ => OR) (.fail 33) (fun x => @Blk.rec (fun _ => OR) (fun ro _ => k ro) (fun _ _ _ => .fail 33) x) (m.t.get b)

/-- The cells of a block from a place on. -/
noncomputable def loadK (m : AMem) (b off n : Nat) (k : List AV → OR) : OR :=
  blkK m b fun _ _ N c => bif2 (Nat.ble (Nat.add off n) N) (takeK c n off k) (.fail 32)

/-- One cell. -/
noncomputable def load1 (m : AMem) (b off : Nat) : OR :=
  blkK m b fun _ _ N c => bif2 (Nat.blt off N) (@Option.rec AV (fun _ => OR) (.mk .any m) (fun v => .mk v m) (c.get off)) (.fail 32)

noncomputable def storeK (m : AMem) (b off : Nat) (l : List AV) (k : AMem → OR) : OR :=
  blkK m b fun ro E N c => bif2 (!ro && Nat.ble (Nat.add off l.length) N && l.all AV.plain)
    (putK (.fail 34) l off c fun c => T.setK (.fail 34) (some (.cells false true E N c)) m.t b fun t => k ⟨m.next, t⟩) (.fail 35)

section
variable (P : Program)

noncomputable def isAggA (t : TypeId) : Bool :=
  match P.underlying t with
  | some (.struct _) | some (.array _ _) => true
  | _ => false

/-- How a type's variables lie: none: unknown; some (false, 1): one cell; some (true, n): an aggregate. -/
noncomputable def layout (t : TypeId) : Option (Bool × Nat) :=
  match P.underlying t, P.info? t with
  | some _, some i => some (isAggA P t, i.size)
  | _, _ => none

noncomputable def loadL (m : AMem) (b off : Nat) (lay : Bool × Nat) : OR :=
  bif2 lay.1 (loadK m b off lay.2 fun l => .mk (.agg l) m) (load1 m b off)

noncomputable def aLoad (t : TypeId) (a : AV) (m : AMem) : OR :=
  a.onPtr (fun b off => @Option.rec (Bool × Nat) (fun _ => OR) (.fail 37) (loadL m b off) (layout P t)) (.fail 38)

noncomputable def storeL (m : AMem) (b off : Nat) (v : AV) (lay : Bool × Nat) : OR :=
  bif2 (Nat.beq v.cells.length lay.2) (storeK m b off v.cells fun m => .mk .undef m) (.fail 39)

noncomputable def aStore (t : TypeId) (a v : AV) (m : AMem) : OR :=
  a.onPtr (fun b off => @Option.rec (Bool × Nat) (fun _ => OR) (.fail 39) (storeL m b off v) (layout P t)) (.fail 40)

noncomputable def zeroA (t : TypeId) : Option (List AV) :=
  match P.info? t with
  | some i => match i.zero with
    | some (.agg cs) => some (scals cs.toList)
    | some v => some [scal v]
    | none => none
  | none => none

noncomputable def aAlloc (t : TypeId) (m : AMem) : OR :=
  match zeroA P t with
  | some l => newBlk false 1 l m fun b m => .mk (.ptr b 0) m
  | none => .fail 41

/-- 'place': where the part i lies, and how wide it is. -/
noncomputable def fillA (place : Nat → Option (Nat × Nat)) : List AV → List (Nat × AV) → Option (List AV)
  | cs, [] => some cs
  | cs, (i, v) :: rest =>
    match place i with
    | none => none
    | some (off, size) =>
      bif2 (Nat.beq v.cells.length size && Nat.ble (Nat.add off size) cs.length && v.onTup (fun _ => false) (v.onAgg (fun _ => true) v.plain)) (fillA place (cs.take off ++ v.cells ++ cs.drop (Nat.add off size)) rest) none

noncomputable def fieldPlaceA (fs : Array Field) (i : Nat) : Option (Nat × Nat) :=
  match fs[i]? with
  | some f => match P.info? f.type with
    | some j => some (f.offset, j.size)
    | none => none
  | none => none

noncomputable def fieldsKnown (fs : Array Field) : Bool := fs.toList.all fun f => (P.info? f.type).isSome

noncomputable def aBuild (t : TypeId) (ps : List (Nat × AV)) (m : AMem) : OR :=
  match zeroA P t, P.underlying t with
  | some z, some (.struct fs) => bif2 (fieldsKnown P fs) (match fillA (fieldPlaceA P fs) z ps with | some l => .mk (.agg l) m | none => .fail 42) (.fail 42)
  | some z, some (.array _ e) => match P.info? e with
    | some i => (match fillA (fun j => some (Nat.mul j i.size, i.size)) z ps with | some l => .mk (.agg l) m | none => .fail 43)
    | none => .fail 43
  | _, _ => .fail 44

noncomputable def repA (z : List AV) : Nat → List AV
  | 0 => []
  | n + 1 => z ++ repA z n

/-- An element's size and zero cells. -/
noncomputable def elemInfo (t : TypeId) : Option (TypeInfo × List AV) :=
  match P.underlying t with
  | some (.slice e) => match P.info? e, zeroA P e with
    | some i, some z => bif2 (Nat.beq z.length i.size && Nat.blt 0 i.size && Nat.ble i.bytes 4096) (some (i, z)) none
    | _, _ => none
  | _ => none

noncomputable def aBuildSlice (t : TypeId) (len : Nat) (ps : List (Nat × AV)) (m : AMem) : OR :=
  match elemInfo P t with
  | some (i, z) =>
    bif2 (Nat.ble (Nat.mul len i.size) 65536)
      (match fillA (fun j => some (Nat.mul j i.size, i.size)) (repA z len) ps with
        | some l => newBlk false i.size l m fun b m => .mk (.slice b 0 len (some len)) m
        | none => .fail 45) (.fail 46)
  | none => .fail 48

/-- A field's place. -/
noncomputable def fieldAt (s : TypeId) (f : Nat) : Option Nat :=
  match P.underlying s with
  | some (.struct fs) => match fs[f]? with
    | some fd => match P.info? fd.type with
      | some i => bif2 (Nat.beq i.size 0) none (some fd.offset)
      | none => none
    | none => none
  | _ => none

noncomputable def aFieldAddr (s : TypeId) (x : AV) (f : Nat) (m : AMem) : OR :=
  x.onPtr (fun b off => @Option.rec Nat (fun _ => OR) (.fail 50) (fun d => fNat (Nat.add off d) fun o => .mk (.ptr b o) m) (fieldAt P s f)) (.fail 51)

/-- A part of an aggregate. -/
noncomputable def partA (t : TypeId) (cs : List AV) (off : Nat) (m : AMem) : OR :=
  match layout P t with
  | none => .fail 52
  | some (true, n) => .mk (.agg ((cs.drop off).take n)) m
  | some (false, _) => match cs[off]? with
    | some v => .mk v m
    | none => .fail 53

noncomputable def aField (s : TypeId) (x : AV) (f : Nat) (m : AMem) : OR :=
  x.onAgg (fun cs => match P.underlying s with
    | some (.struct fs) => match fs[f]? with
      | some fd => partA P fd.type cs fd.offset m
      | none => .fail 54
    | _ => .fail 55) (.fail 55)

/-- An array's or a slice's elements: how wide; an array's length. -/
inductive Ix where
  | bad
  | arr (n size : Nat)
  | sl (size : Nat)
noncomputable def ixOf (t : TypeId) : Ix :=
  match P.underlying t with
  | some (.array n e) => match P.info? e with
    | some j => .arr n j.size
    | none => .bad
  | some (.slice e) => match P.info? e with
    | some j => .sl j.size
    | none => .bad
  | _ => .bad

noncomputable def aIndexAddr (t : TypeId) (x ix : AV) (m : AMem) : OR :=
  ix.onInt (fun _ n => @Int.rec (fun _ => OR) (fun i => @Ix.rec (fun _ => OR) (.fail 57) (fun n size => x.onPtr (fun b off => bif2 (Nat.blt i n) (fNat (Nat.add off (Nat.mul i size)) fun o => .mk (.ptr b o) m) (.fail 56)) (.fail 56)) (fun size => x.onSlice (fun b off len _ => bif2 (Nat.blt i len) (fNat (Nat.add off (Nat.mul i size)) fun o => .mk (.ptr b o) m) (.fail 58)) (.fail 58)) (ixOf P t)) (fun _ => .fail 60) n) (.fail 60)

noncomputable def aIndex (t : TypeId) (x ix : AV) (m : AMem) : OR :=
  match ix with
  | .int _ (.ofNat i) =>
    match P.underlying t, x with
    | some .string, .str s => match s[i]? with
      | some b => .mk (.int .u8 (.ofNat b)) m
      | none => .fail 61
    | some (.array n e), .agg cs => match P.info? e with
      | some j => bif2 (Nat.blt i n) (partA P e cs (Nat.mul i j.size) m) (.fail 62)
      | none => .fail 62
    | _, _ => .fail 63
  | _ => .fail 64

/-- A bound of a slice expression. -/
noncomputable def bnd (v : Option AV) (d : Nat) (k : Nat → OR) : OR :=
  match v with
  | none => k d
  | some (.int _ (.ofNat i)) => k i
  | _ => .fail 65

noncomputable def cutAt (b off size l h M : Nat) (m : AMem) : OR :=
  fNat (bif2 (Nat.beq M l) off (Nat.add off (Nat.mul l size))) fun o => fNat (Nat.sub h l) fun n => fNat (Nat.sub M l) fun c => .mk (.slice b o n (some c)) m

noncomputable def aSlice (t : TypeId) (x : AV) (lo hi mx : Option AV) (m : AMem) : OR :=
  match P.underlying t, x with
  | some .string, .str s =>
    match mx with
    | some _ => .fail 66
    | none => fNat s.length fun n => bnd hi n fun h => bnd lo 0 fun l => bif2 (Nat.ble l h && Nat.ble h n) (.mk (.str ((s.drop l).take (Nat.sub h l))) m) (.fail 67)
  | some (.slice e), .slice b off len cap => match P.info? e with
    | some j => match cap, mx with
      | some c, _ =>
        bnd mx c fun M => bnd hi len fun h => bnd lo 0 fun l =>
          bif2 ((hi.isSome || !mx.isSome) && Nat.ble l h && Nat.ble h M && Nat.ble M c) (cutAt b off j.size l h M m) (.fail 68)
      | none, none =>
        bnd hi len fun h => bnd lo 0 fun l =>
          bif2 (Nat.ble l h && Nat.ble h len)
            (bif2 (Nat.beq l 0) (.mk (.slice b off h none) m)
            (bif2 (Nat.blt l len) (blkK m b fun _ E _ _ => bif2 (Nat.beq E j.size) (fNat (Nat.add off (Nat.mul l j.size)) fun o => fNat (Nat.sub h l) fun n => .mk (.slice b o n none) m) (.fail 69))
            (.mk .emp m))) (blkK m b fun _ E N _ => bif2 (Nat.ble l h && Nat.beq E j.size && Nat.ble (Nat.add off (Nat.mul h j.size)) N && Nat.blt (Nat.mul l j.size) (Nat.mul h j.size))
              (fNat (Nat.add off (Nat.mul l j.size)) fun o => fNat (Nat.sub h l) fun n => .mk (.slice b o n none) m) (.fail 69))
      | none, some _ =>
        bnd mx len fun M => bnd hi len fun h => bnd lo 0 fun l =>
          bif2 (hi.isSome && Nat.ble l h && Nat.ble h M && Nat.ble M len) (cutAt b off j.size l h M m) (.fail 70)
    | none => .fail 71
  | some (.slice e), .nils => match P.info? e with
    | some _ => bnd mx 0 fun M => bnd hi 0 fun h => bnd lo 0 fun l => bif2 ((hi.isSome || !mx.isSome) && Nat.beq M 0 && Nat.beq l 0 && Nat.beq h 0) (.mk .nils m) (.fail 72)
    | none => .fail 72
  | some (.array n e), .ptr b off => match P.info? e with
    | some j =>
      bnd mx n fun M => bnd hi n fun h => bnd lo 0 fun l =>
        bif2 ((hi.isSome || !mx.isSome) && Nat.ble l h && Nat.ble h M && Nat.ble M n) (cutAt b off j.size l h M m) (.fail 73)
    | none => .fail 73
  | _, _ => .fail 74

noncomputable def aMakeSlice (t : TypeId) (l c : AV) (m : AMem) : OR :=
  match elemInfo P t with
  | some (i, z) =>
    match l, c with
    | .int _ (.ofNat l), .int _ (.ofNat c) =>
      bif2 (Nat.ble l c && Nat.ble c 65536)
        (newBlk false i.size (repA z c) m fun b m => .mk (.slice b 0 l (some c)) m) (.fail 75)
    | _, _ => .fail 76
  | none => .fail 78
end

/-- What a slice or a string hands to append, copy: its first n elements' cells. -/
noncomputable def elemsK (m : AMem) (size n : Nat) (x : AV) (k : List AV → OR) : OR :=
  match x with
  | .slice b off len _ => bif2 (Nat.ble n len) (loadK m b off (Nat.mul n size) k) (.fail 80)
  | .nils | .emp => bif2 (Nat.beq n 0) (k []) (.fail 81)
  | .str s => bif2 (Nat.beq size 1 && Nat.ble n s.length) (k ((s.take n).map fun c => .int .u8 (.ofNat c))) (.fail 82)
  | _ => .fail 82

noncomputable def lenA : AV → Option Nat
  | .slice _ _ n _ => some n
  | .nils | .emp => some 0
  | .str s => some s.length
  | _ => none

/-- A new array, which may be larger. -/
noncomputable def growA (size : Nat) (l : List AV) (len : Nat) (m : AMem) : OR := newBlk true size l m fun b m => .mk (.slice b 0 len none) m

section
variable (P : Program)

/-- Is it the type of what is appended (and no number, as 'append(s, make(..)..)' has it)? -/
noncomputable def appendable (xt : Option TypeId) : Bool :=
  match xt with
  | some t => match P.underlying t with
    | some (.int _) => false
    | some _ => true
    | none => false
  | none => false

/-- To a slice that ends where all that is known of its array ends: in its place or in a new array. -/
noncomputable def appendEnd (size : Nat) (s x : AV) (b n need : Nat) (ro : Bool) (len : Nat) (m : AMem) : OR :=
  bif2 ro (.fail 88) (elemsK m size len s fun old => elemsK m size n x fun new =>
    bif2 (new.all AV.plain) (T.setK (.fail 86) none m.t b fun t => growA size (old ++ new) need ⟨m.next, t⟩) (.fail 87))

noncomputable def appendTo (size : Nat) (s x : AV) (b off len : Nat) (cap : Option Nat) (n : Nat) (m : AMem) : OR :=
  fNat (Nat.add len n) fun need => blkK m b fun ro E N _ =>
    match cap with
    | some c => bif2 (Nat.ble need c)
        (elemsK m size n x fun new => storeK m b (Nat.add off (Nat.mul len size)) new fun m => .mk (.slice b off need cap) m)
        (elemsK m size len s fun old => elemsK m size n x fun new => growA size (old ++ new) need m)
    | none => bif2 (Nat.beq E size)
        (bif2 (Nat.ble (Nat.add off (Nat.mul need size)) N)
          (elemsK m size n x fun new => storeK m b (Nat.add off (Nat.mul len size)) new fun m => .mk (.slice b off need cap) m)
          (bif2 (Nat.beq (Nat.add off (Nat.mul len size)) N) (appendEnd size s x b n need ro len m) (.fail 89))) (.fail 89)

noncomputable def intT (xt : Option TypeId) : Bool :=
  match xt with
  | some t => match P.underlying t with
    | some (.int _) => true
    | _ => false
  | none => false

/-- append(s, make(..)..): as many zero values as a number says, where there is no room. -/
noncomputable def aAppendZ (i : TypeInfo) (z : List AV) (xt : Option TypeId) (s x : AV) (m : AMem) : OR :=
  match s, x with
  | .slice b off len (some c), .int _ (.ofNat k) =>
    bif2 (intT P xt && Nat.blt 0 k && Nat.blt c (Nat.add len k) && Nat.ble (Nat.add len k) 1048576) (elemsK m i.size len (.slice b off len (some c)) fun old => fNat (Nat.add len k) fun n => growA i.size (old ++ repA z k) n m) (.fail 83)
  | _, _ => .fail 83

noncomputable def aAppend (st : TypeId) (xt : Option TypeId) (s x : AV) (m : AMem) : OR :=
  match elemInfo P st with
  | some (i, z) =>
    bif2 (!appendable P xt) (aAppendZ P i z xt s x m)
    (match lenA x with
      | none => .fail 84
      | some n => fNat n fun n => bif2 (Nat.blt 1048576 n) (.fail 84)
        (match s with
        | .nils => bif2 (Nat.beq n 0) (.mk .nils m) (elemsK m i.size n x fun new => growA i.size new n m)
        | .emp => bif2 (Nat.beq n 0) (.mk .emp m) (.fail 85)
        | .slice b off len cap => bif2 (Nat.beq n 0) (.mk (.slice b off len cap) m) (bif2 (Nat.blt 1048576 len) (.fail 84) (appendTo i.size (.slice b off len cap) x b off len cap n m))
        | _ => .fail 91))
  | none => .fail 93

noncomputable def aCopy (dt : TypeId) (d x : AV) (m : AMem) : OR :=
  match elemInfo P dt with
  | some (i, _) =>
    match lenA x, d with
    | some n, .slice b off len _ =>
      fNat (bif2 (Nat.ble n len) n len) fun n => elemsK m i.size n x fun new => storeK m b off new fun m => .mk (.int .i64 (.ofNat n)) m
    | some _, .nils | some _, .emp => .mk (.int .i64 0) m
    | _, _ => .fail 94
  | none => .fail 96

noncomputable def aClear (t : TypeId) (x : AV) (m : AMem) (store : Nat → Nat → List AV → OR) : OR :=
  match elemInfo P t, x with
  | some _, .nils | some _, .emp => .mk .undef m
  | some (_, z), .slice b off len _ => bif2 (Nat.beq len 0) (.mk .undef m) (store b off (repA z len))
  | _, _ => .fail 126

noncomputable def aLen (t : TypeId) (x : AV) (m : AMem) : OR :=
  match P.underlying t, x with
  | some .string, .str s => fNat s.length fun n => .mk (.int .i64 (.ofNat n)) m
  | some (.slice _), .slice _ _ n _ => .mk (.int .i64 (.ofNat n)) m
  | some (.slice _), .nils | some (.slice _), .emp => .mk (.int .i64 0) m
  | some (.array n _), _ => .mk (.int .i64 (.ofNat n)) m
  | some (.pointer a), _ => match P.underlying a with
    | some (.array n _) => .mk (.int .i64 (.ofNat n)) m
    | _ => .fail 97
  | _, _ => .fail 98

noncomputable def aCap (t : TypeId) (x : AV) (m : AMem) : OR :=
  match P.underlying t, x with
  | some (.slice _), .slice _ _ _ (some n) => .mk (.int .i64 (.ofNat n)) m
  | some (.slice _), .nils => .mk (.int .i64 0) m
  | some (.array n _), _ => .mk (.int .i64 (.ofNat n)) m
  | _, _ => .fail 99

noncomputable def aMM (mx : Bool) : AV → List AV → AMem → OR
  | v, [], m => .mk v m
  | .int k a, .int k' b :: l, m => bif2 (kEq k k') (bif2 (bif2 mx (iLt a b) (iLt b a)) (aMM mx (.int k b) l m) (aMM mx (.int k a) l m)) (.fail 100)
  | _, _, _ => .fail 101

/-- Bytes as a string. -/
noncomputable def bytesK : List AV → (List Nat → OR) → OR
  | [], k => k []
  | .int .u8 (.ofNat n) :: l, k => bif2 (Nat.blt n 256) (bytesK l fun s => k (n :: s)) (.fail 102)
  | _, _ => .fail 103

noncomputable def aConvert (src dst : TypeId) (x : AV) (m : AMem) : OR :=
  match P.underlying src, P.underlying dst, x with
  | some _, some (.int k), .int _ n => wrapK k n fun n => .mk (.int k n) m
  | some _, some .string, .str s => .mk (.str s) m
  | some (.slice e), some .string, x => match P.underlying e with
    | some (.int .u8) => match x with
      | .slice b off len _ => loadK m b off len fun l => bytesK l fun s => .mk (.str s) m
      | .nils => .mk (.str []) m
      | .emp => .mk (.str []) m
      | _ => .fail 104
    | _ => .fail 105
  | some _, some (.slice e), .str s => match P.underlying e, P.info? e with
    | some (.int .u8), some i => bif2 (Nat.beq i.size 1 && Nat.ble s.length 1048576) (newBlk true 1 (s.map fun c => .int .u8 (.ofNat c)) m fun b m => fNat s.length fun n => .mk (.slice b 0 n none) m) (.fail 106)
    | _, _ => .fail 106
  | _, _, _ => .fail 107

noncomputable def aUn (op : UnOp) (x : AV) (m : AMem) : OR :=
  match op with
  | .neg => x.onInt (fun k n => wrapK k (Int.sub 0 n) fun n => .mk (.int k n) m) (.fail 109)
  | .not => x.onBool (fun b => iBool (!b) m) (.fail 109)
  | .xor => x.onInt (fun k n => match k.signed, n with
    | false, .ofNat a => bif2 (Nat.blt a (2 ^ k.bits)) (fInt (.ofNat (Nat.sub (2 ^ k.bits - 1) a)) fun n => .mk (.int k n) m) (.fail 108)
    | true, n => wrapK k (Int.sub (-1) n) fun n => .mk (.int k n) m
    | _, _ => .fail 108) (.fail 109)
  | _ => .fail 109

noncomputable def isConst (x : Operand) : Bool := @Operand.rec (fun _ => Bool) (fun _ => false) (fun _ => true) (fun _ => false) (fun _ => false) x

noncomputable def builtinA (b : Builtin) (ats : Array TypeId) (vs : List AV) (m : AMem) : OR :=
  match b, ats[0]?, vs with
  | .len, some t, [x] => aLen P t x m
  | .cap, some t, [x] => aCap P t x m
  | .append, some t, [s, x] => aAppend P t ats[1]? s x m
  | .copy, some t, [d, x] => aCopy P t d x m
  | .clear, some t, [x] => aClear P t x m fun b off l => storeK m b off l fun m => .mk .undef m
  | .max, _, v :: l => aMM true v l m
  | .min, _, v :: l => aMM false v l m
  | _, _, _ => .fail 110
end

/-! ### Maps -/

noncomputable def mapK (m : AMem) (b : Nat) (k : Bool → Nat → List Ent → OR) : OR :=
  @Option.rec Blk (fun _ => OR) (.fail 230) (fun x => @Blk.rec (fun _ => OR) (fun _ _ _ _ _ => .fail 230) k x) (m.t.get b)

noncomputable def setMap (b ck : Nat) (es : List Ent) (m : AMem) (k : AMem → OR) : OR :=
  T.setK (.fail 231) (some (.map false ck es)) m.t b fun t => k ⟨m.next, t⟩

noncomputable def scEq (x y : AV) : Bool :=
  match x, y with
  | .bool a, .bool b => a == b
  | .int j a, .int k b => kEq j k && iEq a b
  | .str a, .str b => lEq a b
  | _, _ => false
noncomputable def scEqs : List AV → List AV → Bool
  | [], [] => true
  | a :: l, b :: l' => scEq a b && scEqs l l'
  | _, _ => false
/-- Two keys, all known, that are the same. -/
noncomputable def keySame (x y : AV) : Bool :=
  match x, y with
  | .agg a, .agg b => scEqs a b
  | x, y => scEq x y

section
variable (P : Program)

/-- A type whose values are held against one another at one look. -/
noncomputable def flatT (t : TypeId) : Bool :=
  match P.underlying t with
  | some .bool => true
  | some (.int _) => true
  | some .string => true
  | _ => false

/-- May it be a key? -/
noncomputable def keyOk (kt : TypeId) (k : AV) : Bool :=
  match P.underlying kt with
  | some (.struct fs) => !P.stoodInHeld kt && k.onAgg (fun cs => fs.toList.all fun f => Nat.blt f.offset cs.length && flatT P f.type) false
  | _ => flatT P kt

noncomputable def keyEq (kt : TypeId) (x y : AV) : Option Bool :=
  match P.underlying kt with
  | some (.struct fs) => x.onAgg (fun xs => y.onAgg (fun ys => aggEq P fs.toList xs ys) none) none
  | d => sEq d x y

/-- The entries ahead of a key's, its own, those behind it. none: it can't be told. -/
noncomputable def findA (kt : TypeId) (k : AV) : List Ent → Option (List Ent × Option Ent × List Ent)
  | [] => some ([], none, [])
  | e :: l => match keyEq P kt k e.k, findA kt k l with
    | some false, some (a, x, b) => some (e :: a, x, b)
    | some true, some (_, none, _) => some ([], some e, l)
    | _, _ => none

/-- The entry of a stamp. -/
noncomputable def bornA (n : Nat) : List Ent → Option (List Ent × Ent × List Ent)
  | [] => none
  | e :: l => match e.born with
    | some i => bif2 (Nat.beq i n) (some ([], e, l)) (match bornA n l with | some (a, x, b) => some (e :: a, x, b) | none => none)
    | none => match bornA n l with | some (a, x, b) => some (e :: a, x, b) | none => none

noncomputable def zeroV (t : TypeId) : Option AV :=
  match P.info? t with
  | some i => match i.zero with
    | some (.agg cs) => some (.agg (scals cs.toList))
    | some v => some (scal v)
    | none => none
  | none => none

noncomputable def found (ok : Bool) (v : AV) (b : Bool) (m : AMem) : OR := bif2 ok (.mk (.tup [v, .bool b]) m) (.mk v m)

noncomputable def aLookup (t : TypeId) (x k : AV) (ok : Bool) (m : AMem) : OR :=
  match P.underlying t with
  | some (.map kt et) => bif2 (keyOk P kt k) (match zeroV P et with
    | none => .fail 232
    | some z => match x with
      | .nilm => found ok z false m
      | .map b => mapK m b fun _ _ es => match findA P kt k es with
        | some (_, some e, _) => found ok e.v true m
        | some (_, none, _) => found ok z false m
        | none => .fail 233
      | _ => .fail 234) (.fail 235)
  | _ => .fail 236

noncomputable def aMapUpdate (t : TypeId) (x k v : AV) (m : AMem) : OR :=
  match P.underlying t, x with
  | some (.map kt _), .map b => bif2 (keyOk P kt k) (mapK m b fun ro ck es => bif2 ro (.fail 237) (match findA P kt k es with
    | some (a, some e, l) => bif2 (keySame k e.k) (setMap b ck (a ++ ⟨k, v, e.born⟩ :: l) m fun m => .mk .undef m) (.fail 238)
    | some (_, none, _) => fNat (Nat.succ ck) fun c1 => setMap b c1 (es ++ [⟨k, v, some ck⟩]) m fun m => .mk .undef m
    | none => .fail 239)) (.fail 240)
  | _, _ => .fail 241

noncomputable def aDelete (t : TypeId) (x k : AV) (m : AMem) : OR :=
  match P.underlying t, x with
  | some (.map kt _), .map b => bif2 (keyOk P kt k) (mapK m b fun ro ck es => bif2 ro (.fail 252) (match findA P kt k es with
    | some (a, some _, l) => setMap b ck (a ++ l) m fun m => .mk .undef m
    | some (_, none, _) => setMap b ck es m fun m => .mk .undef m
    | none => .fail 253)) (.fail 254)
  | _, _ => .fail 255

noncomputable def isDel (b : Builtin) : Bool := match b with
  | .delete => true
  | _ => false
noncomputable def delA (ats : Array TypeId) (vs : List AV) (m : AMem) : OR :=
  match ats[0]?, vs with
  | some t, [x, k] => aDelete P t x k m
  | _, _ => .fail 256

noncomputable def aMapEntry (t : TypeId) (x k : AV) (m : AMem) : OR :=
  match P.underlying t, x with
  | some (.map kt et), .map b => bif2 (keyOk P kt k) (mapK m b fun ro ck es => bif2 ro (.fail 242) (match findA P kt k es with
    | some (_, some e, _) => bif2 (keySame k e.k) (match e.born with
      | some n => .mk (.tup [e.v, .int .i64 (.ofNat n)]) m
      | none => .fail 243) (.fail 244)
    | some (_, none, _) => match zeroV P et with
      | some z => fNat (Nat.succ ck) fun c1 => setMap b c1 (es ++ [⟨k, z, some ck⟩]) m fun m => .mk (.tup [z, .int .i64 (.ofNat ck)]) m
      | none => .fail 245
    | none => .fail 246)) (.fail 247)
  | _, _ => .fail 248

noncomputable def aEntryStore (x s v : AV) (m : AMem) : OR :=
  match x, s with
  | .map b, .int .i64 (.ofNat n) => mapK m b fun ro ck es => bif2 ro (.fail 249) (match bornA n es with
    | some (a, e, l) => setMap b ck (a ++ ⟨e.k, v, e.born⟩ :: l) m fun m => .mk .undef m
    | none => .fail 250)
  | _, _ => .fail 251

noncomputable def aMakeMap (r : Option AV) (m : AMem) : OR :=
  match r with
  | some _ => .fail 252
  | none => T.setK (.fail 253) (some (.map false 0 [])) m.t m.next fun t => fNat (Nat.succ m.next) fun nx => .mk (.map m.next) ⟨nx, t⟩
end

/-! ### Operations -/

abbrev Call := FuncId → List AV → AMem → OR
abbrev OpK := Program → Call → T AV → AMem → OR
namespace O
noncomputable def move (x : Operand) : OpK := fun _ _ t m => evK t x fun v => .mk v m
noncomputable def pick (c a b : Operand) : OpK := fun _ _ t m => evK t c fun v => v.onBool (fun v => bif2 v (evK t a fun v => .mk v m) (evK t b fun v => .mk v m)) (.fail 111)
noncomputable def alloc (e : TypeId) : OpK := fun P _ _ m => aAlloc P e m
noncomputable def box (_ : TypeId) (x : Operand) : OpK := fun _ _ t m => evK t x fun v => bif2 (v.onAgg (fun _ => true) v.plain) (newBlk false 1 v.cells m fun b m => .mk (.ptr b 0) m) (.fail 112)
noncomputable def build (ty : TypeId) (ps : Array (Nat × Operand)) : OpK := fun P _ t m => evPs t ps.toList fun l => aBuild P ty l m
noncomputable def buildSlice (ty : TypeId) (n : Nat) (ps : Array (Nat × Operand)) : OpK := fun P _ t m => evPs t ps.toList fun l => aBuildSlice P ty n l m
noncomputable def load (ty : TypeId) (a : Operand) : OpK := fun P _ t m => evK t a fun a => aLoad P ty a m
noncomputable def store (ty : TypeId) (a v : Operand) : OpK := fun P _ t m => evK t a fun a => evK t v fun v => aStore P ty a v m
noncomputable def nilCheck (x : Operand) : OpK := fun _ _ t m => evK t x fun v => v.onPtr (fun b o => .mk (.ptr b o) m) (v.onFn (fun f c => .mk (.fn f c) m) (.fail 113))
noncomputable def binOp (op : BinOp) (ty : TypeId) (x y : Operand) (_ : TypeId) : OpK := fun P _ t m => evK t x fun a => evK t y fun b => aBin2 P op ty (isConst x || isConst y) a b m
noncomputable def unOp (op : UnOp) (_ : TypeId) (x : Operand) : OpK := fun _ _ t m => evK t x fun v => aUn op v m
noncomputable def convert (s d : TypeId) (x : Operand) : OpK := fun P _ t m => evK t x fun v => aConvert P s d v m
noncomputable def ifaceOk (P : Program) (ty : TypeId) : Bool := match P.underlying ty with
  | some (.interface _) => false
  | some _ => true
  | none => false
noncomputable def makeInterface (ty : TypeId) (x : Operand) : OpK := fun P _ t m => evK t x fun v => bif2 (ifaceOk P ty) (.mk (.iface ty v) m) (.fail 114)
noncomputable def makeFunc (fn : Fn) (first caps : Array Operand) : OpK := fun _ _ t m => match fn, first.toList with
  | .func f, [] => evsK t caps.toList fun l => .mk (.fn f l) m
  | _, _ => .fail 115
noncomputable def makeSlice (ty : TypeId) (l c : Operand) : OpK := fun P _ t m => evK t l fun l => evK t c fun c => aMakeSlice P ty l c m
noncomputable def slice (ty : TypeId) (x : Operand) (lo hi mx : Option Operand) : OpK := fun P _ t m => evK t x fun x => evO t lo fun lo => evO t hi fun hi => evO t mx fun mx => aSlice P ty x lo hi mx m
noncomputable def fieldAddr (s : TypeId) (x : Operand) (f : Nat) : OpK := fun P _ t m => evK t x fun x => aFieldAddr P s x f m
noncomputable def field (s : TypeId) (x : Operand) (f : Nat) : OpK := fun P _ t m => evK t x fun x => aField P s x f m
noncomputable def indexAddr (ty : TypeId) (x i : Operand) : OpK := fun P _ t m => evK t x fun x => evK t i fun i => aIndexAddr P ty x i m
noncomputable def index (ty : TypeId) (x i : Operand) : OpK := fun P _ t m => evK t x fun x => evK t i fun i => aIndex P ty x i m
noncomputable def makeMap (_ : TypeId) (r : Option Operand) : OpK := fun _ _ t m => evO t r fun r => aMakeMap r m
noncomputable def lookup (ty : TypeId) (x k : Operand) (ok : Bool) : OpK := fun P _ t m => evK t x fun x => evK t k fun k => aLookup P ty x k ok m
noncomputable def mapUpdate (ty : TypeId) (x k v : Operand) : OpK := fun P _ t m => evK t x fun x => evK t k fun k => evK t v fun v => aMapUpdate P ty x k v m
noncomputable def mapEntry (ty : TypeId) (x k : Operand) : OpK := fun P _ t m => evK t x fun x => evK t k fun k => aMapEntry P ty x k m
noncomputable def entryStore (_ : TypeId) (x s v : Operand) : OpK := fun _ _ t m => evK t x fun x => evK t s fun s => evK t v fun v => aEntryStore x s v m
noncomputable def extract (x : Operand) (i : Nat) : OpK := fun _ _ t m => evK t x fun x => x.onTup (fun l => @Option.rec AV (fun _ => OR) (.fail 116) (fun v => .mk v m) l[i]?) (.fail 117)
noncomputable def callV (f : Operand) (args : Array Operand) : OpK := fun _ call t m => evK t f fun f => f.onFn (fun g caps => evsK t args.toList fun vs => call g (vs ++ caps) m) (.fail 120)
noncomputable def callB (b : Builtin) (args : Array Operand) (ats : Array TypeId) : OpK := fun P _ t m => evsK t args.toList fun vs => bif2 (isDel b) (delA P ats vs m) (builtinA P b ats vs m)
noncomputable def call (c : Go.Call) : OpK := @Go.Call.rec (fun _ => OpK) (fun callee args ats => @Callee.rec (fun _ => OpK) (fun f => callV f args) (fun _ _ _ _ _ _ => .fail 118) (fun b => callB b args ats) callee) c
noncomputable def bad (c : Nat) : OpK := fun _ _ _ _ => .fail c
end O

noncomputable def opTab (o : Op) : OpK :=
  @Op.rec (fun _ => OpK) O.move O.move O.pick O.alloc O.box O.build O.buildSlice O.mapUpdate O.load O.store (fun _ => O.bad 202) (fun _ => O.bad 203) O.nilCheck O.binOp O.unOp O.convert (fun _ _ => O.bad 204) O.makeInterface O.makeFunc O.makeMap (fun _ _ => O.bad 206) O.makeSlice O.slice O.fieldAddr O.field O.indexAddr O.index O.lookup O.mapUpdate O.mapEntry O.entryStore (fun _ _ => O.bad 211) (fun _ _ => O.bad 212) (fun _ => O.bad 213) (fun _ _ _ _ => O.bad 214) O.extract O.call (fun _ => O.bad 215) (fun _ => O.bad 216) (fun _ => O.bad 217) (fun _ _ => O.bad 218) (fun _ _ _ => O.bad 219) (fun _ _ => O.bad 220) o

/-! ### Regions -/

noncomputable def dstK (nt : Nat) (dst : Option Tmp) (v : AV) (t : T AV) (k : T AV → Res) : Res :=
  @Option.rec Nat (fun _ => Res) (k t) (fun d => bif2 (Nat.blt d nt) (T.setK (.fail 121) (some v) t d k) (.fail 122)) dst

/-- Is the operation wanted? (none: it can't be told) -/
noncomputable def wantedA (all : Array Oper) (t : T AV) (j : Nat) (want : Bool) : Option Bool :=
  match all[j]? with
  | none => some false
  | some g => match g.dst with
    | none => some false
    | some d => match t.get d with
      | some v => v.onBool (fun b => some (b == want)) (@AV.rec (fun _ => Option Bool) (fun _ => PUnit) none (fun _ => none) (fun _ _ => some false) (fun _ => some false) (fun _ _ => some false) (some false) (fun _ _ _ _ => some false) (some false) (some false) (fun _ => some false) (some false) (fun a0 a1 _ => (fun _ _ => some false) a0 a1) (some false) (fun a0 a1 _ => (fun _ _ => some false) a0 a1) (some false) (fun a0 _ => (fun _ => some false) a0) (fun a0 _ => (fun _ => some false) a0) ⟨⟩ (fun _ _ _ _ => ⟨⟩) v)
      | none => some false

noncomputable def goOp (P : Program) (call : Call) (nt : Nat) (dst : Option Tmp) (op : Op) (t : T AV) (m : AMem) (k : T AV → AMem → Res) : Res :=
  @OR.rec (fun _ => Res) Res.fail (fun v m1 => bif2 (Nat.ble m.next m1.next) (dstK nt dst v t fun t => k t m1) (.fail 124)) (opTab op P call t m)

/-- One operation of a region. -/
noncomputable def regOp (P : Program) (call : Call) (nt : Nat) (all : Array Oper) (o : Oper) (t : T AV) (m : AMem) (k : T AV → AMem → Res) : Res :=
  @Oper.rec (fun _ => Res) (fun dst op _ _ _ guard =>
    @Option.rec (Nat × Bool) (fun _ => Res) (goOp P call nt dst op t m k) (fun g =>
      @Option.rec Bool (fun _ => Res) (.fail 123) (fun w => bif2 w (goOp P call nt dst op t m k) (dstK nt dst .undef t fun t => k t m)) (wantedA all t g.1 g.2)) guard) o

noncomputable def opsA (P : Program) (call : Call) (nt : Nat) (all : Array Oper) (l : List Oper) : T AV → AMem → Res :=
  @List.rec Oper (fun _ => T AV → AMem → Res) (fun t m => .mk .norm t m) (fun o _ ih t m => regOp P call nt all o t m ih) l

/-! ### Regions whose order is drawn -/

noncomputable def bindsA (e : Edge) : Bool := match e.ground with
  | .textOnly _ => false
  | .gcOnly _ => false
  | _ => true

noncomputable def bitA (a i : Nat) : Bool := Nat.beq (Nat.land (Nat.shiftRight a i) 1) 1
noncomputable def subA (a b : Nat) : Bool := Nat.beq (Nat.land a b) a
noncomputable def natAt (t : T Nat) (i : Nat) : Nat := @Option.rec Nat (fun _ => Nat) 0 (fun n => n) (t.get i)

noncomputable def ancOf (A : T Nat) (l : List Edge) : Nat := @List.rec Edge (fun _ => Nat) 0 (fun e _ ih => bif2 (bindsA e) (Nat.lor (Nat.lor (Nat.shiftLeft 1 e.on) (natAt A e.on)) ih) ih) l
noncomputable def lowA (j : Nat) (l : List Edge) : Bool := @List.rec Edge (fun _ => Bool) true (fun e _ ih => bif2 (bindsA e) (bif2 (Nat.blt e.on j) ih false) ih) l
noncomputable def namesA (a : Nat) (W : T Nat) (l : List Tmp) : Bool := @List.rec Tmp (fun _ => Bool) true (fun u _ ih => bif2 (subA (natAt W u) a) ih false) l
noncomputable def addNames (j : Nat) (l : List Tmp) : T Nat → (T Nat → Option (List Nat)) → Option (List Nat) :=
  @List.rec Tmp (fun _ => T Nat → (T Nat → Option (List Nat)) → Option (List Nat)) (fun N k => k N) (fun u _ ih N k => fNat (Nat.lor (natAt N u) (Nat.shiftLeft 1 j)) fun n => T.setK none (some n) N u fun N => ih N k) l
noncomputable def consO (a : Nat) (r : Option (List Nat)) : Option (List Nat) := @Option.rec (List Nat) (fun _ => Option (List Nat)) none (fun l => some (a :: l)) r

/-- Of one operation: which ones are ahead of it; none: names might be turned in between. -/
noncomputable def maskOne (all : Array Oper) (o : Oper) (j : Nat) (A W N : T Nat) (k : T Nat → T Nat → T Nat → Option (List Nat)) : Option (List Nat) :=
  fNat (ancOf A o.after.toList) fun a => bif2 (lowA j o.after.toList) (bif2 (namesA a W (o.looksAt all)) (addNames j (o.looksAt all) N fun N =>
    T.setK none (some a) A j fun A => @Option.rec Nat (fun _ => Option (List Nat)) (consO a (k A W N)) (fun d =>
      bif2 (Nat.beq (natAt W d) 0) (bif2 (subA (natAt N d) a) (fNat (Nat.shiftLeft 1 j) fun n => T.setK none (some n) W d fun W => consO a (k A W N)) none) none) o.dst) none) none

noncomputable def masksFrom (all : Array Oper) (l : List Oper) : Nat → T Nat → T Nat → T Nat → Option (List Nat) :=
  @List.rec Oper (fun _ => Nat → T Nat → T Nat → T Nat → Option (List Nat)) (fun _ _ _ _ => some []) (fun o _ ih j A W N => maskOne all o j A W N fun A W N => fNat (Nat.succ j) fun j => ih j A W N) l
noncomputable def masks (all : Array Oper) : Option (List Nat) := masksFrom all all.toList 0 .leaf .leaf .leaf

/-- Are they the same? -/
noncomputable def eqV : Nat → AV → AV → Bool
  | 0, _, _ => false
  | n + 1, a, b => match a, b with
    | .bool x, .bool y => x == y
    | .int k x, .int l y => bif2 (kEq k l) (iEq x y) false
    | .str x, .str y => lEq x y
    | .ptr x y, .ptr z u => bif2 (Nat.beq x z) (Nat.beq y u) false
    | .nilp, .nilp => true
    | .slice x y z none, .slice x' y' z' none => bif2 (Nat.beq x x') (bif2 (Nat.beq y y') (Nat.beq z z') false) false
    | .slice x y z (some c), .slice x' y' z' (some c') => bif2 (Nat.beq x x') (bif2 (Nat.beq y y') (bif2 (Nat.beq z z') (Nat.beq c c') false) false) false
    | .nils, .nils => true
    | .emp, .emp => true
    | .map x, .map y => Nat.beq x y
    | .nilm, .nilm => true
    | .nilf, .nilf => true
    | .fn f x, .fn g y => bif2 (Nat.beq f g) (eqVs n x y) false
    | .iface s x, .iface t y => bif2 (Nat.beq s t) (eqV n x y) false
    | .nili, .nili => true
    | .agg x, .agg y => eqVs n x y
    | .tup x, .tup y => eqVs n x y
    | _, _ => false
where
  eqVs : Nat → List AV → List AV → Bool
  | 0, _, _ => false
  | _ + 1, [], [] => true
  | n + 1, a :: l, b :: m => bif2 (eqV n a b) (eqVs n l m) false
  | _, _, _ => false

/-- 1: it may read memory; 2: it may turn it. -/
noncomputable def heavyB (b : Builtin) : Nat := match b with
  | .append => 2
  | .copy => 2
  | .clear => 2
  | .delete => 2
  | _ => 0
noncomputable def heavyC (c : Go.Call) : Nat := @Go.Call.rec (fun _ => Nat) (fun callee _ _ => @Callee.rec (fun _ => Nat) (fun _ => 2) (fun _ _ => 2) (fun b => heavyB b) callee) c
noncomputable def opKind (o : Op) : Nat :=
  @Op.rec (fun _ => Nat) (fun _ => 0) (fun _ => 0) (fun _ _ _ => 0) (fun _ => 0) (fun _ _ => 0) (fun _ _ => 0) (fun _ _ _ => 0) (fun _ _ _ _ => 2) (fun _ _ => 1) (fun _ _ _ => 2) (fun _ => 0) (fun _ => 0) (fun _ => 0) (fun _ _ _ _ _ => 1) (fun _ _ _ => 0) (fun _ _ _ => 1) (fun _ _ => 0) (fun _ _ => 0) (fun _ _ _ => 0) (fun _ _ => 0) (fun _ _ => 0) (fun _ _ _ => 0) (fun _ _ _ _ _ => 1) (fun _ _ _ => 0) (fun _ _ _ => 0) (fun _ _ _ => 0) (fun _ _ _ => 0) (fun _ _ _ _ => 1) (fun _ _ _ _ => 2) (fun _ _ _ => 2) (fun _ _ _ _ => 2) (fun _ _ => 0) (fun _ _ => 0) (fun _ => 0) (fun _ _ _ _ => 0) (fun _ _ => 0) (fun c => heavyC c) (fun _ => 0) (fun _ => 0) (fun _ => 0) (fun _ _ => 0) (fun _ _ _ => 0) (fun _ _ => 0) o

/-- A read that may still come behind what turns memory. -/
structure Pend where
  j : Nat
  op : Op
  t : T AV
  v : AV

/-- What comes ahead of and between the operations that turn memory. -/
structure DSt where
  als : Nat
  alc : Nat
  hv : Nat
  base : AMem
  st : List (Nat × AMem)
  pend : List Pend

section
variable (P : Program) (call : Call)

noncomputable def readsA (o : Op) (t : T AV) (m : AMem) (v : AV) : Bool := @OR.rec (fun _ => Bool) (fun _ => false) (fun u m1 => bif2 (Nat.beq m1.next m.next) (eqV 40 u v) false) (opTab o P call t m)

noncomputable def atCuts (o : Op) (t : T AV) (v : AV) (a : Nat) (l : List (Nat × AMem)) : Bool := @List.rec (Nat × AMem) (fun _ => Bool) true (fun c _ ih => bif2 (bitA a c.1) true (bif2 (readsA P call o t c.2 v) ih false)) l
noncomputable def pendK (a : Nat) (m : AMem) (l : List Pend) : (List Pend → Res) → Res :=
  @List.rec Pend (fun _ => (List Pend → Res) → Res) (fun k => k []) (fun p _ ih k => bif2 (bitA a p.j) (ih k) (bif2 (readsA P call p.op p.t m p.v) (ih fun l => k (p :: l)) (.fail 131))) l

variable (nt : Nat)
abbrev KD := T AV → AMem → DSt → Res

noncomputable def heavyD (dst : Option Tmp) (op : Op) (a j : Nat) (t : T AV) (m : AMem) (d : DSt) (k : KD) : Res :=
  bif2 (subA d.hv a) (bif2 (subA d.als a) (@OR.rec (fun _ => Res) Res.fail (fun v m1 => bif2 (Nat.ble m.next m1.next)
    (pendK P call a m1 d.pend fun pend => dstK nt dst v t fun t => fNat (Nat.lor d.hv (Nat.shiftLeft 1 j)) fun hv => k t m1 ⟨d.als, 0, hv, m1, (j, d.base) :: d.st, pend⟩) (.fail 132)) (opTab op P call t m)) (.fail 133)) (.fail 134)

noncomputable def readD (dst : Option Tmp) (op : Op) (a j : Nat) (t : T AV) (m : AMem) (d : DSt) (k : KD) : Res :=
  bif2 (Nat.beq (opKind op) 1) (@OR.rec (fun _ => Res) Res.fail (fun v m1 =>
    bif2 (Nat.beq m1.next m.next) (bif2 (bif2 (subA d.alc a) true (readsA P call op t d.base v)) (bif2 (atCuts P call op t v a d.st)
      (dstK nt dst v t fun t1 => k t1 m ⟨d.als, d.alc, d.hv, d.base, d.st, ⟨j, op, t, v⟩ :: d.pend⟩) (.fail 135)) (.fail 136)) (.fail 137)) (opTab op P call t m)) (.fail 138)

noncomputable def newD (dst : Option Tmp) (v : AV) (j : Nat) (t : T AV) (m : AMem) (d : DSt) (k : KD) (x : Blk) : Res :=
  T.setK (.fail 139) (some x) m.t m.next fun tr => fNat (Nat.succ m.next) fun nx => dstK nt dst v t fun t => fNat (Nat.lor d.als (Nat.shiftLeft 1 j)) fun als => fNat (Nat.lor d.alc (Nat.shiftLeft 1 j)) fun alc =>
    k t ⟨nx, tr⟩ ⟨als, alc, d.hv, d.base, d.st, d.pend⟩

noncomputable def isLeaf (t : T Blk) : Bool := @T.casesOn Blk (fun _ => Bool) t true (fun _ _ _ => false)

noncomputable def goD (dst : Option Tmp) (op : Op) (a j : Nat) (t : T AV) (m : AMem) (d : DSt) (k : KD) : Res :=
  bif2 (Nat.beq (opKind op) 2) (heavyD P call nt dst op a j t m d k) (@OR.rec (fun _ => Res) (fun _ => readD P call nt dst op a j t m d k) (fun v m1 =>
    bif2 (Nat.beq m1.next m.next) (bif2 (isLeaf m1.t) (dstK nt dst v t fun t => k t m d) (.fail 140))
      (bif2 (Nat.beq m1.next (Nat.succ m.next)) (@Option.rec Blk (fun _ => Res) (.fail 141) (newD nt dst v j t m d k) (m1.t.get m.next)) (.fail 142))) (opTab op P call t ⟨m.next, .leaf⟩))

noncomputable def regD (all : Array Oper) (o : Oper) (a j : Nat) (t : T AV) (m : AMem) (d : DSt) (k : KD) : Res :=
  @Oper.rec (fun _ => Res) (fun dst op _ _ _ guard =>
    @Option.rec (Nat × Bool) (fun _ => Res) (goD P call nt dst op a j t m d k) (fun g =>
      @Option.rec Bool (fun _ => Res) (.fail 143) (fun w => bif2 w (goD P call nt dst op a j t m d k) (dstK nt dst .undef t fun t => k t m d)) (wantedA all t g.1 g.2)) guard) o

noncomputable def opsD (all : Array Oper) (l : List Oper) : List Nat → Nat → T AV → AMem → DSt → Res :=
  @List.rec Oper (fun _ => List Nat → Nat → T AV → AMem → DSt → Res) (fun _ _ t m _ => .mk .norm t m) (fun o _ ih ms j t m d => @List.rec Nat (fun _ => Res) (.fail 144) (fun a ms _ => regD P call nt all o a j t m d fun t m d => fNat (Nat.succ j) fun j => ih ms j t m d) ms) l

noncomputable def drawnA (all : Array Oper) (t : T AV) (m : AMem) : Res :=
  @Option.rec (List Nat) (fun _ => Res) (.fail 145) (fun ms => opsD P call nt all all.toList ms 0 t m ⟨0, 0, 0, m, [], []⟩) (masks all)
end

/-! ### Code -/

abbrev Sums := FuncId → Option (List AV → AMem → OR)
abbrev Ex := Nat → Code → T AV → AMem → Res

section
variable (P : Program) (S : Sums)

noncomputable def resultsA (rs : List ResultVar) (t : T AV) (m : AMem) (k : List AV → OR) : OR :=
  match rs with
  | [] => k []
  | .tmp i :: l => evK t (.tmp i) fun v => resultsA l t m fun vs => k (v :: vs)
  | .cell a ty :: l => evK t (.tmp a) fun a => match aLoad P ty a m with
    | .mk v _ => resultsA l t m fun vs => k (v :: vs)
    | .fail c => .fail c

noncomputable def one : List AV → AMem → OR
  | [v], m => .mk v m
  | l, m => .mk (.tup l) m

/-- A function's code; none: it has none, or is entered otherwise. -/
noncomputable def codeOf (f : FuncId) : Option (Func × Code) :=
  match P.funcs[f]? with
  | some fn => match fn.body with
    | some c => bif2 (fn.name == "runtime.NumGoroutine") none (some (fn, c))
    | none => none
  | none => none

noncomputable def nTmps (fn : Func) (n : Nat) : Nat := bif2 (Nat.blt n fn.ntmps) fn.ntmps n

noncomputable def leaveA (fn : Func) (r : Res) : OR :=
  @Res.rec (fun _ => OR) OR.fail (fun x t m => @X.rec (fun _ => OR) (resultsA P fn.results.toList t m fun l => one l m) (fun _ => .fail 1002) (resultsA P fn.results.toList t m fun l => one l m) x) r

/-- A call, 'ex' being the run of code. -/
noncomputable def callF (ex : Ex) : Call := fun f args m =>
  @Option.rec (List AV → AMem → OR) (fun _ => OR) (@Option.rec (Func × Code) (fun _ => OR) (.fail (2000 + f)) (fun fc =>
      putK (.fail 1001) args 0 .leaf fun t => leaveA P fc.1 (ex (nTmps fc.1 args.length) fc.2 t m)) (codeOf P f)) (fun s => s args m) (S f)

abbrev CodeK := Program → Sums → Ex → Nat → T AV → AMem → Res
namespace C
noncomputable def skip : CodeK := fun _ _ _ _ t m => .mk .norm t m
noncomputable def region (_ : Nat) (ops : Array Oper) (drawn : Bool) : CodeK := fun P S ex nt t m => bif2 drawn (drawnA P (callF P S ex) nt ops t m) (opsA P (callF P S ex) nt ops ops.toList t m)
/-- On, where it came to its end. -/
noncomputable def thenK (r : Res) (k : T AV → AMem → Res) : Res :=
  @Res.rec (fun _ => Res) Res.fail (fun x t m => @X.rec (fun _ => Res) (k t m) (fun i => .mk (.exit i) t m) (.mk .ret t m) x) r
noncomputable def seq (a b : Code) : CodeK := fun _ _ ex nt t m => thenK (ex nt a t m) fun t m => ex nt b t m
noncomputable def cond (x : Operand) (a b : Code) : CodeK := fun _ _ ex nt t m => evK t x fun v => v.onBool (fun v => bif2 v (ex nt a t m) (ex nt b t m)) (.fail 1010)
noncomputable def block (id : Nat) (b : Code) : CodeK := fun _ _ ex nt t m =>
  @Res.rec (fun _ => Res) Res.fail (fun x t m => @X.rec (fun _ => Res) (.mk .norm t m) (fun i => bif2 (Nat.beq i id) (.mk .norm t m) (.mk (.exit i) t m)) (.mk .ret t m) x) (ex nt b t m)
noncomputable def loop (b : Code) : CodeK := fun _ _ ex nt t m => thenK (ex nt b t m) fun t m => ex nt (.loop b) t m
noncomputable def scope (b : Code) : CodeK := fun _ _ ex nt t m => ex nt b t m
noncomputable def exit (id : Nat) : CodeK := fun _ _ _ _ t m => .mk (.exit id) t m
noncomputable def ret : CodeK := fun _ _ _ _ t m => .mk .ret t m
noncomputable def bad (c : Nat) : CodeK := fun _ _ _ _ _ _ => .fail c
end C

noncomputable def codeTab (c : Code) : CodeK :=
  @Code.casesOn (fun _ => CodeK) c C.skip C.region C.seq C.cond C.block C.loop (fun _ _ _ _ => C.bad 1011) C.exit C.scope (fun _ => C.skip) (fun _ => C.bad 1012) C.ret (fun _ => C.bad 1013)

noncomputable def execF (ex : Ex) : Ex := fun nt c t m => codeTab c P S ex nt t m

noncomputable def exec (n : Nat) : Ex := @Nat.rec (fun _ => Ex) (fun _ _ _ _ => .fail 1020) (fun _ ih => execF P S ih) n

noncomputable def call (n : Nat) : Call := callF P S (exec P S n)
end
end Go.Ev
end
section
namespace Go.Ev

/-! ### Small words -/

@[simp] theorem bif2_true {γ : Type} (x y : γ) : bif2 true x y = x := rfl
@[simp] theorem bif2_false {γ : Type} (x y : γ) : bif2 false x y = y := rfl
theorem bif2_eq {γ : Type} (b : Bool) (x y : γ) : bif2 b x y = if b = true then x else y := by cases b <;> rfl
@[simp] theorem fNat_eq {β : Type} (n : Nat) (k : Nat → β) : fNat n k = k n := by cases n <;> rfl
@[simp] theorem fInt_eq {β : Type} (n : Int) (k : Int → β) : fInt n k = k n := by cases n <;> simp [fInt]
@[simp] theorem fBool_eq {β : Type} (n : Bool) (k : Bool → β) : fBool n k = k n := by cases n <;> rfl
@[simp] theorem fList_eq {β : Type} (l : List Nat) : ∀ (k : List Nat → β), fList l k = k l := by
  induction l with
  | nil => intro k; rfl
  | cons a l ih => intro k; show fNat a (fun a => fList l fun l => k (a :: l)) = _; rw [fNat_eq, ih]

theorem iLt_eq (a b : Int) : iLt a b = decide (a < b) := by
  rw [Bool.eq_iff_iff, decide_eq_true_iff]
  cases a <;> cases b <;> simp [iLt, Nat.blt_eq] <;> omega
theorem iEq_eq (a b : Int) : iEq a b = (a == b) := by
  rw [Bool.eq_iff_iff, beq_iff_eq]
  cases a <;> cases b <;> simp [iEq] <;> omega
theorem kEq_eq {j k : IntKind} (h : kEq j k = true) : j = k := by
  cases j <;> cases k <;> first | rfl | (simp [kEq, kNum] at h)
theorem lEq_eq : ∀ (a b : List Nat), lEq a b = (a == b)
  | [], [] => rfl
  | [], _ :: _ => rfl
  | _ :: _, [] => rfl
  | a :: x, b :: y => by
    rw [lEq, bif2_eq, lEq_eq x y]
    by_cases h : a = b
    · subst h; simp
    · have : Nat.beq a b = false := by rw [Bool.eq_false_iff]; intro e; exact h (Nat.eq_of_beq_eq_true e)
      simp [this, h]

theorem wrap_small (k : IntKind) (a : Nat) (h : a < topOf k) : k.wrap (Int.ofNat a) = Int.ofNat a := by
  cases k <;> simp only [topOf] at h <;> simp only [IntKind.wrap, IntKind.bits, IntKind.signed] <;> simp <;> omega
@[simp] theorem wrapK_eq {β : Type} (k : IntKind) (n : Int) (c : Int → β) : wrapK k n c = c (k.wrap n) := by
  cases n with
  | ofNat a =>
    simp only [wrapK, fNat_eq, bif2_eq, fInt_eq]
    split
    · rename_i h; rw [wrap_small k a (by simpa [Nat.blt_eq] using h)]
    · rfl
  | negSucc a => simp [wrapK]

/-! ### Tries -/

section
variable {α β : Type}
theorem T.get_leaf (i : Nat) : (T.leaf : T α).get i = none := rfl
theorem T.get_zero (v : Option α) (l r : T α) : (T.node v l r).get 0 = v := rfl
theorem T.get_succ (v : Option α) (l r : T α) (i : Nat) (h : i ≠ 0) : (T.node v l r).get i = if i % 2 = 0 then r.get (i / 2) else l.get (i / 2) := by
  obtain ⟨j, rfl⟩ : ∃ j, i = j + 1 := ⟨i - 1, by omega⟩
  show (@Nat.rec (fun _ => Option α) (T.get r (Nat.div (j+1) 2)) (fun _ _ => T.get l (Nat.div (j+1) 2)) (Nat.mod (j+1) 2)) = _
  have e : Nat.mod (j+1) 2 = (j+1) % 2 := rfl
  rw [e]
  rcases Nat.mod_two_eq_zero_or_one (j+1) with h | h <;> rw [h]
  · rw [if_pos rfl]; rfl
  · rw [if_neg (by decide)]; rfl

theorem T.oneK_eq (z : β) (v : Option α) : ∀ (n i : Nat) (k : T α → β), T.oneK z v n i k = z ∨ ∃ t : T α, (∀ j, t.get j = if j = i then v else none) ∧ T.oneK z v n i k = k t := by
  intro n
  induction n with
  | zero => intro i k; exact .inl rfl
  | succ n ih =>
    intro i k
    cases i with
    | zero =>
      refine .inr ⟨.node v .leaf .leaf, fun j => ?_, rfl⟩
      cases j with
      | zero => rfl
      | succ j => rw [T.get_succ _ _ _ _ (by omega)]; simp [T.get_leaf]
    | succ i =>
      have e : T.oneK z v (n + 1) (i + 1) k = @Nat.rec (fun _ => β) (T.oneK z v n ((i + 1) / 2) fun r => k (.node none .leaf r)) (fun _ _ => T.oneK z v n ((i + 1) / 2) fun l => k (.node none l .leaf)) ((i + 1) % 2) := rfl
      rw [e]
      rcases Nat.mod_two_eq_zero_or_one (i + 1) with h | h <;> rw [h]
      · rcases ih ((i + 1) / 2) fun r => k (.node none .leaf r) with h1 | ⟨t, ht, h1⟩
        · exact .inl h1
        · refine .inr ⟨_, fun j => ?_, h1⟩
          by_cases hj : j = 0
          · subst hj; rw [T.get_zero, if_neg (by omega)]
          · rw [T.get_succ _ _ _ _ hj, T.get_leaf, ht]
            by_cases h2 : j % 2 = 0
            · rw [if_pos h2]; by_cases h3 : j / 2 = (i + 1) / 2
              · rw [if_pos h3, if_pos (by omega)]
              · rw [if_neg h3, if_neg (by omega)]
            · rw [if_neg h2, if_neg (by omega)]
      · rcases ih ((i + 1) / 2) fun l => k (.node none l .leaf) with h1 | ⟨t, ht, h1⟩
        · exact .inl h1
        · refine .inr ⟨_, fun j => ?_, h1⟩
          by_cases hj : j = 0
          · subst hj; rw [T.get_zero, if_neg (by omega)]
          · rw [T.get_succ _ _ _ _ hj, T.get_leaf, ht]
            by_cases h2 : j % 2 = 0
            · rw [if_pos h2, if_neg (by omega)]
            · rw [if_neg h2]; by_cases h3 : j / 2 = (i + 1) / 2
              · rw [if_pos h3, if_pos (by omega)]
              · rw [if_neg h3, if_neg (by omega)]

theorem T.setK_eq (z : β) (v : Option α) : ∀ (t : T α) (i : Nat) (k : T α → β), T.setK z v t i k = z ∨ ∃ t' : T α, (∀ j, t'.get j = if j = i then v else t.get j) ∧ T.setK z v t i k = k t' := by
  intro t
  induction t with
  | leaf =>
    intro i k
    rcases T.oneK_eq z v 64 i k with h | ⟨t, ht, h⟩
    · exact .inl h
    · exact .inr ⟨t, fun j => by rw [ht, T.get_leaf], h⟩
  | node w l r ihl ihr =>
    intro i k
    cases i with
    | zero =>
      refine .inr ⟨.node v l r, fun j => ?_, rfl⟩
      by_cases hj : j = 0
      · subst hj; rfl
      · rw [T.get_succ _ _ _ _ hj, T.get_succ _ _ _ _ hj, if_neg hj]
    | succ i =>
      have e : T.setK z v (.node w l r) (i + 1) k = @Nat.rec (fun _ => β) (T.setK z v r ((i + 1) / 2) fun r => k (.node w l r)) (fun _ _ => T.setK z v l ((i + 1) / 2) fun l => k (.node w l r)) ((i + 1) % 2) := rfl
      rw [e]
      rcases Nat.mod_two_eq_zero_or_one (i + 1) with h | h <;> rw [h]
      · rcases ihr ((i + 1) / 2) fun r => k (.node w l r) with h1 | ⟨t, ht, h1⟩
        · exact .inl h1
        · refine .inr ⟨_, fun j => ?_, h1⟩
          by_cases hj : j = 0
          · subst hj; rw [T.get_zero, T.get_zero, if_neg (by omega)]
          · rw [T.get_succ _ _ _ _ hj, T.get_succ _ _ _ _ hj, ht]
            by_cases h2 : j % 2 = 0
            · rw [if_pos h2, if_pos h2]; by_cases h3 : j / 2 = (i + 1) / 2
              · rw [if_pos h3, if_pos (by omega)]
              · rw [if_neg h3, if_neg (by omega)]
            · rw [if_neg h2, if_neg h2, if_neg (by omega)]
      · rcases ihl ((i + 1) / 2) fun l => k (.node w l r) with h1 | ⟨t, ht, h1⟩
        · exact .inl h1
        · refine .inr ⟨_, fun j => ?_, h1⟩
          by_cases hj : j = 0
          · subst hj; rw [T.get_zero, T.get_zero, if_neg (by omega)]
          · rw [T.get_succ _ _ _ _ hj, T.get_succ _ _ _ _ hj, ht]
            by_cases h2 : j % 2 = 0
            · rw [if_pos h2, if_pos h2, if_neg (by omega)]
            · rw [if_neg h2, if_neg h2]; by_cases h3 : j / 2 = (i + 1) / 2
              · rw [if_pos h3, if_pos (by omega)]
              · rw [if_neg h3, if_neg (by omega)]
end

theorem putK_eq {β : Type} (z : β) : ∀ (l : List AV) (i : Nat) (c : T AV) (k : T AV → β), putK z l i c k = z ∨
    ∃ c' : T AV, (∀ j, c'.get j = if i ≤ j ∧ j < i + l.length then l[j - i]? else c.get j) ∧ putK z l i c k = k c' := by
  intro l
  induction l with
  | nil => intro i c k; exact .inr ⟨c, fun j => by rw [if_neg (by simp only [List.length_nil]; omega)], rfl⟩
  | cons v l ih =>
    intro i c k
    have e : putK z (v :: l) i c k = T.setK z (some v) c i fun c => fNat (Nat.succ i) fun i => putK z l i c k := rfl
    rw [e]
    rcases T.setK_eq z (some v) c i fun c => fNat (Nat.succ i) fun i => putK z l i c k with h | ⟨c1, h1, h⟩
    · exact .inl h
    · rw [h, fNat_eq]
      rcases ih (Nat.succ i) c1 k with h2 | ⟨c2, h2, h3⟩
      · exact .inl h2
      · refine .inr ⟨c2, fun j => ?_, h3⟩
        rw [h2, h1]
        by_cases a : j = i
        · subst a; rw [if_neg (by omega), if_pos rfl, if_pos (by simp)]; simp
        · by_cases b : i + 1 ≤ j ∧ j < i + 1 + l.length
          · rw [if_pos (by simpa [Nat.succ_eq_add_one] using b), if_pos (by simp; omega)]
            obtain ⟨q, rfl⟩ : ∃ q, j = i + 1 + q := ⟨j - (i + 1), by omega⟩
            rw [show i + 1 + q - i = q + 1 from by omega, show i + 1 + q - Nat.succ i = q from by omega]; simp
          · rw [if_neg (by simpa [Nat.succ_eq_add_one] using b), if_neg a, if_neg (by simp; omega)]

/-- The cells that a trie holds from a place on. -/
noncomputable def cellsFrom (c : T AV) (i n : Nat) : List AV := (List.range' i n).map fun j => (c.get j).getD .any
theorem takeK_eq {β : Type} (c : T AV) : ∀ (n i : Nat) (k : List AV → β), takeK c n i k = k (cellsFrom c i n) := by
  intro n
  induction n with
  | zero => intro i k; rfl
  | succ n ih =>
    intro i k
    have e : takeK c (n + 1) i k = @Option.rec AV (fun _ => β) (takeK c n (Nat.succ i) fun l => k (.any :: l)) (fun v => takeK c n (Nat.succ i) fun l => k (v :: l)) (c.get i) := rfl
    rw [e]
    have h0 : cellsFrom c i (n + 1) = (c.get i).getD .any :: cellsFrom c (i + 1) n := by simp [cellsFrom, List.range'_succ]
    rw [h0]
    cases h : c.get i with
    | none => simp only [ih]; rfl
    | some v => simp only [ih]; rfl
theorem cellsFrom_length (c : T AV) (i n : Nat) : (cellsFrom c i n).length = n := by simp [cellsFrom]
theorem cellsFrom_get (c : T AV) (i n j : Nat) (h : j < n) : (cellsFrom c i n)[j]? = some ((c.get (i + j)).getD .any) := by
  simp [cellsFrom, h]

end Go.Ev
end
section
namespace Go.Ev

/-- Where a name's cells lie: from a place of a block on; how many cells the block has; how wide the elements of a slice over it are. -/
structure Loc where
  blk : Nat
  base : Nat
  csize : Nat
  E : Nat

abbrev Ren := Nat → Option Loc

mutual
inductive VR (ρ : Ren) : AV → Value → Prop
  | any (v : Value) : VR ρ .any v
  | bool (b : Bool) : VR ρ (.bool b) (.bool b)
  | int (k : IntKind) (n : Int) : VR ρ (.int k n) (.int k n)
  | str (l : List Nat) (s : ByteArray) (h : s.data.toList.map UInt8.toNat = l) : VR ρ (.str l) (.string s)
  | ptr (b off : Nat) (L : Loc) (h : ρ b = some L) : VR ρ (.ptr b off) (.pointer (some ⟨L.blk, L.base + off, none⟩))
  | nilp : VR ρ .nilp (.pointer none)
  | sliceE (b off len c : Nat) (L : Loc) (h : ρ b = some L) (hl : len ≤ c) : VR ρ (.slice b off len (some c)) (.slice (some ⟨L.blk, L.base + off, none⟩) len c)
  | sliceO (b off len c : Nat) (L : Loc) (h : ρ b = some L) (hl : len ≤ c) (he : L.base + off + c * L.E = L.csize) : VR ρ (.slice b off len none) (.slice (some ⟨L.blk, L.base + off, none⟩) len c)
  | nils : VR ρ .nils (.slice none 0 0)
  | emp (a : Addr) (c : Nat) : VR ρ .emp (.slice (some a) 0 c)
  | map (b : Nat) (L : Loc) (h : ρ b = some L) : VR ρ (.map b) (.map (some L.blk))
  | nilm : VR ρ .nilm (.map none)
  | fn (f : FuncId) (caps : List AV) (cs : Array Value) (h : VRs ρ caps cs.toList) : VR ρ (.fn f caps) (.func (.func f) #[] cs)
  | nilf : VR ρ .nilf .nilFunc
  | iface (t : TypeId) (v : AV) (c : Value) (h : VR ρ v c) : VR ρ (.iface t v) (.iface t c)
  | nili : VR ρ .nili .nilIface
  | agg (l : List AV) (cs : Array Value) (h : VRs ρ l cs.toList) : VR ρ (.agg l) (.agg cs)
  | tup (l : List AV) (cs : Array Value) (h : VRs ρ l cs.toList) : VR ρ (.tup l) (.tuple cs)
inductive VRs (ρ : Ren) : List AV → List Value → Prop
  | nil : VRs ρ [] []
  | cons (v : AV) (c : Value) (l : List AV) (cs : List Value) (h : VR ρ v c) (hs : VRs ρ l cs) : VRs ρ (v :: l) (c :: cs)
end

noncomputable def Sub (ρ ρ' : Ren) : Prop := ∀ b L, ρ b = some L → ρ' b = some L

mutual
theorem VR.mono {ρ ρ' : Ren} (h : Sub ρ ρ') : ∀ {a : AV} {v : Value}, VR ρ a v → VR ρ' a v
  | _, _, .any v => .any v
  | _, _, .bool b => .bool b
  | _, _, .int k n => .int k n
  | _, _, .str l s e => .str l s e
  | _, _, .ptr b off L e => .ptr b off L (h _ _ e)
  | _, _, .nilp => .nilp
  | _, _, .sliceE b off len c L e hl => .sliceE b off len c L (h _ _ e) hl
  | _, _, .sliceO b off len c L e hl he => .sliceO b off len c L (h _ _ e) hl he
  | _, _, .nils => .nils
  | _, _, .emp a c => .emp a c
  | _, _, .map b L e => .map b L (h _ _ e)
  | _, _, .nilm => .nilm
  | _, _, .fn f caps cs e => .fn f caps cs (VRs.mono h e)
  | _, _, .nilf => .nilf
  | _, _, .iface t v c e => .iface t v c (VR.mono h e)
  | _, _, .nili => .nili
  | _, _, .agg l cs e => .agg l cs (VRs.mono h e)
  | _, _, .tup l cs e => .tup l cs (VRs.mono h e)
theorem VRs.mono {ρ ρ' : Ren} (h : Sub ρ ρ') : ∀ {l : List AV} {cs : List Value}, VRs ρ l cs → VRs ρ' l cs
  | _, _, .nil => .nil
  | _, _, .cons v c l cs e es => .cons v c l cs (VR.mono h e) (VRs.mono h es)
end

theorem VR.undef (ρ : Ren) : VR ρ .undef undef := .tup [] #[] .nil

theorem VRs.length {ρ : Ren} : ∀ {l : List AV} {cs : List Value}, VRs ρ l cs → l.length = cs.length
  | _, _, .nil => rfl
  | _, _, .cons _ _ _ _ _ h => by simp [VRs.length h]

theorem VRs.get {ρ : Ren} : ∀ {l : List AV} {cs : List Value} (_ : VRs ρ l cs) (i : Nat) {v : AV}, l[i]? = some v → ∃ c, cs[i]? = some c ∧ VR ρ v c
  | _, _, .cons v c l cs h _, 0, u, e => by simp at e; subst e; exact ⟨c, by simp, h⟩
  | _, _, .cons v c l cs _ h, i + 1, u, e => by simpa using VRs.get h i (by simpa using e)

theorem VRs.of_get {ρ : Ren} : ∀ {l : List AV} {cs : List Value}, l.length = cs.length → (∀ (i : Nat) v, l[i]? = some v → ∃ c, cs[i]? = some c ∧ VR ρ v c) → VRs ρ l cs
  | [], [], _, _ => .nil
  | v :: l, c :: cs, hl, h => by
    obtain ⟨c', e, hv⟩ := h 0 v (by simp)
    simp at e; subst e
    exact .cons _ _ _ _ hv (VRs.of_get (by simpa using hl) fun i v hi => by simpa using h (i + 1) v (by simpa using hi))

theorem VRs.append {ρ : Ren} : ∀ {l : List AV} {cs : List Value} {l' : List AV} {cs' : List Value}, VRs ρ l cs → VRs ρ l' cs' → VRs ρ (l ++ l') (cs ++ cs')
  | _, _, _, _, .nil, h => h
  | _, _, _, _, .cons v c l cs e es, h => .cons v c _ _ e (VRs.append es h)

theorem VRs.drop {ρ : Ren} : ∀ {l : List AV} {cs : List Value} (n : Nat), VRs ρ l cs → VRs ρ (l.drop n) (cs.drop n)
  | _, _, 0, h => by simpa using h
  | _, _, n + 1, .nil => by simpa using VRs.nil
  | _, _, n + 1, .cons v c l cs _ es => by simpa using VRs.drop n es

theorem VRs.take {ρ : Ren} : ∀ {l : List AV} {cs : List Value} (n : Nat), VRs ρ l cs → VRs ρ (l.take n) (cs.take n)
  | _, _, 0, _ => by simpa using VRs.nil
  | _, _, n + 1, .nil => by simpa using VRs.nil
  | _, _, n + 1, .cons v c l cs e es => by simpa using VRs.cons _ _ _ _ e (VRs.take n es)

/-! ### Memory -/

/-- May its cells be written? -/
noncomputable def Blk.wr : Blk → Bool
  | .cells ro _ _ _ _ => !ro
  | .map ro _ _ => !ro

/-- An entry of a map. -/
structure ER (ρ : Ren) (e : Ent) (x : MapEntry) : Prop where
  key : VR ρ e.k x.key
  val : VR ρ e.v x.val
  born : ∀ n, e.born = some n → x.born = n
inductive ERs (ρ : Ren) : List Ent → List MapEntry → Prop
  | nil : ERs ρ [] []
  | cons (e : Ent) (x : MapEntry) (l : List Ent) (xs : List MapEntry) (h : ER ρ e x) (hs : ERs ρ l xs) : ERs ρ (e :: l) (x :: xs)
theorem ER.mono {ρ ρ' : Ren} (h : Sub ρ ρ') {e : Ent} {x : MapEntry} (k : ER ρ e x) : ER ρ' e x := ⟨k.key.mono h, k.val.mono h, k.born⟩
theorem ERs.mono {ρ ρ' : Ren} (h : Sub ρ ρ') : ∀ {l : List Ent} {xs : List MapEntry}, ERs ρ l xs → ERs ρ' l xs
  | _, _, .nil => .nil
  | _, _, .cons e x l xs k ks => .cons e x l xs (k.mono h) (ERs.mono h ks)

/-- A map's entries, in some order; stamps are unlike and below the clock. -/
structure MR (ρ : Ren) (ck : Nat) (es : List Ent) (mes : Array MapEntry) : Prop where
  ex : ∃ l : List MapEntry, l.Perm mes.toList ∧ ERs ρ es l
  old : ∀ x, x ∈ mes.toList → x.born < ck
  nodup : (mes.toList.map (·.born)).Nodup
theorem MR.mono {ρ ρ' : Ren} (h : Sub ρ ρ') {ck : Nat} {es : List Ent} {mes : Array MapEntry} (k : MR ρ ck es mes) : MR ρ' ck es mes :=
  ⟨let ⟨l, h1, h2⟩ := k.ex; ⟨l, h1, h2.mono h⟩, k.old, k.nodup⟩

noncomputable def BR (ρ : Ren) (w : World) (b : Nat) : Blk → Prop
  | .cells ro sg E n c => ∃ L cs elem fz, ρ b = some L ∧ w.heap[L.blk]? = some (.cells cs elem fz) ∧ cs.size = L.csize ∧ L.E = E ∧ L.base + n ≤ cs.size ∧
      (∀ i, i < n → ∃ v, cs[L.base + i]? = some v ∧ VR ρ ((c.get i).getD .any) v) ∧ (ro = false → ∀ i, i < cs.size → ¬ (fz.1 ≤ i ∧ i < fz.2)) ∧ (sg = false → ∀ i, ¬ (fz.1 ≤ i ∧ i < fz.2))
  | .map _ ck es => ∃ L mes, ρ b = some L ∧ w.heap[L.blk]? = some (.map mes ck) ∧ MR ρ ck es mes

structure Sim (ρ : Ren) (g : Nat → Option Blk) (w : World) : Prop where
  blk : ∀ b x, g b = some x → BR ρ w b x
  sep : ∀ b b' x x' L L', g b = some x → g b' = some x' → b ≠ b' → x.wr = true → ρ b = some L → ρ b' = some L' → L.blk ≠ L'.blk

theorem BR.loc {ρ : Ren} {w : World} {b : Nat} {x : Blk} (h : BR ρ w b x) : ∃ L, ρ b = some L ∧ L.blk < w.heap.size := by
  cases x with
  | cells ro sg E n c =>
    obtain ⟨L, cs, elem, fz, h1, h2, _⟩ := h
    refine ⟨L, h1, ?_⟩
    rcases Nat.lt_or_ge L.blk w.heap.size with h | h
    · exact h
    · simp [Array.getElem?_eq_none h] at h2
  | map ro ck es =>
    obtain ⟨L, mes, h1, h2, _⟩ := h
    refine ⟨L, h1, ?_⟩
    rcases Nat.lt_or_ge L.blk w.heap.size with h | h
    · exact h
    · simp [Array.getElem?_eq_none h] at h2

/-- What holds of a block holds in a world that has that block as it was, under a greater view. -/
theorem BR.mono {ρ ρ' : Ren} {w w' : World} {b : Nat} {x : Blk} (hs : Sub ρ ρ') (h : BR ρ w b x) (hw : ∀ L, ρ b = some L → w'.heap[L.blk]? = w.heap[L.blk]?) : BR ρ' w' b x := by
  cases x with
  | cells ro sg E n c =>
    obtain ⟨L, cs, elem, fz, h1, h2, h3, h4, hn, h5, h6⟩ := h
    exact ⟨L, cs, elem, fz, hs _ _ h1, by rw [hw L h1]; exact h2, h3, h4, hn, fun i hi => let ⟨v, a, b⟩ := h5 i hi; ⟨v, a, b.mono hs⟩, h6⟩
  | map ro ck es =>
    obtain ⟨L, mes, h1, h2, h3⟩ := h
    exact ⟨L, mes, hs _ _ h1, by rw [hw L h1]; exact h2, h3.mono hs⟩

/-- A step of a run: from a view of a world to a view of the next; the names from lo to hi are new. -/
structure GStep (ρ : Ren) (g : Nat → Option Blk) (lo : Nat) (w : World) (ρ' : Ren) (g' : Nat → Option Blk) (hi : Nat) (w' : World) : Prop where
  ren : ∀ b, ¬ (lo ≤ b ∧ b < hi) → ρ' b = ρ b
  le : lo ≤ hi
  sim : Sim ρ' g' w'
  wf : ∀ b x, g' b = some x → b < hi
  img : ∀ b x L, g' b = some x → x.wr = true → ρ' b = some L → w.heap.size ≤ L.blk ∨ ∃ b0 x0 L0, g b0 = some x0 ∧ x0.wr = true ∧ ρ b0 = some L0 ∧ L0.blk = L.blk
  imgR : ∀ b x L, g' b = some x → ρ' b = some L → w.heap.size ≤ L.blk ∨ ∃ b0 x0 L0, g b0 = some x0 ∧ ρ b0 = some L0 ∧ L0.blk = L.blk
  keeps : ∀ k, k < w.heap.size → (∀ b x L, g b = some x → x.wr = true → ρ b = some L → L.blk ≠ k) → w'.heap[k]? = w.heap[k]?
  size : w.heap.size ≤ w'.heap.size
  os : w'.os = w.os
  tape : w'.tape = w.tape
  output : w'.output = w.output

abbrev Step (ρ : Ren) (m : AMem) (w : World) (ρ' : Ren) (m' : AMem) (w' : World) : Prop := GStep ρ m.t.get m.next w ρ' m'.t.get m'.next w'

/-- The names from lo to hi stand for nothing yet. -/
noncomputable def Fresh (ρ : Ren) (lo hi : Nat) : Prop := ∀ b, lo ≤ b → b < hi → ρ b = none

section
variable {ρ ρ' ρ1 ρ2 : Ren} {g g' g1 g2 : Nat → Option Blk} {lo hi hi1 hi2 : Nat} {w w' w1 w2 : World}

theorem GStep.sub (h : GStep ρ g lo w ρ' g' hi w') (hf : Fresh ρ lo hi) : Sub ρ ρ' := by
  intro b L e
  rw [h.ren b fun ⟨h1, h2⟩ => by rw [hf b h1 h2] at e; cases e]; exact e

theorem GStep.fresh (h : GStep ρ g lo w ρ' g' hi w') {top : Nat} (hf : Fresh ρ lo top) : Fresh ρ' hi top := fun b h1 h2 => by
  rw [h.ren b (by omega)]; exact hf b (Nat.le_trans h.le h1) h2

theorem Fresh.le {lo hi hi' : Nat} (h : Fresh ρ lo hi) (h' : hi' ≤ hi) : Fresh ρ lo hi' := fun b h1 h2 => h b h1 (by omega)

theorem GStep.trans (h : GStep ρ g lo w ρ1 g1 hi1 w1) (k : GStep ρ1 g1 hi1 w1 ρ2 g2 hi2 w2) : GStep ρ g lo w ρ2 g2 hi2 w2 where
  ren b hb := by
    have h1 := h.le; have h2 := k.le
    rw [k.ren b (by omega), h.ren b (by omega)]
  le := Nat.le_trans h.le k.le
  sim := k.sim
  wf := k.wf
  img b x L h1 h2 h3 := by
    rcases k.img b x L h1 h2 h3 with a | ⟨b0, x0, L0, a, b, c, d⟩
    · exact .inl (Nat.le_trans h.size a)
    · rcases h.img b0 x0 L0 a b c with e | ⟨b1, x1, L1, e1, e2, e3, e4⟩
      · exact .inl (d ▸ e)
      · exact .inr ⟨b1, x1, L1, e1, e2, e3, e4.trans d⟩
  imgR b x L h1 h3 := by
    rcases k.imgR b x L h1 h3 with a | ⟨b0, x0, L0, a, c, d⟩
    · exact .inl (Nat.le_trans h.size a)
    · rcases h.imgR b0 x0 L0 a c with e | ⟨b1, x1, L1, e1, e3, e4⟩
      · exact .inl (d ▸ e)
      · exact .inr ⟨b1, x1, L1, e1, e3, e4.trans d⟩
  keeps i hi hn := by
    rw [k.keeps i (Nat.lt_of_lt_of_le hi h.size), h.keeps i hi hn]
    intro b x L h1 h2 h3
    rcases h.img b x L h1 h2 h3 with a | ⟨b0, x0, L0, e1, e2, e3, e4⟩
    · omega
    · exact e4 ▸ hn b0 x0 L0 e1 e2 e3
  size := Nat.le_trans h.size k.size
  os := k.os.trans h.os
  tape := k.tape.trans h.tape
  output := k.output.trans h.output

theorem GStep.refl (hs : Sim ρ g w) (hwf : ∀ b x, g b = some x → b < lo) : GStep ρ g lo w ρ g lo w where
  ren _ _ := rfl
  le := Nat.le_refl _
  sim := hs
  wf := hwf
  img b x L h1 h2 h3 := .inr ⟨b, x, L, h1, h2, h3, rfl⟩
  imgR b x L h1 h3 := .inr ⟨b, x, L, h1, h3, rfl⟩
  keeps _ _ _ := rfl
  size := Nat.le_refl _
  os := rfl
  tape := rfl
  output := rfl

theorem Sim.world (h : Sim ρ g w) (hw : w'.heap = w.heap) : Sim ρ g w' :=
  ⟨fun b x hb => (h.blk b x hb).mono (fun _ _ e => e) (fun _ _ => by rw [hw]), h.sep⟩

/-- A view of less. -/
theorem Sim.less (h : Sim ρ g w) (hg : ∀ b x, g' b = some x → g b = some x) : Sim ρ g' w :=
  ⟨fun b x hb => h.blk b x (hg b x hb), fun b b' x x' L L' h1 h2 => h.sep b b' x x' L L' (hg _ _ h1) (hg _ _ h2)⟩

/-- The tape has moved on. -/
theorem GStep.drew (hs : Sim ρ g w) (hwf : ∀ b x, g b = some x → b < lo) (n : Nat) : GStep ρ g lo w ρ g lo { w with drawn := n } where
  ren _ _ := rfl
  le := Nat.le_refl _
  sim := hs.world rfl
  wf := hwf
  img b x L h1 h2 h3 := .inr ⟨b, x, L, h1, h2, h3, rfl⟩
  imgR b x L h1 h3 := .inr ⟨b, x, L, h1, h3, rfl⟩
  keeps _ _ _ := rfl
  size := Nat.le_refl _
  os := rfl
  tape := rfl
  output := rfl

/-- A name is given up. -/
theorem GStep.drop (hs : Sim ρ g w) (hwf : ∀ b x, g b = some x → b < lo) (hg : ∀ b x, g' b = some x → g b = some x) : GStep ρ g lo w ρ g' lo w where
  ren _ _ := rfl
  le := Nat.le_refl _
  sim := hs.less hg
  wf b x h := hwf b x (hg b x h)
  img b x L h1 h2 h3 := .inr ⟨b, x, L, hg b x h1, h2, h3, rfl⟩
  imgR b x L h1 h3 := .inr ⟨b, x, L, hg b x h1, h3, rfl⟩
  keeps _ _ _ := rfl
  size := Nat.le_refl _
  os := rfl
  tape := rfl
  output := rfl
end

/-- A small step beside what else is known. -/
noncomputable def over (G g g' : Nat → Option Blk) : Nat → Option Blk := fun b => match g' b with
  | some x => some x
  | none => match g b with
    | some _ => none
    | none => G b

theorem over_cases {G g g' : Nat → Option Blk} {b : Nat} {x : Blk} (h : over G g g' b = some x) : g' b = some x ∨ (G b = some x ∧ g b = none) := by
  unfold over at h
  cases h1 : g' b with
  | some y => rw [h1] at h; exact .inl h
  | none =>
    rw [h1] at h
    cases h2 : g b with
    | some y => rw [h2] at h; cases h
    | none => rw [h2] at h; exact .inr ⟨h, rfl⟩

theorem over_new {G g g' : Nat → Option Blk} {b : Nat} {x : Blk} (h : g' b = some x) : over G g g' b = some x := by
  unfold over; rw [h]

theorem over_old {G g g' : Nat → Option Blk} {b : Nat} (h : g' b = none) (h' : g b = none) : over G g g' b = G b := by
  unfold over; rw [h, h']

theorem GStep.extend {ρ0 ρ ρ' : Ren} {g0 G g g' : Nat → Option Blk} {lo0 hiN lo hi : Nat} {w0 w w' : World} (B : GStep ρ0 g0 lo0 w0 ρ G hiN w) (S : GStep ρ g lo w ρ' g' hi w')
    (hsub : ∀ b x, g b = some x → G b = some x) (hlo : lo0 ≤ lo) (hhi : hi ≤ hiN) (hfr : Fresh ρ lo hi) : GStep ρ0 g0 lo0 w0 ρ' (over G g g') hiN w' := by
  have hs := S.sub hfr
  have old : ∀ {b x L}, G b = some x → ρ' b = some L → ρ b = some L ∧ L.blk < w.heap.size := fun {b x L} h1 h2 => by
    obtain ⟨L0, e1, e2⟩ := (B.sim.blk b x h1).loc
    have := hs _ _ e1
    rw [h2] at this; cases this
    exact ⟨e1, e2⟩
  refine ⟨fun b hb => ?_, B.le, ⟨fun b x h => ?_, fun b b' x x' L L' h h' hne hw e e' => ?_⟩, fun b x h => ?_, fun b x L h1 h2 h3 => ?_, fun b x L h1 h3 => ?_, fun k hk hn => ?_, Nat.le_trans B.size S.size, S.os.trans B.os, S.tape.trans B.tape, S.output.trans B.output⟩
  · rw [S.ren b (by omega), B.ren b hb]
  · rcases over_cases h with h | ⟨h, hg⟩
    · exact S.sim.blk b x h
    · refine (B.sim.blk b x h).mono hs fun L e => S.keeps _ ?_ fun b2 x2 L2 h2 hw2 e2 => ?_
      · obtain ⟨L0, e1, e3⟩ := (B.sim.blk b x h).loc
        rw [e] at e1; cases e1; exact e3
      · exact B.sim.sep b2 b x2 x L2 L (hsub _ _ h2) h (fun q => by rw [q, hg] at h2; cases h2) hw2 e2 e
  · rcases over_cases h with h | ⟨h, hg⟩ <;> rcases over_cases h' with h' | ⟨h', hg'⟩
    · exact S.sim.sep b b' x x' L L' h h' hne hw e e'
    · obtain ⟨o1, o2⟩ := old h' e'
      rcases S.img b x L h hw e with a | ⟨b0, x0, L0, i1, i2, i3, i4⟩
      · omega
      · rw [← i4]
        exact B.sim.sep b0 b' x0 x' L0 L' (hsub _ _ i1) h' (fun q => by rw [q, hg'] at i1; cases i1) i2 i3 o1
    · obtain ⟨o1, o2⟩ := old h e
      rcases S.imgR b' x' L' h' e' with a | ⟨b0, x0, L0, i1, i3, i4⟩
      · omega
      · rw [← i4]
        exact B.sim.sep b b0 x x0 L L0 h (hsub _ _ i1) (fun q => by rw [← q, hg] at i1; cases i1) hw o1 i3
    · exact B.sim.sep b b' x x' L L' h h' hne hw (old h e).1 (old h' e').1
  · rcases over_cases h with h | ⟨h, hg⟩
    · have := S.wf b x h; omega
    · exact B.wf b x h
  · rcases over_cases h1 with h1 | ⟨h1, hg⟩
    · rcases S.img b x L h1 h2 h3 with a | ⟨b0, x0, L0, i1, i2, i3, i4⟩
      · exact .inl (Nat.le_trans B.size a)
      · rw [← i4]; exact B.img b0 x0 L0 (hsub _ _ i1) i2 i3
    · exact B.img b x L h1 h2 (old h1 h3).1
  · rcases over_cases h1 with h1 | ⟨h1, hg⟩
    · rcases S.imgR b x L h1 h3 with a | ⟨b0, x0, L0, i1, i3, i4⟩
      · exact .inl (Nat.le_trans B.size a)
      · rw [← i4]; exact B.imgR b0 x0 L0 (hsub _ _ i1) i3
    · exact B.imgR b x L h1 (old h1 h3).1
  · rw [S.keeps k (Nat.lt_of_lt_of_le hk B.size), B.keeps k hk hn]
    intro b x L i1 i2 i3
    rcases B.img b x L (hsub _ _ i1) i2 i3 with a | ⟨b0, x0, L0, e1, e2, e3, e4⟩
    · omega
    · exact e4 ▸ hn b0 x0 L0 e1 e2 e3

/-- Less is known. -/
theorem GStep.less {ρ0 ρ : Ren} {g0 G g : Nat → Option Blk} {lo hi hi' : Nat} {w0 w : World} (B : GStep ρ0 g0 lo w0 ρ G hi w) (h : ∀ b x, g b = some x → G b = some x) (hwf : ∀ b x, g b = some x → b < hi') (hle : hi = hi') : GStep ρ0 g0 lo w0 ρ g hi' w := by
  subst hle
  exact ⟨B.ren, B.le, B.sim.less h, hwf, fun b x L h1 => B.img b x L (h _ _ h1), fun b x L h1 => B.imgR b x L (h _ _ h1), B.keeps, B.size, B.os, B.tape, B.output⟩

noncomputable def Ren.set (ρ : Ren) (b : Nat) (L : Loc) : Ren := fun x => if x = b then some L else ρ x
theorem Ren.set_same (ρ : Ren) (b : Nat) (L : Loc) : ρ.set b L b = some L := by simp [Ren.set]
theorem Ren.set_other (ρ : Ren) (b : Nat) (L : Loc) {x : Nat} (h : x ≠ b) : ρ.set b L x = ρ x := by simp [Ren.set, h]
theorem Ren.sub_set {ρ : Ren} {b : Nat} (L : Loc) (h : ρ b = none) : Sub ρ (ρ.set b L) := fun x l e => by
  by_cases hx : x = b
  · subst hx; rw [h] at e; cases e
  · rw [Ren.set_other _ _ _ hx]; exact e

/-- A new name for cells of a new block. -/
theorem GStep.alloc {ρ : Ren} {g g' : Nat → Option Blk} {lo : Nat} {w : World} (hs : Sim ρ g w) (hwf : ∀ b x, g b = some x → b < lo) (hfr : ρ lo = none)
    {E n : Nat} {c : T AV} {cs : Array Value} {elem : TypeId} {fz : Nat × Nat}
    (hle : n ≤ cs.size) (hc : ∀ i, i < n → ∃ v, cs[i]? = some v ∧ VR ρ ((c.get i).getD .any) v) (hfz : ∀ i, i < cs.size → ¬ (fz.1 ≤ i ∧ i < fz.2)) {sg : Bool} (hsg : sg = false → ∀ i, ¬ (fz.1 ≤ i ∧ i < fz.2))
    (hg : ∀ j, g' j = if j = lo then some (.cells false sg E n c) else g j) :
    GStep ρ g lo w (ρ.set lo ⟨w.heap.size, 0, cs.size, E⟩) g' (lo + 1) (w.alloc (.cells cs elem fz)) where
  ren b hb := by rw [Ren.set_other]; omega
  le := by omega
  sim := by
    have hsub := Ren.sub_set (b := lo) ⟨w.heap.size, 0, cs.size, E⟩ hfr
    refine ⟨fun b x h => ?_, fun b b' x x' L L' h h' hne hw e e' => ?_⟩
    · rw [hg] at h
      by_cases hb : b = lo
      · subst hb; rw [if_pos rfl] at h; cases h
        exact ⟨_, cs, elem, fz, Ren.set_same _ _ _, heap_alloc_new _ _, rfl, rfl, by simpa using hle, fun i hi => let ⟨v, a, b⟩ := hc i hi; ⟨v, by simpa using a, b.mono hsub⟩, fun _ => hfz, hsg⟩
      · rw [if_neg hb] at h
        obtain ⟨L, h1, h2⟩ := (hs.blk b x h).loc
        exact (hs.blk b x h).mono hsub fun L' e => by rw [h1] at e; cases e; exact heap_alloc_old _ _ _ h2
    · rw [hg] at h h'
      by_cases hb : b = lo
      · have hb' : b' ≠ lo := fun e => hne (hb.trans e.symm)
        rw [if_neg hb'] at h'
        rw [hb, Ren.set_same] at e; cases e
        obtain ⟨L1, h1, h2⟩ := (hs.blk b' x' h').loc
        rw [Ren.set_other _ _ _ hb', h1] at e'; cases e'
        simp; omega
      · rw [if_neg hb] at h
        rw [Ren.set_other _ _ _ hb] at e
        by_cases hb' : b' = lo
        · rw [hb', Ren.set_same] at e'; cases e'
          obtain ⟨L1, h1, h2⟩ := (hs.blk b x h).loc
          rw [h1] at e; cases e
          simp; omega
        · rw [if_neg hb'] at h'
          rw [Ren.set_other _ _ _ hb'] at e'
          exact hs.sep b b' x x' L L' h h' hne hw e e'
  wf b x h := by
    rw [hg] at h
    by_cases hb : b = lo
    · omega
    · rw [if_neg hb] at h; have := hwf b x h; omega
  img b x L h1 h2 h3 := by
    rw [hg] at h1
    by_cases hb : b = lo
    · rw [hb, Ren.set_same] at h3; cases h3; exact .inl (Nat.le_refl _)
    · rw [if_neg hb] at h1; rw [Ren.set_other _ _ _ hb] at h3; exact .inr ⟨b, x, L, h1, h2, h3, rfl⟩
  imgR b x L h1 h3 := by
    rw [hg] at h1
    by_cases hb : b = lo
    · rw [hb, Ren.set_same] at h3; cases h3; exact .inl (Nat.le_refl _)
    · rw [if_neg hb] at h1; rw [Ren.set_other _ _ _ hb] at h3; exact .inr ⟨b, x, L, h1, h3, rfl⟩
  keeps k hk _ := heap_alloc_old _ _ _ hk
  size := by simp
  os := rfl
  tape := rfl
  output := rfl

/-- A new name for a new block, whatever it is. -/
theorem GStep.allocB {ρ : Ren} {g g' : Nat → Option Blk} {lo : Nat} {w w' : World} {x : Blk} {L : Loc} (hs : Sim ρ g w) (hwf : ∀ b x, g b = some x → b < lo) (hfr : ρ lo = none)
    (hL : L.blk = w.heap.size) (hx : BR (ρ.set lo L) w' lo x) (hold : ∀ k, k < w.heap.size → w'.heap[k]? = w.heap[k]?) (hsz : w.heap.size ≤ w'.heap.size) (hos : w'.os = w.os) (ht : w'.tape = w.tape) (ho : w'.output = w.output)
    (hg : ∀ j, g' j = if j = lo then some x else g j) : GStep ρ g lo w (ρ.set lo L) g' (lo + 1) w' where
  ren b hb := by rw [Ren.set_other]; omega
  le := by omega
  sim := by
    have hsub := Ren.sub_set (b := lo) L hfr
    refine ⟨fun b y h => ?_, fun b b' y y' L1 L2 h h' hne hw e e' => ?_⟩
    · rw [hg] at h
      by_cases hb : b = lo
      · subst hb; rw [if_pos rfl] at h; cases h; exact hx
      · rw [if_neg hb] at h
        obtain ⟨L0, h1, h2⟩ := (hs.blk b y h).loc
        exact (hs.blk b y h).mono hsub fun L' e => by rw [h1] at e; cases e; exact hold _ h2
    · rw [hg] at h h'
      by_cases hb : b = lo
      · have hb' : b' ≠ lo := fun e => hne (hb.trans e.symm)
        rw [if_neg hb'] at h'
        rw [hb, Ren.set_same] at e; cases e
        obtain ⟨L0, h1, h2⟩ := (hs.blk b' y' h').loc
        rw [Ren.set_other _ _ _ hb', h1] at e'; cases e'
        rw [hL]; omega
      · rw [if_neg hb] at h
        rw [Ren.set_other _ _ _ hb] at e
        by_cases hb' : b' = lo
        · rw [hb', Ren.set_same] at e'; cases e'
          obtain ⟨L0, h1, h2⟩ := (hs.blk b y h).loc
          rw [h1] at e; cases e
          rw [hL]; omega
        · rw [if_neg hb'] at h'
          rw [Ren.set_other _ _ _ hb'] at e'
          exact hs.sep b b' y y' L1 L2 h h' hne hw e e'
  wf b y h := by
    rw [hg] at h
    by_cases hb : b = lo
    · omega
    · rw [if_neg hb] at h; have := hwf b y h; omega
  img b y L1 h1 h2 h3 := by
    rw [hg] at h1
    by_cases hb : b = lo
    · rw [hb, Ren.set_same] at h3; cases h3; exact .inl (by rw [hL]; exact Nat.le_refl _)
    · rw [if_neg hb] at h1; rw [Ren.set_other _ _ _ hb] at h3; exact .inr ⟨b, y, L1, h1, h2, h3, rfl⟩
  imgR b y L1 h1 h3 := by
    rw [hg] at h1
    by_cases hb : b = lo
    · rw [hb, Ren.set_same] at h3; cases h3; exact .inl (by rw [hL]; exact Nat.le_refl _)
    · rw [if_neg hb] at h1; rw [Ren.set_other _ _ _ hb] at h3; exact .inr ⟨b, y, L1, h1, h3, rfl⟩
  keeps k hk _ := hold k hk
  size := hsz
  os := hos
  tape := ht
  output := ho

/-- A block that may be written is turned, its name stays. -/
theorem GStep.writeB {ρ : Ren} {g g' : Nat → Option Blk} {lo : Nat} {w w' : World} {x y : Blk} {b : Nat} {L : Loc} (hs : Sim ρ g w) (hwf : ∀ b x, g b = some x → b < lo)
    (hb : g b = some x) (hx : x.wr = true) (hL : ρ b = some L) (hy : BR ρ w' b y)
    (hrest : ∀ k, k ≠ L.blk → w'.heap[k]? = w.heap[k]?) (hsize : w'.heap.size = w.heap.size) (hos : w'.os = w.os) (ht : w'.tape = w.tape) (ho : w'.output = w.output)
    (hg : ∀ j, g' j = if j = b then some y else g j) : GStep ρ g lo w ρ g' lo w' := by
  have hother : ∀ {j z}, g' j = some z → j ≠ b → g j = some z := fun {j z} h hj => by rwa [hg, if_neg hj] at h
  refine ⟨fun _ _ => rfl, Nat.le_refl _, ⟨fun j z h => ?_, fun j j' z z' l l' h h' hne hw e e' => ?_⟩, fun j z h => ?_, fun j z l h1 h2 h3 => ?_, fun j z l h1 h3 => ?_, fun k hk hnk => ?_, by omega, hos, ht, ho⟩
  · by_cases hj : j = b
    · subst hj; rw [hg, if_pos rfl] at h; cases h; exact hy
    · have h := hother h hj
      refine (hs.blk j z h).mono (fun _ _ e => e) fun l e => hrest _ ?_
      exact (hs.sep b j x z L l hb h (Ne.symm hj) hx hL e).symm
  · by_cases hj : j = b
    · subst hj
      rw [hL] at e; cases e
      exact hs.sep j j' x z' _ l' hb (hother h' (Ne.symm hne)) hne hx hL e'
    · by_cases hj' : j' = b
      · subst hj'
        rw [hL] at e'; cases e'
        exact (hs.sep j' j x z _ l hb (hother h hj) (Ne.symm hj) hx hL e).symm
      · exact hs.sep j j' z z' l l' (hother h hj) (hother h' hj') hne hw e e'
  · by_cases hj : j = b
    · subst hj; exact hwf _ _ hb
    · exact hwf j z (hother h hj)
  · refine .inr ?_
    by_cases hj : j = b
    · subst hj; rw [hL] at h3; cases h3; exact ⟨j, x, L, hb, hx, hL, rfl⟩
    · exact ⟨j, z, l, hother h1 hj, h2, h3, rfl⟩
  · refine .inr ?_
    by_cases hj : j = b
    · subst hj; rw [hL] at h3; cases h3; exact ⟨j, x, L, hb, hL, rfl⟩
    · exact ⟨j, z, l, hother h1 hj, h3, rfl⟩
  · exact hrest k fun q => hnk b x L hb hx hL q.symm

/-- The cells of a block are written, under a name that may be a new one for a part of it; the elder name is given up. -/
theorem GStep.write {ρ : Ren} {g g' : Nat → Option Blk} {lo hi : Nat} {w w' : World} (hs : Sim ρ g w) (hwf : ∀ b x, g b = some x → b < lo)
    {sg : Bool} {b b1 E n n' d : Nat} {c c' : T AV} {cs cs' : Array Value} {elem : TypeId} {fz : Nat × Nat} {L : Loc} (hb : g b = some (.cells false sg E n c)) (hL : ρ b = some L)
    (hheap : w.heap[L.blk]? = some (.cells cs elem fz)) (hsz : cs'.size = cs.size) (hw' : w'.heap[L.blk]? = some (.cells cs' elem fz))
    (hrest : ∀ k, k ≠ L.blk → w'.heap[k]? = w.heap[k]?) (hsize : w'.heap.size = w.heap.size) (hos : w'.os = w.os) (ht : w'.tape = w.tape) (ho : w'.output = w.output)
    (hn : (b1 = b ∧ d = 0 ∧ hi = lo) ∨ (b1 = lo ∧ hi = lo + 1 ∧ ρ lo = none))
    (hg : ∀ j, g' j = if j = b1 then some (.cells false true E n' c') else if j = b then none else g j)
    (hle : L.base + d + n' ≤ cs.size) (hc : ∀ i, i < n' → ∃ v, cs'[L.base + d + i]? = some v ∧ VR ρ ((c'.get i).getD .any) v) :
    GStep ρ g lo w (ρ.set b1 ⟨L.blk, L.base + d, L.csize, E⟩) g' hi w' := by
  obtain ⟨L0, cs0, el0, fz0, e1, e2, e3, e4, en, e5, e6⟩ := hs.blk b _ hb
  rw [hL] at e1; cases e1
  rw [hheap] at e2; cases e2
  have hold : b1 = b → ρ.set b1 ⟨L.blk, L.base + d, L.csize, E⟩ = ρ := by
    intro e
    have hd : d = 0 := by rcases hn with h | h; exact h.2.1; have := hwf b _ hb; omega
    funext x
    by_cases hx : x = b1
    · rw [hx, Ren.set_same, e, hL, hd, ← e4]; rfl
    · rw [Ren.set_other _ _ _ hx]
  have hsub : Sub ρ (ρ.set b1 ⟨L.blk, L.base + d, L.csize, E⟩) := by
    rcases hn with h | h
    · rw [hold h.1]; exact fun _ _ e => e
    · rw [h.1]; exact Ren.sub_set _ h.2.2
  have hother : ∀ {j x}, g' j = some x → j ≠ b1 → g j = some x ∧ j ≠ b := by
    intro j x h hj
    rw [hg, if_neg hj] at h
    by_cases hjb : j = b
    · rw [if_pos hjb] at h; cases h
    · rw [if_neg hjb] at h; exact ⟨h, hjb⟩
  refine ⟨fun j hj => ?_, by rcases hn with h | h <;> omega, ⟨fun j x h => ?_, fun j j' x x' l l' h h' hne hw e e' => ?_⟩, fun j x h => ?_, fun j x l h1 h2 h3 => ?_, fun j x l h1 h3 => ?_, fun k hk hnk => ?_, by omega, hos, ht, ho⟩
  · rcases hn with h | h
    · rw [hold h.1]
    · rw [Ren.set_other]; omega
  · by_cases hj : j = b1
    · rw [hg, if_pos hj] at h; cases h
      refine ⟨⟨L.blk, L.base + d, L.csize, E⟩, cs', elem, fz, by rw [hj]; exact Ren.set_same _ _ _, hw', by rw [hsz, e3], rfl, by rw [hsz]; exact hle, fun i hi => ?_, fun _ i hi => e6.1 rfl i (by omega), fun q => by cases q⟩
      obtain ⟨v, a, q⟩ := hc i hi
      exact ⟨v, a, q.mono hsub⟩
    · obtain ⟨h, hjb⟩ := hother h hj
      refine (hs.blk j x h).mono hsub fun l e => hrest _ ?_
      exact (hs.sep b j _ x L l hb h (Ne.symm hjb) rfl hL e).symm
  · by_cases hj : j = b1
    · have hj' : j' ≠ b1 := fun q => hne (hj.trans q.symm)
      obtain ⟨h', hjb⟩ := hother h' hj'
      rw [hj, Ren.set_same] at e; cases e
      rw [Ren.set_other _ _ _ hj'] at e'
      exact hs.sep b j' _ x' L l' hb h' (Ne.symm hjb) rfl hL e'
    · obtain ⟨h, hjb⟩ := hother h hj
      rw [Ren.set_other _ _ _ hj] at e
      by_cases hj' : j' = b1
      · rw [hj', Ren.set_same] at e'; cases e'
        exact (hs.sep b j _ x L l hb h (Ne.symm hjb) rfl hL e).symm
      · obtain ⟨h', _⟩ := hother h' hj'
        rw [Ren.set_other _ _ _ hj'] at e'
        exact hs.sep j j' x x' l l' h h' hne hw e e'
  · by_cases hj : j = b1
    · have := hwf b _ hb; rcases hn with h | h <;> omega
    · have := hwf j x (hother h hj).1; rcases hn with h | h <;> omega
  · refine .inr ?_
    by_cases hj : j = b1
    · rw [hj, Ren.set_same] at h3; cases h3
      exact ⟨b, _, L, hb, rfl, hL, rfl⟩
    · rw [Ren.set_other _ _ _ hj] at h3
      exact ⟨j, x, l, (hother h1 hj).1, h2, h3, rfl⟩
  · refine .inr ?_
    by_cases hj : j = b1
    · rw [hj, Ren.set_same] at h3; cases h3
      exact ⟨b, _, L, hb, hL, rfl⟩
    · rw [Ren.set_other _ _ _ hj] at h3
      exact ⟨j, x, l, (hother h1 hj).1, h3, rfl⟩
  · exact hrest k fun q => hnk b _ L hb rfl hL q.symm

end Go.Ev
end
section
namespace Go.Ev

structure View (ρ : Ren) (m : AMem) (w : World) : Prop where
  sim : Sim ρ m.t.get w
  wf : ∀ b x, m.t.get b = some x → b < m.next

theorem GStep.view {ρ ρ' : Ren} {m m' : AMem} {w w' : World} (h : Step ρ m w ρ' m' w') : View ρ' m' w' := ⟨h.sim, h.wf⟩
theorem View.refl {ρ : Ren} {m : AMem} {w : World} (h : View ρ m w) : Step ρ m w ρ m w := GStep.refl h.sim h.wf

theorem addr_add (B o i : Nat) : (⟨B, o, none⟩ : Addr).add i = ⟨B, o + i, none⟩ := by
  unfold Addr.add; split
  · rename_i h; subst h; rfl
  · rfl

/-! ### Kinds of values -/

section
variable {γ : Type} (d : γ)
theorem onPtr_inv {a : AV} {h : Nat → Nat → γ} {r : γ} (e : a.onPtr h d = r) (hd : d ≠ r) : ∃ b o, a = .ptr b o ∧ h b o = r := by
  cases a <;> first | exact absurd e hd | exact ⟨_, _, rfl, e⟩
theorem onInt_inv {a : AV} {h : IntKind → Int → γ} {r : γ} (e : a.onInt h d = r) (hd : d ≠ r) : ∃ b o, a = .int b o ∧ h b o = r := by
  cases a <;> first | exact absurd e hd | exact ⟨_, _, rfl, e⟩
theorem onBool_inv {a : AV} {h : Bool → γ} {r : γ} (e : a.onBool h d = r) (hd : d ≠ r) : ∃ b, a = .bool b ∧ h b = r := by
  cases a <;> first | exact absurd e hd | exact ⟨_, rfl, e⟩
theorem onStr_inv {a : AV} {h : List Nat → γ} {r : γ} (e : a.onStr h d = r) (hd : d ≠ r) : ∃ b, a = .str b ∧ h b = r := by
  cases a <;> first | exact absurd e hd | exact ⟨_, rfl, e⟩
theorem onSlice_inv {a : AV} {h : Nat → Nat → Nat → Option Nat → γ} {r : γ} (e : a.onSlice h d = r) (hd : d ≠ r) : ∃ b o l c, a = .slice b o l c ∧ h b o l c = r := by
  cases a <;> first | exact absurd e hd | exact ⟨_, _, _, _, rfl, e⟩
theorem onFn_inv {a : AV} {h : FuncId → List AV → γ} {r : γ} (e : a.onFn h d = r) (hd : d ≠ r) : ∃ f l, a = .fn f l ∧ h f l = r := by
  cases a <;> first | exact absurd e hd | exact ⟨_, _, rfl, e⟩
theorem onAgg_inv {a : AV} {h : List AV → γ} {r : γ} (e : a.onAgg h d = r) (hd : d ≠ r) : ∃ l, a = .agg l ∧ h l = r := by
  cases a <;> first | exact absurd e hd | exact ⟨_, rfl, e⟩
theorem onTup_inv {a : AV} {h : List AV → γ} {r : γ} (e : a.onTup h d = r) (hd : d ≠ r) : ∃ l, a = .tup l ∧ h l = r := by
  cases a <;> first | exact absurd e hd | exact ⟨_, rfl, e⟩
end
theorem fail_ne {c : Nat} {v : AV} {m : AMem} : OR.fail c ≠ .mk v m := fun h => by cases h

/-! ### Reading -/

theorem blkK_inv {m m' : AMem} {b : Nat} {k : Bool → Nat → Nat → T AV → OR} {v : AV} (h : blkK m b k = .mk v m') : ∃ ro sg E N c, m.t.get b = some (.cells ro sg E N c) ∧ k ro E N c = .mk v m' := by
  unfold blkK at h
  cases hg : m.t.get b with
  | none => rw [hg] at h; cases h
  | some x => cases x with
    | cells ro sg E N c => rw [hg] at h; exact ⟨ro, sg, E, N, c, rfl, h⟩
    | map ro ck es => rw [hg] at h; cases h

theorem loadK_inv {m m' : AMem} {b off n : Nat} {k : List AV → OR} {v : AV} (h : loadK m b off n k = .mk v m') :
    ∃ ro sg E N c, m.t.get b = some (.cells ro sg E N c) ∧ off + n ≤ N ∧ k (cellsFrom c off n) = .mk v m' := by
  obtain ⟨ro, sg, E, N, c, h1, h2⟩ := blkK_inv h
  rw [bif2_eq] at h2
  split at h2
  · rename_i hle; rw [takeK_eq] at h2; exact ⟨ro, sg, E, N, c, h1, by simpa [Nat.ble_eq] using hle, h2⟩
  · cases h2

section
variable {P : Program} {ρ : Ren} {m : AMem} {w : World}

/-- A cell that the view knows. -/
theorem View.cell (V : View ρ m w) {b : Nat} {ro sg : Bool} {E N : Nat} {c : T AV} (hb : m.t.get b = some (.cells ro sg E N c)) {L : Loc} (hL : ρ b = some L) {i : Nat} (hi : i < N) :
    ∃ v, w.cell? ⟨L.blk, L.base + i, none⟩ = some v ∧ VR ρ ((c.get i).getD .any) v := by
  obtain ⟨L0, cs, elem, fz, h1, h2, h3, h4, hN, h5, h6⟩ := V.sim.blk b _ hb
  rw [hL] at h1; cases h1
  obtain ⟨v, hv, hr⟩ := h5 i hi
  exact ⟨v, by rw [cell_of_row w _ _ _ _ _ h2]; exact hv, hr⟩

theorem exists_list {Q : Nat → Value → Prop} : ∀ n, (∀ i, i < n → ∃ v, Q i v) → ∃ l : List Value, l.length = n ∧ ∀ i v, l[i]? = some v → Q i v
  | 0, _ => ⟨[], rfl, fun i v h => by simp at h⟩
  | n + 1, h => by
    obtain ⟨l, hl, hq⟩ := exists_list n fun i hi => h i (by omega)
    obtain ⟨v, hv⟩ := h n (by omega)
    refine ⟨l ++ [v], by simp [hl], fun i u hu => ?_⟩
    rcases Nat.lt_or_ge i n with hi | hi
    · rw [List.getElem?_append_left (by omega)] at hu; exact hq i u hu
    · rw [List.getElem?_append_right (by omega)] at hu
      by_cases e : i = n
      · subst e; simp [hl] at hu; subst hu; exact hv
      · rw [List.getElem?_eq_none (by simp; omega)] at hu; cases hu

/-- Cells that the view knows are loaded. -/
theorem View.load (V : View ρ m w) {b : Nat} {ro sg : Bool} {E N : Nat} {c : T AV} (hb : m.t.get b = some (.cells ro sg E N c)) {L : Loc} (hL : ρ b = some L) {off n : Nat} (hn : off + n ≤ N) :
    ∃ vs : List Value, vs.length = n ∧ (∀ w1 : World, w1.heap = w.heap → (loadCells ⟨L.blk, L.base + off, none⟩ n).run P w1 = .ok vs.toArray w1) ∧ VRs ρ (cellsFrom c off n) vs := by
  obtain ⟨vs, hl, hq⟩ := exists_list (Q := fun i v => w.cell? ⟨L.blk, L.base + (off + i), none⟩ = some v ∧ VR ρ ((c.get (off + i)).getD .any) v) n fun i hi => V.cell hb hL (by omega)
  refine ⟨vs, hl, fun w1 hw1 => ?_, VRs.of_get (by rw [cellsFrom_length, hl]) fun i v hv => ?_⟩
  · have := run_loadCells_list (P := P) w1 ⟨L.blk, L.base + off, none⟩ vs fun j v hj => by
      rw [addr_add, Nat.add_assoc, show w1.cell? = w.cell? from by funext a; simp [World.cell?, hw1]]; exact (hq j v hj).1
    rw [hl] at this; exact this
  · have hi : i < n := by
      rcases Nat.lt_or_ge i n with h | h
      · exact h
      · rw [List.getElem?_eq_none (by rw [cellsFrom_length]; exact h)] at hv; cases hv
    rw [cellsFrom_get _ _ _ _ hi] at hv; cases hv
    have : vs[i]? = some vs[i] := List.getElem?_eq_getElem (by omega)
    exact ⟨vs[i], this, (hq i _ this).2⟩

theorem layout_inv {t : TypeId} {g : Bool} {n : Nat} (h : layout P t = some (g, n)) : ∃ d i, P.underlying t = some d ∧ P.info? t = some i ∧ n = i.size ∧ (isAgg t).run P w = .ok g w := by
  unfold layout at h
  cases hu : P.underlying t with
  | none => simp [hu] at h
  | some d =>
    cases hi : P.info? t with
    | none => simp [hu, hi] at h
    | some i =>
      simp [hu, hi] at h
      refine ⟨d, i, rfl, rfl, h.2.symm, ?_⟩
      unfold isAgg
      rw [← h.1]
      simp only [Sem.run_bind, run_underlying hu, Result.andThen_ok, isAggA, hu]
      cases d <;> rfl

theorem run_sizeOf {t : TypeId} {i : TypeInfo} (h : P.info? t = some i) (w : World) : (sizeOf t).run P w = .ok i.size w := by
  simp [sizeOf, typeInfo, h]

theorem aLoad_run (V : View ρ m w) {t : TypeId} {a : AV} {va : Value} (ha : VR ρ a va) {v : AV} {m' : AMem} (h : aLoad P t a m = .mk v m') :
    m' = m ∧ ∃ vc, VR ρ v vc ∧ (Instr.loadAt t va).run P w = .ok vc w := by
  obtain ⟨b, off, rfl, h0⟩ := onPtr_inv _ h fail_ne
  clear h
  cases ha with
  | ptr _ _ L hL =>
    cases hlay : layout P t with
    | none => rw [hlay] at h0; cases h0
    | some lay =>
      rw [hlay] at h0
      obtain ⟨g, n⟩ := lay
      obtain ⟨d, i, hu, hi, rfl, hagg⟩ := layout_inv (w := w) hlay
      have h : loadL m b off (g, i.size) = .mk v m' := h0
      unfold loadL at h
      rw [bif2_eq] at h
      split at h
      · rename_i hg
        obtain ⟨ro, sg, E, N, c, h1, h2, h3⟩ := loadK_inv h
        cases h3
        obtain ⟨vs, hl, hrun, hr⟩ := V.load (P := P) h1 hL h2
        refine ⟨rfl, .agg vs.toArray, .agg _ _ (by simpa using hr), ?_⟩
        have hg : g = true := hg
        subst hg
        simp only [Instr.loadAt, Instr.sureAddr, loadVar, Sem.run_bind, Sem.run_pure, Result.andThen_ok, hagg, if_true, run_sizeOf hi, hrun w rfl]
      · rename_i hg
        obtain ⟨ro, sg, E, N, c, h1, h2⟩ := blkK_inv h
        rw [bif2_eq] at h2
        split at h2
        · rename_i hlt
          obtain ⟨u, hc, hr⟩ := V.cell h1 hL (i := off) (by simpa [Nat.blt_eq] using hlt)
          have hg : g = false := by simpa using hg
          subst hg
          have hv : m' = m ∧ v = (c.get off).getD .any := by
            cases hcg : c.get off with
            | none => rw [hcg] at h2; cases h2; exact ⟨rfl, rfl⟩
            | some z => rw [hcg] at h2; cases h2; exact ⟨rfl, rfl⟩
          obtain ⟨rfl, rfl⟩ := hv
          refine ⟨rfl, u, hr, ?_⟩
          simp only [Instr.loadAt, Instr.sureAddr, loadVar, Sem.run_bind, Sem.run_pure, Result.andThen_ok, hagg, Bool.false_eq_true, if_false, run_load, hc]
        · cases h2

/-! ### Writing -/

theorem run_storeCells (P : Program) (B o : Nat) (t : TypeId) (fz : Nat × Nat) : ∀ (vs : List Value) (i : Nat) (w : World) (cs : Array Value), w.heap[B]? = some (.cells cs t fz) → o + i + vs.length ≤ cs.size →
    (∀ j, j < cs.size → ¬ (fz.1 ≤ j ∧ j < fz.2)) → (∀ v ∈ vs, v.oneCell' = true) →
    ∃ w' cs', (storeCells ⟨B, o, none⟩ vs i).run P w = .ok () w' ∧ w'.heap[B]? = some (.cells cs' t fz) ∧ cs'.size = cs.size ∧
      (∀ j, cs'[j]? = if o + i ≤ j ∧ j < o + i + vs.length then vs[j - (o + i)]? else cs[j]?) ∧ (∀ k, k ≠ B → w'.heap[k]? = w.heap[k]?) ∧ w'.heap.size = w.heap.size ∧
      w'.os = w.os ∧ w'.tape = w.tape ∧ w'.output = w.output
  | [], i, w, cs, h, _, _, _ => ⟨w, cs, rfl, h, rfl, fun j => by rw [if_neg (by simp only [List.length_nil]; omega)], fun _ _ => rfl, rfl, rfl, rfl, rfl⟩
  | v :: vs, i, w, cs, h, hl, hf, hv => by
    have hl' : o + i + vs.length + 1 ≤ cs.size := by simp at hl; omega
    have hcell : w.cell? ⟨B, o + i, none⟩ = some (cs[o + i]'(by omega)) := by rw [cell_of_row w _ _ _ _ _ h]; exact Array.getElem?_eq_getElem _
    have hfr : w.frozen? ⟨B, o + i, none⟩ = false := by
      have := hf (o + i) (by omega)
      obtain ⟨lo, hi⟩ := fz
      simp only [World.frozen?, h]
      simpa using this
    have hB : (w.setCell ⟨B, o + i, none⟩ v).heap[B]? = some (.cells (cs.setIfInBounds (o + i) v) t fz) := by
      simp only [World.setCell, Array.getElem?_modify, if_true, h]; rfl
    obtain ⟨w', cs', h1, h2, h3, h4, h5, h6, h7, h8, h9⟩ := run_storeCells P B o t fz vs (i + 1) (w.setCell ⟨B, o + i, none⟩ v) _ hB (by simp; omega) (by simpa using hf) fun u hu => hv u (List.mem_cons_of_mem _ hu)
    refine ⟨w', cs', ?_, h2, by simpa using h3, fun j => ?_, fun k hk => ?_, by simpa using h6, h7, h8, h9⟩
    · have : (storeCells ⟨B, o, none⟩ (v :: vs) i).run P w = ((store ((⟨B, o, none⟩ : Addr).add i) v).run P w).andThen fun _ w1 => (storeCells ⟨B, o, none⟩ vs (i + 1)).run P w1 := by
        rw [storeCells, Sem.run_bind]
      rw [this, addr_add, run_store P w _ _ _ (hv v (by simp)), hcell]
      simp only [hfr, Bool.false_eq_true, if_false, Result.andThen_ok]
      exact h1
    · rw [h4]
      by_cases a : j = o + i
      · subst a
        rw [if_neg (by omega), if_pos (by simp), Array.getElem?_setIfInBounds_self_of_lt (by omega)]
        simp
      · by_cases b : o + (i + 1) ≤ j ∧ j < o + (i + 1) + vs.length
        · rw [if_pos b, if_pos (by simp; omega)]
          obtain ⟨q, rfl⟩ : ∃ q, j = o + (i + 1) + q := ⟨j - (o + (i + 1)), by omega⟩
          rw [show o + (i + 1) + q - (o + i) = q + 1 from by omega, show o + (i + 1) + q - (o + (i + 1)) = q from by omega]; simp
        · rw [if_neg b, if_neg (by simp; omega), Array.getElem?_setIfInBounds_ne (by omega)]
    · rw [h5 k hk]
      exact heap_setCell_other w _ k v hk

theorem plain_one {a : AV} {v : Value} (h : VR ρ a v) (hp : a.plain = true) : v.oneCell' = true := by
  cases h <;> first | rfl | (simp [AV.plain] at hp)

theorem VRs.plain : ∀ {l : List AV} {cs : List Value}, VRs ρ l cs → l.all AV.plain = true → ∀ v ∈ cs, v.oneCell' = true
  | _, _, .nil, _ => fun _ h => by cases h
  | _, _, .cons v c l cs h hs, hp => fun u hu => by
    simp at hp
    rcases List.mem_cons.1 hu with rfl | hu
    · exact plain_one h hp.1
    · exact VRs.plain hs (by simpa using hp.2) u hu

theorem storeK_inv {m m' : AMem} {b off : Nat} {l : List AV} {k : AMem → OR} {v : AV} (h : storeK m b off l k = .mk v m') :
    ∃ sg E N c, m.t.get b = some (.cells false sg E N c) ∧ off + l.length ≤ N ∧ l.all AV.plain = true ∧
      ∃ m1 c', m1.next = m.next ∧ (∀ j, m1.t.get j = if j = b then some (.cells false true E N c') else m.t.get j) ∧ (∀ j, c'.get j = if off ≤ j ∧ j < off + l.length then l[j - off]? else c.get j) ∧ k m1 = .mk v m' := by
  obtain ⟨ro, sg, E, N, c, h1, h2⟩ := blkK_inv h
  rw [bif2_eq] at h2
  split at h2
  · rename_i hc
    simp only [Bool.and_eq_true, Bool.not_eq_true'] at hc
    obtain ⟨⟨hro, hle⟩, hp⟩ := hc
    subst hro
    rcases putK_eq (OR.fail 34) l off c (fun c => T.setK (.fail 34) (some (.cells false true E N c)) m.t b fun t => k ⟨m.next, t⟩) with e | ⟨c', hc', e⟩
    · rw [e] at h2; cases h2
    · rw [e] at h2
      rcases T.setK_eq (OR.fail 34) (some (.cells false true E N c')) m.t b (fun t => k ⟨m.next, t⟩) with e2 | ⟨t', ht', e2⟩
      · rw [e2] at h2; cases h2
      · rw [e2] at h2
        exact ⟨sg, E, N, c, h1, by simpa [Nat.ble_eq] using hle, hp, ⟨m.next, t'⟩, c', rfl, ht', hc', h2⟩
  · cases h2

/-- Cells that the view knows are written. -/
theorem View.store (V : View ρ m w) {b off : Nat} {L : Loc} (hL : ρ b = some L) {l : List AV} {cs : List Value} (hl : VRs ρ l cs) {k : AMem → OR} {v : AV} {m' : AMem} (h : storeK m b off l k = .mk v m') :
    ∃ m1 w1, k m1 = .mk v m' ∧ (storeCells ⟨L.blk, L.base + off, none⟩ cs).run P w = .ok () w1 ∧ Step ρ m w ρ m1 w1 := by
  obtain ⟨sg, E, N, c, hb, hle, hp, m1, c', hn, hg, hc', hk⟩ := storeK_inv h
  obtain ⟨L0, cs0, elem, fz, h1, h2, h3, h4, hN, h5, h6⟩ := V.sim.blk b _ hb
  rw [hL] at h1; cases h1
  have hlen : l.length = cs.length := hl.length
  have hin : L.base + off + cs.length ≤ cs0.size := by omega
  obtain ⟨w1, cs1, g1, g2, g3, g4, g5, g6, g7, g8, g9⟩ := run_storeCells P L.blk (L.base + off) elem fz cs 0 w cs0 h2 (by omega) (h6.1 rfl) (hl.plain hp)
  refine ⟨m1, w1, hk, g1, ?_⟩
  have := GStep.write (g' := m1.t.get) (hi := m1.next) (b1 := b) (d := 0) (E := E) (n' := N) (c' := c') V.sim V.wf hb hL h2 g3 g2 g5 g6 g7 g8 g9 (.inl ⟨rfl, rfl, hn⟩) (fun j => by rw [hg]; by_cases h : j = b <;> simp [h]) (by omega) (fun i hi => by
    rw [g4, hc']
    by_cases a : off ≤ i ∧ i < off + l.length
    · rw [if_pos a, if_pos (by omega)]
      have : l[i - off]? = some l[i - off] := List.getElem?_eq_getElem (by omega)
      obtain ⟨x, hx, hr⟩ := hl.get _ this
      exact ⟨x, by rw [show L.base + 0 + i - (L.base + off + 0) = i - off from by omega]; exact hx, by rw [this]; exact hr⟩
    · rw [if_neg a, if_neg (by omega)]; simpa using h5 i hi)
  have e : ρ.set b ⟨L.blk, L.base + 0, L.csize, E⟩ = ρ := by
    funext x
    by_cases hx : x = b
    · rw [hx, Ren.set_same, hL, ← h4]; rfl
    · rw [Ren.set_other _ _ _ hx]
  rw [e] at this; exact this

end
end Go.Ev
end
section
namespace Go.Ev

section
variable {P : Program} {ρ : Ren} {m : AMem} {w : World}

/-! ### New blocks -/

theorem newBlk_inv {sg : Bool} {E : Nat} {l : List AV} {m m' : AMem} {k : Nat → AMem → OR} {v : AV} (h : newBlk sg E l m k = .mk v m') :
    ∃ m1 c, m1.next = m.next + 1 ∧ (∀ j, m1.t.get j = if j = m.next then some (.cells false sg E l.length c) else m.t.get j) ∧ (∀ i, i < l.length → c.get i = l[i]?) ∧ k m.next m1 = .mk v m' := by
  unfold newBlk at h
  rcases putK_eq (OR.fail 30) l 0 .leaf (fun c => fNat l.length fun n => T.setK (.fail 31) (some (.cells false sg E n c)) m.t m.next fun t => fNat (Nat.succ m.next) fun nx => k m.next ⟨nx, t⟩) with e | ⟨c, hc, e⟩
  · rw [e] at h; cases h
  · rw [e, fNat_eq] at h
    rcases T.setK_eq (OR.fail 31) (some (.cells false sg E l.length c)) m.t m.next (fun t => fNat (Nat.succ m.next) fun nx => k m.next ⟨nx, t⟩) with e2 | ⟨t, ht, e2⟩
    · rw [e2] at h; cases h
    · rw [e2, fNat_eq] at h
      exact ⟨⟨m.next + 1, t⟩, c, rfl, ht, fun i hi => by rw [hc, if_pos (by omega)]; simp, h⟩

/-- A new block under a new name; behind what is known it may hold more. -/
theorem View.new (V : View ρ m w) {sg : Bool} {E : Nat} {l : List AV} {cs rest : List Value} (hl : VRs ρ l cs) {m1 : AMem} {c : T AV} (hn : m1.next = m.next + 1)
    (hg : ∀ j, m1.t.get j = if j = m.next then some (.cells false sg E l.length c) else m.t.get j) (hc : ∀ i, i < l.length → c.get i = l[i]?) (hfr : ρ m.next = none)
    {A : Array Value} (hA : A = (cs ++ rest).toArray) {elem : TypeId} {fz : Nat × Nat} (hfz : ∀ i, i < A.size → ¬ (fz.1 ≤ i ∧ i < fz.2)) (hsg : sg = false → ∀ i, ¬ (fz.1 ≤ i ∧ i < fz.2)) :
    Step ρ m w (ρ.set m.next ⟨w.heap.size, 0, A.size, E⟩) m1 (w.alloc (.cells A elem fz)) := by
  subst hA
  show GStep ρ m.t.get m.next w _ m1.t.get m1.next _
  rw [hn]
  refine GStep.alloc V.sim V.wf hfr (by simp [hl.length]) (fun i hi => ?_) hfz hsg hg
  have : l[i]? = some l[i] := List.getElem?_eq_getElem hi
  obtain ⟨x, hx, hr⟩ := hl.get i this
  have hi' : i < cs.length := hl.length ▸ hi
  exact ⟨x, by simp [List.getElem?_append_left hi', hx], by rw [hc i hi, this]; exact hr⟩

/-! ### Operands -/

noncomputable def cstA (v : Value) : AV :=
  match v with
  | .bool b => .bool b
  | .int i n => .int i n
  | .string s => .str (s.data.toList.map UInt8.toNat)
  | .agg cs => .agg (scals cs.toList)
  | .tuple cs => match cs.toList with
    | [] => .undef
    | _ => .any
  | v => scal v

theorem cst_eq {β : Type} (v : Value) (k : AV → β) : cst v k = k (cstA v) := by
  unfold cst cstA
  cases v <;> try rfl
  · simp
  · rename_i cs; simp only []; cases cs.toList <;> rfl

theorem scal_rel (ρ : Ren) (v : Value) : VR ρ (scal v) v := by
  unfold scal
  split <;> first | exact .any _ | constructor
  all_goals rfl

theorem scals_rel (ρ : Ren) : ∀ l : List Value, VRs ρ (scals l) l
  | [] => .nil
  | v :: l => .cons _ _ _ _ (scal_rel ρ v) (scals_rel ρ l)

theorem cstA_rel (ρ : Ren) (v : Value) : VR ρ (cstA v) v := by
  unfold cstA
  split
  · constructor
  · constructor
  · exact .str _ _ rfl
  · exact .agg _ _ (scals_rel ρ _)
  · rename_i cs
    split
    · rename_i h; exact .tup _ _ (by rw [h]; exact .nil)
    · exact .any _
  · exact scal_rel ρ _

/-- What an operand is. -/
noncomputable def evA (t : T AV) (x : Operand) : AV :=
  match x with
  | .tmp i => (t.get i).getD .undef
  | .const v => cstA v
  | .global _ => .any
  | .func f => .fn f []

theorem evK_eq {β : Type} (t : T AV) (x : Operand) (k : AV → β) : evK t x k = k (evA t x) := by
  cases x with
  | tmp i =>
    show @Option.rec AV (fun _ => β) (k .undef) k (t.get i) = _
    simp only [evA]
    cases t.get i <;> rfl
  | const v => exact cst_eq v k
  | global g => rfl
  | func f => rfl

theorem evsK_eq {β : Type} (t : T AV) : ∀ (l : List Operand) (k : List AV → β), evsK t l k = k (l.map (evA t))
  | [], _ => rfl
  | x :: l, k => by
    show evK t x (fun v => evsK t l fun vs => k (v :: vs)) = _
    rw [evK_eq, evsK_eq t l]; rfl

theorem evPs_eq {β : Type} (t : T AV) : ∀ (l : List (Nat × Operand)) (k : List (Nat × AV) → β), evPs t l k = k (l.map fun p => (p.1, evA t p.2))
  | [], _ => rfl
  | x :: l, k => by
    show evK t x.2 (fun v => evPs t l fun vs => k ((x.1, v) :: vs)) = _
    rw [evK_eq, evPs_eq t l]; rfl

theorem evO_eq {β : Type} (t : T AV) (x : Option Operand) (k : Option AV → β) : evO t x k = k (x.map (evA t)) := by
  cases x with
  | none => rfl
  | some x => exact evK_eq t x _

/-- The temporaries. -/
structure TR (ρ : Ren) (nt : Nat) (t : T AV) (tmps : Array Value) : Prop where
  size : tmps.size = nt
  rel : ∀ i, VR ρ ((t.get i).getD .undef) (tmps.getD i undef)

theorem TR.mono {ρ ρ' : Ren} {nt : Nat} {t : T AV} {tmps : Array Value} (h : TR ρ nt t tmps) (hs : Sub ρ ρ') : TR ρ' nt t tmps := ⟨h.size, fun i => (h.rel i).mono hs⟩

theorem TR.ev {nt : Nat} {t : T AV} {a : Act} (h : TR ρ nt t a.tmps) (x : Operand) : VR ρ (evA t x) (a.eval x) := by
  cases x with
  | tmp i => exact h.rel i
  | const v => exact cstA_rel ρ v
  | global g => exact .any _
  | func f => exact .fn f [] #[] .nil

theorem TR.evs {nt : Nat} {t : T AV} {a : Act} (h : TR ρ nt t a.tmps) : ∀ l : List Operand, VRs ρ (l.map (evA t)) (l.map a.eval)
  | [] => .nil
  | x :: l => .cons _ _ _ _ (h.ev x) (h.evs l)

/-- A result goes into its temporary. -/
theorem dstK_inv {nt : Nat} {dst : Option Tmp} {v : AV} {t : T AV} {k : T AV → Res} {x : X} {t' : T AV} {m' : AMem} (h : dstK nt dst v t k = .mk x t' m') :
    ∃ t1, k t1 = .mk x t' m' ∧ ∀ {ρ : Ren} {a : Act} {vc : Value}, TR ρ nt t a.tmps → VR ρ v vc → TR ρ nt t1 (a.put dst vc).tmps := by
  cases dst with
  | none => exact ⟨t, h, fun h _ => h⟩
  | some d =>
    have h : bif2 (Nat.blt d nt) (T.setK (.fail 121) (some v) t d k) (.fail 122) = .mk x t' m' := h
    rw [bif2_eq] at h
    split at h
    · rename_i hd
      have hd : d < nt := by simpa [Nat.blt_eq] using hd
      rcases T.setK_eq (Res.fail 121) (some v) t d k with e | ⟨t1, ht, e⟩
      · rw [e] at h; cases h
      · rw [e] at h
        refine ⟨t1, h, fun {ρ a vc} hT hv => ⟨by simp [Act.put, hT.size], fun i => ?_⟩⟩
        rw [ht]
        by_cases hi : i = d
        · subst hi
          have hi' : i < a.tmps.size := by rw [hT.size]; exact hd
          simp [Act.put, Array.getElem?_setIfInBounds_self_of_lt hi']; exact hv
        · have := hT.rel i
          simp only [Act.put, if_neg hi]
          simpa [Array.getElem?_setIfInBounds_ne (Ne.symm hi)] using this
    · cases h

/-! ### What is shown of an operation -/

/-- The operation is carried out, with that value. -/
noncomputable def Runs (P : Program) (ρ : Ren) (m : AMem) (w : World) (v : AV) (m' : AMem) (s : Sem Next) : Prop :=
  ∃ ρ' w' vc, Step ρ m w ρ' m' w' ∧ VR ρ' v vc ∧ (s.run P w = .ok (.value vc) w' ∨ (s.run P w = .ok .skip w' ∧ vc = undef))

/-- One that leaves memory alone. -/
noncomputable def Val (P : Program) (ρ : Ren) (m : AMem) (w : World) (v : AV) (m' : AMem) (s : Sem Value) : Prop := m' = m ∧ ∃ vc, VR ρ v vc ∧ s.run P w = .ok vc w

theorem Val.runs (V : View ρ m w) {v : AV} {m' : AMem} {s : Sem Value} (h : Val P ρ m w v m' s) : Runs P ρ m w v m' (do pure (.value (← s))) := by
  obtain ⟨rfl, vc, hv, hr⟩ := h
  exact ⟨ρ, w, vc, V.refl, hv, .inl (by simp [hr])⟩

theorem Val.mk {v : AV} {m' : AMem} {s : Sem Value} {u : AV} {uc : Value} (h : OR.mk u m = .mk v m') (hr : s.run P w = .ok uc w) (hv : VR ρ u uc) : Val P ρ m w v m' s := by
  cases h; exact ⟨rfl, uc, hv, hr⟩

theorem iBool_val {b : Bool} {v : AV} {m' : AMem} {s : Sem Value} (h : iBool b m = .mk v m') (hr : s.run P w = .ok (.bool b) w) : Val P ρ m w v m' s := by
  cases b
  · exact Val.mk (u := .bool false) h hr (.bool _)
  · exact Val.mk (u := .bool true) h hr (.bool _)

/-! ### Numbers -/

theorem bits_land (k : IntKind) (x y : Nat) (hx : x < 2 ^ k.bits) (hy : y < 2 ^ k.bits) : (BitVec.ofInt k.bits (Int.ofNat x) &&& BitVec.ofInt k.bits (Int.ofNat y)).toNat = Nat.land x y := by
  rw [BitVec.toNat_and]
  simp [Nat.mod_eq_of_lt hx, Nat.mod_eq_of_lt hy]
theorem bits_lor (k : IntKind) (x y : Nat) (hx : x < 2 ^ k.bits) (hy : y < 2 ^ k.bits) : (BitVec.ofInt k.bits (Int.ofNat x) ||| BitVec.ofInt k.bits (Int.ofNat y)).toNat = Nat.lor x y := by
  rw [BitVec.toNat_or]
  simp [Nat.mod_eq_of_lt hx, Nat.mod_eq_of_lt hy]
theorem bits_xor (k : IntKind) (x y : Nat) (hx : x < 2 ^ k.bits) (hy : y < 2 ^ k.bits) : (BitVec.ofInt k.bits (Int.ofNat x) ^^^ BitVec.ofInt k.bits (Int.ofNat y)).toNat = Nat.xor x y := by
  rw [BitVec.toNat_xor]
  simp [Nat.mod_eq_of_lt hx, Nat.mod_eq_of_lt hy]

theorem iBits_val {f : Nat → Nat → Nat} {k : IntKind} {a b : Int} {v : AV} {m' : AMem} {s : Sem Value} (h : iBits f k a b m = .mk v m')
    (hr : ∀ x y, x < 2 ^ k.bits → y < 2 ^ k.bits → a = Int.ofNat x → b = Int.ofNat y → s.run P w = .ok (.int k (k.wrap (Int.ofNat (f x y)))) w) : Val P ρ m w v m' s := by
  cases a with
  | negSucc x => cases h
  | ofNat x =>
    cases b with
    | negSucc y => cases h
    | ofNat y =>
      have h : bif2 (Nat.blt x (2 ^ k.bits) && Nat.blt y (2 ^ k.bits)) (wrapK k (.ofNat (f x y)) fun n => OR.mk (.int k n) m) (OR.fail 13) = OR.mk v m' := h
      rw [bif2_eq] at h
      split at h
      · rename_i hc
        simp only [Bool.and_eq_true, Nat.blt_eq] at hc
        rw [wrapK_eq] at h
        exact Val.mk h (hr x y hc.1 hc.2 rfl rfl) (.int _ _)
      · cases h

theorem pow_cast (n : Nat) : (Int.ofNat (2 ^ n)) = (2 : Int) ^ n := by simp

theorem shift_amount (y b : Nat) : (bif2 (Nat.ble y b) y b) = min y b := by
  rw [bif2_eq]; split
  · rename_i h; rw [Nat.min_eq_left (by simpa [Nat.ble_eq] using h)]
  · rename_i h; rw [Nat.min_eq_right (by simp [Nat.ble_eq] at h; omega)]

theorem iBin_val {op : BinOp} {t : TypeId} {k k' : IntKind} {a b : Int} {v : AV} {m' : AMem} (h0 : iBin op k a k' b m = .mk v m') : Val P ρ m w v m' (binOp op t (.int k a) (.int k' b)) := by
  have kk : isShift op = false → k = k' ∧ intTab op k a b m = .mk v m' := by
    intro hs
    have h := h0
    unfold iBin at h
    rw [hs] at h
    have h : bif2 (kEq k k') (intTab op k a b m) (.fail 19) = .mk v m' := h
    rw [bif2_eq] at h
    split at h
    · rename_i e; exact ⟨kEq_eq e, h⟩
    · cases h
  cases op with
  | shl =>
    cases b with
    | negSucc y => cases h0
    | ofNat y =>
      have h : (wrapK k (Int.mul a (.ofNat (2 ^ (bif2 (Nat.ble y k.bits) y k.bits)))) fun n => OR.mk (.int k n) m) = .mk v m' := h0
      rw [wrapK_eq, shift_amount, pow_cast] at h
      refine Val.mk h ?_ (.int _ _)
      simp only [binOp, Op.shift]
      rw [if_neg (by simp)]
      rfl
  | shr =>
    cases b with
    | negSucc y => cases h0
    | ofNat y =>
      have h : (fInt (Int.fdiv a (.ofNat (2 ^ (bif2 (Nat.ble y k.bits) y k.bits)))) fun n => OR.mk (.int k n) m) = .mk v m' := h0
      rw [fInt_eq, shift_amount, pow_cast] at h
      refine Val.mk h ?_ (.int _ _)
      simp only [binOp, Op.shift]
      rw [if_neg (by simp)]
      rfl
  | add =>
    obtain ⟨rfl, h⟩ := kk rfl
    have h : (wrapK k (Int.add a b) fun n => OR.mk (.int k n) m) = .mk v m' := h
    rw [wrapK_eq] at h
    exact Val.mk h (by simp [binOp, Op.intArith]) (.int _ _)
  | sub =>
    obtain ⟨rfl, h⟩ := kk rfl
    have h : (wrapK k (Int.sub a b) fun n => OR.mk (.int k n) m) = .mk v m' := h
    rw [wrapK_eq] at h
    exact Val.mk h (by simp [binOp, Op.intArith]; rfl) (.int _ _)
  | mul =>
    obtain ⟨rfl, h⟩ := kk rfl
    have h : (wrapK k (Int.mul a b) fun n => OR.mk (.int k n) m) = .mk v m' := h
    rw [wrapK_eq] at h
    exact Val.mk h (by simp [binOp, Op.intArith]) (.int _ _)
  | quo =>
    obtain ⟨rfl, h⟩ := kk rfl
    have h : bif2 (iEq b 0) (.fail 11) (wrapK k (Int.tdiv a b) fun n => OR.mk (.int k n) m) = .mk v m' := h
    rw [bif2_eq, iEq_eq] at h
    split at h
    · cases h
    · rename_i hb
      rw [wrapK_eq] at h
      exact Val.mk h (by simp [binOp, Op.intDiv, show b ≠ 0 from by simpa using hb]) (.int _ _)
  | rem =>
    obtain ⟨rfl, h⟩ := kk rfl
    have h : bif2 (iEq b 0) (.fail 11) (bif2 (iEq b 1) (.mk (.int k 0) m) (fInt (Int.tmod a b) fun n => OR.mk (.int k n) m)) = .mk v m' := h
    rw [bif2_eq, iEq_eq] at h
    split at h
    · cases h
    · rename_i hb
      rw [bif2_eq, iEq_eq] at h
      split at h
      · rename_i h1
        have h1 : b = 1 := by simpa using h1
        subst h1
        exact Val.mk h (by simp [binOp, Op.intDiv]) (.int _ _)
      · rw [fInt_eq] at h
        exact Val.mk h (by simp [binOp, Op.intDiv, show b ≠ 0 from by simpa using hb]) (.int _ _)
  | eql =>
    obtain ⟨rfl, h⟩ := kk rfl
    exact iBool_val (b := iEq a b) h (by simp [binOp, Op.intCmp, iEq_eq])
  | neq =>
    obtain ⟨rfl, h⟩ := kk rfl
    exact iBool_val (b := !iEq a b) h (by simp [binOp, Op.intCmp, iEq_eq, bne])
  | lss =>
    obtain ⟨rfl, h⟩ := kk rfl
    exact iBool_val (b := iLt a b) h (by simp [binOp, Op.intCmp, iLt_eq])
  | leq =>
    obtain ⟨rfl, h⟩ := kk rfl
    exact iBool_val (b := !iLt b a) h (by
      have e : decide (a ≤ b) = !decide (b < a) := by rw [Bool.eq_iff_iff]; simp
      simp [binOp, Op.intCmp, iLt_eq, e])
  | gtr =>
    obtain ⟨rfl, h⟩ := kk rfl
    exact iBool_val (b := iLt b a) h (by simp [binOp, Op.intCmp, iLt_eq])
  | geq =>
    obtain ⟨rfl, h⟩ := kk rfl
    exact iBool_val (b := !iLt a b) h (by
      have e : decide (b ≤ a) = !decide (a < b) := by rw [Bool.eq_iff_iff]; simp
      simp [binOp, Op.intCmp, iLt_eq, e])
  | and =>
    obtain ⟨rfl, h⟩ := kk rfl
    exact iBits_val (f := Nat.land) h fun x y hx hy ea eb => by
      subst ea eb; simp only [binOp, Op.intBits, ne_eq, not_true_eq_false, if_false, bits_land k x y hx hy]; rfl
  | or =>
    obtain ⟨rfl, h⟩ := kk rfl
    exact iBits_val (f := Nat.lor) h fun x y hx hy ea eb => by
      subst ea eb; simp only [binOp, Op.intBits, ne_eq, not_true_eq_false, if_false, bits_lor k x y hx hy]; rfl
  | xor =>
    obtain ⟨rfl, h⟩ := kk rfl
    exact iBits_val (f := Nat.xor) h fun x y hx hy ea eb => by
      subst ea eb; simp only [binOp, Op.intBits, ne_eq, not_true_eq_false, if_false, bits_xor k x y hx hy]; rfl
  | andNot =>
    obtain ⟨rfl, h⟩ := kk rfl
    cases h

end
end Go.Ev
end
section
namespace Go.Ev

section
variable {P : Program} {ρ : Ren} {m : AMem} {w : World}

/-! ### Strings -/

theorem toNat_inj : ∀ (x y : List UInt8), (x.map UInt8.toNat == y.map UInt8.toNat) = (x == y)
  | [], [] => rfl
  | [], _ :: _ => rfl
  | _ :: _, [] => rfl
  | a :: x, b :: y => by
    simp only [List.map_cons, List.cons_beq_cons, toNat_inj x y]
    have : (a.toNat == b.toNat) = (a == b) := by rw [Bool.eq_iff_iff, beq_iff_eq, beq_iff_eq, UInt8.toNat_inj]
    rw [this]

theorem lLt_eq : ∀ (x y : List UInt8), lLt (x.map UInt8.toNat) (y.map UInt8.toNat) = Op.bytesLess x y
  | [], [] => rfl
  | _ :: _, [] => rfl
  | [], _ :: _ => rfl
  | a :: x, b :: y => by
    show bif2 (Nat.blt a.toNat b.toNat) true (bif2 (Nat.beq a.toNat b.toNat) (lLt (x.map UInt8.toNat) (y.map UInt8.toNat)) false) = (a < b || (a == b && Op.bytesLess x y))
    rw [lLt_eq x y]
    by_cases h : a < b
    · have : Nat.blt a.toNat b.toNat = true := by rw [Nat.blt_eq]; exact UInt8.lt_iff_toNat_lt.1 h
      simp [this, h]
    · have : Nat.blt a.toNat b.toNat = false := by rw [Bool.eq_false_iff]; intro e; exact h (UInt8.lt_iff_toNat_lt.2 (by simpa [Nat.blt_eq] using e))
      simp only [this, bif2_false, h, decide_false, Bool.false_or]
      by_cases e : a = b
      · subst e; simp
      · have : Nat.beq a.toNat b.toNat = false := by rw [Bool.eq_false_iff]; intro q; exact e (UInt8.toNat_inj.1 (Nat.eq_of_beq_eq_true q))
        simp [this, e]

theorem str_inv {l : List Nat} {v : Value} (h : VR ρ (.str l) v) : ∃ s : ByteArray, v = .string s ∧ s.data.toList.map UInt8.toNat = l := by
  cases h with | str l s h => exact ⟨s, rfl, h⟩

theorem str_len {l : List Nat} {s : ByteArray} (h : s.data.toList.map UInt8.toNat = l) : l.length = s.size := by rw [← h]; simp

theorem aStr_val {op : BinOp} {t : TypeId} {a b : List Nat} {x y : ByteArray} (hx : x.data.toList.map UInt8.toNat = a) (hy : y.data.toList.map UInt8.toNat = b) {v : AV} {m' : AMem} (h : aStr op a b m = .mk v m') :
    Val P ρ m w v m' (binOp op t (.string x) (.string y)) := by
  have heq : lEq a b = (x.toList == y.toList) := by rw [lEq_eq, ← hx, ← hy, toNat_inj, ByteArray.toList_eq, ByteArray.toList_eq]
  have hlt : lLt a b = Op.bytesLess x.toList y.toList := by rw [← hx, ← hy, lLt_eq, ByteArray.toList_eq, ByteArray.toList_eq]
  cases op with
  | add =>
    simp only [aStr, bif2_eq] at h
    split at h
    · rename_i hc
      refine Val.mk h (uc := .string (x ++ y)) ?_ (.str _ _ ?_)
      · have : ¬ (((x.size + y.size : Nat) : Int) > IntKind.i64.max) := by
          have h1 := str_len hx; have h2 := str_len hy
          have h3 : a.length + b.length < 9223372036854775807 := by simpa [Nat.blt_eq] using hc
          have h4 : IntKind.i64.max = 9223372036854775807 := by decide
          rw [h4]; omega
        simp only [binOp, Op.stringOp]
        rw [if_neg this]; rfl
      · rw [← hx, ← hy]; simp
    · cases h
  | eql => exact iBool_val (b := lEq a b) h (by simp [binOp, Op.stringOp, heq])
  | neq => exact iBool_val (b := !lEq a b) h (by simp [binOp, Op.stringOp, heq])
  | lss => exact iBool_val (b := lLt a b) h (by simp [binOp, Op.stringOp, hlt])
  | leq => exact iBool_val (b := lLt a b || lEq a b) h (by simp [binOp, Op.stringOp, hlt, heq])
  | gtr => exact iBool_val (b := !(lLt a b || lEq a b)) h (by simp [binOp, Op.stringOp, hlt, heq])
  | geq => exact iBool_val (b := !lLt a b) h (by simp [binOp, Op.stringOp, hlt])
  | _ => cases h

/-! ### Held against one another -/

theorem flip_val {op : BinOp} {t : TypeId} {r : Bool} {x y : Value} {v : AV} {m' : AMem} (h : flip op r m = .mk v m') (h1 : (binOp .eql t x y).run P w = .ok (.bool r) w)
    (h2 : (binOp .neq t x y).run P w = .ok (.bool (!r)) w) : Val P ρ m w v m' (binOp op t x y) := by
  cases op with
  | eql => exact iBool_val (b := r) h h1
  | neq => exact iBool_val (b := !r) h h2
  | _ => cases h

theorem nil_equal (d : Nat) {t : TypeId} {x y : AV} {vx vy : Value} (hx : VR ρ x vx) (hy : VR ρ y vy) {i : Nat} {a b : Bool} (hnx : nilOf x = some (i, a)) (hny : nilOf y = some (i, b)) (hk : nilKind P t = some i)
    (hab : (a || b) = true) : (Op.equalIn (d + 1) t vx vy).run P w = .ok (a && b) w ∧ binOp .eql t vx vy = (do pure (.bool (← Op.equal t vx vy))) ∧ binOp .neq t vx vy = (do pure (.bool (!(← Op.equal t vx vy)))) := by
  unfold nilKind at hk
  split at hk <;> cases hk <;> rename_i q hu <;> cases x <;> simp [nilOf] at hnx <;> cases y <;> simp [nilOf] at hny <;>
    (subst hnx; subst hny; cases hx <;> cases hy <;> first
      | (simp at hab; done)
      | exact ⟨by simp only [Op.equalIn, Sem.run_bind, run_underlying hu, Result.andThen_ok]; rfl, rfl, rfl⟩)

theorem aNil_val {op : BinOp} {t : TypeId} {x y : AV} {vx vy : Value} (hx : VR ρ x vx) (hy : VR ρ y vy) {v : AV} {m' : AMem} (h : aNil P op t x y m = .mk v m') :
    Val P ρ m w v m' (binOp op t vx vy) := by
  unfold aNil at h
  split at h
  · rename_i i a j b k hnx hny hk
    rw [bif2_eq] at h
    split at h
    · rename_i hc
      simp only [Bool.and_eq_true] at hc
      obtain ⟨⟨h1, h2⟩, hab⟩ := hc
      obtain rfl := Nat.eq_of_beq_eq_true h1
      obtain rfl := Nat.eq_of_beq_eq_true h2
      obtain ⟨e1, e2, e3⟩ := nil_equal (w := w) 9999 hx hy hnx hny hk hab
      have e1 : (Op.equal t vx vy).run P w = .ok (a && b) w := e1
      exact flip_val h (t := t) (by rw [e2]; simp [e1]) (by rw [e3]; simp [e1])
    · cases h
  · cases h

theorem sEq_run {d : Nat} {t : TypeId} {x y : AV} {vx vy : Value} (hx : VR ρ x vx) (hy : VR ρ y vy) {r : Bool} (h : sEq (P.underlying t) x y = some r) :
    (isAgg t).run P w = .ok false w ∧ (Op.equalIn (d + 1) t vx vy).run P w = .ok r w := by
  unfold sEq at h
  split at h
  · rename_i a b hu
    cases h; cases hx; cases hy
    exact ⟨by simp [isAgg, run_underlying hu], by simp [Op.equalIn, run_underlying hu]⟩
  · rename_i k0 j a k b hu
    rw [bif2_eq] at h
    split at h
    · rename_i hk
      cases h; cases hx; cases hy
      obtain rfl := kEq_eq hk
      exact ⟨by simp [isAgg, run_underlying hu], by simp [Op.equalIn, run_underlying hu, iEq_eq]⟩
    · cases h
  · rename_i a b hu
    cases h
    obtain ⟨s, rfl, hs⟩ := str_inv hx
    obtain ⟨s', rfl, hs'⟩ := str_inv hy
    refine ⟨by simp [isAgg, run_underlying hu], ?_⟩
    rw [lEq_eq, ← hs, ← hs', toNat_inj]
    simp [Op.equalIn, run_underlying hu, beq_toListBytes, ByteArray.toList_eq]
  · cases h

theorem aggEq_run {d : Nat} : ∀ (fs : List Field) {xs ys : List AV} {cx cy : Array Value} (_ : VRs ρ xs cx.toList) (_ : VRs ρ ys cy.toList) {r : Bool} (_ : aggEq P fs xs ys = some r),
    (Op.eqFields (d + 1) cx cy fs).run P w = .ok r w
  | [], _, _, _, _, _, _, r, h => by simp [aggEq] at h; subst h; rfl
  | f :: fs, xs, ys, cx, cy, hx, hy, r, h => by
    simp only [aggEq, bif2_eq] at h
    split at h
    · cases h
    · rename_i hn
      split at h
      · rename_i x y ex ey
        obtain ⟨vx, e1, r1⟩ := hx.get _ ex
        obtain ⟨vy, e2, r2⟩ := hy.get _ ey
        have hpx : ∀ z, sEq (P.underlying f.type) x y = some z → (part f.type cx f.offset).run P w = .ok vx w := fun z hz => by
          have e1' : cx[f.offset]? = some vx := by rw [← e1]; simp
          simp [part, (sEq_run (d := d) (w := w) r1 r2 hz).1, e1']
        have hpy : ∀ z, sEq (P.underlying f.type) x y = some z → (part f.type cy f.offset).run P w = .ok vy w := fun z hz => by
          have e2' : cy[f.offset]? = some vy := by rw [← e2]; simp
          simp [part, (sEq_run (d := d) (w := w) r1 r2 hz).1, e2']
        have hne : f.name ≠ "_" := by simpa using hn
        split at h
        · rename_i hs
          simp only [Op.eqFields, Sem.run_bind, Sem.run_ite, if_pos hne, hpx _ hs, hpy _ hs, Result.andThen_ok, (sEq_run (d := d) (w := w) r1 r2 hs).2]
          simpa using aggEq_run (d := d) fs hx hy h
        · rename_i hs
          cases h
          simp only [Op.eqFields, Sem.run_bind, Sem.run_ite, if_pos hne, hpx _ hs, hpy _ hs, Result.andThen_ok, (sEq_run (d := d) (w := w) r1 r2 hs).2]
          simp
        · cases h
      · cases h

theorem aggEq1_run {d : Nat} : ∀ (fs : List Field) {xs ys : List AV} {cx cy : Array Value} (_ : VRs ρ xs cx.toList) (_ : VRs ρ ys cy.toList) {r : Bool} (_ : aggEq1 P fs xs ys = some r),
    (Op.eqFields (d + 2) cx cy fs).run P w = .ok r w
  | [], _, _, _, _, _, _, r, h => by simp [aggEq1] at h; subst h; rfl
  | f :: fs, xs, ys, cx, cy, hx, hy, r, h => by
    simp only [aggEq1, bif2_eq] at h
    split at h
    · cases h
    · rename_i hn
      have hne : f.name ≠ "_" := by simpa using hn
      split at h
      · rename_i gs hu
        split at h
        · rename_i i hi
          split at h
          · cases h
          · rename_i hst
            simp only [Bool.not_eq_true] at hst
            have hagg : (isAgg f.type).run P w = .ok true w := by simp [isAgg, run_underlying hu]
            have hpart : ∀ c : Array Value, (part f.type c f.offset).run P w = .ok (.agg (c.extract f.offset (f.offset + i.size))) w := fun c => by simp [part, hagg, run_sizeOf hi]
            have hf : P.fieldsOf f.type = gs := by simp [Program.fieldsOf, hu]
            have sub : ∀ z, aggEq P gs.toList ((xs.drop f.offset).take i.size) ((ys.drop f.offset).take i.size) = some z → (Op.equalIn (d + 1 + 1) f.type (.agg (cx.extract f.offset (f.offset + i.size))) (.agg (cy.extract f.offset (f.offset + i.size)))).run P w = .ok z w := fun z hz => by
              rw [run_equalIn_struct w (d + 1) f.type _ _ (by rw [hf]; exact hu) hst, hf]
              have hx' : VRs ρ ((xs.drop f.offset).take i.size) (cx.extract f.offset (f.offset + i.size)).toList := by
                have := (hx.drop f.offset).take i.size
                simpa [List.take_drop, Nat.add_comm] using this
              have hy' : VRs ρ ((ys.drop f.offset).take i.size) (cy.extract f.offset (f.offset + i.size)).toList := by
                have := (hy.drop f.offset).take i.size
                simpa [List.take_drop, Nat.add_comm] using this
              exact aggEq_run (d := d) gs.toList hx' hy' hz
            split at h
            · rename_i hs
              simp only [Op.eqFields, Sem.run_bind, Sem.run_ite, if_pos hne, hpart, Result.andThen_ok, sub _ hs]
              simpa using aggEq1_run (d := d) fs hx hy h
            · rename_i hs
              cases h
              simp only [Op.eqFields, Sem.run_bind, Sem.run_ite, if_pos hne, hpart, Result.andThen_ok, sub _ hs]
              simp
            · cases h
        · cases h
      · rename_i dd hdd
        split at h
        · rename_i x y ex ey
          obtain ⟨vx, e1, r1⟩ := hx.get _ ex
          obtain ⟨vy, e2, r2⟩ := hy.get _ ey
          have hpx : ∀ z, sEq (P.underlying f.type) x y = some z → (part f.type cx f.offset).run P w = .ok vx w := fun z hz => by
            have e1' : cx[f.offset]? = some vx := by rw [← e1]; simp
            simp [part, (sEq_run (d := d + 1) (w := w) r1 r2 hz).1, e1']
          have hpy : ∀ z, sEq (P.underlying f.type) x y = some z → (part f.type cy f.offset).run P w = .ok vy w := fun z hz => by
            have e2' : cy[f.offset]? = some vy := by rw [← e2]; simp
            simp [part, (sEq_run (d := d + 1) (w := w) r1 r2 hz).1, e2']
          split at h
          · rename_i hs
            simp only [Op.eqFields, Sem.run_bind, Sem.run_ite, if_pos hne, hpx _ hs, hpy _ hs, Result.andThen_ok, (sEq_run (d := d + 1) (w := w) r1 r2 hs).2]
            simpa using aggEq1_run (d := d) fs hx hy h
          · rename_i hs
            cases h
            simp only [Op.eqFields, Sem.run_bind, Sem.run_ite, if_pos hne, hpx _ hs, hpy _ hs, Result.andThen_ok, (sEq_run (d := d + 1) (w := w) r1 r2 hs).2]
            simp
          · cases h
        · cases h

theorem aAggEq_val {op : BinOp} {t : TypeId} {xs ys : List AV} {cx cy : Array Value} (hx : VRs ρ xs cx.toList) (hy : VRs ρ ys cy.toList) {v : AV} {m' : AMem} (h : aAggEq P op t xs ys m = .mk v m') :
    Val P ρ m w v m' (binOp op t (.agg cx) (.agg cy)) ∧ ∀ (o : BinOp) (x y : Operand), (eqGuard o t x y (.agg cx) (.agg cy)).run P w = .ok () w := by
  unfold aAggEq at h
  split at h
  · rename_i fs hu
    rw [bif2_eq] at h
    split at h
    · rename_i hc
      simp only [Bool.and_eq_true, Bool.not_eq_true'] at hc
      split at h
      · rename_i r hr
        have hf : P.fieldsOf t = fs := by simp [Program.fieldsOf, hu]
        have hrun : (Op.equalIn (9999 + 1) t (.agg cx) (.agg cy)).run P w = .ok r w := by
          rw [run_equalIn_struct w 9999 t cx cy (by rw [hf]; exact hu) hc.2, hf]
          exact aggEq1_run (d := 9997) fs.toList hx hy hr
        exact ⟨flip_val h (t := t) (by rw [run_eql_struct, hrun]; rfl) (by rw [run_neq_struct, hrun]; rfl), fun o x y => run_eqGuard_agg w o t x y cx cy hc.1⟩
      · cases h
    · cases h
  · cases h

/-- '==' where one look at the type and the two values tells. -/
noncomputable def oneLook (d : TypeDesc) (x y : Value) : Option Bool :=
  match d, x, y with
  | .bool, .bool a, .bool b => some (a == b)
  | .interface _, .nilIface, .nilIface => some true
  | .interface _, .nilIface, .iface _ _ => some false
  | .interface _, .iface _ _, .nilIface => some false
  | _, _, _ => none

theorem one_look (n : Nat) {t : TypeId} {d : TypeDesc} {x y : Value} {r : Bool} (hu : P.underlying t = some d) (h : oneLook d x y = some r) : (Op.equalIn (n + 1) t x y).run P w = .ok r w := by
  unfold oneLook at h
  split at h <;> cases h <;> (simp only [Op.equalIn, Sem.run_bind, run_underlying hu, Result.andThen_ok]; rfl)
theorem one_equal {t : TypeId} {d : TypeDesc} {x y : Value} {r : Bool} (hu : P.underlying t = some d) (h : oneLook d x y = some r) : (Op.equal t x y).run P w = .ok r w := one_look 9999 hu h

theorem flip_one {op : BinOp} {t : TypeId} {d : TypeDesc} {r : Bool} {x y : Value} {v : AV} {m' : AMem} (h : flip op r m = .mk v m') (hu : P.underlying t = some d) (hl : oneLook d x y = some r)
    (e1 : binOp .eql t x y = (do pure (.bool (← Op.equal t x y)))) (e2 : binOp .neq t x y = (do pure (.bool (!(← Op.equal t x y))))) : Val P ρ m w v m' (binOp op t x y) :=
  flip_val h (t := t) (by rw [e1]; simp [one_equal (w := w) hu hl]) (by rw [e2]; simp [one_equal (w := w) hu hl])

theorem isConst_eq (x : Operand) : isConst x = (x matches .const _) := by cases x <;> rfl

theorem eqGuard_plain {op : BinOp} {t : TypeId} {x y : Operand} {a b : Value} (h1 : a ≠ .nilIface ∨ b ≠ .nilIface) (h2 : (∀ c, a ≠ .agg c) ∨ (∀ c, b ≠ .agg c)) : (eqGuard op t x y a b).run P w = .ok () w := by
  cases op <;> first | rfl | (cases a <;> first | rfl | (cases b <;> first | rfl | (simp at h1; done) | (simp at h2; done)))

theorem aIface_val {op : BinOp} {t : TypeId} {x y : AV} {ox oy : Operand} {vx vy : Value} (hx : VR ρ x vx) (hy : VR ρ y vy) {v : AV} {m' : AMem} (h : aIface P op t (isConst ox || isConst oy) x y m = .mk v m') :
    Val P ρ m w v m' (do eqGuard op t ox oy vx vy; binOp op t vx vy) := by
  have join : ∀ {s : Sem Value} {u : Sem Unit}, u.run P w = .ok () w → Val P ρ m w v m' s → Val P ρ m w v m' (do u; s) := by
    intro s u hu ⟨e, vc, hv, hr⟩
    exact ⟨e, vc, hv, by simp [hu, hr]⟩
  unfold aIface at h
  split at h
  · rename_i ms hu
    rw [bif2_eq] at h
    split at h
    · rename_i hl
      cases hx; cases hy
      refine join ?_ (flip_one h hu rfl rfl rfl)
      cases op <;> first | rfl | (cases ox <;> cases oy <;> first | rfl | (cases hl; done))
    · cases h
  · rename_i ms _ _ hu
    cases hx; cases hy
    exact join (eqGuard_plain (.inr (by simp)) (.inl (by simp))) (flip_one h hu rfl rfl rfl)
  · rename_i ms _ _ hu
    cases hx; cases hy
    exact join (eqGuard_plain (.inl (by simp)) (.inl (by simp))) (flip_one h hu rfl rfl rfl)
  · cases h

theorem aBin_val {op : BinOp} {t : TypeId} {x y : AV} {ox oy : Operand} {vx vy : Value} (hx : VR ρ x vx) (hy : VR ρ y vy) {v : AV} {m' : AMem} (h : aBin P op t (isConst ox || isConst oy) x y m = .mk v m') :
    Val P ρ m w v m' (do eqGuard op t ox oy vx vy; binOp op t vx vy) := by
  have join : ∀ {s : Sem Value} {u : Sem Unit}, u.run P w = .ok () w → Val P ρ m w v m' s → Val P ρ m w v m' (do u; s) := by
    intro s u hu ⟨e, vc, hv, hr⟩
    exact ⟨e, vc, hv, by simp [hu, hr]⟩
  have rest : ∀ h : aBinRest P op t (isConst ox || isConst oy) x y m = .mk v m', Val P ρ m w v m' (do eqGuard op t ox oy vx vy; binOp op t vx vy) := by
    intro h
    have nil : ∀ h : aNil P op t x y m = .mk v m', (∀ c, x ≠ .agg c) → x ≠ .nili → Val P ρ m w v m' (do eqGuard op t ox oy vx vy; binOp op t vx vy) := by
      intro h h1 h2
      refine join (eqGuard_plain (.inl ?_) (.inl ?_)) (aNil_val hx hy h)
      · intro e; subst e; cases hx with
        | nili => exact h2 rfl
        | any => unfold aNil at h; simp [nilOf] at h
      · intro c e; subst e; cases hx with
        | agg l _ _ => exact h1 l rfl
        | any => unfold aNil at h; simp [nilOf] at h
    cases x with
    | bool a =>
      obtain ⟨b, rfl, h1⟩ := onBool_inv _ h fail_ne
      clear h; have h := h1
      split at h
      · rename_i hu
        cases hx; cases hy
        exact join (eqGuard_plain (.inl (by simp)) (.inl (by simp))) (flip_one h hu rfl rfl rfl)
      · cases h
    | agg xs =>
      obtain ⟨ys, rfl, h1⟩ := onAgg_inv _ h fail_ne
      clear h; have h := h1
      cases hx with | agg _ cx hcx => cases hy with | agg _ cy hcy =>
      obtain ⟨h1, h2⟩ := aAggEq_val (w := w) hcx hcy h
      exact join (h2 _ _ _) h1
    | nili => exact aIface_val hx hy h
    | iface i u => exact aIface_val hx hy h
    | _ => exact nil h (by simp) (by simp)
  cases x with
  | int k a =>
    have h1 : y.onInt (fun k' b => iBin op k a k' b m) (.fail 23) = .mk v m' := h
    obtain ⟨k', b, rfl, h2⟩ := onInt_inv _ h1 fail_ne
    cases hx; cases hy
    exact join (eqGuard_plain (.inl (by simp)) (.inl (by simp))) (iBin_val h2)
  | str a =>
    have h1 : y.onStr (fun b => aStr op a b m) (.fail 23) = .mk v m' := h
    obtain ⟨b, rfl, h2⟩ := onStr_inv _ h1 fail_ne
    obtain ⟨s, rfl, hs⟩ := str_inv hx
    obtain ⟨s', rfl, hs'⟩ := str_inv hy
    exact join (eqGuard_plain (.inl (by simp)) (.inl (by simp))) (aStr_val hs hs' h2)
  | _ => exact rest h

end
end Go.Ev
end
section
namespace Go.Ev

section
variable {P : Program} {ρ : Ren} {m : AMem} {w : World}

/-! ### Unary -/

theorem xor_ones (n a : Nat) (h : a < 2 ^ n) : (BitVec.ofInt n (2 ^ n - 1 : Int) ^^^ BitVec.ofInt n (Int.ofNat a)).toNat = 2 ^ n - 1 - a := by
  have e : BitVec.ofInt n (2 ^ n - 1 : Int) = BitVec.allOnes n := by
    apply BitVec.eq_of_toNat_eq
    have h1 : 0 < 2 ^ n := Nat.two_pow_pos n
    have h2 : ((2 : Int) ^ n - 1) = ((2 ^ n - 1 : Nat) : Int) := by rw [Int.natCast_sub (by omega)]; simp
    rw [h2, BitVec.ofInt_natCast, BitVec.toNat_ofNat, BitVec.toNat_allOnes]
    exact Nat.mod_eq_of_lt (by omega)
  rw [e, BitVec.allOnes_xor, BitVec.toNat_not]
  simp [Nat.mod_eq_of_lt h]

theorem not_wrap (k : IntKind) (n : Int) : k.wrap ((BitVec.ofInt k.bits (-1) ^^^ BitVec.ofInt k.bits n).toNat) = k.wrap (-1 - n) := by
  have hW : (0 : Int) < 2 ^ k.bits := by exact_mod_cast Nat.two_pow_pos k.bits
  have hnot : BitVec.ofInt k.bits (-1) ^^^ BitVec.ofInt k.bits n = BitVec.ofInt k.bits (-1 - n) := by
    have h1 : BitVec.ofInt k.bits (-1) = BitVec.allOnes k.bits := by
      apply BitVec.eq_of_toInt_eq
      cases k <;> decide
    rw [h1, BitVec.allOnes_xor]
    apply BitVec.eq_of_toNat_eq
    rw [BitVec.toNat_not, BitVec.toNat_ofInt, BitVec.toNat_ofInt]
    have hr0 := Int.emod_nonneg n (Int.ne_of_gt hW)
    have hr1 := Int.emod_lt_of_pos n hW
    have e : (-1 - n) % 2 ^ k.bits = 2 ^ k.bits - 1 - n % 2 ^ k.bits := by
      have h2 := Int.mul_ediv_add_emod n (2 ^ k.bits)
      have h3 : -1 - n = (2 ^ k.bits - 1 - n % 2 ^ k.bits) + 2 ^ k.bits * (-(n / 2 ^ k.bits) - 1) := by
        rw [Int.mul_sub, Int.mul_neg]; omega
      rw [h3, Int.add_mul_emod_self_left]
      exact Int.emod_eq_of_lt (by omega) (by omega)
    have e1 : ((2 ^ k.bits : Nat) : Int) = 2 ^ k.bits := by simp
    rw [e1, e]
    have hP := Nat.two_pow_pos k.bits
    omega
  rw [hnot, BitVec.toNat_ofInt]
  have e1 : ((2 ^ k.bits : Nat) : Int) = 2 ^ k.bits := by simp
  rw [e1]
  have h0 := Int.emod_nonneg (-1 - n) (Int.ne_of_gt hW)
  rw [Int.toNat_of_nonneg h0]
  unfold IntKind.wrap
  simp only [Int.emod_emod_of_dvd _ (Int.dvd_refl _)]

theorem aUn_val {op : UnOp} {x : AV} {vx : Value} (hx : VR ρ x vx) {v : AV} {m' : AMem} (h : aUn op x m = .mk v m') : Val P ρ m w v m' (Op.unary op vx) := by
  cases op with
  | neg =>
    have h : x.onInt (fun k n => wrapK k (Int.sub 0 n) fun n => OR.mk (.int k n) m) (OR.fail 109) = .mk v m' := h
    obtain ⟨k, n, rfl, h1⟩ := onInt_inv _ h fail_ne
    cases hx
    rw [wrapK_eq] at h1
    exact Val.mk h1 (by simp only [Op.unary, Op.intArith]; rfl) (.int _ _)
  | not =>
    have h : x.onBool (fun b => iBool (!b) m) (.fail 109) = .mk v m' := h
    obtain ⟨b, rfl, h1⟩ := onBool_inv _ h fail_ne
    cases hx
    exact iBool_val (b := !b) h1 (by simp [Op.unary])
  | xor =>
    have g : x.onInt (fun k n => match k.signed, n with
      | false, .ofNat a => bif2 (Nat.blt a (2 ^ k.bits)) (fInt (.ofNat (Nat.sub (2 ^ k.bits - 1) a)) fun n => OR.mk (.int k n) m) (OR.fail 108)
      | true, n => wrapK k (Int.sub (-1) n) fun n => OR.mk (.int k n) m
      | _, _ => OR.fail 108) (OR.fail 109) = .mk v m' := h
    clear h
    obtain ⟨k, n, rfl, h1⟩ := onInt_inv _ g fail_ne
    clear g
    cases hx
    split at h1
    · rename_i a hs
      rw [bif2_eq] at h1
      split at h1
      · rename_i hlt
        have hlt : a < 2 ^ k.bits := by simpa [Nat.blt_eq] using hlt
        rw [fInt_eq] at h1
        refine Val.mk h1 (uc := .int k (Int.ofNat (2 ^ k.bits - 1 - a))) ?_ (.int _ _)
        have hm : k.max = (2 ^ k.bits - 1 : Int) := by simp [IntKind.max, hs]
        have hx := xor_ones k.bits a hlt
        simp only [Op.unary, hs, Bool.false_eq_true, if_false, Op.intBits, hm, hx, Sem.run_pure]
        have : k.wrap (Int.ofNat (2 ^ k.bits - 1 - a)) = Int.ofNat (2 ^ k.bits - 1 - a) := by
          apply wrap_small
          have ht : topOf k = 2 ^ k.bits := by cases k <;> first | rfl | (simp [IntKind.signed] at hs)
          rw [ht]; have := Nat.two_pow_pos k.bits; omega
        rw [show ((2 ^ k.bits - 1 - a : Nat) : Int) = Int.ofNat (2 ^ k.bits - 1 - a) from rfl, this]
      · cases h1
    · rename_i hs
      rw [wrapK_eq] at h1
      refine Val.mk h1 ?_ (.int _ _)
      simp only [Op.unary, hs, if_true, Op.intBits, Sem.run_pure]
      rw [not_wrap]; rfl
    · cases h1
  | plus => cases h

/-! ### Fields, elements -/

theorem run_info {t : TypeId} {i : TypeInfo} (h : P.info? t = some i) (w : World) : (typeInfo t).run P w = .ok i w := by simp [typeInfo, h]

theorem aFieldAddr_val {s : TypeId} {x : AV} {vx : Value} (hx : VR ρ x vx) {f : Nat} {v : AV} {m' : AMem} (h : aFieldAddr P s x f m = .mk v m') : Val P ρ m w v m' (Instr.fieldAt s vx f) := by
  obtain ⟨b, off, rfl, h1⟩ := onPtr_inv _ h fail_ne
  cases hx with | ptr _ _ L hL =>
  cases hf : fieldAt P s f with
  | none => rw [hf] at h1; cases h1
  | some d =>
    rw [hf] at h1
    have h1 : (fNat (Nat.add off d) fun o => OR.mk (.ptr b o) m) = .mk v m' := h1
    rw [fNat_eq] at h1
    unfold fieldAt at hf
    split at hf
    · rename_i fs hu
      split at hf
      · rename_i fd hfd
        split at hf
        · rename_i i hi
          rw [bif2_eq] at hf
          split at hf
          · cases hf
          · rename_i hz
            cases hf
            have hz : ¬ i.size = 0 := fun e => hz (by rw [e]; rfl)
            refine Val.mk h1 (uc := .pointer (some ⟨L.blk, L.base + (off + fd.offset), none⟩)) ?_ (.ptr _ _ L hL)
            simp [Instr.fieldAt, run_underlying hu, hfd, Instr.sureAddr, fieldPlace, run_sizeOf hi, hz, addr_add, Nat.add_assoc]
        · cases hf
      · cases hf
    · cases hf

theorem partA_val {t : TypeId} {l : List AV} {cs : Array Value} (hl : VRs ρ l cs.toList) {off : Nat} {v : AV} {m' : AMem} (h : partA P t l off m = .mk v m') : Val P ρ m w v m' (part t cs off) := by
  unfold partA at h
  split at h
  · cases h
  · rename_i n hlay
    obtain ⟨d, i, hu, hi, rfl, hagg⟩ := layout_inv (w := w) hlay
    refine Val.mk h (uc := .agg (cs.extract off (off + i.size))) (by simp [part, hagg, run_sizeOf hi]) (.agg _ _ ?_)
    have := (hl.drop off).take i.size
    simpa [List.take_drop, Nat.add_comm] using this
  · rename_i n hlay
    obtain ⟨d, i, hu, hi, rfl, hagg⟩ := layout_inv (w := w) hlay
    split at h
    · rename_i u hu'
      obtain ⟨c, hc, hr⟩ := hl.get _ hu'
      have hc : cs[off]? = some c := by rw [← hc]; simp
      exact Val.mk h (by simp [part, hagg, hc]) hr
    · cases h

theorem aField_val {s : TypeId} {x : AV} {vx : Value} (hx : VR ρ x vx) {f : Nat} {v : AV} {m' : AMem} (h : aField P s x f m = .mk v m') : Val P ρ m w v m' (Instr.field s vx f) := by
  obtain ⟨l, rfl, h1⟩ := onAgg_inv _ h fail_ne
  cases hx with | agg _ cs hcs =>
  split at h1
  · rename_i fs hu
    split at h1
    · rename_i fd hfd
      obtain ⟨e, vc, hv, hr⟩ := partA_val (w := w) hcs h1
      exact ⟨e, vc, hv, by simp [Instr.field, run_underlying hu, hfd, asAgg, hr]⟩
    · cases h1
  · cases h1

theorem ixOf_arr {t : TypeId} {n size : Nat} (h : ixOf P t = .arr n size) : ∃ e i, P.underlying t = some (.array n e) ∧ P.info? e = some i ∧ size = i.size := by
  unfold ixOf at h
  split at h
  · rename_i n' e hu
    split at h
    · rename_i i hi; cases h; exact ⟨e, i, hu, hi, rfl⟩
    · cases h
  · split at h <;> cases h
  · cases h
theorem ixOf_sl {t : TypeId} {size : Nat} (h : ixOf P t = .sl size) : ∃ e i, P.underlying t = some (.slice e) ∧ P.info? e = some i ∧ size = i.size := by
  unfold ixOf at h
  split at h
  · split at h <;> cases h
  · rename_i e hu
    split at h
    · rename_i i hi; cases h; exact ⟨e, i, hu, hi, rfl⟩
    · cases h
  · cases h

theorem aIndexAddr_val {t : TypeId} {x ix : AV} {vx vi : Value} (hx : VR ρ x vx) (hi : VR ρ ix vi) {v : AV} {m' : AMem} (h : aIndexAddr P t x ix m = .mk v m') : Val P ρ m w v m' (Instr.indexAt t vx vi) := by
  obtain ⟨k, n, rfl, h1⟩ := onInt_inv _ h fail_ne
  cases hi
  cases n with
  | negSucc n => cases h1
  | ofNat i =>
    cases hix : ixOf P t with
    | bad => simp only [hix] at h1; cases h1
    | arr n size =>
      simp only [hix] at h1
      obtain ⟨b, off, rfl, h2⟩ := onPtr_inv _ h1 fail_ne
      cases hx with | ptr _ _ L hL =>
      rw [bif2_eq] at h2
      split at h2
      · rename_i hlt
        have hlt : i < n := by simpa [Nat.blt_eq] using hlt
        rw [fNat_eq] at h2
        obtain ⟨e, j, hu, hj, rfl⟩ := ixOf_arr hix
        refine Val.mk h2 (uc := .pointer (some ⟨L.blk, L.base + (off + i * j.size), none⟩)) ?_ (.ptr _ _ L hL)
        simp [Instr.indexAt, asIntOf, run_underlying hu, Instr.sureAddr, hlt, run_sizeOf hj, addr_add, Nat.add_assoc]
      · cases h2
    | sl size =>
      simp only [hix] at h1
      obtain ⟨b, off, len, cap, rfl, h2⟩ := onSlice_inv _ h1 fail_ne
      rw [bif2_eq] at h2
      split at h2
      · rename_i hlt
        have hlt : i < len := by simpa [Nat.blt_eq] using hlt
        rw [fNat_eq] at h2
        obtain ⟨e, j, hu, hj, rfl⟩ := ixOf_sl hix
        have go : ∀ (L : Loc) (c : Nat), ρ b = some L → Val P ρ m w v m' (Instr.indexAt t (.slice (some ⟨L.blk, L.base + off, none⟩) len c) (.int k (Int.ofNat i))) := fun L c hL => by
          refine Val.mk h2 (uc := .pointer (some ⟨L.blk, L.base + (off + i * j.size), none⟩)) ?_ (.ptr _ _ L hL)
          simp [Instr.indexAt, asIntOf, run_underlying hu, hlt, run_sizeOf hj, addr_add, Nat.add_assoc]
        cases hx with
        | sliceE _ _ _ _ L hL => exact go L _ hL
        | sliceO _ _ _ _ L hL => exact go L _ hL
      · cases h2

theorem aIndex_val {t : TypeId} {x ix : AV} {vx vi : Value} (hx : VR ρ x vx) (hi : VR ρ ix vi) {v : AV} {m' : AMem} (h : aIndex P t x ix m = .mk v m') : Val P ρ m w v m' (Instr.index t vx vi) := by
  unfold aIndex at h
  split at h
  · rename_i k i
    cases hi
    split at h
    · rename_i s hu
      obtain ⟨z, rfl, hz⟩ := str_inv hx
      split at h
      · rename_i b hb
        rw [← hz] at hb
        simp only [List.getElem?_map, Option.map_eq_some_iff] at hb
        obtain ⟨c, hc, rfl⟩ := hb
        have hc' : z[i]? = some c := by
          have hlt := (List.getElem?_eq_some_iff.1 hc)
          obtain ⟨q1, q2⟩ := hlt
          have q1' : i < z.size := by simpa using q1
          rw [getElem?_pos z i q1']
          congr 1
        refine Val.mk h (uc := .int .u8 c.toNat) ?_ (.int _ _)
        simp [Instr.index, asIntOf, run_underlying hu, hc']
      · cases h
    · rename_i n e cs hu
      cases hx with | agg _ cx hcx =>
      split at h
      · rename_i j hj
        rw [bif2_eq] at h
        split at h
        · rename_i hlt
          have hlt : i < n := by simpa [Nat.blt_eq] using hlt
          obtain ⟨e1, vc, hv, hr⟩ := partA_val (w := w) hcx h
          refine ⟨e1, vc, hv, ?_⟩
          have hr : (part e cx (i * j.size)).run P w = .ok vc w := hr
          simp [Instr.index, asIntOf, run_underlying hu, hlt, run_sizeOf hj, hr]
        · cases h
      · cases h
    · cases h
  · cases h

/-! ### Parts -/

theorem bnd_inv {x : Option AV} {d : Nat} {k : Nat → OR} {v : AV} {m' : AMem} (h : bnd x d k = .mk v m') :
    ∃ n, k n = .mk v m' ∧ ((x = none ∧ n = d) ∨ ∃ j, x = some (.int j (Int.ofNat n))) := by
  unfold bnd at h
  split at h
  · exact ⟨d, h, .inl ⟨rfl, rfl⟩⟩
  · rename_i j i; exact ⟨i, h, .inr ⟨j, rfl⟩⟩
  · cases h

/-- An operand that need not be there. -/
noncomputable def VO (ρ : Ren) : Option AV → Option Value → Prop
  | none, none => True
  | some a, some v => VR ρ a v
  | _, _ => False

theorem VO.isSome {x : Option AV} {v : Option Value} (h : VO ρ x v) : x.isSome = v.isSome := by
  cases x <;> cases v <;> first | rfl | exact h.elim

theorem VO.bound {x : Option AV} {v : Option Value} (h : VO ρ x v) {d n : Nat} (hn : (x = none ∧ n = d) ∨ ∃ j, x = some (.int j (Int.ofNat n))) : (v = none ∧ n = d) ∨ ∃ j, v = some (.int j (n : Int)) := by
  rcases hn with ⟨rfl, rfl⟩ | ⟨j, rfl⟩
  · cases v with
    | none => exact .inl ⟨rfl, rfl⟩
    | some v => exact h.elim
  · cases v with
    | none => exact h.elim
    | some v => cases h; exact .inr ⟨j, rfl⟩

/-- The bounds of a slice expression, all in order. -/
theorem run_bounds {isSlice : Bool} {len cap l h M : Nat} {lo hi mx : Option Value} (hl : (lo = none ∧ l = 0) ∨ ∃ j, lo = some (.int j (l : Int))) (hh : (hi = none ∧ h = len) ∨ ∃ j, hi = some (.int j (h : Int)))
    (hm : (mx = none ∧ M = cap) ∨ ∃ j, mx = some (.int j (M : Int))) (h1 : l ≤ h) (h2 : h ≤ M) (h3 : M ≤ cap) (hs : mx.isSome = true → hi.isSome = true) :
    (Instr.sliceBounds isSlice len cap lo hi mx).run P w = .ok (l, h, M) w := by
  have b : ∀ (k : IntKind) (i y : Nat) (c : BoundsCode), i ≤ y → (Instr.sliceBound (.int k (i : Int)) y c).run P w = .ok i w := fun k i y c hi => by
    have := run_sliceBound (P := P) w k (i : Int) y c (by omega) (by omega)
    simpa using this
  rcases hm with ⟨rfl, rfl⟩ | ⟨jm, rfl⟩
  · rcases hh with ⟨rfl, rfl⟩ | ⟨jh, rfl⟩ <;> rcases hl with ⟨rfl, rfl⟩ | ⟨jl, rfl⟩ <;> simp [Instr.sliceBounds, b, h1, h2]
  · rcases hh with ⟨rfl, rfl⟩ | ⟨jh, rfl⟩
    · simp at hs
    · rcases hl with ⟨rfl, rfl⟩ | ⟨jl, rfl⟩ <;> simp [Instr.sliceBounds, b, h1, h2, h3]

theorem run_sliceAt {t e : TypeId} {i : TypeInfo} {a : Option Addr} {len cap l h M : Nat} {lo hi mx : Option Value} (hu : P.underlying t = some (.slice e)) (hi' : P.info? e = some i)
    (hb : (Instr.sliceBounds true len cap lo hi mx).run P w = .ok (l, h, M) w) :
    (Instr.sliceAt t (.slice a len cap) lo hi mx).run P w = .ok (.slice (if M = l then a else a.map (·.add (l * i.size))) (h - l) (M - l)) w := by
  simp [Instr.sliceAt, Instr.slice, run_underlying hu, hb, run_sizeOf hi']

theorem cutAt_inv {b off size l h M : Nat} {v : AV} {m' : AMem} (e : cutAt b off size l h M m = .mk v m') :
    .mk (.slice b (if M = l then off else off + l * size) (h - l) (some (M - l))) m = OR.mk v m' := by
  unfold cutAt at e
  simp only [fNat_eq, bif2_eq] at e
  have : (if Nat.beq M l = true then off else off.add (l.mul size)) = (if M = l then off else off + l * size) := by
    by_cases q : M = l
    · rw [if_pos q, if_pos (by rw [q]; exact Nat.beq_refl l)]
    · rw [if_neg q, if_neg (fun z => q (Nat.eq_of_beq_eq_true z))]; rfl
  rw [this] at e
  exact e

theorem cut_val {b off size l h M : Nat} {v : AV} {m' : AMem} {s : Sem Value} (e : .mk (.slice b (if M = l then off else off + l * size) (h - l) (some (M - l))) m = OR.mk v m') {K : Loc}
    (hr : s.run P w = .ok (.slice (if M = l then some ⟨K.blk, K.base + off, none⟩ else (some (⟨K.blk, K.base + off, none⟩ : Addr)).map (·.add (l * size))) (h - l) (M - l)) w) (_ : Loc) (hK : ρ b = some K) (h1 : l ≤ h) (h2 : h ≤ M) : Val P ρ m w v m' s := by
  refine Val.mk e hr ?_
  by_cases q : M = l
  · rw [if_pos q, if_pos q]; exact .sliceE _ _ _ _ K hK (by omega)
  · rw [if_neg q, if_neg q]
    simp only [Option.map, addr_add]
    rw [Nat.add_assoc]
    exact .sliceE _ _ _ _ K hK (by omega)

theorem aSlice_val (V : View ρ m w) {t : TypeId} {x : AV} {vx : Value} (hx : VR ρ x vx) {lo hi mx : Option AV} {vlo vhi vmx : Option Value} (hlo : VO ρ lo vlo) (hhi : VO ρ hi vhi) (hmx : VO ρ mx vmx) {v : AV} {m' : AMem}
    (h : aSlice P t x lo hi mx m = .mk v m') : Val P ρ m w v m' (Instr.sliceAt t vx vlo vhi vmx) := by
  unfold aSlice at h
  split at h
  · -- a string
    rename_i s hu
    obtain ⟨z, rfl, hz⟩ := str_inv hx
    split at h
    · cases h
    · rw [fNat_eq] at h
      obtain ⟨H, h, hH⟩ := bnd_inv h
      obtain ⟨L, h, hL⟩ := bnd_inv h
      rw [bif2_eq] at h
      split at h
      · rename_i hc
        simp only [Bool.and_eq_true, Nat.ble_eq] at hc
        have hn := str_len hz
        have hb := run_bounds (P := P) (w := w) (isSlice := false) (len := z.size) (cap := z.size) (hlo.bound hL) (by rw [← hn]; exact hhi.bound hH) (.inl ⟨rfl, rfl⟩ : ((none : Option Value) = none ∧ z.size = z.size) ∨ _) hc.1 (by omega) (Nat.le_refl _) (by simp)
        have hmx' : vmx = none := by cases vmx with | none => rfl | some _ => exact hmx.elim
        subst hmx'
        refine Val.mk h (uc := .string (z.extract L H)) ?_ (.str _ _ ?_)
        · simp [Instr.sliceAt, Instr.slice, run_underlying hu, hb]
        · rw [← hz]; simp [List.map_take, List.map_drop, ByteArray.data_extract, Array.toList_extract, List.extract]
      · cases h
  · -- a slice
    rename_i e b off len cap hu
    split at h
    · rename_i j hj
      split at h
      · rename_i cp c
        obtain ⟨M, h, hM⟩ := bnd_inv h
        obtain ⟨H, h, hH⟩ := bnd_inv h
        obtain ⟨L, h, hL⟩ := bnd_inv h
        rw [bif2_eq] at h
        split at h
        · rename_i hc
          simp only [Bool.and_eq_true, Nat.ble_eq] at hc
          cases hx with | sliceE _ _ _ _ K hK hle =>
          have h := cutAt_inv h
          have hb := run_bounds (P := P) (w := w) (isSlice := true) (len := len) (cap := c) (hlo.bound hL) (hhi.bound hH) (hmx.bound hM) hc.1.1.2 hc.1.2 hc.2 (by
            rw [← hmx.isSome, ← hhi.isSome]; intro q; rcases Bool.or_eq_true_iff.1 hc.1.1.1 with a | a
            · exact a
            · rw [q] at a; cases a)
          exact cut_val h (run_sliceAt hu hj hb) K hK hc.1.1.2 hc.1.2
        · cases h
      · obtain ⟨H, h, hH⟩ := bnd_inv h
        obtain ⟨L, h, hL⟩ := bnd_inv h
        rw [bif2_eq] at h
        split at h
        · rename_i hc
          simp only [Bool.and_eq_true, Nat.ble_eq] at hc
          cases hx with | sliceO _ _ _ c K hK hle hE =>
          have hmx' : vmx = none := by cases vmx with | none => rfl | some _ => exact hmx.elim
          subst hmx'
          have hb := run_bounds (P := P) (w := w) (isSlice := true) (len := len) (cap := c) (hlo.bound hL) (hhi.bound hH) (.inl ⟨rfl, rfl⟩ : ((none : Option Value) = none ∧ c = c) ∨ _) hc.1 (by omega) (Nat.le_refl _) (by simp)
          have hrun := run_sliceAt (a := some ⟨K.blk, K.base + off, none⟩) hu hj hb
          rw [bif2_eq] at h
          split at h
          · rename_i h0
            have h0 : L = 0 := Nat.eq_of_beq_eq_true h0
            subst h0
            refine Val.mk h hrun ?_
            have : (if c = 0 then some (⟨K.blk, K.base + off, none⟩ : Addr) else Option.map (fun (x : Addr) => x.add (0 * j.size)) (some ⟨K.blk, K.base + off, none⟩)) = some ⟨K.blk, K.base + off, none⟩ := by
              split
              · rfl
              · simp [addr_add]
            rw [this]
            exact .sliceO _ _ _ _ K hK (by omega) (by simpa using hE)
          · rename_i h0
            rw [bif2_eq] at h
            split at h
            · rename_i hlt
              have hlt : L < len := by simpa [Nat.blt_eq] using hlt
              obtain ⟨ro, sg, E, N, cc, hb1, h⟩ := blkK_inv h
              rw [bif2_eq] at h
              split at h
              · rename_i hEj
                have hEj : E = j.size := Nat.eq_of_beq_eq_true hEj
                obtain ⟨K0, _, _, _, e1, _, _, e4, _⟩ := V.sim.blk b _ hb1
                rw [hK] at e1; cases e1
                simp only [fNat_eq] at h
                refine Val.mk h hrun ?_
                rw [if_neg (by omega)]
                simp only [Option.map, addr_add]
                rw [Nat.add_assoc]
                refine .sliceO _ _ _ _ K hK (by show H - L ≤ c - L; omega) ?_
                show K.base + (off + L * j.size) + (c - L) * K.E = K.csize
                rw [← hE, e4, hEj]
                have : L * j.size + (c - L) * j.size = c * j.size := by rw [← Nat.add_mul]; congr 1; omega
                omega
              · cases h
            · refine Val.mk h hrun ?_
              have : H - L = 0 := by rename_i hlt; simp [Nat.blt_eq] at hlt; omega
              rw [this]
              split
              · exact .emp _ _
              · exact .emp _ _
        · obtain ⟨ro, sg, E, N, cc, hb1, h⟩ := blkK_inv h
          rw [bif2_eq] at h
          split at h
          · rename_i hd
            simp only [Bool.and_eq_true, Nat.ble_eq, Nat.blt_eq] at hd
            obtain ⟨⟨⟨hLH, hEj⟩, hN⟩, hLt⟩ := hd
            have hEj : E = j.size := Nat.eq_of_beq_eq_true hEj
            have hN : off + H * j.size ≤ N := hN
            have hLt : L * j.size < H * j.size := hLt
            cases hx with | sliceO _ _ _ c K hK hle hE =>
            have hmx' : vmx = none := by cases vmx with | none => rfl | some _ => exact hmx.elim
            subst hmx'
            obtain ⟨K0, _, _, _, e1, _, e3, e4, e5, _⟩ := V.sim.blk b _ hb1
            rw [hK] at e1; cases e1
            have hpos : 0 < j.size := by
              rcases Nat.eq_zero_or_pos j.size with h0 | h0
              · rw [h0] at hLt; simp at hLt
              · exact h0
            have hcc : H * j.size ≤ c * j.size := by rw [e4, hEj] at hE; omega
            have hHc : H ≤ c := Nat.le_of_mul_le_mul_right hcc hpos
            have hLH' : L < H := Nat.lt_of_mul_lt_mul_right hLt
            have hb := run_bounds (P := P) (w := w) (isSlice := true) (len := len) (cap := c) (hlo.bound hL) (hhi.bound hH) (.inl ⟨rfl, rfl⟩ : ((none : Option Value) = none ∧ c = c) ∨ _) hLH hHc (Nat.le_refl _) (by simp)
            have hrun := run_sliceAt (a := some ⟨K.blk, K.base + off, none⟩) hu hj hb
            simp only [fNat_eq] at h
            refine Val.mk h hrun ?_
            rw [if_neg (by omega)]
            simp only [Option.map, addr_add]
            rw [Nat.add_assoc]
            refine .sliceO _ _ _ _ K hK (by show H - L ≤ c - L; omega) ?_
            show K.base + (off + L * j.size) + (c - L) * K.E = K.csize
            rw [← hE, e4, hEj]
            have : L * j.size + (c - L) * j.size = c * j.size := by rw [← Nat.add_mul]; congr 1; omega
            omega
          · cases h
      · obtain ⟨M, h, hM⟩ := bnd_inv h
        obtain ⟨H, h, hH⟩ := bnd_inv h
        obtain ⟨L, h, hL⟩ := bnd_inv h
        rw [bif2_eq] at h
        split at h
        · rename_i mv hc
          simp only [Bool.and_eq_true, Nat.ble_eq] at hc
          cases hx with | sliceO _ _ _ c K hK hle hE =>
          have h := cutAt_inv h
          have hM' : (vmx = none ∧ M = c) ∨ ∃ j, vmx = some (.int j (M : Int)) := by
            rcases hmx.bound hM with ⟨q, _⟩ | q
            · subst q; exact hmx.elim
            · exact .inr q
          have hb := run_bounds (P := P) (w := w) (isSlice := true) (len := len) (cap := c) (hlo.bound hL) (hhi.bound hH) hM' hc.1.1.2 hc.1.2 (by omega) (by
            intro _; rw [← hhi.isSome]; exact hc.1.1.1)
          exact cut_val h (run_sliceAt hu hj hb) K hK hc.1.1.2 hc.1.2
        · cases h
    · cases h
  · -- a nil slice
    rename_i e hu
    split at h
    · rename_i j hj
      obtain ⟨M, g1, hM⟩ := bnd_inv h
      obtain ⟨H, g2, hH⟩ := bnd_inv g1
      obtain ⟨L, g3, hL⟩ := bnd_inv g2
      clear h g1 g2; have h := g3; clear g3
      rw [bif2_eq] at h
      split at h
      · rename_i hc
        simp only [Bool.and_eq_true] at hc
        obtain rfl := Nat.eq_of_beq_eq_true hc.1.1.2
        obtain rfl := Nat.eq_of_beq_eq_true hc.1.2
        obtain rfl := Nat.eq_of_beq_eq_true hc.2
        cases hx
        have hb := run_bounds (P := P) (w := w) (isSlice := true) (len := 0) (cap := 0) (hlo.bound hL) (hhi.bound hH) (hmx.bound hM) (Nat.le_refl _) (Nat.le_refl _) (Nat.le_refl _) (by
            rw [← hmx.isSome, ← hhi.isSome]; intro q; rcases Bool.or_eq_true_iff.1 hc.1.1.1 with a | a
            · exact a
            · rw [q] at a; cases a)
        exact Val.mk h (run_sliceAt (a := none) hu hj hb) (by simpa using VR.nils)
      · cases h
    · cases h
  · -- an array
    rename_i n e b off hu
    split at h
    · rename_i j hj
      obtain ⟨M, h, hM⟩ := bnd_inv h
      obtain ⟨H, h, hH⟩ := bnd_inv h
      obtain ⟨L, h, hL⟩ := bnd_inv h
      rw [bif2_eq] at h
      split at h
      · rename_i hc
        simp only [Bool.and_eq_true, Nat.ble_eq] at hc
        cases hx with | ptr _ _ K hK =>
        have h := cutAt_inv h
        have hb := run_bounds (P := P) (w := w) (isSlice := false) (len := n) (cap := n) (hlo.bound hL) (hhi.bound hH) (hmx.bound hM) hc.1.1.2 hc.1.2 hc.2 (by
            rw [← hmx.isSome, ← hhi.isSome]; intro q; rcases Bool.or_eq_true_iff.1 hc.1.1.1 with a | a
            · exact a
            · rw [q] at a; cases a)
        refine cut_val h ?_ K hK hc.1.1.2 hc.1.2
        simp only [Instr.sliceAt, Sem.run_bind, run_underlying hu, Result.andThen_ok, Instr.sureAddr, Sem.run_pure, hb, run_sizeOf hj]
        by_cases q : M = L
        · rw [if_pos q, if_pos q]
        · rw [if_neg q, if_neg q]; rfl
      · cases h
    · cases h
  · cases h

end
end Go.Ev
end
section
namespace Go.Ev

section
variable {P : Program} {ρ : Ren} {m : AMem} {w : World}

theorem Sem.value_run {s : Sem Value} {v : Value} {w w' : World} (h : s.run P w = .ok v w') : (do pure (Next.value (← s)) : Sem Next).run P w = .ok (.value v) w' := by simp [h]

/-! ### Zero values -/

theorem VR.cells {a : AV} {v : Value} (h : VR ρ a v) (hp : a.onAgg (fun _ => true) a.plain = true) : VRs ρ a.cells v.cells.toList := by
  have h0 := h
  cases h <;> first
    | (cases hp; done)
    | exact .cons _ _ _ _ h0 .nil
    | assumption

theorem zeroA_inv {t : TypeId} {l : List AV} (h : zeroA P t = some l) : ∃ i z, P.info? t = some i ∧ i.zero = some z ∧ VRs ρ l z.cells.toList := by
  unfold zeroA at h
  split at h
  · rename_i i hi
    split at h
    · rename_i cs hz; cases h; exact ⟨i, _, hi, hz, scals_rel ρ _⟩
    · rename_i v hne hz
      cases h
      refine ⟨i, v, hi, hz, ?_⟩
      have : v.cells = #[v] := by
        cases v <;> first | rfl | (rename_i cs; exact absurd rfl (hne cs))
      rw [this]
      exact .cons _ _ _ _ (scal_rel ρ v) .nil
    · cases h
  · cases h

theorem run_zero {t : TypeId} {i : TypeInfo} {z : Value} (hi : P.info? t = some i) (hz : i.zero = some z) (w : World) : (zeroValue t).run P w = .ok z w := by simp [zeroValue, typeInfo, hi, hz]

theorem aAlloc_run (V : View ρ m w) {t : TypeId} {v : AV} {m' : AMem} (h : aAlloc P t m = .mk v m') (hf : Fresh ρ m.next m'.next) : Runs P ρ m w v m' (do pure (.value (← Instr.alloc t true (.tuple #[])))) := by
  unfold aAlloc at h
  split at h
  · rename_i l hl
    obtain ⟨i, z, hi, hz, hr⟩ := zeroA_inv (ρ := ρ) hl
    obtain ⟨m1, c, hn, hg, hc, hk⟩ := newBlk_inv h
    cases hk
    refine ⟨_, _, .pointer (some ⟨w.heap.size, 0 + 0, none⟩), V.new (rest := []) hr hn hg hc (hf _ (Nat.le_refl _) (by omega)) (A := z.cells) (by simp) (elem := t) (fz := (0, 0)) (fun i _ => by simp) (fun _ i => by simp), .ptr _ _ _ (Ren.set_same _ _ _), .inl ?_⟩
    refine Sem.value_run ?_
    simp [Instr.alloc, run_zero hi hz, newVar, newRow]
  · cases h

theorem box_run (V : View ρ m w) {t : TypeId} {x : AV} {vx : Value} (hx : VR ρ x vx) {v : AV} {m' : AMem} (h : bif2 (x.onAgg (fun _ => true) x.plain) (newBlk false 1 x.cells m fun b m => .mk (.ptr b 0) m) (.fail 112) = .mk v m') (hf : Fresh ρ m.next m'.next) :
    Runs P ρ m w v m' (do pure (.value (← Instr.box t vx))) := by
  rw [bif2_eq] at h
  split at h
  · rename_i hp
    obtain ⟨m1, c, hn, hg, hc, hk⟩ := newBlk_inv h
    cases hk
    refine ⟨_, _, .pointer (some ⟨w.heap.size, 0 + 0, none⟩), V.new (rest := []) (hx.cells hp) hn hg hc (hf _ (Nat.le_refl _) (by omega)) (A := vx.cells) (by simp) (elem := t) (fz := (0, 0)) (fun i _ => by simp) (fun _ i => by simp), .ptr _ _ _ (Ren.set_same _ _ _), .inl ?_⟩
    refine Sem.value_run ?_
    simp [Instr.box, newVar, newRow]
  · cases h

/-! ### Parts laid into an aggregate -/

/-- Parts, each with its place. -/
inductive VPs (ρ : Ren) : List (Nat × AV) → List (Nat × Value) → Prop
  | nil : VPs ρ [] []
  | cons (i : Nat) (a : AV) (v : Value) (l : List (Nat × AV)) (l' : List (Nat × Value)) (h : VR ρ a v) (hs : VPs ρ l l') : VPs ρ ((i, a) :: l) ((i, v) :: l')

theorem foldl_set (off : Nat) : ∀ (l : List Value) (j : Nat) (cs : Array Value), off + j + l.length ≤ cs.size →
    ((l.zipIdx j).foldl (fun (cs : Array Value) (p : Value × Nat) => cs.setIfInBounds (off + p.2) p.1) cs).toList = cs.toList.take (off + j) ++ l ++ cs.toList.drop (off + j + l.length)
  | [], j, cs, _ => by simp
  | v :: l, j, cs, h => by
    simp only [List.zipIdx_cons, List.foldl_cons]
    rw [foldl_set off l (j + 1) _ (by simp at h ⊢; omega)]
    simp only [Array.toList_setIfInBounds]
    simp only [List.length_cons] at h
    have hlt : off + j < cs.toList.length := by simp; omega
    rw [show off + (j + 1) = off + j + 1 from by omega]
    rw [List.take_succ_eq_append_getElem (by simpa using hlt)]
    have e1 : (cs.toList.set (off + j) v).take (off + j) = cs.toList.take (off + j) := by
      apply List.ext_getElem?
      intro i
      by_cases hi : i < off + j
      · simp [hi, List.getElem?_set_ne (show off + j ≠ i from by omega)]
      · simp [List.getElem?_take, hi]
    have e2 : (cs.toList.set (off + j) v).drop (off + j + 1 + l.length) = cs.toList.drop (off + j + (l.length + 1)) := by
      apply List.ext_getElem?
      intro i
      simp only [List.getElem?_drop]
      rw [List.getElem?_set_ne (by omega)]
      congr 1; omega
    rw [e1, e2]
    simp [List.append_assoc]

theorem fill_run {place : Nat → Option (Nat × Nat)} {place' : Nat → Option (Nat × Nat)} (hp : ∀ i x, place i = some x → place' i = some x) : ∀ {ps : List (Nat × AV)} {qs : List (Nat × Value)} (_ : VPs ρ ps qs) {l : List AV} {cs : Array Value} (_ : VRs ρ l cs.toList) {r : List AV},
    fillA place l ps = some r → ∃ cr, Instr.fill place' cs qs = some cr ∧ VRs ρ r cr.toList
  | _, _, .nil, l, cs, hl, r, h => by simp [fillA] at h; subst h; exact ⟨cs, rfl, hl⟩
  | _, _, .cons i a v ps qs ha hs, l, cs, hl, r, h => by
    simp only [fillA] at h
    split at h
    · cases h
    · rename_i off size hpl
      rw [bif2_eq] at h
      split at h
      · rename_i hc
        simp only [Bool.and_eq_true, Nat.ble_eq] at hc
        obtain ⟨⟨h1, h2⟩, h3⟩ := hc
        have h1 : a.cells.length = size := Nat.eq_of_beq_eq_true h1
        have hpl' : a.onAgg (fun _ => true) a.plain = true := by
          cases a <;> first | exact h3 | (simp [AV.onTup] at h3)
        have hcells := ha.cells hpl'
        have hvs : v.cells.size = size := by have := hcells.length; simp at this; omega
        have hlc : l.length = cs.size := by have := hl.length; simpa using this
        have h2' : off + size ≤ l.length := h2
        obtain ⟨cr, e1, e2⟩ := fill_run hp hs (l := l.take off ++ a.cells ++ l.drop (off + size)) (cs := (v.cells.toList.zipIdx.foldl (fun (cs : Array Value) (p : Value × Nat) => cs.setIfInBounds (off + p.2) p.1) cs)) (by
          rw [foldl_set off _ 0 cs (by simp; omega)]
          simp only [Nat.add_zero, Array.length_toList, hvs]
          exact ((hl.take off).append hcells).append (hl.drop (off + size))) h
        refine ⟨cr, ?_, e2⟩
        simp only [Instr.fill, hp _ _ hpl, hvs]
        rw [if_neg (by simp; omega), ← e1]
        congr 1
        rw [← Array.foldl_toList]
        simp
      · cases h

theorem run_mapM_places (fs : List Field) (h : fs.all (fun f => (P.info? f.type).isSome) = true) (w : World) :
    ∃ ps : List (Nat × Nat), (fs.mapM (fun (f : Field) => (do pure (f.offset, ← sizeOf f.type) : Sem (Nat × Nat)))).run P w = .ok ps w ∧ ∀ (i : Nat) (f : Field) (j : TypeInfo), fs[i]? = some f → P.info? f.type = some j → ps[i]? = some (f.offset, j.size) := by
  induction fs with
  | nil => exact ⟨[], by simp, fun i f j h => by simp at h⟩
  | cons f fs ih =>
    simp only [List.all_cons, Bool.and_eq_true] at h
    obtain ⟨ps, h1, h2⟩ := ih h.2
    obtain ⟨j, hj⟩ := Option.isSome_iff_exists.1 h.1
    refine ⟨(f.offset, j.size) :: ps, by simp only [List.mapM_cons, Sem.run_bind, run_sizeOf hj, Result.andThen_ok, Sem.run_pure, h1], fun i g q hg hq => ?_⟩
    cases i with
    | zero => simp at hg; subst hg; rw [hj] at hq; cases hq; rfl
    | succ i => simpa using h2 i g q (by simpa using hg) hq

theorem aBuild_run {t : TypeId} {ps : List (Nat × AV)} {qs : List (Nat × Value)} (hps : VPs ρ ps qs) {v : AV} {m' : AMem} (h : aBuild P t ps m = .mk v m') : Val P ρ m w v m' (Instr.build t qs.toArray) := by
  unfold aBuild at h
  split at h
  · rename_i z fs hz hu
    obtain ⟨i, zv, hi, hzv, hzr⟩ := zeroA_inv (ρ := ρ) hz
    rw [bif2_eq] at h
    split at h
    · rename_i hk
      split at h
      · rename_i l hl
        obtain ⟨pl, p1, p2⟩ := run_mapM_places (P := P) fs.toList (by simpa [fieldsKnown] using hk) w
        obtain ⟨cr, f1, f2⟩ := fill_run (place' := (pl.toArray[·]?)) (fun i x e => by
          unfold fieldPlaceA at e
          split at e
          · rename_i f hf
            split at e
            · rename_i j hj; cases e; simpa using p2 i f j (by simpa using hf) hj
            · cases e
          · cases e) hps hzr hl
        refine Val.mk h (uc := .agg cr) ?_ (.agg _ _ f2)
        have hm : (fs.mapM (fun (f : Field) => (do pure (f.offset, ← sizeOf f.type) : Sem (Nat × Nat)))).run P w = .ok pl.toArray w := by
          rw [Array.mapM_eq_mapM_toList, Sem.run_map, p1]; rfl
        simp only [Instr.build, Sem.run_bind, run_zero hi hzv, Result.andThen_ok, run_underlying hu, hm, f1]
        rfl
      · cases h
    · cases h
  · rename_i z n e hz hu
    obtain ⟨i, zv, hi, hzv, hzr⟩ := zeroA_inv (ρ := ρ) hz
    split at h
    · rename_i j hj
      split at h
      · rename_i l hl
        obtain ⟨cr, f1, f2⟩ := fill_run (place' := fun i => some (i * j.size, j.size)) (fun i x e => e) hps hzr hl
        refine Val.mk h (uc := .agg cr) ?_ (.agg _ _ f2)
        simp only [Instr.build, Sem.run_bind, run_zero hi hzv, Result.andThen_ok, run_underlying hu, run_sizeOf hj, f1]
        rfl
      · cases h
    · cases h
  · cases h

/-! ### Slices of one's own -/

theorem elemInfo_inv {t : TypeId} {i : TypeInfo} {z : List AV} (h : elemInfo P t = some (i, z)) :
    ∃ e zv, P.underlying t = some (.slice e) ∧ P.info? e = some i ∧ i.zero = some zv ∧ VRs ρ z zv.cells.toList ∧ z.length = i.size ∧ 0 < i.size ∧ i.bytes ≤ 4096 ∧ zv.cells.size = i.size := by
  unfold elemInfo at h
  split at h
  · rename_i e hu
    split at h
    · rename_i i' z' hi hz
      rw [bif2_eq] at h
      split at h
      · rename_i hc
        cases h
        simp only [Bool.and_eq_true, Nat.blt_eq, Nat.ble_eq] at hc
        obtain ⟨i2, zv, e1, e2, e3⟩ := zeroA_inv (ρ := ρ) hz
        rw [hi] at e1; cases e1
        have hl : z.length = i.size := Nat.eq_of_beq_eq_true hc.1.1
        have := e3.length
        simp at this
        exact ⟨e, zv, hu, hi, e2, e3, hl, hc.1.2, hc.2, by omega⟩
      · cases h
    · cases h
  · cases h

theorem repA_length (z : List AV) : ∀ n, (repA z n).length = n * z.length
  | 0 => by simp [repA]
  | n + 1 => by simp [repA, repA_length z n, Nat.add_mul]; omega

theorem repA_get (z : List AV) (hz : 0 < z.length) : ∀ n i, i < n * z.length → (repA z n)[i]? = z[i % z.length]?
  | 0, i, h => by simp at h
  | n + 1, i, h => by
    simp only [repA]
    by_cases hi : i < z.length
    · rw [List.getElem?_append_left hi, Nat.mod_eq_of_lt hi]
    · have hi : z.length ≤ i := by omega
      rw [List.getElem?_append_right hi, repA_get z hz n _ (by rw [Nat.add_mul] at h; omega)]
      rw [Nat.mod_eq_sub_mod hi]

theorem repA_rel {z : List AV} {zc : Array Value} (h : VRs ρ z zc.toList) (hz : 0 < z.length) (n : Nat) : VRs ρ (repA z n) (madeCells zc (n * zc.size)).toList := by
  have hl : z.length = zc.size := by simpa using h.length
  refine VRs.of_get (by rw [repA_length, hl]; simp [madeCells]) fun i v hv => ?_
  have hi : i < n * z.length := by
    rcases Nat.lt_or_ge i (n * z.length) with q | q
    · exact q
    · rw [List.getElem?_eq_none (by rw [repA_length]; exact q)] at hv; cases hv
  rw [repA_get z hz n i hi] at hv
  obtain ⟨c, hc, hr⟩ := h.get _ hv
  refine ⟨c, ?_, hr⟩
  have hm : i % zc.size < zc.size := Nat.mod_lt _ (by omega)
  rw [hl] at hc hi
  have hc' : zc[i % zc.size]? = some c := by rw [← hc]; simp
  simp [madeCells, hi]
  rw [getElem!_pos zc _ hm]
  rw [Array.getElem?_eq_getElem hm] at hc'
  exact Option.some.inj hc'

theorem aBuildSlice_run (V : View ρ m w) {t : TypeId} {n : Nat} {ps : List (Nat × AV)} {qs : List (Nat × Value)} (hps : VPs ρ ps qs) {v : AV} {m' : AMem} (h : aBuildSlice P t n ps m = .mk v m') (hf : Fresh ρ m.next m'.next) :
    Runs P ρ m w v m' (do pure (.value (← Instr.buildSlice t n qs.toArray))) := by
  unfold aBuildSlice at h
  split at h
  · rename_i i z he
    obtain ⟨e, zv, hu, hi, hz, hzr, hzl, hpos, hby, hzs⟩ := elemInfo_inv (ρ := ρ) he
    rw [bif2_eq] at h
    split at h
    · rename_i hc
      have hc : n * i.size ≤ 65536 := by simpa [Nat.ble_eq] using hc
      split at h
      · rename_i l hl
        obtain ⟨cr, f1, f2⟩ := fill_run (place' := fun j => some (j * i.size, i.size)) (fun i x e => e) hps (repA_rel hzr (by omega) n) hl
        obtain ⟨m1, c, hn, hg, hcc, hk⟩ := newBlk_inv h
        cases hk
        have hst := V.new (rest := []) f2 hn hg hcc (hf _ (Nat.le_refl _) (by omega)) (A := cr) (by simp) (elem := e) (fz := (0, 0)) (fun i _ => by simp) (fun _ i => by simp) (E := i.size)
        refine ⟨_, _, .slice (some ⟨w.heap.size, 0 + 0, none⟩) n n, hst, .sliceE _ _ _ _ _ (Ren.set_same _ _ _) (Nat.le_refl _), .inl ?_⟩
        refine Sem.value_run ?_
        have hle : ¬ (n * i.size > 2 ^ 24) := by omega
        rw [hzs] at f1
        by_cases h0 : n * i.size = 0
        · have e0 : (madeCells zv.cells (n * i.size)) = (Array.range (n * i.size)).map (fun j => (#[] : Array Value)[j % (#[] : Array Value).size]!) := by rw [h0]; simp [madeCells, Array.range_zero']
          simp only [Instr.buildSlice, Sem.run_bind, run_underlying hu, Result.andThen_ok, run_sizeOf hi, if_neg hle, if_pos h0, Sem.run_pure, Sem.run_ite]
          rw [← e0, f1]
          simp [newRow]
        · simp only [Instr.buildSlice, Sem.run_bind, run_underlying hu, Result.andThen_ok, run_sizeOf hi, if_neg hle, if_neg h0, Sem.run_pure, Sem.run_ite, run_zero hi hz]
          have : (Array.range (n * i.size)).map (fun x => zv.cells[x % zv.cells.size]!) = madeCells zv.cells (n * i.size) := rfl
          rw [this, f1]
          simp [newRow]
      · cases h
    · cases h
  · cases h

theorem aMakeSlice_run (V : View ρ m w) {t : TypeId} {l c : AV} {vl vc : Value} (hl : VR ρ l vl) (hc : VR ρ c vc) {v : AV} {m' : AMem} (h : aMakeSlice P t l c m = .mk v m') (hf : Fresh ρ m.next m'.next) :
    Runs P ρ m w v m' (do pure (.value (← Instr.makeSlice t vl vc))) := by
  unfold aMakeSlice at h
  split at h
  · rename_i i z he
    obtain ⟨e, zv, hu, hi, hz, hzr, hzl, hpos, hby, hzs⟩ := elemInfo_inv (ρ := ρ) he
    split at h
    · rename_i kl L kc C
      rw [bif2_eq] at h
      split at h
      · rename_i hq
        simp only [Bool.and_eq_true, Nat.ble_eq] at hq
        cases hl; cases hc
        obtain ⟨m1, cc, hn, hg, hcc, hk⟩ := newBlk_inv h
        cases hk
        have hst := V.new (rest := []) (repA_rel hzr (by omega) C) hn hg hcc (hf _ (Nat.le_refl _) (by omega)) (A := madeCells zv.cells (C * zv.cells.size)) (by simp) (elem := e) (fz := (0, 0)) (fun i _ => by simp) (fun _ i => by simp) (E := i.size)
        refine ⟨_, _, .slice (some ⟨w.heap.size, 0 + 0, none⟩) L C, hst, .sliceE _ _ _ _ _ (Ren.set_same _ _ _) hq.1, .inl ?_⟩
        refine Sem.value_run ?_
        have hb : (i.bytes : Int) * (Int.ofNat C) ≤ 281474976710656 := by
          have : i.bytes * C ≤ 4096 * 65536 := Nat.mul_le_mul hby hq.2
          have h2 : ((i.bytes * C : Nat) : Int) ≤ 281474976710656 := by omega
          simpa using h2
        have := run_make (P := P) w t e i zv hu hi hz kl kc (Int.ofNat L) (Int.ofNat C) (by simp) (by simpa using hq.1) hb (by have := hq.2; simp; omega)
        rw [hzs]
        simpa using this
      · cases h
    · cases h
  · cases h

end
end Go.Ev
end
section
namespace Go.Ev

section
variable {P : Program} {ρ : Ren} {m : AMem} {w : World}

theorem cells_plain {a : AV} (h : a.cells.all AV.plain = true) : a.onAgg (fun _ => true) a.plain = true := by
  cases a <;> first | rfl | (simp [AV.cells, AV.onAgg, AV.plain] at h)

theorem aStore_run (V : View ρ m w) {t : TypeId} {a x : AV} {va vx : Value} (ha : VR ρ a va) (hx : VR ρ x vx) {v : AV} {m' : AMem} (h : aStore P t a x m = .mk v m') :
    Runs P ρ m w v m' (do Instr.storeAt t va vx; pure .skip) := by
  obtain ⟨b, off, rfl, h0⟩ := onPtr_inv _ h fail_ne
  clear h
  cases ha with | ptr _ _ L hL =>
  cases hlay : layout P t with
  | none => rw [hlay] at h0; cases h0
  | some lay =>
    rw [hlay] at h0
    obtain ⟨g, n⟩ := lay
    obtain ⟨d, i, hu, hi, rfl, hagg⟩ := layout_inv (w := w) hlay
    have h : storeL m b off x (g, i.size) = .mk v m' := h0
    unfold storeL at h
    rw [bif2_eq] at h
    split at h
    · rename_i hl
      have hl : x.cells.length = i.size := Nat.eq_of_beq_eq_true hl
      obtain ⟨_, _, _, _, _, _, hp, _⟩ := storeK_inv h
      have hcs := hx.cells (cells_plain hp)
      obtain ⟨m1, w1, hk, hrun, hst⟩ := V.store (P := P) hL hcs h
      cases hk
      refine ⟨ρ, w1, undef, hst, VR.undef _, .inr ⟨?_, rfl⟩⟩
      have hsz : vx.cells.size = i.size := by have := hcs.length; simp at this; omega
      simp [Instr.storeAt, Instr.sureAddr, storeVar, run_sizeOf hi, hsz, hrun]
    · cases h

/-! ### What is handed to append and copy -/

theorem lenA_run {x : AV} {vx : Value} (hx : VR ρ x vx) {n : Nat} (h : lenA x = some n) (w : World) : (Builtin.lenOf vx).run P w = .ok n w := by
  cases hx <;> simp [lenA] at h <;> subst h <;> simp [Builtin.lenOf]
  rename_i s hs; rw [← hs]; simp

theorem elemsK_inv (V : View ρ m w) {size n : Nat} {x : AV} {vx : Value} (hx : VR ρ x vx) {k : List AV → OR} {v : AV} {m' : AMem} (h : elemsK m size n x k = .mk v m') :
    ∃ l cs, k l = .mk v m' ∧ VRs ρ l cs ∧ cs.length = n * size ∧ (∀ w1 : World, w1.heap = w.heap → (Builtin.firstCells size n vx).run P w1 = .ok cs.toArray w1) ∧
      ∀ b off len cap, x = .slice b off len cap → ∀ ro sg E N c, m.t.get b = some (.cells ro sg E N c) → l = cellsFrom c off (n * size) := by
  unfold elemsK at h
  split at h
  · rename_i b off len cap
    rw [bif2_eq] at h
    split at h
    · obtain ⟨ro, sg, E, N, c, h1, h2, h3⟩ := loadK_inv h
      have go : ∀ (L : Loc) (cc : Nat), ρ b = some L → ∃ l cs, k l = .mk v m' ∧ VRs ρ l cs ∧ cs.length = n * size ∧ (∀ w1 : World, w1.heap = w.heap → (Builtin.firstCells size n (.slice (some ⟨L.blk, L.base + off, none⟩) len cc)).run P w1 = .ok cs.toArray w1) ∧
          ∀ b' off' len' cap', AV.slice b off len cap = .slice b' off' len' cap' → ∀ ro sg E N c, m.t.get b' = some (.cells ro sg E N c) → l = cellsFrom c off' (n * size) := fun L cc hL => by
        obtain ⟨vs, hl, hrun, hr⟩ := V.load (P := P) h1 hL h2
        exact ⟨_, vs, h3, hr, hl, fun w1 hw => by simpa [Builtin.firstCells] using hrun w1 hw, fun b' off' len' cap' he ro' sg' E' N' c' hg => by cases he; rw [h1] at hg; cases hg; rfl⟩
      cases hx with
      | sliceE _ _ _ _ L hL => exact go L _ hL
      | sliceO _ _ _ _ L hL => exact go L _ hL
    · cases h
  · rw [bif2_eq] at h
    split at h
    · rename_i hn
      obtain rfl : n = 0 := Nat.eq_of_beq_eq_true hn
      cases hx
      exact ⟨[], [], h, .nil, by simp, fun w1 _ => by simp [Builtin.firstCells], fun _ _ _ _ he => by cases he⟩
    · cases h
  · rw [bif2_eq] at h
    split at h
    · rename_i hn
      obtain rfl : n = 0 := Nat.eq_of_beq_eq_true hn
      cases hx
      exact ⟨[], [], h, .nil, by simp, fun w1 _ => by simp [Builtin.firstCells, loadCells, loadCellsFrom], fun _ _ _ _ he => by cases he⟩
    · cases h
  · rename_i s
    rw [bif2_eq] at h
    split at h
    · rename_i hc
      simp only [Bool.and_eq_true, Nat.ble_eq] at hc
      obtain rfl : size = 1 := Nat.eq_of_beq_eq_true hc.1
      obtain ⟨z, rfl, hz⟩ := str_inv hx
      refine ⟨_, (z.data.toList.take n).map fun b => .int .u8 b.toNat, h, ?_, ?_, fun w1 _ => ?_, fun _ _ _ _ he => by cases he⟩
      · rw [← hz, ← List.map_take, List.map_map]
        generalize z.data.toList.take n = q
        induction q with
        | nil => exact .nil
        | cons a q ih => exact .cons _ _ _ _ (.int _ _) ih
      · have := str_len hz
        have h2 := hc.2
        simp; omega
      · simp only [Builtin.firstCells, Sem.run_pure]
        congr 1
        apply Array.ext'
        simp [ByteArray.data_extract, Array.toList_extract, List.extract, List.map_take]
    · cases h
  · cases h

theorem View.world (V : View ρ m w) {w1 : World} (h : w1.heap = w.heap) : View ρ m w1 := ⟨V.sim.world h, V.wf⟩

/-! ### append -/

/-- What append asks of the types. -/
structure ApT (P : Program) (ats : Array TypeId) (st e : TypeId) (i : TypeInfo) (z : Value) : Prop where
  h0 : ats[0]? = some st
  h1 : ∃ xt d, ats[1]? = some xt ∧ P.underlying xt = some d ∧ (match d with | .int _ => true | _ => false) = false
  hu : P.underlying st = some (.slice e)
  hi : P.info? e = some i
  hz : i.zero = some z
  hb : i.bytes ≤ 4096

/-- append, of what is no number. -/
noncomputable def apRest (e : TypeId) (size : Nat) (base : Option Addr) (sLen sCap : Nat) (x : Value) : Sem Value := do
  let n ← Builtin.lenOf x
  let need := sLen + n
  if need ≤ sCap then
    let new ← Builtin.firstCells size n x
    if let some a := base then storeCells (a.add (sLen * size)) new.toList
    pure (.slice base need sCap)
  else
    if (need : Int) > IntKind.i64.max ∧ (false = true ∨ (← typeInfo e).bytes = 0) then runtimePanic (.error "growslice: len out of range")
    if Builtin.nextslicecap need sCap * (← typeInfo e).bytes > 2 ^ 48 then (if false = true then runtimePanic (.error "growslice: len out of range") else do
      if !(← Builtin.mayShare size sLen n base x) then mark .noRoom
      unsupported (.resourceLimit "append: a slice or a string whose bytes no memory bears"))
    let newCap ← choose (.appendCap need sCap e)
    askRoom (newCap * (← typeInfo e).bytes)
    let old ← Builtin.firstCells size sLen (.slice base sLen sCap)
    let new ← Builtin.firstCells size n x
    let rest := Builtin.zeroCells (← zeroValue e).cells (newCap - need)
    pure (.slice (some (← newRow e (old ++ new ++ rest))) need newCap)

theorem run_append_rest {ats : Array TypeId} {st e : TypeId} {i : TypeInfo} {z : Value} (A : ApT P ats st e i z) (ty : TypeId) (base : Option Addr) (sLen sCap : Nat) (vx : Value) :
    (Builtin.append_ ats ty #[.slice base sLen sCap, vx]).run P w = (apRest e i.size base sLen sCap vx).run P w := by
  obtain ⟨xt, d, h1, h2, h3⟩ := A.h1
  cases d <;> first
    | (cases h3; done)
    | (unfold Builtin.append_
       have g0 : (#[Value.slice base sLen sCap, vx])[0]? = some (Value.slice base sLen sCap) := rfl
       have g1 : (#[Value.slice base sLen sCap, vx])[1]? = some vx := rfl
       simp only [A.h0, h1, g0, g1, Sem.run_bind, run_underlying A.hu, run_underlying h2, run_sizeOf A.hi, Result.andThen_ok, Sem.run_pure]
       rfl)

theorem run_append_room {ats : Array TypeId} {st e : TypeId} {i : TypeInfo} {z : Value} (A : ApT P ats st e i z) (ty : TypeId) {base : Option Addr} {sLen sCap n : Nat} {vx : Value} (hl : (Builtin.lenOf vx).run P w = .ok n w) (hle : sLen + n ≤ sCap) :
    (Builtin.append_ ats ty #[.slice base sLen sCap, vx]).run P w = ((Builtin.firstCells i.size n vx).run P w).andThen fun new w1 =>
      (match base with | some a => storeCells (a.add (sLen * i.size)) new.toList | none => pure () : Sem Unit).run P w1 |>.andThen fun _ w2 => .ok (.slice base (sLen + n) sCap) w2 := by
  rw [run_append_rest A]
  cases base <;> simp [apRest, hl, hle]

theorem run_append_new {ats : Array TypeId} {st e : TypeId} {i : TypeInfo} {z : Value} (A : ApT P ats st e i z) (ty : TypeId) {base : Option Addr} {sLen sCap n : Nat} {vx : Value} (hl : (Builtin.lenOf vx).run P w = .ok n w) (hgt : sCap < sLen + n) (hs : sLen + n ≤ 2097152)
    {old new : List Value} (ho : ∀ w1 : World, w1.heap = w.heap → (Builtin.firstCells i.size sLen (.slice base sLen sCap)).run P w1 = .ok old.toArray w1) (hn : ∀ w1 : World, w1.heap = w.heap → (Builtin.firstCells i.size n vx).run P w1 = .ok new.toArray w1) :
    ∃ cap, sLen + n ≤ cap ∧ (Builtin.append_ ats ty #[.slice base sLen sCap, vx]).run P w =
      .ok (.slice (some ⟨w.heap.size, 0, none⟩) (sLen + n) cap) (({ w with drawn := w.drawn + 1 } : World).alloc (.cells ((old ++ new) ++ (Builtin.zeroCells z.cells (cap - (sLen + n))).toList).toArray e)) := by
  refine ⟨(Question.appendCap (sLen + n) sCap e).cut (w.tape w.drawn (.appendCap (sLen + n) sCap e)), by show sLen + n ≤ (sLen + n) + _; omega, ?_⟩
  have hle : ¬ (sLen + n ≤ sCap) := by omega
  have h63 : ¬ (9223372036854775807 < ((sLen : Int) + (n : Int))) := by omega
  have hfit : Builtin.nextslicecap (sLen + n) sCap * i.bytes ≤ 281474976710656 := growslice_fits hgt (by
    have : (sLen + n) * i.bytes ≤ 2097152 * 4096 := Nat.mul_le_mul hs A.hb
    omega)
  have h48 : ¬ (281474976710656 < Builtin.nextslicecap (sLen + n) sCap * i.bytes) := by omega
  have ho' := ho w.drew rfl
  have hn' := hn w.drew rfl
  rw [run_append_rest A]
  simp [apRest, hl, hle, h63, h48, run_info A.hi, Question.forced, run_zero A.hi A.hz, newRow, ho', hn']
  congr 2
  apply Array.ext'
  simp

theorem zeroCells_size (z : Array Value) (n : Nat) : (Builtin.zeroCells z n).size = n * z.size := by simp [Builtin.zeroCells]

/-- A new array, with some room behind. -/
theorem growA_run (V : View ρ m w) {size n : Nat} {l : List AV} {cs rest : List Value} (hl : VRs ρ l cs) {v : AV} {m' : AMem} (h : growA size l n m = .mk v m') (hf : Fresh ρ m.next m'.next) {cap : Nat} (hcap : n ≤ cap) (hsz : cs.length + rest.length = cap * size) (e : TypeId) :
    ∃ ρ', Step ρ m w ρ' m' (({ w with drawn := w.drawn + 1 } : World).alloc (.cells (cs ++ rest).toArray e)) ∧ VR ρ' v (.slice (some ⟨w.heap.size, 0, none⟩) n cap) := by
  obtain ⟨m1, c, hn, hg, hcc, hk⟩ := newBlk_inv h
  cases hk
  have V1 : View ρ m { w with drawn := w.drawn + 1 } := V.world rfl
  have hst := V1.new (rest := rest) hl hn hg hcc (hf _ (Nat.le_refl _) (by omega)) (A := (cs ++ rest).toArray) rfl (elem := e) (fz := (0, 0)) (fun i _ => by simp) (fun _ i => by simp) (E := size)
  refine ⟨_, (GStep.drew V.sim V.wf _).trans hst, ?_⟩
  exact .sliceO _ _ _ _ ⟨w.heap.size, 0, (cs ++ rest).toArray.size, size⟩ (Ren.set_same _ _ _) hcap (by simp; omega)

theorem appendable_inv {xt : Option TypeId} (h : appendable P xt = true) : ∃ t d, xt = some t ∧ P.underlying t = some d ∧ (match d with | .int _ => true | _ => false) = false := by
  unfold appendable at h
  split at h
  · rename_i t
    split at h
    · cases h
    · rename_i d hne hu; exact ⟨t, d, rfl, hu, by cases d <;> first | rfl | (rename_i k; exact absurd hu (by simpa using hne k))⟩
    · cases h
  · cases h

theorem firstCells_zero {vx : Value} (hl : (Builtin.lenOf vx).run P w = .ok 0 w) (size : Nat) : (Builtin.firstCells size 0 vx).run P w = .ok #[] w := by
  cases vx <;> simp [Builtin.lenOf] at hl <;> simp [Builtin.firstCells]
  rename_i a n c
  cases a <;> simp [loadCells, loadCellsFrom]

theorem append_none {ats : Array TypeId} {st e : TypeId} {i : TypeInfo} {z : Value} (A : ApT P ats st e i z) (ty : TypeId) {base : Option Addr} {sLen sCap : Nat} {vx : Value} (hl : (Builtin.lenOf vx).run P w = .ok 0 w) (hle : sLen ≤ sCap) :
    (Builtin.append_ ats ty #[.slice base sLen sCap, vx]).run P w = .ok (.slice base sLen sCap) w := by
  rw [run_append_room A ty hl (by omega), firstCells_zero hl]
  cases base <;> simp [storeCells]

theorem Ren.set_self {ρ : Ren} {b : Nat} {L : Loc} (h : ρ b = some L) : ρ.set b L = ρ := by
  funext x
  by_cases hx : x = b
  · rw [hx, Ren.set_same, h]
  · rw [Ren.set_other _ _ _ hx]

theorem appendTo_run (V : View ρ m w) {ats : Array TypeId} {st e : TypeId} {i : TypeInfo} {z : Value} (A : ApT P ats st e i z) (hzs : z.cells.size = i.size) (hpos : 0 < i.size) (ty : TypeId) {b off len : Nat} {cap : Option Nat} {vs : Value} (hs : VR ρ (.slice b off len cap) vs) {x : AV} {vx : Value} (hx : VR ρ x vx) {n : Nat}
    (hlen : lenA x = some n) (hn1 : n ≤ 1048576) (hl1 : len ≤ 1048576) {v : AV} {m' : AMem} (h : appendTo i.size (.slice b off len cap) x b off len cap n m = .mk v m') (hf : Fresh ρ m.next m'.next) :
    ∃ ρ' w' vc, Step ρ m w ρ' m' w' ∧ VR ρ' v vc ∧ (Builtin.append_ ats ty #[vs, vx]).run P w = .ok vc w' := by
  have hl := fun w => lenA_run (P := P) hx hlen w
  unfold appendTo at h
  rw [fNat_eq] at h
  obtain ⟨ro, sg, E, N, c, hb, h⟩ := blkK_inv h
  obtain ⟨L, hL⟩ : ∃ L, ρ b = some L := by obtain ⟨L, hL, _⟩ := (V.sim.blk b _ hb).loc; exact ⟨L, hL⟩
  -- in its place
  have room : ∀ {cc : Nat}, vs = .slice (some ⟨L.blk, L.base + off, none⟩) len cc → len + n ≤ cc → (∀ {ρ1 : Ren}, ρ1 b = some L → VR ρ1 (.slice b off (len + n) cap) (.slice (some ⟨L.blk, L.base + off, none⟩) (len + n) cc)) →
      (elemsK m i.size n x fun new => storeK m b (Nat.add off (Nat.mul len i.size)) new fun m => .mk (.slice b off (len + n) cap) m) = .mk v m' →
      ∃ ρ' w' vc, Step ρ m w ρ' m' w' ∧ VR ρ' v vc ∧ (Builtin.append_ ats ty #[vs, vx]).run P w = .ok vc w' := by
    intro cc hvs hle hv h
    obtain ⟨l, cs, hk, hr, hcl, hrun, _⟩ := elemsK_inv (P := P) V hx h
    obtain ⟨m1, w1, hk1, hrun1, hst⟩ := V.store (P := P) hL hr hk
    cases hk1
    refine ⟨ρ, w1, _, hst, hv hL, ?_⟩
    subst hvs
    rw [run_append_room A ty (hl w) hle, hrun w rfl]
    simp only [Result.andThen_ok, addr_add]
    rw [show L.base + off + len * i.size = L.base + (off + len * i.size) from by omega]
    have hrun1 : (storeCells ⟨L.blk, L.base + (off + len * i.size), none⟩ cs).run P w = .ok () w1 := hrun1
    rw [hrun1]; rfl
  -- in a new one
  have grow : ∀ {cc : Nat} {m0 : AMem}, View ρ m0 w → m0.next = m.next → Step ρ m w ρ m0 w → vs = .slice (some ⟨L.blk, L.base + off, none⟩) len cc → cc < len + n → ∀ {old new : List AV} {co cn : List Value}, VRs ρ old co → VRs ρ new cn → co.length = len * i.size → cn.length = n * i.size →
      (∀ w1 : World, w1.heap = w.heap → (Builtin.firstCells i.size len vs).run P w1 = .ok co.toArray w1) → (∀ w1 : World, w1.heap = w.heap → (Builtin.firstCells i.size n vx).run P w1 = .ok cn.toArray w1) → growA i.size (old ++ new) (len + n) m0 = .mk v m' →
      ∃ ρ' w' vc, Step ρ m w ρ' m' w' ∧ VR ρ' v vc ∧ (Builtin.append_ ats ty #[vs, vx]).run P w = .ok vc w' := by
    intro cc m0 V0 hm0 hst0 hvs hlt old new co cn ho hn hol hnl hro hrn hg
    subst hvs
    obtain ⟨cp, hcp, hrun⟩ := run_append_new A ty (hl w) hlt (by omega) hro hrn
    obtain ⟨ρ', hst, hv⟩ := growA_run V0 (rest := (Builtin.zeroCells z.cells (cp - (len + n))).toList) (ho.append hn) hg (by rw [hm0]; exact hf) hcp (by
      simp only [List.length_append, Array.length_toList, zeroCells_size, hol, hnl, hzs]
      rw [← Nat.add_mul, ← Nat.add_mul]; congr 1; omega) e
    exact ⟨ρ', _, _, hst0.trans hst, hv, hrun⟩
  cases cap with
  | some cc =>
    cases hs with | sliceE _ _ _ _ L' hL' hle =>
    rw [hL] at hL'; cases hL'
    simp only [bif2_eq] at h
    split at h
    · rename_i hc
      have hc : len + n ≤ cc := by simpa [Nat.ble_eq] using hc
      exact room rfl hc (fun hq => .sliceE _ _ _ _ L hq hc) h
    · rename_i hc
      have hc : cc < len + n := by have : ¬ (len + n ≤ cc) := by simpa [Nat.ble_eq] using hc
                                   omega
      obtain ⟨old, co, h1, ho, hol, hro, _⟩ := elemsK_inv (P := P) V (.sliceE b off len cc L hL hle) h
      obtain ⟨new, cn, h2, hn, hnl, hrn, _⟩ := elemsK_inv (P := P) V hx h1
      exact grow V rfl V.refl rfl hc ho hn hol hnl hro hrn h2
  | none =>
    cases hs with | sliceO _ _ _ cc L' hL' hle hE =>
    rw [hL] at hL'; cases hL'
    obtain ⟨L0, cs0, el, fz, e1, e2, e3, e4, e5, e6, e7⟩ := V.sim.blk b _ hb
    rw [hL] at e1; cases e1
    simp only [bif2_eq] at h
    split at h
    · rename_i hEs
      have hEs : E = i.size := Nat.eq_of_beq_eq_true hEs
      have hEL : L.E = i.size := e4.trans hEs
      split at h
      · rename_i hc
        have hc : off + (len + n) * i.size ≤ N := by simpa [Nat.ble_eq] using hc
        have hcc : len + n ≤ cc := by
          rw [hEL] at hE
          have : (len + n) * i.size ≤ cc * i.size := by omega
          exact Nat.le_of_mul_le_mul_right this hpos
        exact room rfl hcc (fun hq => .sliceO _ _ _ _ L hq hcc hE) h
      · split at h
        · rename_i hc
          have hc : off + len * i.size = N := Nat.eq_of_beq_eq_true hc
          unfold appendEnd at h
          rw [bif2_eq] at h
          split at h
          · cases h
          · rename_i hro
            have hro : ro = false := by simpa using hro
            subst hro
            obtain ⟨old, co, h1, ho, hol, hrold, hoc⟩ := elemsK_inv (P := P) V (.sliceO b off len cc L hL hle hE) h
            obtain ⟨new, cn, h2, hn, hnl, hrn, _⟩ := elemsK_inv (P := P) V hx h1
            rw [bif2_eq] at h2
            split at h2
            · rename_i hp
              rcases T.setK_eq (OR.fail 86) none m.t b (fun t => growA i.size (old ++ new) (len.add n) ⟨m.next, t⟩) with q | ⟨t1, ht1, q⟩
              · rw [q] at h2; cases h2
              · rw [q] at h2
                have hst0 : Step ρ m w ρ ⟨m.next, t1⟩ w := GStep.drop V.sim V.wf fun j x hj => by
                  rw [ht1] at hj
                  by_cases hjb : j = b
                  · rw [if_pos hjb] at hj; cases hj
                  · rw [if_neg hjb] at hj; exact hj
                by_cases hroom : len + n ≤ cc
                · -- there is room: the same array under a new name
                  obtain ⟨m1, c1, hn1', hg1, hc1, hk1⟩ := newBlk_inv h2
                  cases hk1
                  have hin : L.base + off + (len + n) * i.size ≤ cs0.size := by
                    rw [e3, ← hE, hEL]
                    have := Nat.mul_le_mul_right i.size hroom
                    omega
                  have hmul : (len + n) * i.size = len * i.size + n * i.size := Nat.add_mul _ _ _
                  obtain ⟨w1, cs1, g1, g2, g3, g4, g5, g6, g7, g8, g9⟩ := run_storeCells P L.blk (L.base + off + len * i.size) el fz cn 0 w cs0 e2 (by omega) (e7.1 rfl) (hn.plain hp)
                  have hol' := ho.length
                  have hnl' := hn.length
                  refine ⟨ρ.set m.next ⟨L.blk, L.base + off, L.csize, i.size⟩, w1, .slice (some ⟨L.blk, L.base + off + 0, none⟩) (len + n) cc, ?_, ?_, ?_⟩
                  · refine GStep.write (b := b) (b1 := m.next) (hi := _) (d := off) (E := i.size) (n' := (len + n) * i.size) (c' := c1) (cs' := cs1) V.sim V.wf (by rw [← hEs]; exact hb) hL e2 g3 g2 g5 g6 g7 g8 g9 (.inr ⟨rfl, hn1', hf _ (Nat.le_refl _) (by rw [hn1']; show m.next < m.next + 1; omega)⟩) (fun j => ?_) hin (fun q hq => ?_)
                    · rw [hg1, ht1]
                      have : (old ++ new).length = (len + n) * i.size := by simp; omega
                      rw [this]
                    · have hlt : q < (old ++ new).length := by simp; omega
                      rw [hc1 q hlt]
                      by_cases hqo : q < len * i.size
                      · have hqo' : q < old.length := by omega
                        rw [List.getElem?_append_left hqo']
                        have hold : cs1[L.base + off + q]? = cs0[L.base + off + q]? := by rw [g4, if_neg (by omega)]
                        obtain ⟨x1, hx1, hr1⟩ := e6 (off + q) (by omega)
                        refine ⟨x1, by rw [hold, Nat.add_assoc]; exact hx1, ?_⟩
                        have hoc := hoc _ _ _ _ rfl _ _ _ _ _ hb
                        rw [hoc, cellsFrom_get _ _ _ _ (by omega)]
                        exact hr1
                      · have hqo' : old.length ≤ q := by omega
                        rw [List.getElem?_append_right hqo']
                        have hq2 : q - old.length < new.length := by omega
                        obtain ⟨x0, hx0, hr0⟩ := hn.get (q - old.length) (List.getElem?_eq_getElem hq2)
                        refine ⟨x0, ?_, by simpa [List.getElem?_eq_getElem hq2] using hr0⟩
                        rw [g4, if_pos (by omega), ← hx0]; congr 1; omega
                  · refine .sliceO _ _ _ _ _ (Ren.set_same _ _ _) hroom ?_
                    show L.base + off + 0 + cc * i.size = L.csize
                    rw [← hEL]; omega
                  · rw [run_append_room A ty (hl w) hroom, hrn w rfl]
                    simp only [Result.andThen_ok, addr_add]
                    rw [g1]; rfl
                · exact grow hst0.view rfl hst0 rfl (by omega) ho hn hol hnl hrold hrn h2
            · cases h2
        · cases h
    · cases h

end
end Go.Ev
end
