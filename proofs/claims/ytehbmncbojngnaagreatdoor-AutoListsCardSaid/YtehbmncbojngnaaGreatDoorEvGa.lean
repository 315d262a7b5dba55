/- The evaluator: a deterministic run of the model's code over names in place of addresses. Plain definitions; what they are worth is shown in the texts behind. What the evaluator's values and memories stand for in a world; how such a view goes on; the small laws of the evaluator's own words. What the evaluator's values and memories stand for in a world, and how such a view goes on. -/
import Derived.Orders
import Derived.LoopN
import Derived.Below
import Derived.Laws.Rows
import Derived.Laws.Cells
import Derived.Laws.World
section
namespace Go.Ev
set_option linter.all false
/-! ### Tries -/
inductive T (α : Type) where
  | leaf
  | node (v : Option α) (l r : T α)
noncomputable def T.get {α : Type} (t : T α) : Nat → Option α :=
  @T.rec α (fun _ => Nat → Option α) (fun _ => none)
    (fun v _ _ hl hr i => @Nat.rec (fun _ => Option α) v (fun _ _ => @Nat.rec (fun _ => Option α) (hr (Nat.div i 2)) (fun _ _ => hl (Nat.div i 2)) (Nat.mod i 2)) i) t
/-- A place in an empty one. -/
noncomputable def T.oneK {α β : Type} (z : β) (v : Option α) (n : Nat) : Nat → (T α → β) → β :=
  @Nat.rec (fun _ => Nat → (T α → β) → β) (fun _ _ => z)
    (fun _ ih i k => @Nat.rec (fun _ => β) (k (.node v .leaf .leaf)) (fun _ _ => @Nat.rec (fun _ => β) (ih (Nat.div i 2) fun r => k (.node none .leaf r)) (fun _ _ => ih (Nat.div i 2) fun l => k (.node none l .leaf)) (Nat.mod i 2)) i) n
/-- 'set', what comes of it handed on; 'z' where the fuel for an empty one is used up. -/
noncomputable def T.setK {α β : Type} (z : β) (v : Option α) (t : T α) : Nat → (T α → β) → β :=
  @T.rec α (fun _ => Nat → (T α → β) → β) (fun i k => T.oneK z v (Nat.succ i) i k)
    (fun w l r hl hr i k => @Nat.rec (fun _ => β) (k (.node v l r)) (fun _ _ => @Nat.rec (fun _ => β) (hr (Nat.div i 2) fun r => k (.node w l r)) (fun _ _ => hl (Nat.div i 2) fun l => k (.node w l r)) (Nat.mod i 2)) i) t
/-! ### Values, memory -/
inductive AV where
  | any
  | bool (b : Bool)
  | int (k : IntKind) (n : Int)
  | str (s : List Nat)
  | ptr (b off : Nat)
  | nilp
  | slice (b off len : Nat) (cap : Option Nat)
  | nils
  | emp
  | map (b : Nat)
  | nilm
  | fn (f : FuncId) (cap : List AV)
  | nilf
  | iface (t : TypeId) (v : AV)
  | nili
  | agg (l : List AV)
  | tup (l : List AV)
  deriving Inhabited
abbrev AV.undef : AV := .tup []
/-- An entry of a map: its key, its element, its stamp (where that is known). -/
structure Ent where
  k : AV
  v : AV
  born : Option Nat
inductive Blk where
  | cells (ro sg : Bool) (E n : Nat) (c : T AV)
  | map (ro : Bool) (ck : Nat) (es : List Ent)
structure AMem where
  next : Nat
  t : T Blk
inductive OR where
  | fail (c : Nat)
  | mk (v : AV) (m : AMem)
inductive X where
  | norm
  | exit (id : Nat)
  | ret
inductive Res where
  | fail (c : Nat)
  | mk (x : X) (t : T AV) (m : AMem)
/-! ### One kind of value, and all others -/
section
variable {γ : Type}
noncomputable def AV.onInt (a : AV) : (IntKind → Int → γ) → γ → γ :=
  @AV.rec (fun _ => (IntKind → Int → γ) → γ → γ) (fun _ => PUnit) (fun _ d => d) (fun _ _ d => d) (fun k n h _ => h k n) (fun _ _ d => d) (fun _ _ _ d => d) (fun _ d => d) (fun _ _ _ _ _ d => d) (fun _ d => d) (fun _ d => d) (fun _ _ d => d) (fun _ d => d) (fun a0 a1 _ => (fun _ _ _ d => d) a0 a1) (fun _ d => d) (fun a0 a1 _ => (fun _ _ _ d => d) a0 a1) (fun _ d => d) (fun a0 _ => (fun _ _ d => d) a0) (fun a0 _ => (fun _ _ d => d) a0) ⟨⟩ (fun _ _ _ _ => ⟨⟩) a
noncomputable def AV.onBool (a : AV) : (Bool → γ) → γ → γ :=
  @AV.rec (fun _ => (Bool → γ) → γ → γ) (fun _ => PUnit) (fun _ d => d) (fun b h _ => h b) (fun _ _ _ d => d) (fun _ _ d => d) (fun _ _ _ d => d) (fun _ d => d) (fun _ _ _ _ _ d => d) (fun _ d => d) (fun _ d => d) (fun _ _ d => d) (fun _ d => d) (fun a0 a1 _ => (fun _ _ _ d => d) a0 a1) (fun _ d => d) (fun a0 a1 _ => (fun _ _ _ d => d) a0 a1) (fun _ d => d) (fun a0 _ => (fun _ _ d => d) a0) (fun a0 _ => (fun _ _ d => d) a0) ⟨⟩ (fun _ _ _ _ => ⟨⟩) a
noncomputable def AV.onStr (a : AV) : (List Nat → γ) → γ → γ :=
  @AV.rec (fun _ => (List Nat → γ) → γ → γ) (fun _ => PUnit) (fun _ d => d) (fun _ _ d => d) (fun _ _ _ d => d) (fun s h _ => h s) (fun _ _ _ d => d) (fun _ d => d) (fun _ _ _ _ _ d => d) (fun _ d => d) (fun _ d => d) (fun _ _ d => d) (fun _ d => d) (fun a0 a1 _ => (fun _ _ _ d => d) a0 a1) (fun _ d => d) (fun a0 a1 _ => (fun _ _ _ d => d) a0 a1) (fun _ d => d) (fun a0 _ => (fun _ _ d => d) a0) (fun a0 _ => (fun _ _ d => d) a0) ⟨⟩ (fun _ _ _ _ => ⟨⟩) a
noncomputable def AV.onPtr (a : AV) : (Nat → Nat → γ) → γ → γ :=
  @AV.rec (fun _ => (Nat → Nat → γ) → γ → γ) (fun _ => PUnit) (fun _ d => d) (fun _ _ d => d) (fun _ _ _ d => d) (fun _ _ d => d) (fun b o h _ => h b o) (fun _ d => d) (fun _ _ _ _ _ d => d) (fun _ d => d) (fun _ d => d) (fun _ _ d => d) (fun _ d => d) (fun a0 a1 _ => (fun _ _ _ d => d) a0 a1) (fun _ d => d) (fun a0 a1 _ => (fun _ _ _ d => d) a0 a1) (fun _ d => d) (fun a0 _ => (fun _ _ d => d) a0) (fun a0 _ => (fun _ _ d => d) a0) ⟨⟩ (fun _ _ _ _ => ⟨⟩) a
noncomputable def AV.onSlice (a : AV) : (Nat → Nat → Nat → Option Nat → γ) → γ → γ :=
  @AV.rec (fun _ => (Nat → Nat → Nat → Option Nat → γ) → γ → γ) (fun _ => PUnit) (fun _ d => d) (fun _ _ d => d) (fun _ _ _ d => d) (fun _ _ d => d) (fun _ _ _ d => d) (fun _ d => d) (fun b o l c h _ => h b o l c) (fun _ d => d) (fun _ d => d) (fun _ _ d => d) (fun _ d => d) (fun a0 a1 _ => (fun _ _ _ d => d) a0 a1) (fun _ d => d) (fun a0 a1 _ => (fun _ _ _ d => d) a0 a1) (fun _ d => d) (fun a0 _ => (fun _ _ d => d) a0) (fun a0 _ => (fun _ _ d => d) a0) ⟨⟩ (fun _ _ _ _ => ⟨⟩) a
noncomputable def AV.onFn (a : AV) : (FuncId → List AV → γ) → γ → γ :=
  @AV.rec (fun _ => (FuncId → List AV → γ) → γ → γ) (fun _ => PUnit) (fun _ d => d) (fun _ _ d => d) (fun _ _ _ d => d) (fun _ _ d => d) (fun _ _ _ d => d) (fun _ d => d) (fun _ _ _ _ _ d => d) (fun _ d => d) (fun _ d => d) (fun _ _ d => d) (fun _ d => d) (fun a0 a1 _ => (fun f c h _ => h f c) a0 a1) (fun _ d => d) (fun a0 a1 _ => (fun _ _ _ d => d) a0 a1) (fun _ d => d) (fun a0 _ => (fun _ _ d => d) a0) (fun a0 _ => (fun _ _ d => d) a0) ⟨⟩ (fun _ _ _ _ => ⟨⟩) a
noncomputable def AV.onAgg (a : AV) : (List AV → γ) → γ → γ :=
  @AV.rec (fun _ => (List AV → γ) → γ → γ) (fun _ => PUnit) (fun _ d => d) (fun _ _ d => d) (fun _ _ _ d => d) (fun _ _ d => d) (fun _ _ _ d => d) (fun _ d => d) (fun _ _ _ _ _ d => d) (fun _ d => d) (fun _ d => d) (fun _ _ d => d) (fun _ d => d) (fun a0 a1 _ => (fun _ _ _ d => d) a0 a1) (fun _ d => d) (fun a0 a1 _ => (fun _ _ _ d => d) a0 a1) (fun _ d => d) (fun a0 _ => (fun l h _ => h l) a0) (fun a0 _ => (fun _ _ d => d) a0) ⟨⟩ (fun _ _ _ _ => ⟨⟩) a
noncomputable def AV.onTup (a : AV) : (List AV → γ) → γ → γ :=
  @AV.rec (fun _ => (List AV → γ) → γ → γ) (fun _ => PUnit) (fun _ d => d) (fun _ _ d => d) (fun _ _ _ d => d) (fun _ _ d => d) (fun _ _ _ d => d) (fun _ d => d) (fun _ _ _ _ _ d => d) (fun _ d => d) (fun _ d => d) (fun _ _ d => d) (fun _ d => d) (fun a0 a1 _ => (fun _ _ _ d => d) a0 a1) (fun _ d => d) (fun a0 a1 _ => (fun _ _ _ d => d) a0 a1) (fun _ d => d) (fun a0 _ => (fun _ _ d => d) a0) (fun a0 _ => (fun l h _ => h l) a0) ⟨⟩ (fun _ _ _ _ => ⟨⟩) a
end
noncomputable def bif2 {γ : Type} (b : Bool) (x y : γ) : γ := @Bool.rec (fun _ => γ) y x b
/-! ### Numbers -/
noncomputable def fNat {β : Type} (n : Nat) (k : Nat → β) : β := @Nat.rec (fun _ => β) (k 0) (fun p _ => k (.succ p)) n
noncomputable def fInt {β : Type} (n : Int) (k : Int → β) : β := @Int.rec (fun _ => β) (fun a => fNat a fun a => k (.ofNat a)) (fun a => fNat a fun a => k (.negSucc a)) n
/-- Where numbers of a kind that are not below zero end. -/
noncomputable def topOf (k : IntKind) : Nat := @IntKind.rec (fun _ => Nat) 128 32768 2147483648 9223372036854775808 256 65536 4294967296 18446744073709551616 k
noncomputable def wrapK {β : Type} (k : IntKind) (n : Int) (c : Int → β) : β :=
  @Int.rec (fun _ => β) (fun a => fNat a fun a => bif2 (Nat.blt a (topOf k)) (c (.ofNat a)) (fInt (k.wrap (.ofNat a)) c)) (fun a => fInt (k.wrap (.negSucc a)) c) n
noncomputable def iLt (a b : Int) : Bool :=
  @Int.rec (fun _ => Bool) (fun a => @Int.rec (fun _ => Bool) (fun b => Nat.blt a b) (fun _ => false) b) (fun a => @Int.rec (fun _ => Bool) (fun _ => true) (fun b => Nat.blt b a) b) a
noncomputable def iEq (a b : Int) : Bool :=
  @Int.rec (fun _ => Bool) (fun a => @Int.rec (fun _ => Bool) (fun b => Nat.beq a b) (fun _ => false) b) (fun a => @Int.rec (fun _ => Bool) (fun _ => false) (fun b => Nat.beq a b) b) a
noncomputable def kNum (k : IntKind) : Nat := @IntKind.rec (fun _ => Nat) 0 1 2 3 4 5 6 7 k
noncomputable def kEq (j k : IntKind) : Bool := Nat.beq (kNum j) (kNum k)
noncomputable def fBool {β : Type} (b : Bool) (k : Bool → β) : β := @Bool.rec (fun _ => β) (k false) (k true) b
noncomputable def lEq : List Nat → List Nat → Bool
  | [], [] => true
  | a :: x, b :: y => bif2 (Nat.beq a b) (lEq x y) false
  | _, _ => false
noncomputable def lLt : List Nat → List Nat → Bool
  | _, [] => false
  | [], _ :: _ => true
  | a :: x, b :: y => bif2 (Nat.blt a b) true (bif2 (Nat.beq a b) (lLt x y) false)
/-- A list, each of its numbers reckoned. -/
noncomputable def fList {β : Type} (l : List Nat) : (List Nat → β) → β :=
  @List.rec Nat (fun _ => (List Nat → β) → β) (fun k => k []) (fun a _ ih k => fNat a fun a => ih fun l => k (a :: l)) l
abbrev IntOp := IntKind → Int → Int → AMem → OR
noncomputable def iAdd : IntOp := fun k a b m => wrapK k (Int.add a b) fun n => .mk (.int k n) m
noncomputable def iSub : IntOp := fun k a b m => wrapK k (Int.sub a b) fun n => .mk (.int k n) m
noncomputable def iMul : IntOp := fun k a b m => wrapK k (Int.mul a b) fun n => .mk (.int k n) m
noncomputable def iQuo : IntOp := fun k a b m => bif2 (iEq b 0) (.fail 11) (wrapK k (Int.tdiv a b) fun n => .mk (.int k n) m)
noncomputable def iRem : IntOp := fun k a b m => bif2 (iEq b 0) (.fail 11) (bif2 (iEq b 1) (.mk (.int k 0) m) (fInt (Int.tmod a b) fun n => .mk (.int k n) m))
noncomputable def iBool (r : Bool) (m : AMem) : OR := @Bool.rec (fun _ => OR) (.mk (.bool false) m) (.mk (.bool true) m) r
noncomputable def iEqlO : IntOp := fun _ a b m => iBool (iEq a b) m
noncomputable def iNeqO : IntOp := fun _ a b m => iBool (!iEq a b) m
noncomputable def iLssO : IntOp := fun _ a b m => iBool (iLt a b) m
noncomputable def iLeqO : IntOp := fun _ a b m => iBool (!iLt b a) m
noncomputable def iGtrO : IntOp := fun _ a b m => iBool (iLt b a) m
noncomputable def iGeqO : IntOp := fun _ a b m => iBool (!iLt a b) m
/-- Bit by bit, of numbers that are not below zero. -/
noncomputable def iBits (f : Nat → Nat → Nat) : IntOp := fun k a b m =>
  @Int.rec (fun _ => OR) (fun x => @Int.rec (fun _ => OR) (fun y => bif2 (Nat.blt x (2 ^ k.bits) && Nat.blt y (2 ^ k.bits)) (wrapK k (.ofNat (f x y)) fun n => .mk (.int k n) m) (.fail 13)) (fun _ => .fail 13) b) (fun _ => .fail 13) a
noncomputable def iBad : IntOp := fun _ _ _ _ => .fail 12
noncomputable def iAnd : IntOp := iBits Nat.land
noncomputable def iOr : IntOp := iBits Nat.lor
noncomputable def iXor : IntOp := iBits Nat.xor
noncomputable def iShl : IntOp := fun k a b m =>
  @Int.rec (fun _ => OR) (fun y => wrapK k (Int.mul a (.ofNat (2 ^ (bif2 (Nat.ble y k.bits) y k.bits)))) fun n => .mk (.int k n) m) (fun _ => .fail 15) b
noncomputable def iShr : IntOp := fun k a b m =>
  @Int.rec (fun _ => OR) (fun y => fInt (Int.fdiv a (.ofNat (2 ^ (bif2 (Nat.ble y k.bits) y k.bits)))) fun n => .mk (.int k n) m) (fun _ => .fail 15) b
noncomputable def intTab (op : BinOp) : IntOp :=
  @BinOp.rec (fun _ => IntOp) iAdd iSub iMul iQuo iRem iAnd iOr iXor iBad iBad iBad iEqlO iNeqO iLssO iLeqO iGtrO iGeqO op
/-- Operands of unlike kinds serve at a shift alone. -/
noncomputable def isShift (op : BinOp) : Bool :=
  @BinOp.rec (fun _ => Bool) false false false false false false false false true true false false false false false false false op
noncomputable def iBin (op : BinOp) (k : IntKind) (a : Int) (k' : IntKind) (b : Int) (m : AMem) : OR :=
  bif2 (isShift op) (@BinOp.rec (fun _ => IntOp) iBad iBad iBad iBad iBad iBad iBad iBad iShl iShr iBad iBad iBad iBad iBad iBad iBad op k a b m)
    (bif2 (kEq k k') (intTab op k a b m) (.fail 19))
noncomputable def aStr (op : BinOp) (a b : List Nat) (m : AMem) : OR :=
  match op with
  | .add => bif2 (Nat.blt (Nat.add a.length b.length) 9223372036854775807) (.mk (.str (a ++ b)) m) (.fail 16)
  | .eql => iBool (lEq a b) m
  | .neq => iBool (!lEq a b) m
  | .lss => iBool (lLt a b) m
  | .leq => iBool (lLt a b || lEq a b) m
  | .gtr => iBool (!(lLt a b || lEq a b)) m
  | .geq => iBool (!lLt a b) m
  | _ => .fail 17
/-- Are two scalars of a type the same? (numbers, bools, strings) -/
noncomputable def sEq (d : Option TypeDesc) (x y : AV) : Option Bool :=
  match d, x, y with
  | some .bool, .bool a, .bool b => some (a == b)
  | some (.int _), .int j a, .int k b => bif2 (kEq j k) (some (iEq a b)) none
  | some .string, .str a, .str b => some (lEq a b)
  | _, _, _ => none
section
variable (P : Program)
/-- Two structs of scalar fields. -/
noncomputable def aggEq : List Field → List AV → List AV → Option Bool
  | [], _, _ => some true
  | f :: fs, xs, ys =>
    bif2 (f.name == "_") none
    (match xs[f.offset]?, ys[f.offset]? with
    | some x, some y => match sEq (P.underlying f.type) x y with
      | some true => aggEq fs xs ys
      | some false => some false
      | none => none
    | _, _ => none)
/-- Two structs of scalar fields and of structs of such. -/
noncomputable def aggEq1 : List Field → List AV → List AV → Option Bool
  | [], _, _ => some true
  | f :: fs, xs, ys =>
    bif2 (f.name == "_") none
    (match P.underlying f.type with
    | some (.struct gs) => match P.info? f.type with
      | some i => bif2 (P.stoodInHeld f.type) none (match aggEq P gs.toList ((xs.drop f.offset).take i.size) ((ys.drop f.offset).take i.size) with
        | some true => aggEq1 fs xs ys
        | some false => some false
        | none => none)
      | none => none
    | d => match xs[f.offset]?, ys[f.offset]? with
      | some x, some y => match sEq d x y with
        | some true => aggEq1 fs xs ys
        | some false => some false
        | none => none
      | _, _ => none)
noncomputable def flip (op : BinOp) (r : Bool) (m : AMem) : OR :=
  match op with
  | .eql => iBool r m
  | .neq => iBool (!r) m
  | _ => .fail 18
/-- Is it of a type that may be held against nil? 0: a pointer's, 1: a slice's, 2: a map's, 3: a function's -/
noncomputable def nilKind (t : TypeId) : Option Nat :=
  match P.underlying t with
  | some (.pointer _) => some 0
  | some (.slice _) => some 1
  | some (.map _ _) => some 2
  | some (.func _ _ _) => some 3
  | _ => none
/-- The kind of a value that may be nil, and whether it is. -/
noncomputable def nilOf (x : AV) : Option (Nat × Bool) :=
  match x with
  | .nilp => some (0, true)
  | .ptr _ _ => some (0, false)
  | .nils => some (1, true)
  | .slice _ _ _ _ | .emp => some (1, false)
  | .nilm => some (2, true)
  | .map _ => some (2, false)
  | .nilf => some (3, true)
  | .fn _ _ => some (3, false)
  | _ => none
noncomputable def aNil (op : BinOp) (t : TypeId) (x y : AV) (m : AMem) : OR :=
  match nilOf x, nilOf y, nilKind P t with
  | some (i, a), some (j, b), some k => bif2 (Nat.beq i j && Nat.beq i k && (a || b)) (flip op (a && b) m) (.fail 21)
  | _, _, _ => .fail 21
noncomputable def aAggEq (op : BinOp) (t : TypeId) (xs ys : List AV) (m : AMem) : OR :=
  match P.underlying t with
  | some (.struct fs) => bif2 (!P.eqGuardType P.depth t && !P.stoodInHeld t) (match aggEq1 P fs.toList xs ys with | some r => flip op r m | none => .fail 22) (.fail 22)
  | _ => .fail 22
/-- '==' with a nil of an interface type; 'lit': is one of the two the literal nil? -/
noncomputable def aIface (op : BinOp) (t : TypeId) (lit : Bool) (x y : AV) (m : AMem) : OR :=
  match x, y, P.underlying t with
  | .nili, .nili, some (.interface _) => bif2 lit (flip op true m) (.fail 24)
  | .nili, .iface _ _, some (.interface _) => flip op false m
  | .iface _ _, .nili, some (.interface _) => flip op false m
  | _, _, _ => .fail 26
/-- What is neither two numbers nor two strings. -/
noncomputable def aBinRest (op : BinOp) (t : TypeId) (lit : Bool) (x y : AV) (m : AMem) : OR :=
  match x with
  | .bool a => y.onBool (fun b => match P.underlying t with
    | some .bool => flip op (a == b) m
    | _ => .fail 20) (.fail 20)
  | .agg xs => y.onAgg (fun ys => aAggEq P op t xs ys m) (.fail 22)
  | .nili => aIface P op t lit .nili y m
  | .iface i v => aIface P op t lit (.iface i v) y m
  | x => aNil P op t x y m
noncomputable def aBin (op : BinOp) (t : TypeId) (lit : Bool) (x y : AV) (m : AMem) : OR :=
  x.onInt (fun k a => y.onInt (fun k' b => iBin op k a k' b m) (.fail 23)) (x.onStr (fun a => y.onStr (fun b => aStr op a b m) (.fail 23)) (aBinRest P op t lit x y m))
/-- Two pointers, none of them nil. -/
noncomputable def aPtrEq (op : BinOp) (t : TypeId) (b o b' o' : Nat) (m : AMem) : OR :=
  match P.underlying t with
  | some (.pointer e) => match P.info? e with
    | some i => bif2 (Nat.beq i.size 0) (.fail 301) (bif2 (Nat.beq b b') (flip op (Nat.beq o o') m) (match m.t.get b, m.t.get b' with
      | some (.cells ro false _ _ _), some (.cells ro' false _ _ _) => bif2 (ro && ro') (.fail 302) (flip op false m)
      | _, _ => .fail 303))
    | none => .fail 304
  | _ => .fail 305
noncomputable def aBin2 (op : BinOp) (t : TypeId) (lit : Bool) (x y : AV) (m : AMem) : OR :=
  x.onPtr (fun b o => y.onPtr (fun b' o' => aPtrEq P op t b o b' o' m) (aBin P op t lit x y m)) (aBin P op t lit x y m)
end
/-! ### Operands -/
noncomputable def scal : Value → AV
  | .bool b => .bool b
  | .int k n => .int k n
  | .string s => .str (s.data.toList.map UInt8.toNat)
  | .pointer none => .nilp
  | .slice none 0 0 => .nils
  | .map none => .nilm
  | .nilFunc => .nilf
  | .nilIface => .nili
  | _ => .any
noncomputable def scals : List Value → List AV
  | [] => []
  | v :: l => scal v :: scals l
noncomputable def cst {β : Type} (v : Value) (k : AV → β) : β :=
  match v with
  | .bool b => k (.bool b)
  | .int i n => k (.int i n)
  | .string s => fList (s.data.toList.map UInt8.toNat) fun l => k (.str l)
  | .agg cs => k (.agg (scals cs.toList))
  | .tuple cs => match cs.toList with
    | [] => k .undef
    | _ => k .any
  | v => k (scal v)
section
variable {β : Type}
noncomputable def evTmp (i : Tmp) (t : T AV) (k : AV → β) : β := @Option.rec AV (fun _ => β) (k .undef) k (t.get i)
noncomputable def evConst (v : Value) (_ : T AV) (k : AV → β) : β := cst v k
noncomputable def evGlobal (_ : Nat) (_ : T AV) (k : AV → β) : β := k .any
noncomputable def evFunc (f : FuncId) (_ : T AV) (k : AV → β) : β := k (.fn f [])
noncomputable def evK (t : T AV) (x : Operand) (k : AV → β) : β := @Operand.rec (fun _ => T AV → (AV → β) → β) evTmp evConst evGlobal evFunc x t k
noncomputable def evsK (t : T AV) (l : List Operand) : (List AV → β) → β :=
  @List.rec Operand (fun _ => (List AV → β) → β) (fun k => k []) (fun x _ ih k => evK t x fun v => ih fun vs => k (v :: vs)) l
noncomputable def evPs (t : T AV) (l : List (Nat × Operand)) : (List (Nat × AV) → β) → β :=
  @List.rec (Nat × Operand) (fun _ => (List (Nat × AV) → β) → β) (fun k => k []) (fun x _ ih k => evK t x.2 fun v => ih fun vs => k ((x.1, v) :: vs)) l
noncomputable def evO (t : T AV) (x : Option Operand) (k : Option AV → β) : β :=
  match x with
  | none => k none
  | some x => evK t x fun v => k (some v)
end
/-! ### Memory -/
noncomputable def AV.cells (v : AV) : List AV := v.onAgg (fun l => l) [v]
/-- Nothing that is made of parts, nothing unknown. -/
noncomputable def AV.plain (v : AV) : Bool :=
  @AV.rec (fun _ => Bool) (fun _ => PUnit) false (fun _ => true) (fun _ _ => true) (fun _ => true) (fun _ _ => true) true (fun _ _ _ _ => true) true true (fun _ => true) true (fun a0 a1 _ => (fun _ _ => true) a0 a1) true (fun a0 a1 _ => (fun _ _ => true) a0 a1) true (fun a0 _ => (fun _ => false) a0) (fun a0 _ => (fun _ => false) a0) ⟨⟩ (fun _ _ _ _ => ⟨⟩) v
section
variable {β : Type}
/-- Cells into a trie, from a place on. -/
noncomputable def putK (z : β) (l : List AV) : Nat → T AV → (T AV → β) → β :=
  @List.rec AV (fun _ => Nat → T AV → (T AV → β) → β) (fun _ c k => k c) (fun v _ ih i c k => T.setK z (some v) c i fun c => fNat (Nat.succ i) fun i => ih i c k) l
/-- n cells from a place on ('any' where nothing is known). -/
noncomputable def takeK (c : T AV) (n : Nat) : Nat → (List AV → β) → β :=
  @Nat.rec (fun _ => Nat → (List AV → β) → β) (fun _ k => k [])
    (fun _ ih i k => @Option.rec AV (fun _ => β) (ih (Nat.succ i) fun l => k (.any :: l)) (fun v => ih (Nat.succ i) fun l => k (v :: l)) (c.get i)) n
end
noncomputable def newBlk (sg : Bool) (E : Nat) (l : List AV) (m : AMem) (k : Nat → AMem → OR) : OR :=
  putK (.fail 30) l 0 .leaf fun c => fNat l.length fun n => T.setK (.fail 31) (some (.cells false sg E n c)) m.t m.next fun t => fNat (Nat.succ m.next) fun nx => k m.next ⟨nx, t⟩
/-- A block's cells. -/
noncomputable def blkK (m : AMem) (b : Nat) (k : Bool → Nat → Nat → T AV → OR) : OR :=
  @Option.rec Blk (fun _ => OR) (.fail 33) (fun x => @Blk.rec (fun _ => OR) (fun ro _ => k ro) (fun _ _ _ => .fail 33) x) (m.t.get b)
/-- The cells of a block from a place on. -/
noncomputable def loadK (m : AMem) (b off n : Nat) (k : List AV → OR) : OR :=
  blkK m b fun _ _ N c => bif2 (Nat.ble (Nat.add off n) N) (takeK c n off k) (.fail 32)
/-- One cell. -/
noncomputable def load1 (m : AMem) (b off : Nat) : OR :=
  blkK m b fun _ _ N c => bif2 (Nat.blt off N) (@Option.rec AV (fun _ => OR) (.mk .any m) (fun v => .mk v m) (c.get off)) (.fail 32)
noncomputable def storeK (m : AMem) (b off : Nat) (l : List AV) (k : AMem → OR) : OR :=
  blkK m b fun ro E N c => bif2 (!ro && Nat.ble (Nat.add off l.length) N && l.all AV.plain)
    (putK (.fail 34) l off c fun c => T.setK (.fail 34) (some (.cells false true E N c)) m.t b fun t => k ⟨m.next, t⟩) (.fail 35)
section
variable (P : Program)
noncomputable def isAggA (t : TypeId) : Bool :=
  match P.underlying t with
  | some (.struct _) | some (.array _ _) => true
  | _ => false
/-- How a type's variables lie: none: unknown; some (false, 1): one cell; some (true, n): an aggregate. -/
noncomputable def layout (t : TypeId) : Option (Bool × Nat) :=
  match P.underlying t, P.info? t with
  | some _, some i => some (isAggA P t, i.size)
  | _, _ => none
noncomputable def loadL (m : AMem) (b off : Nat) (lay : Bool × Nat) : OR :=
  bif2 lay.1 (loadK m b off lay.2 fun l => .mk (.agg l) m) (load1 m b off)
noncomputable def aLoad (t : TypeId) (a : AV) (m : AMem) : OR :=
  a.onPtr (fun b off => @Option.rec (Bool × Nat) (fun _ => OR) (.fail 37) (loadL m b off) (layout P t)) (.fail 38)
noncomputable def storeL (m : AMem) (b off : Nat) (v : AV) (lay : Bool × Nat) : OR :=
  bif2 (Nat.beq v.cells.length lay.2) (storeK m b off v.cells fun m => .mk .undef m) (.fail 39)
noncomputable def aStore (t : TypeId) (a v : AV) (m : AMem) : OR :=
  a.onPtr (fun b off => @Option.rec (Bool × Nat) (fun _ => OR) (.fail 39) (storeL m b off v) (layout P t)) (.fail 40)
noncomputable def zeroA (t : TypeId) : Option (List AV) :=
  match P.info? t with
  | some i => match i.zero with
    | some (.agg cs) => some (scals cs.toList)
    | some v => some [scal v]
    | none => none
  | none => none
noncomputable def aAlloc (t : TypeId) (m : AMem) : OR :=
  match zeroA P t with
  | some l => newBlk false 1 l m fun b m => .mk (.ptr b 0) m
  | none => .fail 41
/-- 'place': where the part i lies, and how wide it is. -/
noncomputable def fillA (place : Nat → Option (Nat × Nat)) : List AV → List (Nat × AV) → Option (List AV)
  | cs, [] => some cs
  | cs, (i, v) :: rest =>
    match place i with
    | none => none
    | some (off, size) =>
      bif2 (Nat.beq v.cells.length size && Nat.ble (Nat.add off size) cs.length && v.onTup (fun _ => false) (v.onAgg (fun _ => true) v.plain)) (fillA place (cs.take off ++ v.cells ++ cs.drop (Nat.add off size)) rest) none
noncomputable def fieldPlaceA (fs : Array Field) (i : Nat) : Option (Nat × Nat) :=
  match fs[i]? with
  | some f => match P.info? f.type with
    | some j => some (f.offset, j.size)
    | none => none
  | none => none
noncomputable def fieldsKnown (fs : Array Field) : Bool := fs.toList.all fun f => (P.info? f.type).isSome
noncomputable def aBuild (t : TypeId) (ps : List (Nat × AV)) (m : AMem) : OR :=
  match zeroA P t, P.underlying t with
  | some z, some (.struct fs) => bif2 (fieldsKnown P fs) (match fillA (fieldPlaceA P fs) z ps with | some l => .mk (.agg l) m | none => .fail 42) (.fail 42)
  | some z, some (.array _ e) => match P.info? e with
    | some i => (match fillA (fun j => some (Nat.mul j i.size, i.size)) z ps with | some l => .mk (.agg l) m | none => .fail 43)
    | none => .fail 43
  | _, _ => .fail 44
noncomputable def repA (z : List AV) : Nat → List AV
  | 0 => []
  | n + 1 => z ++ repA z n
/-- An element's size and zero cells. -/
noncomputable def elemInfo (t : TypeId) : Option (TypeInfo × List AV) :=
  match P.underlying t with
  | some (.slice e) => match P.info? e, zeroA P e with
    | some i, some z => bif2 (Nat.beq z.length i.size && Nat.blt 0 i.size && Nat.ble i.bytes 4096) (some (i, z)) none
    | _, _ => none
  | _ => none
noncomputable def aBuildSlice (t : TypeId) (len : Nat) (ps : List (Nat × AV)) (m : AMem) : OR :=
  match elemInfo P t with
  | some (i, z) =>
    bif2 (Nat.ble (Nat.mul len i.size) 65536)
      (match fillA (fun j => some (Nat.mul j i.size, i.size)) (repA z len) ps with
        | some l => newBlk false i.size l m fun b m => .mk (.slice b 0 len (some len)) m
        | none => .fail 45) (.fail 46)
  | none => .fail 48
/-- A field's place. -/
noncomputable def fieldAt (s : TypeId) (f : Nat) : Option Nat :=
  match P.underlying s with
  | some (.struct fs) => match fs[f]? with
    | some fd => match P.info? fd.type with
      | some i => bif2 (Nat.beq i.size 0) none (some fd.offset)
      | none => none
    | none => none
  | _ => none
noncomputable def aFieldAddr (s : TypeId) (x : AV) (f : Nat) (m : AMem) : OR :=
  x.onPtr (fun b off => @Option.rec Nat (fun _ => OR) (.fail 50) (fun d => fNat (Nat.add off d) fun o => .mk (.ptr b o) m) (fieldAt P s f)) (.fail 51)
/-- A part of an aggregate. -/
noncomputable def partA (t : TypeId) (cs : List AV) (off : Nat) (m : AMem) : OR :=
  match layout P t with
  | none => .fail 52
  | some (true, n) => .mk (.agg ((cs.drop off).take n)) m
  | some (false, _) => match cs[off]? with
    | some v => .mk v m
    | none => .fail 53
noncomputable def aField (s : TypeId) (x : AV) (f : Nat) (m : AMem) : OR :=
  x.onAgg (fun cs => match P.underlying s with
    | some (.struct fs) => match fs[f]? with
      | some fd => partA P fd.type cs fd.offset m
      | none => .fail 54
    | _ => .fail 55) (.fail 55)
/-- An array's or a slice's elements: how wide; an array's length. -/
inductive Ix where
  | bad
  | arr (n size : Nat)
  | sl (size : Nat)
noncomputable def ixOf (t : TypeId) : Ix :=
  match P.underlying t with
  | some (.array n e) => match P.info? e with
    | some j => .arr n j.size
    | none => .bad
  | some (.slice e) => match P.info? e with
    | some j => .sl j.size
    | none => .bad
  | _ => .bad
noncomputable def aIndexAddr (t : TypeId) (x ix : AV) (m : AMem) : OR :=
  ix.onInt (fun _ n => @Int.rec (fun _ => OR) (fun i => @Ix.rec (fun _ => OR) (.fail 57) (fun n size => x.onPtr (fun b off => bif2 (Nat.blt i n) (fNat (Nat.add off (Nat.mul i size)) fun o => .mk (.ptr b o) m) (.fail 56)) (.fail 56)) (fun size => x.onSlice (fun b off len _ => bif2 (Nat.blt i len) (fNat (Nat.add off (Nat.mul i size)) fun o => .mk (.ptr b o) m) (.fail 58)) (.fail 58)) (ixOf P t)) (fun _ => .fail 60) n) (.fail 60)
noncomputable def aIndex (t : TypeId) (x ix : AV) (m : AMem) : OR :=
  match ix with
  | .int _ (.ofNat i) =>
    match P.underlying t, x with
    | some .string, .str s => match s[i]? with
      | some b => .mk (.int .u8 (.ofNat b)) m
      | none => .fail 61
    | some (.array n e), .agg cs => match P.info? e with
      | some j => bif2 (Nat.blt i n) (partA P e cs (Nat.mul i j.size) m) (.fail 62)
      | none => .fail 62
    | _, _ => .fail 63
  | _ => .fail 64
/-- A bound of a slice expression. -/
noncomputable def bnd (v : Option AV) (d : Nat) (k : Nat → OR) : OR :=
  match v with
  | none => k d
  | some (.int _ (.ofNat i)) => k i
  | _ => .fail 65
noncomputable def cutAt (b off size l h M : Nat) (m : AMem) : OR :=
  fNat (bif2 (Nat.beq M l) off (Nat.add off (Nat.mul l size))) fun o => fNat (Nat.sub h l) fun n => fNat (Nat.sub M l) fun c => .mk (.slice b o n (some c)) m
noncomputable def aSlice (t : TypeId) (x : AV) (lo hi mx : Option AV) (m : AMem) : OR :=
  match P.underlying t, x with
  | some .string, .str s =>
    match mx with
    | some _ => .fail 66
    | none => fNat s.length fun n => bnd hi n fun h => bnd lo 0 fun l => bif2 (Nat.ble l h && Nat.ble h n) (.mk (.str ((s.drop l).take (Nat.sub h l))) m) (.fail 67)
  | some (.slice e), .slice b off len cap => match P.info? e with
    | some j => match cap, mx with
      | some c, _ =>
        bnd mx c fun M => bnd hi len fun h => bnd lo 0 fun l =>
          bif2 ((hi.isSome || !mx.isSome) && Nat.ble l h && Nat.ble h M && Nat.ble M c) (cutAt b off j.size l h M m) (.fail 68)
      | none, none =>
        bnd hi len fun h => bnd lo 0 fun l =>
          bif2 (Nat.ble l h && Nat.ble h len)
            (bif2 (Nat.beq l 0) (.mk (.slice b off h none) m)
            (bif2 (Nat.blt l len) (blkK m b fun _ E _ _ => bif2 (Nat.beq E j.size) (fNat (Nat.add off (Nat.mul l j.size)) fun o => fNat (Nat.sub h l) fun n => .mk (.slice b o n none) m) (.fail 69))
            (.mk .emp m))) (blkK m b fun _ E N _ => bif2 (Nat.ble l h && Nat.beq E j.size && Nat.ble (Nat.add off (Nat.mul h j.size)) N && Nat.blt (Nat.mul l j.size) (Nat.mul h j.size))
              (fNat (Nat.add off (Nat.mul l j.size)) fun o => fNat (Nat.sub h l) fun n => .mk (.slice b o n none) m) (.fail 69))
      | none, some _ =>
        bnd mx len fun M => bnd hi len fun h => bnd lo 0 fun l =>
          bif2 (hi.isSome && Nat.ble l h && Nat.ble h M && Nat.ble M len) (cutAt b off j.size l h M m) (.fail 70)
    | none => .fail 71
  | some (.slice e), .nils => match P.info? e with
    | some _ => bnd mx 0 fun M => bnd hi 0 fun h => bnd lo 0 fun l => bif2 ((hi.isSome || !mx.isSome) && Nat.beq M 0 && Nat.beq l 0 && Nat.beq h 0) (.mk .nils m) (.fail 72)
    | none => .fail 72
  | some (.array n e), .ptr b off => match P.info? e with
    | some j =>
      bnd mx n fun M => bnd hi n fun h => bnd lo 0 fun l =>
        bif2 ((hi.isSome || !mx.isSome) && Nat.ble l h && Nat.ble h M && Nat.ble M n) (cutAt b off j.size l h M m) (.fail 73)
    | none => .fail 73
  | _, _ => .fail 74
noncomputable def aMakeSlice (t : TypeId) (l c : AV) (m : AMem) : OR :=
  match elemInfo P t with
  | some (i, z) =>
    match l, c with
    | .int _ (.ofNat l), .int _ (.ofNat c) =>
      bif2 (Nat.ble l c && Nat.ble c 65536)
        (newBlk false i.size (repA z c) m fun b m => .mk (.slice b 0 l (some c)) m) (.fail 75)
    | _, _ => .fail 76
  | none => .fail 78
end
/-- What a slice or a string hands to append, copy: its first n elements' cells. -/
noncomputable def elemsK (m : AMem) (size n : Nat) (x : AV) (k : List AV → OR) : OR :=
  match x with
  | .slice b off len _ => bif2 (Nat.ble n len) (loadK m b off (Nat.mul n size) k) (.fail 80)
  | .nils | .emp => bif2 (Nat.beq n 0) (k []) (.fail 81)
  | .str s => bif2 (Nat.beq size 1 && Nat.ble n s.length) (k ((s.take n).map fun c => .int .u8 (.ofNat c))) (.fail 82)
  | _ => .fail 82
noncomputable def lenA : AV → Option Nat
  | .slice _ _ n _ => some n
  | .nils | .emp => some 0
  | .str s => some s.length
  | _ => none
/-- A new array, which may be larger. -/
noncomputable def growA (size : Nat) (l : List AV) (len : Nat) (m : AMem) : OR := newBlk true size l m fun b m => .mk (.slice b 0 len none) m
section
variable (P : Program)
/-- Is it the type of what is appended (and no number, as 'append(s, make(..)..)' has it)? -/
noncomputable def appendable (xt : Option TypeId) : Bool :=
  match xt with
  | some t => match P.underlying t with
    | some (.int _) => false
    | some _ => true
    | none => false
  | none => false
/-- To a slice that ends where all that is known of its array ends: in its place or in a new array. -/
noncomputable def appendEnd (size : Nat) (s x : AV) (b n need : Nat) (ro : Bool) (len : Nat) (m : AMem) : OR :=
  bif2 ro (.fail 88) (elemsK m size len s fun old => elemsK m size n x fun new =>
    bif2 (new.all AV.plain) (T.setK (.fail 86) none m.t b fun t => growA size (old ++ new) need ⟨m.next, t⟩) (.fail 87))
noncomputable def appendTo (size : Nat) (s x : AV) (b off len : Nat) (cap : Option Nat) (n : Nat) (m : AMem) : OR :=
  fNat (Nat.add len n) fun need => blkK m b fun ro E N _ =>
    match cap with
    | some c => bif2 (Nat.ble need c)
        (elemsK m size n x fun new => storeK m b (Nat.add off (Nat.mul len size)) new fun m => .mk (.slice b off need cap) m)
        (elemsK m size len s fun old => elemsK m size n x fun new => growA size (old ++ new) need m)
    | none => bif2 (Nat.beq E size)
        (bif2 (Nat.ble (Nat.add off (Nat.mul need size)) N)
          (elemsK m size n x fun new => storeK m b (Nat.add off (Nat.mul len size)) new fun m => .mk (.slice b off need cap) m)
          (bif2 (Nat.beq (Nat.add off (Nat.mul len size)) N) (appendEnd size s x b n need ro len m) (.fail 89))) (.fail 89)
noncomputable def intT (xt : Option TypeId) : Bool :=
  match xt with
  | some t => match P.underlying t with
    | some (.int _) => true
    | _ => false
  | none => false
/-- append(s, make(..)..): as many zero values as a number says, where there is no room. -/
noncomputable def aAppendZ (i : TypeInfo) (z : List AV) (xt : Option TypeId) (s x : AV) (m : AMem) : OR :=
  match s, x with
  | .slice b off len (some c), .int _ (.ofNat k) =>
    bif2 (intT P xt && Nat.blt 0 k && Nat.blt c (Nat.add len k) && Nat.ble (Nat.add len k) 1048576) (elemsK m i.size len (.slice b off len (some c)) fun old => fNat (Nat.add len k) fun n => growA i.size (old ++ repA z k) n m) (.fail 83)
  | _, _ => .fail 83
noncomputable def aAppend (st : TypeId) (xt : Option TypeId) (s x : AV) (m : AMem) : OR :=
  match elemInfo P st with
  | some (i, z) =>
    bif2 (!appendable P xt) (aAppendZ P i z xt s x m)
    (match lenA x with
      | none => .fail 84
      | some n => fNat n fun n => bif2 (Nat.blt 1048576 n) (.fail 84)
        (match s with
        | .nils => bif2 (Nat.beq n 0) (.mk .nils m) (elemsK m i.size n x fun new => growA i.size new n m)
        | .emp => bif2 (Nat.beq n 0) (.mk .emp m) (.fail 85)
        | .slice b off len cap => bif2 (Nat.beq n 0) (.mk (.slice b off len cap) m) (bif2 (Nat.blt 1048576 len) (.fail 84) (appendTo i.size (.slice b off len cap) x b off len cap n m))
        | _ => .fail 91))
  | none => .fail 93
noncomputable def aCopy (dt : TypeId) (d x : AV) (m : AMem) : OR :=
  match elemInfo P dt with
  | some (i, _) =>
    match lenA x, d with
    | some n, .slice b off len _ =>
      fNat (bif2 (Nat.ble n len) n len) fun n => elemsK m i.size n x fun new => storeK m b off new fun m => .mk (.int .i64 (.ofNat n)) m
    | some _, .nils | some _, .emp => .mk (.int .i64 0) m
    | _, _ => .fail 94
  | none => .fail 96
noncomputable def aClear (t : TypeId) (x : AV) (m : AMem) (store : Nat → Nat → List AV → OR) : OR :=
  match elemInfo P t, x with
  | some _, .nils | some _, .emp => .mk .undef m
  | some (_, z), .slice b off len _ => bif2 (Nat.beq len 0) (.mk .undef m) (store b off (repA z len))
  | _, _ => .fail 126
noncomputable def aLen (t : TypeId) (x : AV) (m : AMem) : OR :=
  match P.underlying t, x with
  | some .string, .str s => fNat s.length fun n => .mk (.int .i64 (.ofNat n)) m
  | some (.slice _), .slice _ _ n _ => .mk (.int .i64 (.ofNat n)) m
  | some (.slice _), .nils | some (.slice _), .emp => .mk (.int .i64 0) m
  | some (.array n _), _ => .mk (.int .i64 (.ofNat n)) m
  | some (.pointer a), _ => match P.underlying a with
    | some (.array n _) => .mk (.int .i64 (.ofNat n)) m
    | _ => .fail 97
  | _, _ => .fail 98
noncomputable def aCap (t : TypeId) (x : AV) (m : AMem) : OR :=
  match P.underlying t, x with
  | some (.slice _), .slice _ _ _ (some n) => .mk (.int .i64 (.ofNat n)) m
  | some (.slice _), .nils => .mk (.int .i64 0) m
  | some (.array n _), _ => .mk (.int .i64 (.ofNat n)) m
  | _, _ => .fail 99
noncomputable def aMM (mx : Bool) : AV → List AV → AMem → OR
  | v, [], m => .mk v m
  | .int k a, .int k' b :: l, m => bif2 (kEq k k') (bif2 (bif2 mx (iLt a b) (iLt b a)) (aMM mx (.int k b) l m) (aMM mx (.int k a) l m)) (.fail 100)
  | _, _, _ => .fail 101
/-- Bytes as a string. -/
noncomputable def bytesK : List AV → (List Nat → OR) → OR
  | [], k => k []
  | .int .u8 (.ofNat n) :: l, k => bif2 (Nat.blt n 256) (bytesK l fun s => k (n :: s)) (.fail 102)
  | _, _ => .fail 103
noncomputable def aConvert (src dst : TypeId) (x : AV) (m : AMem) : OR :=
  match P.underlying src, P.underlying dst, x with
  | some _, some (.int k), .int _ n => wrapK k n fun n => .mk (.int k n) m
  | some _, some .string, .str s => .mk (.str s) m
  | some (.slice e), some .string, x => match P.underlying e with
    | some (.int .u8) => match x with
      | .slice b off len _ => loadK m b off len fun l => bytesK l fun s => .mk (.str s) m
      | .nils => .mk (.str []) m
      | .emp => .mk (.str []) m
      | _ => .fail 104
    | _ => .fail 105
  | some _, some (.slice e), .str s => match P.underlying e, P.info? e with
    | some (.int .u8), some i => bif2 (Nat.beq i.size 1 && Nat.ble s.length 1048576) (newBlk true 1 (s.map fun c => .int .u8 (.ofNat c)) m fun b m => fNat s.length fun n => .mk (.slice b 0 n none) m) (.fail 106)
    | _, _ => .fail 106
  | _, _, _ => .fail 107
noncomputable def aUn (op : UnOp) (x : AV) (m : AMem) : OR :=
  match op with
  | .neg => x.onInt (fun k n => wrapK k (Int.sub 0 n) fun n => .mk (.int k n) m) (.fail 109)
  | .not => x.onBool (fun b => iBool (!b) m) (.fail 109)
  | .xor => x.onInt (fun k n => match k.signed, n with
    | false, .ofNat a => bif2 (Nat.blt a (2 ^ k.bits)) (fInt (.ofNat (Nat.sub (2 ^ k.bits - 1) a)) fun n => .mk (.int k n) m) (.fail 108)
    | true, n => wrapK k (Int.sub (-1) n) fun n => .mk (.int k n) m
    | _, _ => .fail 108) (.fail 109)
  | _ => .fail 109
noncomputable def isConst (x : Operand) : Bool := @Operand.rec (fun _ => Bool) (fun _ => false) (fun _ => true) (fun _ => false) (fun _ => false) x
noncomputable def builtinA (b : Builtin) (ats : Array TypeId) (vs : List AV) (m : AMem) : OR :=
  match b, ats[0]?, vs with
  | .len, some t, [x] => aLen P t x m
  | .cap, some t, [x] => aCap P t x m
  | .append, some t, [s, x] => aAppend P t ats[1]? s x m
  | .copy, some t, [d, x] => aCopy P t d x m
  | .clear, some t, [x] => aClear P t x m fun b off l => storeK m b off l fun m => .mk .undef m
  | .max, _, v :: l => aMM true v l m
  | .min, _, v :: l => aMM false v l m
  | _, _, _ => .fail 110
end
/-! ### Maps -/
noncomputable def mapK (m : AMem) (b : Nat) (k : Bool → Nat → List Ent → OR) : OR :=
  @Option.rec Blk (fun _ => OR) (.fail 230) (fun x => @Blk.rec (fun _ => OR) (fun _ _ _ _ _ => .fail 230) k x) (m.t.get b)
noncomputable def setMap (b ck : Nat) (es : List Ent) (m : AMem) (k : AMem → OR) : OR :=
  T.setK (.fail 231) (some (.map false ck es)) m.t b fun t => k ⟨m.next, t⟩
noncomputable def scEq (x y : AV) : Bool :=
  match x, y with
  | .bool a, .bool b => a == b
  | .int j a, .int k b => kEq j k && iEq a b
  | .str a, .str b => lEq a b
  | _, _ => false
noncomputable def scEqs : List AV → List AV → Bool
  | [], [] => true
  | a :: l, b :: l' => scEq a b && scEqs l l'
  | _, _ => false
/-- Two keys, all known, that are the same. -/
noncomputable def keySame (x y : AV) : Bool :=
  match x, y with
  | .agg a, .agg b => scEqs a b
  | x, y => scEq x y
section
variable (P : Program)
/-- A type whose values are held against one another at one look. -/
noncomputable def flatT (t : TypeId) : Bool :=
  match P.underlying t with
  | some .bool => true
  | some (.int _) => true
  | some .string => true
  | _ => false
/-- May it be a key? -/
noncomputable def keyOk (kt : TypeId) (k : AV) : Bool :=
  match P.underlying kt with
  | some (.struct fs) => !P.stoodInHeld kt && k.onAgg (fun cs => fs.toList.all fun f => Nat.blt f.offset cs.length && flatT P f.type) false
  | _ => flatT P kt
noncomputable def keyEq (kt : TypeId) (x y : AV) : Option Bool :=
  match P.underlying kt with
  | some (.struct fs) => x.onAgg (fun xs => y.onAgg (fun ys => aggEq P fs.toList xs ys) none) none
  | d => sEq d x y
/-- The entries ahead of a key's, its own, those behind it. none: it can't be told. -/
noncomputable def findA (kt : TypeId) (k : AV) : List Ent → Option (List Ent × Option Ent × List Ent)
  | [] => some ([], none, [])
  | e :: l => match keyEq P kt k e.k, findA kt k l with
    | some false, some (a, x, b) => some (e :: a, x, b)
    | some true, some (_, none, _) => some ([], some e, l)
    | _, _ => none
/-- The entry of a stamp. -/
noncomputable def bornA (n : Nat) : List Ent → Option (List Ent × Ent × List Ent)
  | [] => none
  | e :: l => match e.born with
    | some i => bif2 (Nat.beq i n) (some ([], e, l)) (match bornA n l with | some (a, x, b) => some (e :: a, x, b) | none => none)
    | none => match bornA n l with | some (a, x, b) => some (e :: a, x, b) | none => none
noncomputable def zeroV (t : TypeId) : Option AV :=
  match P.info? t with
  | some i => match i.zero with
    | some (.agg cs) => some (.agg (scals cs.toList))
    | some v => some (scal v)
    | none => none
  | none => none
noncomputable def found (ok : Bool) (v : AV) (b : Bool) (m : AMem) : OR := bif2 ok (.mk (.tup [v, .bool b]) m) (.mk v m)
noncomputable def aLookup (t : TypeId) (x k : AV) (ok : Bool) (m : AMem) : OR :=
  match P.underlying t with
  | some (.map kt et) => bif2 (keyOk P kt k) (match zeroV P et with
    | none => .fail 232
    | some z => match x with
      | .nilm => found ok z false m
      | .map b => mapK m b fun _ _ es => match findA P kt k es with
        | some (_, some e, _) => found ok e.v true m
        | some (_, none, _) => found ok z false m
        | none => .fail 233
      | _ => .fail 234) (.fail 235)
  | _ => .fail 236
noncomputable def aMapUpdate (t : TypeId) (x k v : AV) (m : AMem) : OR :=
  match P.underlying t, x with
  | some (.map kt _), .map b => bif2 (keyOk P kt k) (mapK m b fun ro ck es => bif2 ro (.fail 237) (match findA P kt k es with
    | some (a, some e, l) => bif2 (keySame k e.k) (setMap b ck (a ++ ⟨k, v, e.born⟩ :: l) m fun m => .mk .undef m) (.fail 238)
    | some (_, none, _) => fNat (Nat.succ ck) fun c1 => setMap b c1 (es ++ [⟨k, v, some ck⟩]) m fun m => .mk .undef m
    | none => .fail 239)) (.fail 240)
  | _, _ => .fail 241
noncomputable def aDelete (t : TypeId) (x k : AV) (m : AMem) : OR :=
  match P.underlying t, x with
  | some (.map kt _), .map b => bif2 (keyOk P kt k) (mapK m b fun ro ck es => bif2 ro (.fail 252) (match findA P kt k es with
    | some (a, some _, l) => setMap b ck (a ++ l) m fun m => .mk .undef m
    | some (_, none, _) => setMap b ck es m fun m => .mk .undef m
    | none => .fail 253)) (.fail 254)
  | _, _ => .fail 255
noncomputable def isDel (b : Builtin) : Bool := match b with
  | .delete => true
  | _ => false
noncomputable def delA (ats : Array TypeId) (vs : List AV) (m : AMem) : OR :=
  match ats[0]?, vs with
  | some t, [x, k] => aDelete P t x k m
  | _, _ => .fail 256
noncomputable def aMapEntry (t : TypeId) (x k : AV) (m : AMem) : OR :=
  match P.underlying t, x with
  | some (.map kt et), .map b => bif2 (keyOk P kt k) (mapK m b fun ro ck es => bif2 ro (.fail 242) (match findA P kt k es with
    | some (_, some e, _) => bif2 (keySame k e.k) (match e.born with
      | some n => .mk (.tup [e.v, .int .i64 (.ofNat n)]) m
      | none => .fail 243) (.fail 244)
    | some (_, none, _) => match zeroV P et with
      | some z => fNat (Nat.succ ck) fun c1 => setMap b c1 (es ++ [⟨k, z, some ck⟩]) m fun m => .mk (.tup [z, .int .i64 (.ofNat ck)]) m
      | none => .fail 245
    | none => .fail 246)) (.fail 247)
  | _, _ => .fail 248
noncomputable def aEntryStore (x s v : AV) (m : AMem) : OR :=
  match x, s with
  | .map b, .int .i64 (.ofNat n) => mapK m b fun ro ck es => bif2 ro (.fail 249) (match bornA n es with
    | some (a, e, l) => setMap b ck (a ++ ⟨e.k, v, e.born⟩ :: l) m fun m => .mk .undef m
    | none => .fail 250)
  | _, _ => .fail 251
noncomputable def aMakeMap (r : Option AV) (m : AMem) : OR :=
  match r with
  | some _ => .fail 252
  | none => T.setK (.fail 253) (some (.map false 0 [])) m.t m.next fun t => fNat (Nat.succ m.next) fun nx => .mk (.map m.next) ⟨nx, t⟩
end
/-! ### Operations -/
abbrev Call := FuncId → List AV → AMem → OR
abbrev OpK := Program → Call → T AV → AMem → OR
namespace O
noncomputable def move (x : Operand) : OpK := fun _ _ t m => evK t x fun v => .mk v m
noncomputable def pick (c a b : Operand) : OpK := fun _ _ t m => evK t c fun v => v.onBool (fun v => bif2 v (evK t a fun v => .mk v m) (evK t b fun v => .mk v m)) (.fail 111)
noncomputable def alloc (e : TypeId) : OpK := fun P _ _ m => aAlloc P e m
noncomputable def box (_ : TypeId) (x : Operand) : OpK := fun _ _ t m => evK t x fun v => bif2 (v.onAgg (fun _ => true) v.plain) (newBlk false 1 v.cells m fun b m => .mk (.ptr b 0) m) (.fail 112)
noncomputable def build (ty : TypeId) (ps : Array (Nat × Operand)) : OpK := fun P _ t m => evPs t ps.toList fun l => aBuild P ty l m
noncomputable def buildSlice (ty : TypeId) (n : Nat) (ps : Array (Nat × Operand)) : OpK := fun P _ t m => evPs t ps.toList fun l => aBuildSlice P ty n l m
noncomputable def load (ty : TypeId) (a : Operand) : OpK := fun P _ t m => evK t a fun a => aLoad P ty a m
noncomputable def store (ty : TypeId) (a v : Operand) : OpK := fun P _ t m => evK t a fun a => evK t v fun v => aStore P ty a v m
noncomputable def nilCheck (x : Operand) : OpK := fun _ _ t m => evK t x fun v => v.onPtr (fun b o => .mk (.ptr b o) m) (v.onFn (fun f c => .mk (.fn f c) m) (.fail 113))
noncomputable def binOp (op : BinOp) (ty : TypeId) (x y : Operand) (_ : TypeId) : OpK := fun P _ t m => evK t x fun a => evK t y fun b => aBin2 P op ty (isConst x || isConst y) a b m
noncomputable def unOp (op : UnOp) (_ : TypeId) (x : Operand) : OpK := fun _ _ t m => evK t x fun v => aUn op v m
noncomputable def convert (s d : TypeId) (x : Operand) : OpK := fun P _ t m => evK t x fun v => aConvert P s d v m
noncomputable def ifaceOk (P : Program) (ty : TypeId) : Bool := match P.underlying ty with
  | some (.interface _) => false
  | some _ => true
  | none => false
noncomputable def makeInterface (ty : TypeId) (x : Operand) : OpK := fun P _ t m => evK t x fun v => bif2 (ifaceOk P ty) (.mk (.iface ty v) m) (.fail 114)
noncomputable def makeFunc (fn : Fn) (first caps : Array Operand) : OpK := fun _ _ t m => match fn, first.toList with
  | .func f, [] => evsK t caps.toList fun l => .mk (.fn f l) m
  | _, _ => .fail 115
noncomputable def makeSlice (ty : TypeId) (l c : Operand) : OpK := fun P _ t m => evK t l fun l => evK t c fun c => aMakeSlice P ty l c m
noncomputable def slice (ty : TypeId) (x : Operand) (lo hi mx : Option Operand) : OpK := fun P _ t m => evK t x fun x => evO t lo fun lo => evO t hi fun hi => evO t mx fun mx => aSlice P ty x lo hi mx m
noncomputable def fieldAddr (s : TypeId) (x : Operand) (f : Nat) : OpK := fun P _ t m => evK t x fun x => aFieldAddr P s x f m
noncomputable def field (s : TypeId) (x : Operand) (f : Nat) : OpK := fun P _ t m => evK t x fun x => aField P s x f m
noncomputable def indexAddr (ty : TypeId) (x i : Operand) : OpK := fun P _ t m => evK t x fun x => evK t i fun i => aIndexAddr P ty x i m
noncomputable def index (ty : TypeId) (x i : Operand) : OpK := fun P _ t m => evK t x fun x => evK t i fun i => aIndex P ty x i m
noncomputable def makeMap (_ : TypeId) (r : Option Operand) : OpK := fun _ _ t m => evO t r fun r => aMakeMap r m
noncomputable def lookup (ty : TypeId) (x k : Operand) (ok : Bool) : OpK := fun P _ t m => evK t x fun x => evK t k fun k => aLookup P ty x k ok m
noncomputable def mapUpdate (ty : TypeId) (x k v : Operand) : OpK := fun P _ t m => evK t x fun x => evK t k fun k => evK t v fun v => aMapUpdate P ty x k v m
noncomputable def mapEntry (ty : TypeId) (x k : Operand) : OpK := fun P _ t m => evK t x fun x => evK t k fun k => aMapEntry P ty x k m
noncomputable def entryStore (_ : TypeId) (x s v : Operand) : OpK := fun _ _ t m => evK t x fun x => evK t s fun s => evK t v fun v => aEntryStore x s v m
noncomputable def extract (x : Operand) (i : Nat) : OpK := fun _ _ t m => evK t x fun x => x.onTup (fun l => @Option.rec AV (fun _ => OR) (.fail 116) (fun v => .mk v m) l[i]?) (.fail 117)
noncomputable def callV (f : Operand) (args : Array Operand) : OpK := fun _ call t m => evK t f fun f => f.onFn (fun g caps => evsK t args.toList fun vs => call g (vs ++ caps) m) (.fail 120)
noncomputable def callB (b : Builtin) (args : Array Operand) (ats : Array TypeId) : OpK := fun P _ t m => evsK t args.toList fun vs => bif2 (isDel b) (delA P ats vs m) (builtinA P b ats vs m)
noncomputable def call (c : Go.Call) : OpK := @Go.Call.rec (fun _ => OpK) (fun callee args ats => @Callee.rec (fun _ => OpK) (fun f => callV f args) (fun _ _ _ _ _ _ => .fail 118) (fun b => callB b args ats) callee) c
noncomputable def bad (c : Nat) : OpK := fun _ _ _ _ => .fail c
end O
noncomputable def opTab (o : Op) : OpK :=
  @Op.rec (fun _ => OpK) O.move O.move O.pick O.alloc O.box O.build O.buildSlice O.mapUpdate O.load O.store (fun _ => O.bad 202) (fun _ => O.bad 203) O.nilCheck O.binOp O.unOp O.convert (fun _ _ => O.bad 204) O.makeInterface O.makeFunc O.makeMap (fun _ _ => O.bad 206) O.makeSlice O.slice O.fieldAddr O.field O.indexAddr O.index O.lookup O.mapUpdate O.mapEntry O.entryStore (fun _ _ => O.bad 211) (fun _ _ => O.bad 212) (fun _ => O.bad 213) (fun _ _ _ _ => O.bad 214) O.extract O.call (fun _ => O.bad 215) (fun _ => O.bad 216) (fun _ => O.bad 217) (fun _ _ => O.bad 218) (fun _ _ _ => O.bad 219) (fun _ _ => O.bad 220) o
/-! ### Regions -/
noncomputable def dstK (nt : Nat) (dst : Option Tmp) (v : AV) (t : T AV) (k : T AV → Res) : Res :=
  @Option.rec Nat (fun _ => Res) (k t) (fun d => bif2 (Nat.blt d nt) (T.setK (.fail 121) (some v) t d k) (.fail 122)) dst
/-- Is the operation wanted? (none: it can't be told) -/
noncomputable def wantedA (all : Array Oper) (t : T AV) (j : Nat) (want : Bool) : Option Bool :=
  match all[j]? with
  | none => some false
  | some g => match g.dst with
    | none => some false
    | some d => match t.get d with
      | some v => v.onBool (fun b => some (b == want)) (@AV.rec (fun _ => Option Bool) (fun _ => PUnit) none (fun _ => none) (fun _ _ => some false) (fun _ => some false) (fun _ _ => some false) (some false) (fun _ _ _ _ => some false) (some false) (some false) (fun _ => some false) (some false) (fun a0 a1 _ => (fun _ _ => some false) a0 a1) (some false) (fun a0 a1 _ => (fun _ _ => some false) a0 a1) (some false) (fun a0 _ => (fun _ => some false) a0) (fun a0 _ => (fun _ => some false) a0) ⟨⟩ (fun _ _ _ _ => ⟨⟩) v)
      | none => some false
noncomputable def goOp (P : Program) (call : Call) (nt : Nat) (dst : Option Tmp) (op : Op) (t : T AV) (m : AMem) (k : T AV → AMem → Res) : Res :=
  @OR.rec (fun _ => Res) Res.fail (fun v m1 => bif2 (Nat.ble m.next m1.next) (dstK nt dst v t fun t => k t m1) (.fail 124)) (opTab op P call t m)
/-- One operation of a region. -/
noncomputable def regOp (P : Program) (call : Call) (nt : Nat) (all : Array Oper) (o : Oper) (t : T AV) (m : AMem) (k : T AV → AMem → Res) : Res :=
  @Oper.rec (fun _ => Res) (fun dst op _ _ _ guard =>
    @Option.rec (Nat × Bool) (fun _ => Res) (goOp P call nt dst op t m k) (fun g =>
      @Option.rec Bool (fun _ => Res) (.fail 123) (fun w => bif2 w (goOp P call nt dst op t m k) (dstK nt dst .undef t fun t => k t m)) (wantedA all t g.1 g.2)) guard) o
noncomputable def opsA (P : Program) (call : Call) (nt : Nat) (all : Array Oper) (l : List Oper) : T AV → AMem → Res :=
  @List.rec Oper (fun _ => T AV → AMem → Res) (fun t m => .mk .norm t m) (fun o _ ih t m => regOp P call nt all o t m ih) l
/-! ### Regions whose order is drawn -/
noncomputable def bindsA (e : Edge) : Bool := match e.ground with
  | .textOnly _ => false
  | .gcOnly _ => false
  | _ => true
noncomputable def bitA (a i : Nat) : Bool := Nat.beq (Nat.land (Nat.shiftRight a i) 1) 1
noncomputable def subA (a b : Nat) : Bool := Nat.beq (Nat.land a b) a
noncomputable def natAt (t : T Nat) (i : Nat) : Nat := @Option.rec Nat (fun _ => Nat) 0 (fun n => n) (t.get i)
noncomputable def ancOf (A : T Nat) (l : List Edge) : Nat := @List.rec Edge (fun _ => Nat) 0 (fun e _ ih => bif2 (bindsA e) (Nat.lor (Nat.lor (Nat.shiftLeft 1 e.on) (natAt A e.on)) ih) ih) l
noncomputable def lowA (j : Nat) (l : List Edge) : Bool := @List.rec Edge (fun _ => Bool) true (fun e _ ih => bif2 (bindsA e) (bif2 (Nat.blt e.on j) ih false) ih) l
noncomputable def namesA (a : Nat) (W : T Nat) (l : List Tmp) : Bool := @List.rec Tmp (fun _ => Bool) true (fun u _ ih => bif2 (subA (natAt W u) a) ih false) l
noncomputable def addNames (j : Nat) (l : List Tmp) : T Nat → (T Nat → Option (List Nat)) → Option (List Nat) :=
  @List.rec Tmp (fun _ => T Nat → (T Nat → Option (List Nat)) → Option (List Nat)) (fun N k => k N) (fun u _ ih N k => fNat (Nat.lor (natAt N u) (Nat.shiftLeft 1 j)) fun n => T.setK none (some n) N u fun N => ih N k) l
noncomputable def consO (a : Nat) (r : Option (List Nat)) : Option (List Nat) := @Option.rec (List Nat) (fun _ => Option (List Nat)) none (fun l => some (a :: l)) r
/-- Of one operation: which ones are ahead of it; none: names might be turned in between. -/
noncomputable def maskOne (all : Array Oper) (o : Oper) (j : Nat) (A W N : T Nat) (k : T Nat → T Nat → T Nat → Option (List Nat)) : Option (List Nat) :=
  fNat (ancOf A o.after.toList) fun a => bif2 (lowA j o.after.toList) (bif2 (namesA a W (o.looksAt all)) (addNames j (o.looksAt all) N fun N =>
    T.setK none (some a) A j fun A => @Option.rec Nat (fun _ => Option (List Nat)) (consO a (k A W N)) (fun d =>
      bif2 (Nat.beq (natAt W d) 0) (bif2 (subA (natAt N d) a) (fNat (Nat.shiftLeft 1 j) fun n => T.setK none (some n) W d fun W => consO a (k A W N)) none) none) o.dst) none) none
noncomputable def masksFrom (all : Array Oper) (l : List Oper) : Nat → T Nat → T Nat → T Nat → Option (List Nat) :=
  @List.rec Oper (fun _ => Nat → T Nat → T Nat → T Nat → Option (List Nat)) (fun _ _ _ _ => some []) (fun o _ ih j A W N => maskOne all o j A W N fun A W N => fNat (Nat.succ j) fun j => ih j A W N) l
noncomputable def masks (all : Array Oper) : Option (List Nat) := masksFrom all all.toList 0 .leaf .leaf .leaf
/-- Are they the same? -/
noncomputable def eqV : Nat → AV → AV → Bool
  | 0, _, _ => false
  | n + 1, a, b => match a, b with
    | .bool x, .bool y => x == y
    | .int k x, .int l y => bif2 (kEq k l) (iEq x y) false
    | .str x, .str y => lEq x y
    | .ptr x y, .ptr z u => bif2 (Nat.beq x z) (Nat.beq y u) false
    | .nilp, .nilp => true
    | .slice x y z none, .slice x' y' z' none => bif2 (Nat.beq x x') (bif2 (Nat.beq y y') (Nat.beq z z') false) false
    | .slice x y z (some c), .slice x' y' z' (some c') => bif2 (Nat.beq x x') (bif2 (Nat.beq y y') (bif2 (Nat.beq z z') (Nat.beq c c') false) false) false
    | .nils, .nils => true
    | .emp, .emp => true
    | .map x, .map y => Nat.beq x y
    | .nilm, .nilm => true
    | .nilf, .nilf => true
    | .fn f x, .fn g y => bif2 (Nat.beq f g) (eqVs n x y) false
    | .iface s x, .iface t y => bif2 (Nat.beq s t) (eqV n x y) false
    | .nili, .nili => true
    | .agg x, .agg y => eqVs n x y
    | .tup x, .tup y => eqVs n x y
    | _, _ => false
where
  eqVs : Nat → List AV → List AV → Bool
  | 0, _, _ => false
  | _ + 1, [], [] => true
  | n + 1, a :: l, b :: m => bif2 (eqV n a b) (eqVs n l m) false
  | _, _, _ => false
/-- 1: it may read memory; 2: it may turn it. -/
noncomputable def heavyB (b : Builtin) : Nat := match b with
  | .append => 2
  | .copy => 2
  | .clear => 2
  | .delete => 2
  | _ => 0
noncomputable def heavyC (c : Go.Call) : Nat := @Go.Call.rec (fun _ => Nat) (fun callee _ _ => @Callee.rec (fun _ => Nat) (fun _ => 2) (fun _ _ => 2) (fun b => heavyB b) callee) c
noncomputable def opKind (o : Op) : Nat :=
  @Op.rec (fun _ => Nat) (fun _ => 0) (fun _ => 0) (fun _ _ _ => 0) (fun _ => 0) (fun _ _ => 0) (fun _ _ => 0) (fun _ _ _ => 0) (fun _ _ _ _ => 2) (fun _ _ => 1) (fun _ _ _ => 2) (fun _ => 0) (fun _ => 0) (fun _ => 0) (fun _ _ _ _ _ => 1) (fun _ _ _ => 0) (fun _ _ _ => 1) (fun _ _ => 0) (fun _ _ => 0) (fun _ _ _ => 0) (fun _ _ => 0) (fun _ _ => 0) (fun _ _ _ => 0) (fun _ _ _ _ _ => 1) (fun _ _ _ => 0) (fun _ _ _ => 0) (fun _ _ _ => 0) (fun _ _ _ => 0) (fun _ _ _ _ => 1) (fun _ _ _ _ => 2) (fun _ _ _ => 2) (fun _ _ _ _ => 2) (fun _ _ => 0) (fun _ _ => 0) (fun _ => 0) (fun _ _ _ _ => 0) (fun _ _ => 0) (fun c => heavyC c) (fun _ => 0) (fun _ => 0) (fun _ => 0) (fun _ _ => 0) (fun _ _ _ => 0) (fun _ _ => 0) o
/-- A read that may still come behind what turns memory. -/
structure Pend where
  j : Nat
  op : Op
  t : T AV
  v : AV
/-- What comes ahead of and between the operations that turn memory. -/
structure DSt where
  als : Nat
  alc : Nat
  hv : Nat
  base : AMem
  st : List (Nat × AMem)
  pend : List Pend
section
variable (P : Program) (call : Call)
noncomputable def readsA (o : Op) (t : T AV) (m : AMem) (v : AV) : Bool := @OR.rec (fun _ => Bool) (fun _ => false) (fun u m1 => bif2 (Nat.beq m1.next m.next) (eqV 40 u v) false) (opTab o P call t m)
noncomputable def atCuts (o : Op) (t : T AV) (v : AV) (a : Nat) (l : List (Nat × AMem)) : Bool := @List.rec (Nat × AMem) (fun _ => Bool) true (fun c _ ih => bif2 (bitA a c.1) true (bif2 (readsA P call o t c.2 v) ih false)) l
noncomputable def pendK (a : Nat) (m : AMem) (l : List Pend) : (List Pend → Res) → Res :=
  @List.rec Pend (fun _ => (List Pend → Res) → Res) (fun k => k []) (fun p _ ih k => bif2 (bitA a p.j) (ih k) (bif2 (readsA P call p.op p.t m p.v) (ih fun l => k (p :: l)) (.fail 131))) l
variable (nt : Nat)
abbrev KD := T AV → AMem → DSt → Res
noncomputable def heavyD (dst : Option Tmp) (op : Op) (a j : Nat) (t : T AV) (m : AMem) (d : DSt) (k : KD) : Res :=
  bif2 (subA d.hv a) (bif2 (subA d.als a) (@OR.rec (fun _ => Res) Res.fail (fun v m1 => bif2 (Nat.ble m.next m1.next)
    (pendK P call a m1 d.pend fun pend => dstK nt dst v t fun t => fNat (Nat.lor d.hv (Nat.shiftLeft 1 j)) fun hv => k t m1 ⟨d.als, 0, hv, m1, (j, d.base) :: d.st, pend⟩) (.fail 132)) (opTab op P call t m)) (.fail 133)) (.fail 134)
noncomputable def readD (dst : Option Tmp) (op : Op) (a j : Nat) (t : T AV) (m : AMem) (d : DSt) (k : KD) : Res :=
  bif2 (Nat.beq (opKind op) 1) (@OR.rec (fun _ => Res) Res.fail (fun v m1 =>
    bif2 (Nat.beq m1.next m.next) (bif2 (bif2 (subA d.alc a) true (readsA P call op t d.base v)) (bif2 (atCuts P call op t v a d.st)
      (dstK nt dst v t fun t1 => k t1 m ⟨d.als, d.alc, d.hv, d.base, d.st, ⟨j, op, t, v⟩ :: d.pend⟩) (.fail 135)) (.fail 136)) (.fail 137)) (opTab op P call t m)) (.fail 138)
noncomputable def newD (dst : Option Tmp) (v : AV) (j : Nat) (t : T AV) (m : AMem) (d : DSt) (k : KD) (x : Blk) : Res :=
  T.setK (.fail 139) (some x) m.t m.next fun tr => fNat (Nat.succ m.next) fun nx => dstK nt dst v t fun t => fNat (Nat.lor d.als (Nat.shiftLeft 1 j)) fun als => fNat (Nat.lor d.alc (Nat.shiftLeft 1 j)) fun alc =>
    k t ⟨nx, tr⟩ ⟨als, alc, d.hv, d.base, d.st, d.pend⟩
noncomputable def isLeaf (t : T Blk) : Bool := @T.casesOn Blk (fun _ => Bool) t true (fun _ _ _ => false)
noncomputable def goD (dst : Option Tmp) (op : Op) (a j : Nat) (t : T AV) (m : AMem) (d : DSt) (k : KD) : Res :=
  bif2 (Nat.beq (opKind op) 2) (heavyD P call nt dst op a j t m d k) (@OR.rec (fun _ => Res) (fun _ => readD P call nt dst op a j t m d k) (fun v m1 =>
    bif2 (Nat.beq m1.next m.next) (bif2 (isLeaf m1.t) (dstK nt dst v t fun t => k t m d) (.fail 140))
      (bif2 (Nat.beq m1.next (Nat.succ m.next)) (@Option.rec Blk (fun _ => Res) (.fail 141) (newD nt dst v j t m d k) (m1.t.get m.next)) (.fail 142))) (opTab op P call t ⟨m.next, .leaf⟩))
noncomputable def regD (all : Array Oper) (o : Oper) (a j : Nat) (t : T AV) (m : AMem) (d : DSt) (k : KD) : Res :=
  @Oper.rec (fun _ => Res) (fun dst op _ _ _ guard =>
    @Option.rec (Nat × Bool) (fun _ => Res) (goD P call nt dst op a j t m d k) (fun g =>
      @Option.rec Bool (fun _ => Res) (.fail 143) (fun w => bif2 w (goD P call nt dst op a j t m d k) (dstK nt dst .undef t fun t => k t m d)) (wantedA all t g.1 g.2)) guard) o
noncomputable def opsD (all : Array Oper) (l : List Oper) : List Nat → Nat → T AV → AMem → DSt → Res :=
  @List.rec Oper (fun _ => List Nat → Nat → T AV → AMem → DSt → Res) (fun _ _ t m _ => .mk .norm t m) (fun o _ ih ms j t m d => @List.rec Nat (fun _ => Res) (.fail 144) (fun a ms _ => regD P call nt all o a j t m d fun t m d => fNat (Nat.succ j) fun j => ih ms j t m d) ms) l
noncomputable def drawnA (all : Array Oper) (t : T AV) (m : AMem) : Res :=
  @Option.rec (List Nat) (fun _ => Res) (.fail 145) (fun ms => opsD P call nt all all.toList ms 0 t m ⟨0, 0, 0, m, [], []⟩) (masks all)
end
/-! ### Code -/
abbrev Sums := FuncId → Option (List AV → AMem → OR)
abbrev Ex := Nat → Code → T AV → AMem → Res
section
variable (P : Program) (S : Sums)
noncomputable def resultsA (rs : List ResultVar) (t : T AV) (m : AMem) (k : List AV → OR) : OR :=
  match rs with
  | [] => k []
  | .tmp i :: l => evK t (.tmp i) fun v => resultsA l t m fun vs => k (v :: vs)
  | .cell a ty :: l => evK t (.tmp a) fun a => match aLoad P ty a m with
    | .mk v _ => resultsA l t m fun vs => k (v :: vs)
    | .fail c => .fail c
noncomputable def one : List AV → AMem → OR
  | [v], m => .mk v m
  | l, m => .mk (.tup l) m
/-- A function's code; none: it has none, or is entered otherwise. -/
noncomputable def codeOf (f : FuncId) : Option (Func × Code) :=
  match P.funcs[f]? with
  | some fn => match fn.body with
    | some c => bif2 (fn.name == "runtime.NumGoroutine") none (some (fn, c))
    | none => none
  | none => none
noncomputable def nTmps (fn : Func) (n : Nat) : Nat := bif2 (Nat.blt n fn.ntmps) fn.ntmps n
noncomputable def leaveA (fn : Func) (r : Res) : OR :=
  @Res.rec (fun _ => OR) OR.fail (fun x t m => @X.rec (fun _ => OR) (resultsA P fn.results.toList t m fun l => one l m) (fun _ => .fail 1002) (resultsA P fn.results.toList t m fun l => one l m) x) r
/-- A call, 'ex' being the run of code. -/
noncomputable def callF (ex : Ex) : Call := fun f args m =>
  @Option.rec (List AV → AMem → OR) (fun _ => OR) (@Option.rec (Func × Code) (fun _ => OR) (.fail (2000 + f)) (fun fc =>
      putK (.fail 1001) args 0 .leaf fun t => leaveA P fc.1 (ex (nTmps fc.1 args.length) fc.2 t m)) (codeOf P f)) (fun s => s args m) (S f)
abbrev CodeK := Program → Sums → Ex → Nat → T AV → AMem → Res
namespace C
noncomputable def skip : CodeK := fun _ _ _ _ t m => .mk .norm t m
noncomputable def region (_ : Nat) (ops : Array Oper) (drawn : Bool) : CodeK := fun P S ex nt t m => bif2 drawn (drawnA P (callF P S ex) nt ops t m) (opsA P (callF P S ex) nt ops ops.toList t m)
/-- On, where it came to its end. -/
noncomputable def thenK (r : Res) (k : T AV → AMem → Res) : Res :=
  @Res.rec (fun _ => Res) Res.fail (fun x t m => @X.rec (fun _ => Res) (k t m) (fun i => .mk (.exit i) t m) (.mk .ret t m) x) r
noncomputable def seq (a b : Code) : CodeK := fun _ _ ex nt t m => thenK (ex nt a t m) fun t m => ex nt b t m
noncomputable def cond (x : Operand) (a b : Code) : CodeK := fun _ _ ex nt t m => evK t x fun v => v.onBool (fun v => bif2 v (ex nt a t m) (ex nt b t m)) (.fail 1010)
noncomputable def block (id : Nat) (b : Code) : CodeK := fun _ _ ex nt t m =>
  @Res.rec (fun _ => Res) Res.fail (fun x t m => @X.rec (fun _ => Res) (.mk .norm t m) (fun i => bif2 (Nat.beq i id) (.mk .norm t m) (.mk (.exit i) t m)) (.mk .ret t m) x) (ex nt b t m)
noncomputable def loop (b : Code) : CodeK := fun _ _ ex nt t m => thenK (ex nt b t m) fun t m => ex nt (.loop b) t m
noncomputable def scope (b : Code) : CodeK := fun _ _ ex nt t m => ex nt b t m
noncomputable def exit (id : Nat) : CodeK := fun _ _ _ _ t m => .mk (.exit id) t m
noncomputable def ret : CodeK := fun _ _ _ _ t m => .mk .ret t m
noncomputable def bad (c : Nat) : CodeK := fun _ _ _ _ _ _ => .fail c
end C
noncomputable def codeTab (c : Code) : CodeK :=
  @Code.casesOn (fun _ => CodeK) c C.skip C.region C.seq C.cond C.block C.loop (fun _ _ _ _ => C.bad 1011) C.exit C.scope (fun _ => C.skip) (fun _ => C.bad 1012) C.ret (fun _ => C.bad 1013)
noncomputable def execF (ex : Ex) : Ex := fun nt c t m => codeTab c P S ex nt t m
noncomputable def exec (n : Nat) : Ex := @Nat.rec (fun _ => Ex) (fun _ _ _ _ => .fail 1020) (fun _ ih => execF P S ih) n
noncomputable def call (n : Nat) : Call := callF P S (exec P S n)
end
end Go.Ev
end
section
namespace Go.Ev
set_option linter.all false
/-! ### Small words -/
@[simp] theorem bif2_true {γ : Type} (x y : γ) : bif2 true x y = x := rfl
@[simp] theorem bif2_false {γ : Type} (x y : γ) : bif2 false x y = y := rfl
theorem bif2_eq {γ : Type} (b : Bool) (x y : γ) : bif2 b x y = if b = true then x else y := by cases b <;> rfl
@[simp] theorem fNat_eq {β : Type} (n : Nat) (k : Nat → β) : fNat n k = k n := by cases n <;> rfl
@[simp] theorem fInt_eq {β : Type} (n : Int) (k : Int → β) : fInt n k = k n := by cases n <;> simp [fInt]
@[simp] theorem fBool_eq {β : Type} (n : Bool) (k : Bool → β) : fBool n k = k n := by cases n <;> rfl
@[simp] theorem fList_eq {β : Type} (l : List Nat) : ∀ (k : List Nat → β), fList l k = k l := by
  induction l with
  | nil => intro k; rfl
  | cons a l ih => intro k; show fNat a (fun a => fList l fun l => k (a :: l)) = _; rw [fNat_eq, ih]
theorem iLt_eq (a b : Int) : iLt a b = decide (a < b) := by
  rw [Bool.eq_iff_iff, decide_eq_true_iff]
  cases a <;> cases b <;> simp [iLt, Nat.blt_eq] <;> omega
theorem iEq_eq (a b : Int) : iEq a b = (a == b) := by
  rw [Bool.eq_iff_iff, beq_iff_eq]
  cases a <;> cases b <;> simp [iEq] <;> omega
theorem kEq_eq {j k : IntKind} (h : kEq j k = true) : j = k := by
  cases j <;> cases k <;> first | rfl | (simp [kEq, kNum] at h)
theorem lEq_eq : ∀ (a b : List Nat), lEq a b = (a == b)
  | [], [] => rfl
  | [], _ :: _ => rfl
  | _ :: _, [] => rfl
  | a :: x, b :: y => by
    rw [lEq, bif2_eq, lEq_eq x y]
    by_cases h : a = b
    · subst h; simp
    · have : Nat.beq a b = false := by rw [Bool.eq_false_iff]; intro e; exact h (Nat.eq_of_beq_eq_true e)
      simp [this, h]
theorem wrap_small (k : IntKind) (a : Nat) (h : a < topOf k) : k.wrap (Int.ofNat a) = Int.ofNat a := by
  cases k <;> simp only [topOf] at h <;> simp only [IntKind.wrap, IntKind.bits, IntKind.signed] <;> simp <;> omega
@[simp] theorem wrapK_eq {β : Type} (k : IntKind) (n : Int) (c : Int → β) : wrapK k n c = c (k.wrap n) := by
  cases n with
  | ofNat a =>
    simp only [wrapK, fNat_eq, bif2_eq, fInt_eq]
    split
    · rename_i h; rw [wrap_small k a (by simpa [Nat.blt_eq] using h)]
    · rfl
  | negSucc a => simp [wrapK]
/-! ### Tries -/
section
variable {α β : Type}
theorem T.get_leaf (i : Nat) : (T.leaf : T α).get i = none := rfl
theorem T.get_zero (v : Option α) (l r : T α) : (T.node v l r).get 0 = v := rfl
theorem T.get_succ (v : Option α) (l r : T α) (i : Nat) (h : i ≠ 0) : (T.node v l r).get i = if i % 2 = 0 then r.get (i / 2) else l.get (i / 2) := by
  obtain ⟨j, rfl⟩ : ∃ j, i = j + 1 := ⟨i - 1, by omega⟩
  show (@Nat.rec (fun _ => Option α) (T.get r (Nat.div (j+1) 2)) (fun _ _ => T.get l (Nat.div (j+1) 2)) (Nat.mod (j+1) 2)) = _
  have e : Nat.mod (j+1) 2 = (j+1) % 2 := rfl
  rw [e]
  rcases Nat.mod_two_eq_zero_or_one (j+1) with h | h <;> rw [h]
  · rw [if_pos rfl]; rfl
  · rw [if_neg (by decide)]; rfl
theorem T.oneK_eq (z : β) (v : Option α) : ∀ (n i : Nat) (k : T α → β), T.oneK z v n i k = z ∨ ∃ t : T α, (∀ j, t.get j = if j = i then v else none) ∧ T.oneK z v n i k = k t := by
  intro n
  induction n with
  | zero => intro i k; exact .inl rfl
  | succ n ih =>
    intro i k
    cases i with
    | zero =>
      refine .inr ⟨.node v .leaf .leaf, fun j => ?_, rfl⟩
      cases j with
      | zero => rfl
      | succ j => rw [T.get_succ _ _ _ _ (by omega)]; simp [T.get_leaf]
    | succ i =>
      have e : T.oneK z v (n + 1) (i + 1) k = @Nat.rec (fun _ => β) (T.oneK z v n ((i + 1) / 2) fun r => k (.node none .leaf r)) (fun _ _ => T.oneK z v n ((i + 1) / 2) fun l => k (.node none l .leaf)) ((i + 1) % 2) := rfl
      rw [e]
      rcases Nat.mod_two_eq_zero_or_one (i + 1) with h | h <;> rw [h]
      · rcases ih ((i + 1) / 2) fun r => k (.node none .leaf r) with h1 | ⟨t, ht, h1⟩
        · exact .inl h1
        · refine .inr ⟨_, fun j => ?_, h1⟩
          by_cases hj : j = 0
          · subst hj; rw [T.get_zero, if_neg (by omega)]
          · rw [T.get_succ _ _ _ _ hj, T.get_leaf, ht]
            by_cases h2 : j % 2 = 0
            · rw [if_pos h2]; by_cases h3 : j / 2 = (i + 1) / 2
              · rw [if_pos h3, if_pos (by omega)]
              · rw [if_neg h3, if_neg (by omega)]
            · rw [if_neg h2, if_neg (by omega)]
      · rcases ih ((i + 1) / 2) fun l => k (.node none l .leaf) with h1 | ⟨t, ht, h1⟩
        · exact .inl h1
        · refine .inr ⟨_, fun j => ?_, h1⟩
          by_cases hj : j = 0
          · subst hj; rw [T.get_zero, if_neg (by omega)]
          · rw [T.get_succ _ _ _ _ hj, T.get_leaf, ht]
            by_cases h2 : j % 2 = 0
            · rw [if_pos h2, if_neg (by omega)]
            · rw [if_neg h2]; by_cases h3 : j / 2 = (i + 1) / 2
              · rw [if_pos h3, if_pos (by omega)]
              · rw [if_neg h3, if_neg (by omega)]
theorem T.setK_eq (z : β) (v : Option α) : ∀ (t : T α) (i : Nat) (k : T α → β), T.setK z v t i k = z ∨ ∃ t' : T α, (∀ j, t'.get j = if j = i then v else t.get j) ∧ T.setK z v t i k = k t' := by
  intro t
  induction t with
  | leaf =>
    intro i k
    rcases T.oneK_eq z v (Nat.succ i) i k with h | ⟨t, ht, h⟩
    · exact .inl h
    · exact .inr ⟨t, fun j => by rw [ht, T.get_leaf], h⟩
  | node w l r ihl ihr =>
    intro i k
    cases i with
    | zero =>
      refine .inr ⟨.node v l r, fun j => ?_, rfl⟩
      by_cases hj : j = 0
      · subst hj; rfl
      · rw [T.get_succ _ _ _ _ hj, T.get_succ _ _ _ _ hj, if_neg hj]
    | succ i =>
      have e : T.setK z v (.node w l r) (i + 1) k = @Nat.rec (fun _ => β) (T.setK z v r ((i + 1) / 2) fun r => k (.node w l r)) (fun _ _ => T.setK z v l ((i + 1) / 2) fun l => k (.node w l r)) ((i + 1) % 2) := rfl
      rw [e]
      rcases Nat.mod_two_eq_zero_or_one (i + 1) with h | h <;> rw [h]
      · rcases ihr ((i + 1) / 2) fun r => k (.node w l r) with h1 | ⟨t, ht, h1⟩
        · exact .inl h1
        · refine .inr ⟨_, fun j => ?_, h1⟩
          by_cases hj : j = 0
          · subst hj; rw [T.get_zero, T.get_zero, if_neg (by omega)]
          · rw [T.get_succ _ _ _ _ hj, T.get_succ _ _ _ _ hj, ht]
            by_cases h2 : j % 2 = 0
            · rw [if_pos h2, if_pos h2]; by_cases h3 : j / 2 = (i + 1) / 2
              · rw [if_pos h3, if_pos (by omega)]
              · rw [if_neg h3, if_neg (by omega)]
            · rw [if_neg h2, if_neg h2, if_neg (by omega)]
      · rcases ihl ((i + 1) / 2) fun l => k (.node w l r) with h1 | ⟨t, ht, h1⟩
        · exact .inl h1
        · refine .inr ⟨_, fun j => ?_, h1⟩
          by_cases hj : j = 0
          · subst hj; rw [T.get_zero, T.get_zero, if_neg (by omega)]
          · rw [T.get_succ _ _ _ _ hj, T.get_succ _ _ _ _ hj, ht]
            by_cases h2 : j % 2 = 0
            · rw [if_pos h2, if_pos h2, if_neg (by omega)]
            · rw [if_neg h2, if_neg h2]; by_cases h3 : j / 2 = (i + 1) / 2
              · rw [if_pos h3, if_pos (by omega)]
              · rw [if_neg h3, if_neg (by omega)]
end
theorem putK_eq {β : Type} (z : β) : ∀ (l : List AV) (i : Nat) (c : T AV) (k : T AV → β), putK z l i c k = z ∨
    ∃ c' : T AV, (∀ j, c'.get j = if i ≤ j ∧ j < i + l.length then l[j - i]? else c.get j) ∧ putK z l i c k = k c' := by
  intro l
  induction l with
  | nil => intro i c k; exact .inr ⟨c, fun j => by rw [if_neg (by simp only [List.length_nil]; omega)], rfl⟩
  | cons v l ih =>
    intro i c k
    have e : putK z (v :: l) i c k = T.setK z (some v) c i fun c => fNat (Nat.succ i) fun i => putK z l i c k := rfl
    rw [e]
    rcases T.setK_eq z (some v) c i fun c => fNat (Nat.succ i) fun i => putK z l i c k with h | ⟨c1, h1, h⟩
    · exact .inl h
    · rw [h, fNat_eq]
      rcases ih (Nat.succ i) c1 k with h2 | ⟨c2, h2, h3⟩
      · exact .inl h2
      · refine .inr ⟨c2, fun j => ?_, h3⟩
        rw [h2, h1]
        by_cases a : j = i
        · subst a; rw [if_neg (by omega), if_pos rfl, if_pos (by simp)]; simp
        · by_cases b : i + 1 ≤ j ∧ j < i + 1 + l.length
          · rw [if_pos (by simpa [Nat.succ_eq_add_one] using b), if_pos (by simp; omega)]
            obtain ⟨q, rfl⟩ : ∃ q, j = i + 1 + q := ⟨j - (i + 1), by omega⟩
            rw [show i + 1 + q - i = q + 1 from by omega, show i + 1 + q - Nat.succ i = q from by omega]; simp
          · rw [if_neg (by simpa [Nat.succ_eq_add_one] using b), if_neg a, if_neg (by simp; omega)]
/-- The cells that a trie holds from a place on. -/
noncomputable def cellsFrom (c : T AV) (i n : Nat) : List AV := (List.range' i n).map fun j => (c.get j).getD .any
theorem takeK_eq {β : Type} (c : T AV) : ∀ (n i : Nat) (k : List AV → β), takeK c n i k = k (cellsFrom c i n) := by
  intro n
  induction n with
  | zero => intro i k; rfl
  | succ n ih =>
    intro i k
    have e : takeK c (n + 1) i k = @Option.rec AV (fun _ => β) (takeK c n (Nat.succ i) fun l => k (.any :: l)) (fun v => takeK c n (Nat.succ i) fun l => k (v :: l)) (c.get i) := rfl
    rw [e]
    have h0 : cellsFrom c i (n + 1) = (c.get i).getD .any :: cellsFrom c (i + 1) n := by simp [cellsFrom, List.range'_succ]
    rw [h0]
    cases h : c.get i with
    | none => simp only [ih]; rfl
    | some v => simp only [ih]; rfl
theorem cellsFrom_length (c : T AV) (i n : Nat) : (cellsFrom c i n).length = n := by simp [cellsFrom]
theorem cellsFrom_get (c : T AV) (i n j : Nat) (h : j < n) : (cellsFrom c i n)[j]? = some ((c.get (i + j)).getD .any) := by
  simp [cellsFrom, h]
end Go.Ev
end
section
namespace Go.Ev
set_option linter.all false
/-- Where a name's cells lie: from a place of a block on; how many cells the block has; how wide the elements of a slice over it are. -/
structure Loc where
  blk : Nat
  base : Nat
  csize : Nat
  E : Nat
abbrev Ren := Nat → Option Loc
mutual
inductive VR (ρ : Ren) : AV → Value → Prop
  | any (v : Value) : VR ρ .any v
  | bool (b : Bool) : VR ρ (.bool b) (.bool b)
  | int (k : IntKind) (n : Int) : VR ρ (.int k n) (.int k n)
  | str (l : List Nat) (s : ByteArray) (h : s.data.toList.map UInt8.toNat = l) : VR ρ (.str l) (.string s)
  | ptr (b off : Nat) (L : Loc) (h : ρ b = some L) : VR ρ (.ptr b off) (.pointer (some ⟨L.blk, L.base + off, none⟩))
  | nilp : VR ρ .nilp (.pointer none)
  | sliceE (b off len c : Nat) (L : Loc) (h : ρ b = some L) (hl : len ≤ c) : VR ρ (.slice b off len (some c)) (.slice (some ⟨L.blk, L.base + off, none⟩) len c)
  | sliceO (b off len c : Nat) (L : Loc) (h : ρ b = some L) (hl : len ≤ c) (he : L.base + off + c * L.E = L.csize) : VR ρ (.slice b off len none) (.slice (some ⟨L.blk, L.base + off, none⟩) len c)
  | nils : VR ρ .nils (.slice none 0 0)
  | emp (a : Addr) (c : Nat) : VR ρ .emp (.slice (some a) 0 c)
  | map (b : Nat) (L : Loc) (h : ρ b = some L) : VR ρ (.map b) (.map (some L.blk))
  | nilm : VR ρ .nilm (.map none)
  | fn (f : FuncId) (caps : List AV) (cs : Array Value) (h : VRs ρ caps cs.toList) : VR ρ (.fn f caps) (.func (.func f) #[] cs)
  | nilf : VR ρ .nilf .nilFunc
  | iface (t : TypeId) (v : AV) (c : Value) (h : VR ρ v c) : VR ρ (.iface t v) (.iface t c)
  | nili : VR ρ .nili .nilIface
  | agg (l : List AV) (cs : Array Value) (h : VRs ρ l cs.toList) : VR ρ (.agg l) (.agg cs)
  | tup (l : List AV) (cs : Array Value) (h : VRs ρ l cs.toList) : VR ρ (.tup l) (.tuple cs)
inductive VRs (ρ : Ren) : List AV → List Value → Prop
  | nil : VRs ρ [] []
  | cons (v : AV) (c : Value) (l : List AV) (cs : List Value) (h : VR ρ v c) (hs : VRs ρ l cs) : VRs ρ (v :: l) (c :: cs)
end
noncomputable def Sub (ρ ρ' : Ren) : Prop := ∀ b L, ρ b = some L → ρ' b = some L
mutual
theorem VR.mono {ρ ρ' : Ren} (h : Sub ρ ρ') : ∀ {a : AV} {v : Value}, VR ρ a v → VR ρ' a v
  | _, _, .any v => .any v
  | _, _, .bool b => .bool b
  | _, _, .int k n => .int k n
  | _, _, .str l s e => .str l s e
  | _, _, .ptr b off L e => .ptr b off L (h _ _ e)
  | _, _, .nilp => .nilp
  | _, _, .sliceE b off len c L e hl => .sliceE b off len c L (h _ _ e) hl
  | _, _, .sliceO b off len c L e hl he => .sliceO b off len c L (h _ _ e) hl he
  | _, _, .nils => .nils
  | _, _, .emp a c => .emp a c
  | _, _, .map b L e => .map b L (h _ _ e)
  | _, _, .nilm => .nilm
  | _, _, .fn f caps cs e => .fn f caps cs (VRs.mono h e)
  | _, _, .nilf => .nilf
  | _, _, .iface t v c e => .iface t v c (VR.mono h e)
  | _, _, .nili => .nili
  | _, _, .agg l cs e => .agg l cs (VRs.mono h e)
  | _, _, .tup l cs e => .tup l cs (VRs.mono h e)
theorem VRs.mono {ρ ρ' : Ren} (h : Sub ρ ρ') : ∀ {l : List AV} {cs : List Value}, VRs ρ l cs → VRs ρ' l cs
  | _, _, .nil => .nil
  | _, _, .cons v c l cs e es => .cons v c l cs (VR.mono h e) (VRs.mono h es)
end
theorem VR.undef (ρ : Ren) : VR ρ .undef undef := .tup [] #[] .nil
theorem VRs.length {ρ : Ren} : ∀ {l : List AV} {cs : List Value}, VRs ρ l cs → l.length = cs.length
  | _, _, .nil => rfl
  | _, _, .cons _ _ _ _ _ h => by simp [VRs.length h]
theorem VRs.get {ρ : Ren} : ∀ {l : List AV} {cs : List Value} (_ : VRs ρ l cs) (i : Nat) {v : AV}, l[i]? = some v → ∃ c, cs[i]? = some c ∧ VR ρ v c
  | _, _, .cons v c l cs h _, 0, u, e => by simp at e; subst e; exact ⟨c, by simp, h⟩
  | _, _, .cons v c l cs _ h, i + 1, u, e => by simpa using VRs.get h i (by simpa using e)
theorem VRs.of_get {ρ : Ren} : ∀ {l : List AV} {cs : List Value}, l.length = cs.length → (∀ (i : Nat) v, l[i]? = some v → ∃ c, cs[i]? = some c ∧ VR ρ v c) → VRs ρ l cs
  | [], [], _, _ => .nil
  | v :: l, c :: cs, hl, h => by
    obtain ⟨c', e, hv⟩ := h 0 v (by simp)
    simp at e; subst e
    exact .cons _ _ _ _ hv (VRs.of_get (by simpa using hl) fun i v hi => by simpa using h (i + 1) v (by simpa using hi))
theorem VRs.append {ρ : Ren} : ∀ {l : List AV} {cs : List Value} {l' : List AV} {cs' : List Value}, VRs ρ l cs → VRs ρ l' cs' → VRs ρ (l ++ l') (cs ++ cs')
  | _, _, _, _, .nil, h => h
  | _, _, _, _, .cons v c l cs e es, h => .cons v c _ _ e (VRs.append es h)
theorem VRs.drop {ρ : Ren} : ∀ {l : List AV} {cs : List Value} (n : Nat), VRs ρ l cs → VRs ρ (l.drop n) (cs.drop n)
  | _, _, 0, h => by simpa using h
  | _, _, n + 1, .nil => by simpa using VRs.nil
  | _, _, n + 1, .cons v c l cs _ es => by simpa using VRs.drop n es
theorem VRs.take {ρ : Ren} : ∀ {l : List AV} {cs : List Value} (n : Nat), VRs ρ l cs → VRs ρ (l.take n) (cs.take n)
  | _, _, 0, _ => by simpa using VRs.nil
  | _, _, n + 1, .nil => by simpa using VRs.nil
  | _, _, n + 1, .cons v c l cs e es => by simpa using VRs.cons _ _ _ _ e (VRs.take n es)
/-! ### Memory -/
/-- May its cells be written? -/
noncomputable def Blk.wr : Blk → Bool
  | .cells ro _ _ _ _ => !ro
  | .map ro _ _ => !ro
/-- An entry of a map. -/
structure ER (ρ : Ren) (e : Ent) (x : MapEntry) : Prop where
  key : VR ρ e.k x.key
  val : VR ρ e.v x.val
  born : ∀ n, e.born = some n → x.born = n
inductive ERs (ρ : Ren) : List Ent → List MapEntry → Prop
  | nil : ERs ρ [] []
  | cons (e : Ent) (x : MapEntry) (l : List Ent) (xs : List MapEntry) (h : ER ρ e x) (hs : ERs ρ l xs) : ERs ρ (e :: l) (x :: xs)
theorem ER.mono {ρ ρ' : Ren} (h : Sub ρ ρ') {e : Ent} {x : MapEntry} (k : ER ρ e x) : ER ρ' e x := ⟨k.key.mono h, k.val.mono h, k.born⟩
theorem ERs.mono {ρ ρ' : Ren} (h : Sub ρ ρ') : ∀ {l : List Ent} {xs : List MapEntry}, ERs ρ l xs → ERs ρ' l xs
  | _, _, .nil => .nil
  | _, _, .cons e x l xs k ks => .cons e x l xs (k.mono h) (ERs.mono h ks)
/-- A map's entries, in some order; stamps are unlike and below the clock. -/
structure MR (ρ : Ren) (ck : Nat) (es : List Ent) (mes : Array MapEntry) : Prop where
  ex : ∃ l : List MapEntry, l.Perm mes.toList ∧ ERs ρ es l
  old : ∀ x, x ∈ mes.toList → x.born < ck
  nodup : (mes.toList.map (·.born)).Nodup
theorem MR.mono {ρ ρ' : Ren} (h : Sub ρ ρ') {ck : Nat} {es : List Ent} {mes : Array MapEntry} (k : MR ρ ck es mes) : MR ρ' ck es mes :=
  ⟨let ⟨l, h1, h2⟩ := k.ex; ⟨l, h1, h2.mono h⟩, k.old, k.nodup⟩
noncomputable def BR (ρ : Ren) (w : World) (b : Nat) : Blk → Prop
  | .cells ro sg E n c => ∃ L cs elem fz, ρ b = some L ∧ w.heap[L.blk]? = some (.cells cs elem fz) ∧ cs.size = L.csize ∧ L.E = E ∧ L.base + n ≤ cs.size ∧
      (∀ i, i < n → ∃ v, cs[L.base + i]? = some v ∧ VR ρ ((c.get i).getD .any) v) ∧ (ro = false → ∀ i, i < cs.size → ¬ (fz.1 ≤ i ∧ i < fz.2)) ∧ (sg = false → ∀ i, ¬ (fz.1 ≤ i ∧ i < fz.2))
  | .map _ ck es => ∃ L mes, ρ b = some L ∧ w.heap[L.blk]? = some (.map mes ck) ∧ MR ρ ck es mes
structure Sim (ρ : Ren) (g : Nat → Option Blk) (w : World) : Prop where
  blk : ∀ b x, g b = some x → BR ρ w b x
  sep : ∀ b b' x x' L L', g b = some x → g b' = some x' → b ≠ b' → x.wr = true → ρ b = some L → ρ b' = some L' → L.blk ≠ L'.blk
theorem BR.loc {ρ : Ren} {w : World} {b : Nat} {x : Blk} (h : BR ρ w b x) : ∃ L, ρ b = some L ∧ L.blk < w.heap.size := by
  cases x with
  | cells ro sg E n c =>
    obtain ⟨L, cs, elem, fz, h1, h2, _⟩ := h
    refine ⟨L, h1, ?_⟩
    rcases Nat.lt_or_ge L.blk w.heap.size with h | h
    · exact h
    · simp [Array.getElem?_eq_none h] at h2
  | map ro ck es =>
    obtain ⟨L, mes, h1, h2, _⟩ := h
    refine ⟨L, h1, ?_⟩
    rcases Nat.lt_or_ge L.blk w.heap.size with h | h
    · exact h
    · simp [Array.getElem?_eq_none h] at h2
/-- What holds of a block holds in a world that has that block as it was, under a greater view. -/
theorem BR.mono {ρ ρ' : Ren} {w w' : World} {b : Nat} {x : Blk} (hs : Sub ρ ρ') (h : BR ρ w b x) (hw : ∀ L, ρ b = some L → w'.heap[L.blk]? = w.heap[L.blk]?) : BR ρ' w' b x := by
  cases x with
  | cells ro sg E n c =>
    obtain ⟨L, cs, elem, fz, h1, h2, h3, h4, hn, h5, h6⟩ := h
    exact ⟨L, cs, elem, fz, hs _ _ h1, by rw [hw L h1]; exact h2, h3, h4, hn, fun i hi => let ⟨v, a, b⟩ := h5 i hi; ⟨v, a, b.mono hs⟩, h6⟩
  | map ro ck es =>
    obtain ⟨L, mes, h1, h2, h3⟩ := h
    exact ⟨L, mes, hs _ _ h1, by rw [hw L h1]; exact h2, h3.mono hs⟩
/-- A step of a run: from a view of a world to a view of the next; the names from lo to hi are new. -/
structure GStep (ρ : Ren) (g : Nat → Option Blk) (lo : Nat) (w : World) (ρ' : Ren) (g' : Nat → Option Blk) (hi : Nat) (w' : World) : Prop where
  ren : ∀ b, ¬ (lo ≤ b ∧ b < hi) → ρ' b = ρ b
  le : lo ≤ hi
  sim : Sim ρ' g' w'
  wf : ∀ b x, g' b = some x → b < hi
  img : ∀ b x L, g' b = some x → x.wr = true → ρ' b = some L → w.heap.size ≤ L.blk ∨ ∃ b0 x0 L0, g b0 = some x0 ∧ x0.wr = true ∧ ρ b0 = some L0 ∧ L0.blk = L.blk
  imgR : ∀ b x L, g' b = some x → ρ' b = some L → w.heap.size ≤ L.blk ∨ ∃ b0 x0 L0, g b0 = some x0 ∧ ρ b0 = some L0 ∧ L0.blk = L.blk
  keeps : ∀ k, k < w.heap.size → (∀ b x L, g b = some x → x.wr = true → ρ b = some L → L.blk ≠ k) → w'.heap[k]? = w.heap[k]?
  size : w.heap.size ≤ w'.heap.size
  os : w'.os = w.os
  tape : w'.tape = w.tape
  output : w'.output = w.output
abbrev Step (ρ : Ren) (m : AMem) (w : World) (ρ' : Ren) (m' : AMem) (w' : World) : Prop := GStep ρ m.t.get m.next w ρ' m'.t.get m'.next w'
/-- The names from lo to hi stand for nothing yet. -/
noncomputable def Fresh (ρ : Ren) (lo hi : Nat) : Prop := ∀ b, lo ≤ b → b < hi → ρ b = none
section
variable {ρ ρ' ρ1 ρ2 : Ren} {g g' g1 g2 : Nat → Option Blk} {lo hi hi1 hi2 : Nat} {w w' w1 w2 : World}
theorem GStep.sub (h : GStep ρ g lo w ρ' g' hi w') (hf : Fresh ρ lo hi) : Sub ρ ρ' := by
  intro b L e
  rw [h.ren b fun ⟨h1, h2⟩ => by rw [hf b h1 h2] at e; cases e]; exact e
theorem GStep.fresh (h : GStep ρ g lo w ρ' g' hi w') {top : Nat} (hf : Fresh ρ lo top) : Fresh ρ' hi top := fun b h1 h2 => by
  rw [h.ren b (by omega)]; exact hf b (Nat.le_trans h.le h1) h2
theorem Fresh.le {lo hi hi' : Nat} (h : Fresh ρ lo hi) (h' : hi' ≤ hi) : Fresh ρ lo hi' := fun b h1 h2 => h b h1 (by omega)
theorem GStep.trans (h : GStep ρ g lo w ρ1 g1 hi1 w1) (k : GStep ρ1 g1 hi1 w1 ρ2 g2 hi2 w2) : GStep ρ g lo w ρ2 g2 hi2 w2 where
  ren b hb := by
    have h1 := h.le; have h2 := k.le
    rw [k.ren b (by omega), h.ren b (by omega)]
  le := Nat.le_trans h.le k.le
  sim := k.sim
  wf := k.wf
  img b x L h1 h2 h3 := by
    rcases k.img b x L h1 h2 h3 with a | ⟨b0, x0, L0, a, b, c, d⟩
    · exact .inl (Nat.le_trans h.size a)
    · rcases h.img b0 x0 L0 a b c with e | ⟨b1, x1, L1, e1, e2, e3, e4⟩
      · exact .inl (d ▸ e)
      · exact .inr ⟨b1, x1, L1, e1, e2, e3, e4.trans d⟩
  imgR b x L h1 h3 := by
    rcases k.imgR b x L h1 h3 with a | ⟨b0, x0, L0, a, c, d⟩
    · exact .inl (Nat.le_trans h.size a)
    · rcases h.imgR b0 x0 L0 a c with e | ⟨b1, x1, L1, e1, e3, e4⟩
      · exact .inl (d ▸ e)
      · exact .inr ⟨b1, x1, L1, e1, e3, e4.trans d⟩
  keeps i hi hn := by
    rw [k.keeps i (Nat.lt_of_lt_of_le hi h.size), h.keeps i hi hn]
    intro b x L h1 h2 h3
    rcases h.img b x L h1 h2 h3 with a | ⟨b0, x0, L0, e1, e2, e3, e4⟩
    · omega
    · exact e4 ▸ hn b0 x0 L0 e1 e2 e3
  size := Nat.le_trans h.size k.size
  os := k.os.trans h.os
  tape := k.tape.trans h.tape
  output := k.output.trans h.output
theorem GStep.refl (hs : Sim ρ g w) (hwf : ∀ b x, g b = some x → b < lo) : GStep ρ g lo w ρ g lo w where
  ren _ _ := rfl
  le := Nat.le_refl _
  sim := hs
  wf := hwf
  img b x L h1 h2 h3 := .inr ⟨b, x, L, h1, h2, h3, rfl⟩
  imgR b x L h1 h3 := .inr ⟨b, x, L, h1, h3, rfl⟩
  keeps _ _ _ := rfl
  size := Nat.le_refl _
  os := rfl
  tape := rfl
  output := rfl
theorem Sim.world (h : Sim ρ g w) (hw : w'.heap = w.heap) : Sim ρ g w' :=
  ⟨fun b x hb => (h.blk b x hb).mono (fun _ _ e => e) (fun _ _ => by rw [hw]), h.sep⟩
/-- A view of less. -/
theorem Sim.less (h : Sim ρ g w) (hg : ∀ b x, g' b = some x → g b = some x) : Sim ρ g' w :=
  ⟨fun b x hb => h.blk b x (hg b x hb), fun b b' x x' L L' h1 h2 => h.sep b b' x x' L L' (hg _ _ h1) (hg _ _ h2)⟩
/-- The tape has moved on. -/
theorem GStep.drew (hs : Sim ρ g w) (hwf : ∀ b x, g b = some x → b < lo) (n : Nat) : GStep ρ g lo w ρ g lo { w with drawn := n } where
  ren _ _ := rfl
  le := Nat.le_refl _
  sim := hs.world rfl
  wf := hwf
  img b x L h1 h2 h3 := .inr ⟨b, x, L, h1, h2, h3, rfl⟩
  imgR b x L h1 h3 := .inr ⟨b, x, L, h1, h3, rfl⟩
  keeps _ _ _ := rfl
  size := Nat.le_refl _
  os := rfl
  tape := rfl
  output := rfl
/-- A name is given up. -/
theorem GStep.drop (hs : Sim ρ g w) (hwf : ∀ b x, g b = some x → b < lo) (hg : ∀ b x, g' b = some x → g b = some x) : GStep ρ g lo w ρ g' lo w where
  ren _ _ := rfl
  le := Nat.le_refl _
  sim := hs.less hg
  wf b x h := hwf b x (hg b x h)
  img b x L h1 h2 h3 := .inr ⟨b, x, L, hg b x h1, h2, h3, rfl⟩
  imgR b x L h1 h3 := .inr ⟨b, x, L, hg b x h1, h3, rfl⟩
  keeps _ _ _ := rfl
  size := Nat.le_refl _
  os := rfl
  tape := rfl
  output := rfl
end
/-- A small step beside what else is known. -/
noncomputable def over (G g g' : Nat → Option Blk) : Nat → Option Blk := fun b => match g' b with
  | some x => some x
  | none => match g b with
    | some _ => none
    | none => G b
theorem over_cases {G g g' : Nat → Option Blk} {b : Nat} {x : Blk} (h : over G g g' b = some x) : g' b = some x ∨ (G b = some x ∧ g b = none) := by
  unfold over at h
  cases h1 : g' b with
  | some y => rw [h1] at h; exact .inl h
  | none =>
    rw [h1] at h
    cases h2 : g b with
    | some y => rw [h2] at h; cases h
    | none => rw [h2] at h; exact .inr ⟨h, rfl⟩
theorem over_new {G g g' : Nat → Option Blk} {b : Nat} {x : Blk} (h : g' b = some x) : over G g g' b = some x := by
  unfold over; rw [h]
theorem over_old {G g g' : Nat → Option Blk} {b : Nat} (h : g' b = none) (h' : g b = none) : over G g g' b = G b := by
  unfold over; rw [h, h']
theorem GStep.extend {ρ0 ρ ρ' : Ren} {g0 G g g' : Nat → Option Blk} {lo0 hiN lo hi : Nat} {w0 w w' : World} (B : GStep ρ0 g0 lo0 w0 ρ G hiN w) (S : GStep ρ g lo w ρ' g' hi w')
    (hsub : ∀ b x, g b = some x → G b = some x) (hlo : lo0 ≤ lo) (hhi : hi ≤ hiN) (hfr : Fresh ρ lo hi) : GStep ρ0 g0 lo0 w0 ρ' (over G g g') hiN w' := by
  have hs := S.sub hfr
  have old : ∀ {b x L}, G b = some x → ρ' b = some L → ρ b = some L ∧ L.blk < w.heap.size := fun {b x L} h1 h2 => by
    obtain ⟨L0, e1, e2⟩ := (B.sim.blk b x h1).loc
    have := hs _ _ e1
    rw [h2] at this; cases this
    exact ⟨e1, e2⟩
  refine ⟨fun b hb => ?_, B.le, ⟨fun b x h => ?_, fun b b' x x' L L' h h' hne hw e e' => ?_⟩, fun b x h => ?_, fun b x L h1 h2 h3 => ?_, fun b x L h1 h3 => ?_, fun k hk hn => ?_, Nat.le_trans B.size S.size, S.os.trans B.os, S.tape.trans B.tape, S.output.trans B.output⟩
  · rw [S.ren b (by omega), B.ren b hb]
  · rcases over_cases h with h | ⟨h, hg⟩
    · exact S.sim.blk b x h
    · refine (B.sim.blk b x h).mono hs fun L e => S.keeps _ ?_ fun b2 x2 L2 h2 hw2 e2 => ?_
      · obtain ⟨L0, e1, e3⟩ := (B.sim.blk b x h).loc
        rw [e] at e1; cases e1; exact e3
      · exact B.sim.sep b2 b x2 x L2 L (hsub _ _ h2) h (fun q => by rw [q, hg] at h2; cases h2) hw2 e2 e
  · rcases over_cases h with h | ⟨h, hg⟩ <;> rcases over_cases h' with h' | ⟨h', hg'⟩
    · exact S.sim.sep b b' x x' L L' h h' hne hw e e'
    · obtain ⟨o1, o2⟩ := old h' e'
      rcases S.img b x L h hw e with a | ⟨b0, x0, L0, i1, i2, i3, i4⟩
      · omega
      · rw [← i4]
        exact B.sim.sep b0 b' x0 x' L0 L' (hsub _ _ i1) h' (fun q => by rw [q, hg'] at i1; cases i1) i2 i3 o1
    · obtain ⟨o1, o2⟩ := old h e
      rcases S.imgR b' x' L' h' e' with a | ⟨b0, x0, L0, i1, i3, i4⟩
      · omega
      · rw [← i4]
        exact B.sim.sep b b0 x x0 L L0 h (hsub _ _ i1) (fun q => by rw [← q, hg] at i1; cases i1) hw o1 i3
    · exact B.sim.sep b b' x x' L L' h h' hne hw (old h e).1 (old h' e').1
  · rcases over_cases h with h | ⟨h, hg⟩
    · have := S.wf b x h; omega
    · exact B.wf b x h
  · rcases over_cases h1 with h1 | ⟨h1, hg⟩
    · rcases S.img b x L h1 h2 h3 with a | ⟨b0, x0, L0, i1, i2, i3, i4⟩
      · exact .inl (Nat.le_trans B.size a)
      · rw [← i4]; exact B.img b0 x0 L0 (hsub _ _ i1) i2 i3
    · exact B.img b x L h1 h2 (old h1 h3).1
  · rcases over_cases h1 with h1 | ⟨h1, hg⟩
    · rcases S.imgR b x L h1 h3 with a | ⟨b0, x0, L0, i1, i3, i4⟩
      · exact .inl (Nat.le_trans B.size a)
      · rw [← i4]; exact B.imgR b0 x0 L0 (hsub _ _ i1) i3
    · exact B.imgR b x L h1 (old h1 h3).1
  · rw [S.keeps k (Nat.lt_of_lt_of_le hk B.size), B.keeps k hk hn]
    intro b x L i1 i2 i3
    rcases B.img b x L (hsub _ _ i1) i2 i3 with a | ⟨b0, x0, L0, e1, e2, e3, e4⟩
    · omega
    · exact e4 ▸ hn b0 x0 L0 e1 e2 e3
/-- Less is known. -/
theorem GStep.less {ρ0 ρ : Ren} {g0 G g : Nat → Option Blk} {lo hi hi' : Nat} {w0 w : World} (B : GStep ρ0 g0 lo w0 ρ G hi w) (h : ∀ b x, g b = some x → G b = some x) (hwf : ∀ b x, g b = some x → b < hi') (hle : hi = hi') : GStep ρ0 g0 lo w0 ρ g hi' w := by
  subst hle
  exact ⟨B.ren, B.le, B.sim.less h, hwf, fun b x L h1 => B.img b x L (h _ _ h1), fun b x L h1 => B.imgR b x L (h _ _ h1), B.keeps, B.size, B.os, B.tape, B.output⟩
noncomputable def Ren.set (ρ : Ren) (b : Nat) (L : Loc) : Ren := fun x => if x = b then some L else ρ x
theorem Ren.set_same (ρ : Ren) (b : Nat) (L : Loc) : ρ.set b L b = some L := by simp [Ren.set]
theorem Ren.set_other (ρ : Ren) (b : Nat) (L : Loc) {x : Nat} (h : x ≠ b) : ρ.set b L x = ρ x := by simp [Ren.set, h]
theorem Ren.sub_set {ρ : Ren} {b : Nat} (L : Loc) (h : ρ b = none) : Sub ρ (ρ.set b L) := fun x l e => by
  by_cases hx : x = b
  · subst hx; rw [h] at e; cases e
  · rw [Ren.set_other _ _ _ hx]; exact e
/-- A new name for cells of a new block. -/
theorem GStep.alloc {ρ : Ren} {g g' : Nat → Option Blk} {lo : Nat} {w : World} (hs : Sim ρ g w) (hwf : ∀ b x, g b = some x → b < lo) (hfr : ρ lo = none)
    {E n : Nat} {c : T AV} {cs : Array Value} {elem : TypeId} {fz : Nat × Nat}
    (hle : n ≤ cs.size) (hc : ∀ i, i < n → ∃ v, cs[i]? = some v ∧ VR ρ ((c.get i).getD .any) v) (hfz : ∀ i, i < cs.size → ¬ (fz.1 ≤ i ∧ i < fz.2)) {sg : Bool} (hsg : sg = false → ∀ i, ¬ (fz.1 ≤ i ∧ i < fz.2))
    (hg : ∀ j, g' j = if j = lo then some (.cells false sg E n c) else g j) :
    GStep ρ g lo w (ρ.set lo ⟨w.heap.size, 0, cs.size, E⟩) g' (lo + 1) (w.alloc (.cells cs elem fz)) where
  ren b hb := by rw [Ren.set_other]; omega
  le := by omega
  sim := by
    have hsub := Ren.sub_set (b := lo) ⟨w.heap.size, 0, cs.size, E⟩ hfr
    refine ⟨fun b x h => ?_, fun b b' x x' L L' h h' hne hw e e' => ?_⟩
    · rw [hg] at h
      by_cases hb : b = lo
      · subst hb; rw [if_pos rfl] at h; cases h
        exact ⟨_, cs, elem, fz, Ren.set_same _ _ _, heap_alloc_new _ _, rfl, rfl, by simpa using hle, fun i hi => let ⟨v, a, b⟩ := hc i hi; ⟨v, by simpa using a, b.mono hsub⟩, fun _ => hfz, hsg⟩
      · rw [if_neg hb] at h
        obtain ⟨L, h1, h2⟩ := (hs.blk b x h).loc
        exact (hs.blk b x h).mono hsub fun L' e => by rw [h1] at e; cases e; exact heap_alloc_old _ _ _ h2
    · rw [hg] at h h'
      by_cases hb : b = lo
      · have hb' : b' ≠ lo := fun e => hne (hb.trans e.symm)
        rw [if_neg hb'] at h'
        rw [hb, Ren.set_same] at e; cases e
        obtain ⟨L1, h1, h2⟩ := (hs.blk b' x' h').loc
        rw [Ren.set_other _ _ _ hb', h1] at e'; cases e'
        simp; omega
      · rw [if_neg hb] at h
        rw [Ren.set_other _ _ _ hb] at e
        by_cases hb' : b' = lo
        · rw [hb', Ren.set_same] at e'; cases e'
          obtain ⟨L1, h1, h2⟩ := (hs.blk b x h).loc
          rw [h1] at e; cases e
          simp; omega
        · rw [if_neg hb'] at h'
          rw [Ren.set_other _ _ _ hb'] at e'
          exact hs.sep b b' x x' L L' h h' hne hw e e'
  wf b x h := by
    rw [hg] at h
    by_cases hb : b = lo
    · omega
    · rw [if_neg hb] at h; have := hwf b x h; omega
  img b x L h1 h2 h3 := by
    rw [hg] at h1
    by_cases hb : b = lo
    · rw [hb, Ren.set_same] at h3; cases h3; exact .inl (Nat.le_refl _)
    · rw [if_neg hb] at h1; rw [Ren.set_other _ _ _ hb] at h3; exact .inr ⟨b, x, L, h1, h2, h3, rfl⟩
  imgR b x L h1 h3 := by
    rw [hg] at h1
    by_cases hb : b = lo
    · rw [hb, Ren.set_same] at h3; cases h3; exact .inl (Nat.le_refl _)
    · rw [if_neg hb] at h1; rw [Ren.set_other _ _ _ hb] at h3; exact .inr ⟨b, x, L, h1, h3, rfl⟩
  keeps k hk _ := heap_alloc_old _ _ _ hk
  size := by simp
  os := rfl
  tape := rfl
  output := rfl
/-- A new name for a new block, whatever it is. -/
theorem GStep.allocB {ρ : Ren} {g g' : Nat → Option Blk} {lo : Nat} {w w' : World} {x : Blk} {L : Loc} (hs : Sim ρ g w) (hwf : ∀ b x, g b = some x → b < lo) (hfr : ρ lo = none)
    (hL : L.blk = w.heap.size) (hx : BR (ρ.set lo L) w' lo x) (hold : ∀ k, k < w.heap.size → w'.heap[k]? = w.heap[k]?) (hsz : w.heap.size ≤ w'.heap.size) (hos : w'.os = w.os) (ht : w'.tape = w.tape) (ho : w'.output = w.output)
    (hg : ∀ j, g' j = if j = lo then some x else g j) : GStep ρ g lo w (ρ.set lo L) g' (lo + 1) w' where
  ren b hb := by rw [Ren.set_other]; omega
  le := by omega
  sim := by
    have hsub := Ren.sub_set (b := lo) L hfr
    refine ⟨fun b y h => ?_, fun b b' y y' L1 L2 h h' hne hw e e' => ?_⟩
    · rw [hg] at h
      by_cases hb : b = lo
      · subst hb; rw [if_pos rfl] at h; cases h; exact hx
      · rw [if_neg hb] at h
        obtain ⟨L0, h1, h2⟩ := (hs.blk b y h).loc
        exact (hs.blk b y h).mono hsub fun L' e => by rw [h1] at e; cases e; exact hold _ h2
    · rw [hg] at h h'
      by_cases hb : b = lo
      · have hb' : b' ≠ lo := fun e => hne (hb.trans e.symm)
        rw [if_neg hb'] at h'
        rw [hb, Ren.set_same] at e; cases e
        obtain ⟨L0, h1, h2⟩ := (hs.blk b' y' h').loc
        rw [Ren.set_other _ _ _ hb', h1] at e'; cases e'
        rw [hL]; omega
      · rw [if_neg hb] at h
        rw [Ren.set_other _ _ _ hb] at e
        by_cases hb' : b' = lo
        · rw [hb', Ren.set_same] at e'; cases e'
          obtain ⟨L0, h1, h2⟩ := (hs.blk b y h).loc
          rw [h1] at e; cases e
          rw [hL]; omega
        · rw [if_neg hb'] at h'
          rw [Ren.set_other _ _ _ hb'] at e'
          exact hs.sep b b' y y' L1 L2 h h' hne hw e e'
  wf b y h := by
    rw [hg] at h
    by_cases hb : b = lo
    · omega
    · rw [if_neg hb] at h; have := hwf b y h; omega
  img b y L1 h1 h2 h3 := by
    rw [hg] at h1
    by_cases hb : b = lo
    · rw [hb, Ren.set_same] at h3; cases h3; exact .inl (by rw [hL]; exact Nat.le_refl _)
    · rw [if_neg hb] at h1; rw [Ren.set_other _ _ _ hb] at h3; exact .inr ⟨b, y, L1, h1, h2, h3, rfl⟩
  imgR b y L1 h1 h3 := by
    rw [hg] at h1
    by_cases hb : b = lo
    · rw [hb, Ren.set_same] at h3; cases h3; exact .inl (by rw [hL]; exact Nat.le_refl _)
    · rw [if_neg hb] at h1; rw [Ren.set_other _ _ _ hb] at h3; exact .inr ⟨b, y, L1, h1, h3, rfl⟩
  keeps k hk _ := hold k hk
  size := hsz
  os := hos
  tape := ht
  output := ho
/-- A block that may be written is turned, its name stays. -/
theorem GStep.writeB {ρ : Ren} {g g' : Nat → Option Blk} {lo : Nat} {w w' : World} {x y : Blk} {b : Nat} {L : Loc} (hs : Sim ρ g w) (hwf : ∀ b x, g b = some x → b < lo)
    (hb : g b = some x) (hx : x.wr = true) (hL : ρ b = some L) (hy : BR ρ w' b y)
    (hrest : ∀ k, k ≠ L.blk → w'.heap[k]? = w.heap[k]?) (hsize : w'.heap.size = w.heap.size) (hos : w'.os = w.os) (ht : w'.tape = w.tape) (ho : w'.output = w.output)
    (hg : ∀ j, g' j = if j = b then some y else g j) : GStep ρ g lo w ρ g' lo w' := by
  have hother : ∀ {j z}, g' j = some z → j ≠ b → g j = some z := fun {j z} h hj => by rwa [hg, if_neg hj] at h
  refine ⟨fun _ _ => rfl, Nat.le_refl _, ⟨fun j z h => ?_, fun j j' z z' l l' h h' hne hw e e' => ?_⟩, fun j z h => ?_, fun j z l h1 h2 h3 => ?_, fun j z l h1 h3 => ?_, fun k hk hnk => ?_, by omega, hos, ht, ho⟩
  · by_cases hj : j = b
    · subst hj; rw [hg, if_pos rfl] at h; cases h; exact hy
    · have h := hother h hj
      refine (hs.blk j z h).mono (fun _ _ e => e) fun l e => hrest _ ?_
      exact (hs.sep b j x z L l hb h (Ne.symm hj) hx hL e).symm
  · by_cases hj : j = b
    · subst hj
      rw [hL] at e; cases e
      exact hs.sep j j' x z' _ l' hb (hother h' (Ne.symm hne)) hne hx hL e'
    · by_cases hj' : j' = b
      · subst hj'
        rw [hL] at e'; cases e'
        exact (hs.sep j' j x z _ l hb (hother h hj) (Ne.symm hj) hx hL e).symm
      · exact hs.sep j j' z z' l l' (hother h hj) (hother h' hj') hne hw e e'
  · by_cases hj : j = b
    · subst hj; exact hwf _ _ hb
    · exact hwf j z (hother h hj)
  · refine .inr ?_
    by_cases hj : j = b
    · subst hj; rw [hL] at h3; cases h3; exact ⟨j, x, L, hb, hx, hL, rfl⟩
    · exact ⟨j, z, l, hother h1 hj, h2, h3, rfl⟩
  · refine .inr ?_
    by_cases hj : j = b
    · subst hj; rw [hL] at h3; cases h3; exact ⟨j, x, L, hb, hL, rfl⟩
    · exact ⟨j, z, l, hother h1 hj, h3, rfl⟩
  · exact hrest k fun q => hnk b x L hb hx hL q.symm
/-- The cells of a block are written, under a name that may be a new one for a part of it; the elder name is given up. -/
theorem GStep.write {ρ : Ren} {g g' : Nat → Option Blk} {lo hi : Nat} {w w' : World} (hs : Sim ρ g w) (hwf : ∀ b x, g b = some x → b < lo)
    {sg : Bool} {b b1 E n n' d : Nat} {c c' : T AV} {cs cs' : Array Value} {elem : TypeId} {fz : Nat × Nat} {L : Loc} (hb : g b = some (.cells false sg E n c)) (hL : ρ b = some L)
    (hheap : w.heap[L.blk]? = some (.cells cs elem fz)) (hsz : cs'.size = cs.size) (hw' : w'.heap[L.blk]? = some (.cells cs' elem fz))
    (hrest : ∀ k, k ≠ L.blk → w'.heap[k]? = w.heap[k]?) (hsize : w'.heap.size = w.heap.size) (hos : w'.os = w.os) (ht : w'.tape = w.tape) (ho : w'.output = w.output)
    (hn : (b1 = b ∧ d = 0 ∧ hi = lo) ∨ (b1 = lo ∧ hi = lo + 1 ∧ ρ lo = none))
    (hg : ∀ j, g' j = if j = b1 then some (.cells false true E n' c') else if j = b then none else g j)
    (hle : L.base + d + n' ≤ cs.size) (hc : ∀ i, i < n' → ∃ v, cs'[L.base + d + i]? = some v ∧ VR ρ ((c'.get i).getD .any) v) :
    GStep ρ g lo w (ρ.set b1 ⟨L.blk, L.base + d, L.csize, E⟩) g' hi w' := by
  obtain ⟨L0, cs0, el0, fz0, e1, e2, e3, e4, en, e5, e6⟩ := hs.blk b _ hb
  rw [hL] at e1; cases e1
  rw [hheap] at e2; cases e2
  have hold : b1 = b → ρ.set b1 ⟨L.blk, L.base + d, L.csize, E⟩ = ρ := by
    intro e
    have hd : d = 0 := by rcases hn with h | h; exact h.2.1; have := hwf b _ hb; omega
    funext x
    by_cases hx : x = b1
    · rw [hx, Ren.set_same, e, hL, hd, ← e4]; rfl
    · rw [Ren.set_other _ _ _ hx]
  have hsub : Sub ρ (ρ.set b1 ⟨L.blk, L.base + d, L.csize, E⟩) := by
    rcases hn with h | h
    · rw [hold h.1]; exact fun _ _ e => e
    · rw [h.1]; exact Ren.sub_set _ h.2.2
  have hother : ∀ {j x}, g' j = some x → j ≠ b1 → g j = some x ∧ j ≠ b := by
    intro j x h hj
    rw [hg, if_neg hj] at h
    by_cases hjb : j = b
    · rw [if_pos hjb] at h; cases h
    · rw [if_neg hjb] at h; exact ⟨h, hjb⟩
  refine ⟨fun j hj => ?_, by rcases hn with h | h <;> omega, ⟨fun j x h => ?_, fun j j' x x' l l' h h' hne hw e e' => ?_⟩, fun j x h => ?_, fun j x l h1 h2 h3 => ?_, fun j x l h1 h3 => ?_, fun k hk hnk => ?_, by omega, hos, ht, ho⟩
  · rcases hn with h | h
    · rw [hold h.1]
    · rw [Ren.set_other]; omega
  · by_cases hj : j = b1
    · rw [hg, if_pos hj] at h; cases h
      refine ⟨⟨L.blk, L.base + d, L.csize, E⟩, cs', elem, fz, by rw [hj]; exact Ren.set_same _ _ _, hw', by rw [hsz, e3], rfl, by rw [hsz]; exact hle, fun i hi => ?_, fun _ i hi => e6.1 rfl i (by omega), fun q => by cases q⟩
      obtain ⟨v, a, q⟩ := hc i hi
      exact ⟨v, a, q.mono hsub⟩
    · obtain ⟨h, hjb⟩ := hother h hj
      refine (hs.blk j x h).mono hsub fun l e => hrest _ ?_
      exact (hs.sep b j _ x L l hb h (Ne.symm hjb) rfl hL e).symm
  · by_cases hj : j = b1
    · have hj' : j' ≠ b1 := fun q => hne (hj.trans q.symm)
      obtain ⟨h', hjb⟩ := hother h' hj'
      rw [hj, Ren.set_same] at e; cases e
      rw [Ren.set_other _ _ _ hj'] at e'
      exact hs.sep b j' _ x' L l' hb h' (Ne.symm hjb) rfl hL e'
    · obtain ⟨h, hjb⟩ := hother h hj
      rw [Ren.set_other _ _ _ hj] at e
      by_cases hj' : j' = b1
      · rw [hj', Ren.set_same] at e'; cases e'
        exact (hs.sep b j _ x L l hb h (Ne.symm hjb) rfl hL e).symm
      · obtain ⟨h', _⟩ := hother h' hj'
        rw [Ren.set_other _ _ _ hj'] at e'
        exact hs.sep j j' x x' l l' h h' hne hw e e'
  · by_cases hj : j = b1
    · have := hwf b _ hb; rcases hn with h | h <;> omega
    · have := hwf j x (hother h hj).1; rcases hn with h | h <;> omega
  · refine .inr ?_
    by_cases hj : j = b1
    · rw [hj, Ren.set_same] at h3; cases h3
      exact ⟨b, _, L, hb, rfl, hL, rfl⟩
    · rw [Ren.set_other _ _ _ hj] at h3
      exact ⟨j, x, l, (hother h1 hj).1, h2, h3, rfl⟩
  · refine .inr ?_
    by_cases hj : j = b1
    · rw [hj, Ren.set_same] at h3; cases h3
      exact ⟨b, _, L, hb, hL, rfl⟩
    · rw [Ren.set_other _ _ _ hj] at h3
      exact ⟨j, x, l, (hother h1 hj).1, h3, rfl⟩
  · exact hrest k fun q => hnk b _ L hb rfl hL q.symm
end Go.Ev
end
