/- What a call comes to, noted once for a memory of a few names, serves wherever a memory holds the like under other names. -/
import Derived.Test.YtkobbfimabpfeaaGreatDoorEvNd
namespace Go.Ev

/-- A block as it is noted. -/
inductive PB where
  | cells (ro sg : Bool) (E : Nat) (l : List AV)
  | map (ro : Bool) (ck : Nat) (es : List Ent)

noncomputable def PB.wr : PB → Bool
  | .cells ro _ _ _ => !ro
  | .map ro _ _ => !ro

abbrev Pat := List (Nat × PB)
noncomputable def lookP (b : Nat) : Pat → Option PB
  | [] => none
  | x :: l => bif2 (Nat.beq x.1 b) (some x.2) (lookP b l)

abbrev Sg := Nat → Option Nat
noncomputable def nm (s : Sg) (x y : Nat) : Bool := match s x with
  | some z => Nat.beq z y
  | none => false

/-- Is all that is noted of a value so of another one, names being turned? -/
noncomputable def leV (s : Sg) : Nat → AV → AV → Bool
  | 0, _, _ => false
  | n + 1, a, b => match a, b with
    | .any, _ => true
    | .bool x, .bool y => x == y
    | .int k x, .int l y => bif2 (kEq k l) (iEq x y) false
    | .str x, .str y => lEq x y
    | .ptr x o, .ptr y p => bif2 (Nat.beq o p) (nm s x y) false
    | .nilp, .nilp => true
    | .slice x o l none, .slice y p j none => bif2 (Nat.beq o p) (bif2 (Nat.beq l j) (nm s x y) false) false
    | .slice x o l (some c), .slice y p j (some d) => bif2 (Nat.beq o p) (bif2 (Nat.beq l j) (bif2 (Nat.beq c d) (nm s x y) false) false) false
    | .nils, .nils => true
    | .emp, .emp => true
    | .map x, .map y => nm s x y
    | .nilm, .nilm => true
    | .nilf, .nilf => true
    | .fn f x, .fn g y => bif2 (Nat.beq f g) (leVs n x y) false
    | .iface t x, .iface u y => bif2 (Nat.beq t u) (leV s n x y) false
    | .nili, .nili => true
    | .agg x, .agg y => leVs n x y
    | .tup x, .tup y => leVs n x y
    | _, _ => false
where
  leVs : Nat → List AV → List AV → Bool
  | 0, _, _ => false
  | _ + 1, [], [] => true
  | n + 1, a :: l, b :: m => bif2 (leV s n a b) (leVs n l m) false
  | _, _, _ => false

noncomputable def fuelV : Nat := 400

noncomputable def leCells (s : Sg) (c : T AV) : List AV → Nat → Bool
  | [], _ => true
  | a :: l, i => bif2 (leV s fuelV a ((c.get i).getD .any)) (leCells s c l (Nat.succ i)) false

noncomputable def leO : Option Nat → Option Nat → Bool
  | none, _ => true
  | some a, some b => Nat.beq a b
  | _, _ => false

/-- The entry of a known key, the others. -/
noncomputable def takeKey (k : AV) : List Ent → Option (Ent × List Ent)
  | [] => none
  | e :: l => bif2 (keySame k e.k) (some (e, l)) (match takeKey k l with | some (x, l) => some (x, e :: l) | none => none)

noncomputable def leEs (s : Sg) : List Ent → List Ent → Bool
  | [], [] => true
  | [], _ :: _ => false
  | e :: l, m => match takeKey e.k m with
    | some (x, m) => bif2 (leV s fuelV e.k x.k) (bif2 (leV s fuelV e.v x.v) (bif2 (leO e.born x.born) (leEs s l m) false) false) false
    | none => false

noncomputable def leB (s : Sg) (p : PB) (x : Blk) : Bool := match p, x with
  | .cells ro sg E l, .cells ro' sg' E' n c => bif2 (ro || !ro') (bif2 (sg || !sg') (bif2 (Nat.beq E E') (bif2 (Nat.ble l.length n) (leCells s c l 0) false) false) false) false
  | .map ro ck es, .map ro' ck' es' => bif2 (ro || !ro') (bif2 (Nat.beq ck ck') (leEs s es es') false) false
  | _, _ => false

/-- Are all that is noted blocks of a memory? -/
noncomputable def leP (s : Sg) (t : T Blk) : Pat → Bool
  | [] => true
  | x :: l => bif2 (match s x.1 with | some y => (match t.get y with | some b => leB s x.2 b | none => false) | none => false) (leP s t l) false

/-! ### Names are found -/

noncomputable def sgOf (fx : Nat) (g : T Nat) : Sg := fun b => bif2 (Nat.blt b fx) (some b) (g.get b)

section
variable {β : Type} (fx : Nat) (z : β)
abbrev FK (β : Type) := T Nat → List Nat → β
noncomputable def bindK (x y : Nat) (g : T Nat) (todo : List Nat) (k : FK β) : β :=
  bif2 (Nat.blt x fx) (k g todo) (match g.get x with | some _ => k g todo | none => T.setK z (some y) g x fun g => k g (x :: todo))

noncomputable def fV : Nat → AV → AV → T Nat → List Nat → FK β → β
  | 0, _, _, _, _, _ => z
  | n + 1, a, b, g, todo, k => match a, b with
    | .ptr x _, .ptr y _ => bindK fx z x y g todo k
    | .slice x _ _ _, .slice y _ _ _ => bindK fx z x y g todo k
    | .map x, .map y => bindK fx z x y g todo k
    | .fn _ x, .fn _ y => fVs n x y g todo k
    | .iface _ x, .iface _ y => fV n x y g todo k
    | .agg x, .agg y => fVs n x y g todo k
    | .tup x, .tup y => fVs n x y g todo k
    | _, _ => k g todo
where
  fVs : Nat → List AV → List AV → T Nat → List Nat → FK β → β
  | 0, _, _, _, _, _ => z
  | n + 1, a :: l, b :: m, g, todo, k => fV n a b g todo fun g todo => fVs n l m g todo k
  | _ + 1, _, _, g, todo, k => k g todo

noncomputable def fCells (c : T AV) : List AV → Nat → T Nat → List Nat → FK β → β
  | [], _, g, todo, k => k g todo
  | a :: l, i, g, todo, k => fV fx z fuelV a ((c.get i).getD .any) g todo fun g todo => fCells c l (Nat.succ i) g todo k

noncomputable def fEs : List Ent → List Ent → T Nat → List Nat → FK β → β
  | [], _, g, todo, k => k g todo
  | e :: l, m, g, todo, k => match takeKey e.k m with
    | some (x, m) => fV fx z fuelV e.v x.v g todo fun g todo => fEs l m g todo k
    | none => z

noncomputable def fB (p : PB) (x : Blk) (g : T Nat) (todo : List Nat) (k : FK β) : β := match p, x with
  | .cells _ _ _ l, .cells _ _ _ _ c => fCells fx z c l 0 g todo k
  | .map _ _ es, .map _ _ es' => fEs fx z es es' g todo k
  | _, _ => z

noncomputable def fAll (pat : Pat) (t : T Blk) : Nat → T Nat → List Nat → (T Nat → β) → β
  | 0, _, _, _ => z
  | _ + 1, g, [], k => k g
  | n + 1, g, b :: todo, k => match lookP b pat with
    | none => fAll pat t n g todo k
    | some p => match sgOf fx g b with
      | none => z
      | some y => match t.get y with
        | none => z
        | some x => fB fx z p x g todo fun g todo => fAll pat t n g todo k

/-- The names of what is noted, as they are called in a memory. -/
noncomputable def findS (pat : Pat) (vs : List AV) (olds : List Nat) (t : T Blk) (ws : List AV) (k : T Nat → β) : β :=
  fV.fVs fx z fuelV vs ws .leaf olds fun g todo => fAll fx z pat t 100000 g todo k
end

/-! ### What is noted of a call -/

structure Memo where
  n0 : Nat
  args : List AV
  pat : Pat
  n1 : Nat
  res : AV
  out : Pat

noncomputable def renV (s : Sg) : Nat → AV → AV
  | 0, _ => .any
  | n + 1, a => match a with
    | .ptr x o => (match s x with | some y => .ptr y o | none => .any)
    | .slice x o l c => (match s x with | some y => .slice y o l c | none => .any)
    | .map x => (match s x with | some y => .map y | none => .any)
    | .fn f l => .fn f (l.map (renV s n))
    | .iface t v => .iface t (renV s n v)
    | .agg l => .agg (l.map (renV s n))
    | .tup l => .tup (l.map (renV s n))
    | a => a

noncomputable def nodupN : List Nat → Bool
  | [] => true
  | a :: l => bif2 (l.any (Nat.beq a)) false (nodupN l)

noncomputable def images (s : Sg) : Pat → List Nat
  | [] => []
  | x :: l => match s x.1 with
    | some y => y :: images s l
    | none => images s l

noncomputable def boundS (s : Sg) (top : Nat) : Nat → Bool
  | 0 => true
  | n + 1 => bif2 (match s n with | some y => Nat.blt y top | none => true) (boundS s top n) false

/-- Names behind: as they are called in the memory. -/
noncomputable def tau (g : T Nat) (n0 n1 next : Nat) : Sg := fun b => bif2 (Nat.blt b n0) (g.get b) (bif2 (Nat.blt b n1) (some (Nat.add next (Nat.sub b n0))) none)

section
variable {β : Type} (z : β)
noncomputable def dropW (s : Sg) : Pat → T Blk → (T Blk → β) → β
  | [], t, k => k t
  | x :: l, t, k => bif2 x.2.wr (match s x.1 with | some y => T.setK z none t y fun t => dropW s l t k | none => z) (dropW s l t k)

noncomputable def putB (f : AV → AV) (p : PB) (y : Nat) (t : T Blk) (k : T Blk → β) : β := match p with
  | .cells ro sg E l => putK z (l.map f) 0 .leaf fun c => T.setK z (some (.cells ro sg E l.length c)) t y k
  | .map ro ck es => T.setK z (some (.map ro ck (es.map fun e => ⟨f e.k, f e.v, e.born⟩))) t y k

noncomputable def putP (s : Sg) (f : AV → AV) : Pat → T Blk → (T Blk → β) → β
  | [], t, k => k t
  | x :: l, t, k => match s x.1 with
    | some y => putB z f x.2 y t fun t => putP s f l t k
    | none => z
end

/-- Names below n0 alone. -/
noncomputable def cutS (n0 : Nat) (g : T Nat) : Sg := fun b => bif2 (Nat.blt b n0) (g.get b) none
/-- Names below n0 as they are, those up to n1 as they were found. -/
noncomputable def newS (n0 n1 : Nat) (g : T Nat) : Sg := fun b => bif2 (Nat.blt b n0) (some b) (bif2 (Nat.blt b n1) (g.get b) none)

/-- Old names in what comes of it are such as may be written; so are new ones. -/
noncomputable def okOut (n0 : Nat) (pat : Pat) : Pat → Bool
  | [] => true
  | x :: l => bif2 (bif2 (Nat.blt x.1 n0) (match lookP x.1 pat with | some p => p.wr | none => false) x.2.wr) (okOut n0 pat l) false

/-- As it is noted, where memory is the like; else as 'no' says. -/
noncomputable def memoTry (e : Memo) (args : List AV) (m : AMem) (no : OR) : OR :=
  findS 0 no e.pat e.args [] m.t args fun g =>
    bif2 (leV.leVs (cutS e.n0 g) fuelV e.args args) (bif2 (leP (cutS e.n0 g) m.t e.pat) (bif2 (nodupN (images (cutS e.n0 g) e.pat)) (bif2 (boundS (cutS e.n0 g) m.next e.n0)
      (bif2 (nodupN (images (tau g e.n0 e.n1 m.next) e.out)) (bif2 (okOut e.n0 e.pat e.out)
      (dropW (.fail 3201) (cutS e.n0 g) e.pat m.t fun t => putP (.fail 3202) (tau g e.n0 e.n1 m.next) (renV (tau g e.n0 e.n1 m.next) fuelV) e.out t fun t =>
        fNat (Nat.add m.next (Nat.sub e.n1 e.n0)) fun nx => .mk (renV (tau g e.n0 e.n1 m.next) fuelV e.res) ⟨nx, t⟩)
      no) no) no) no) no) no

/-- Is it as noted? -/
noncomputable def asNoted (e : Memo) (v : AV) (m : AMem) : Bool :=
  findS e.n0 false e.out [e.res] (e.out.map (·.1) |>.filter fun b => Nat.blt b e.n0) m.t [v] fun g =>
    bif2 (leV (newS e.n0 e.n1 g) fuelV e.res v) (bif2 (leP (newS e.n0 e.n1 g) m.t e.out) (nodupN (images (newS e.n0 e.n1 g) e.out)) false) false

noncomputable def startP {β : Type} (z : β) (e : Memo) (k : T Blk → β) : β := putP z some (fun v => v) e.pat .leaf k

/-- A run comes to what is noted. -/
noncomputable def memoRun (P : Program) (S : Sums) (n : Nat) (f : FuncId) (e : Memo) : Bool :=
  bif2 (Nat.ble e.n0 e.n1) (bif2 (nodupN (images some e.pat)) (startP false e fun t => @OR.rec (fun _ => Bool) (fun _ => false) (fun v m => asNoted e v m) (call P S n f e.args ⟨e.n0, t⟩)) false) false
/-- Each run comes to it, whatever the orders. -/
noncomputable def memoRunN (P : Program) (S : Sums) (N : FuncId → Bool) (n hi : Nat) (f : FuncId) (e : Memo) : Bool :=
  bif2 (Nat.ble e.n0 e.n1) (bif2 (Nat.ble e.n0 hi) (bif2 (nodupN (images some e.pat)) (startP false e fun t => nCall hi P S N n f e.args ⟨e.n0, t⟩ [] fun v m _ => asNoted e v m) false) false) false
end Go.Ev
