/- Runs of code that ranges over maps: every order is looked at, and each must come to what is asked. -/
import Derived.Test.YtkobbfimabpfeaaGreatDoorEvA
namespace Go.Ev

/-- An iterator over a map: its name, the map's name, what it has not handed out, what it handed out last. -/
structure It where
  b : Nat
  mb : Nat
  left : List Ent
  cur : Option Ent

abbrev NK := X → T AV → AMem → List It → Bool
abbrev NEx := Nat → Code → T AV → AMem → List It → NK → Bool
abbrev NCall := FuncId → List AV → AMem → List It → (AV → AMem → List It → Bool) → Bool

/-- Each of some, the others kept. -/
noncomputable def picks : List Ent → List Ent → (Ent → List Ent → Bool) → Bool
  | _, [], _ => true
  | pre, e :: l, k => bif2 (k e (pre ++ l)) (picks (pre ++ [e]) l k) false

noncomputable def findIt (b : Nat) : List It → Option (It × List It)
  | [] => none
  | i :: l => bif2 (Nat.beq i.b b) (some (i, l)) (match findIt b l with | some (j, l) => some (j, i :: l) | none => none)

section
variable (nt hi : Nat)

noncomputable def nPut (dst : Option Tmp) (v : AV) (t : T AV) (k : T AV → Bool) : Bool :=
  @Option.rec Nat (fun _ => Bool) (k t) (fun d => bif2 (Nat.blt d nt) (T.setK false (some v) t d k) false) dst

noncomputable def nRange (dst : Option Tmp) (v : AV) (t : T AV) (m : AMem) (its : List It) (k : T AV → AMem → List It → Bool) : Bool :=
  match v with
  | .map b => match m.t.get b with
    | some (.map _ ck es) => T.setK false (some (.map true ck es)) m.t b fun tr => fNat (Nat.succ m.next) fun nx => bif2 (Nat.ble nx hi)
        (nPut nt dst (.ptr m.next 0) t fun t => k t ⟨nx, tr⟩ (⟨m.next, b, es, none⟩ :: its)) false
    | _ => false
  | _ => false

noncomputable def nNext (dst : Option Tmp) (v : AV) (t : T AV) (m : AMem) (its : List It) (k : T AV → AMem → List It → Bool) : Bool :=
  match v with
  | .ptr b 0 => match findIt b its with
    | some (i, its') => match i.left with
      | [] => nPut nt dst (.tup [.bool false]) t fun t => k t m its
      | l => picks [] l fun e rest => nPut nt dst (.tup [.bool true, e.k, e.v]) t fun t => k t m (⟨i.b, i.mb, rest, some e⟩ :: its')
    | none => false
  | _ => false

noncomputable def nEntry (dst : Option Tmp) (v : AV) (t : T AV) (m : AMem) (its : List It) (k : T AV → AMem → List It → Bool) : Bool :=
  match v with
  | .ptr b 0 => match findIt b its with
    | some (i, _) => match i.cur with
      | some e => nPut nt dst (.tup [e.k, e.v]) t fun t => k t m its
      | none => false
    | none => false
  | _ => false

variable (P : Program) (call : Call) (N : FuncId → Bool) (ncall : NCall)

noncomputable def nDet (all : Array Oper) (o : Oper) (t : T AV) (m : AMem) (its : List It) (k : T AV → AMem → List It → Bool) : Bool :=
  @Res.rec (fun _ => Bool) (fun _ => false) (fun _ t m => bif2 (Nat.ble m.next hi) (k t m its) false) (regOp P call nt all o t m fun t m => .mk .norm t m)

noncomputable def nCallOp (all : Array Oper) (o : Oper) (f : Operand) (args : Array Operand) (t : T AV) (m : AMem) (its : List It) (k : T AV → AMem → List It → Bool) : Bool :=
  evK t f fun v => v.onFn (fun g caps => bif2 (N g) (evsK t args.toList fun vs => ncall g (vs ++ caps) m its fun v m its => nPut nt o.dst v t fun t => k t m its)
    (nDet nt hi P call all o t m its k)) false

noncomputable def nOp (all : Array Oper) (o : Oper) (t : T AV) (m : AMem) (its : List It) (k : T AV → AMem → List It → Bool) : Bool :=
  match o.guard with
  | some _ => nDet nt hi P call all o t m its k
  | none => match o.op with
    | .range ty x => match P.underlying ty with
      | some (.map _ _) => evK t x fun v => nRange nt hi o.dst v t m its k
      | _ => false
    | .next x false => evK t x fun v => nNext nt o.dst v t m its k
    | .entry x => evK t x fun v => nEntry nt o.dst v t m its k
    | .call ⟨.value f, args, _⟩ => nCallOp nt hi P call N ncall all o f args t m its k
    | _ => nDet nt hi P call all o t m its k

noncomputable def nOps (all : Array Oper) (l : List Oper) : T AV → AMem → List It → (T AV → AMem → List It → Bool) → Bool :=
  @List.rec Oper (fun _ => T AV → AMem → List It → (T AV → AMem → List It → Bool) → Bool) (fun t m its k => k t m its) (fun o _ ih t m its k => nOp nt hi P call N ncall all o t m its fun t m its => ih t m its k) l
end

section
variable (hi : Nat) (P : Program) (S : Sums) (N : FuncId → Bool)

noncomputable def nLeave (fn : Func) (t : T AV) (m : AMem) (k : AV → AMem → Bool) : Bool :=
  @OR.rec (fun _ => Bool) (fun _ => false) (fun v m => k v m) (resultsA P fn.results.toList t m fun l => one l m)

noncomputable def nCallF (nex : NEx) : NCall := fun g args m its k =>
  @Option.rec (Func × Code) (fun _ => Bool) false (fun fc =>
    putK false args 0 .leaf fun t => nex (nTmps fc.1 args.length) fc.2 t m its fun x t m its =>
      @X.rec (fun _ => Bool) (nLeave P fc.1 t m fun v m => k v m its) (fun _ => false) (nLeave P fc.1 t m fun v m => k v m its) x) (codeOf P g)

/-- One step down: 'nex' and 'n' are of the fuel below. -/
noncomputable def nExecF (n : Nat) (nex : NEx) : NEx := fun nt c t m its k =>
  match c with
  | .skip => k .norm t m its
  | .region id ops drawn => bif2 drawn (@Res.rec (fun _ => Bool) (fun _ => false) (fun x t m => bif2 (Nat.ble m.next hi) (k x t m its) false) (exec P S (Nat.succ n) nt (.region id ops drawn) t m))
      (nOps nt hi P (callF P S (exec P S n)) N (nCallF P nex) ops ops.toList t m its fun t m its => k .norm t m its)
  | .seq a b => nex nt a t m its fun x t m its => @X.rec (fun _ => Bool) (nex nt b t m its k) (fun i => k (.exit i) t m its) (k .ret t m its) x
  | .cond x a b => evK t x fun v => v.onBool (fun v => bif2 v (nex nt a t m its k) (nex nt b t m its k)) false
  | .block id b => nex nt b t m its fun x t m its => @X.rec (fun _ => Bool) (k .norm t m its) (fun i => bif2 (Nat.beq i id) (k .norm t m its) (k (.exit i) t m its)) (k .ret t m its) x
  | .loop b => nex nt b t m its fun x t m its => @X.rec (fun _ => Bool) (nex nt (.loop b) t m its k) (fun i => k (.exit i) t m its) (k .ret t m its) x
  | .exit id => k (.exit id) t m its
  | .ret => k .ret t m its
  | _ => false

noncomputable def nExec (n : Nat) : NEx := @Nat.rec (fun _ => NEx) (fun _ _ _ _ _ _ => false) (fun n ih => nExecF hi P S N n ih) n

/-- A call, whatever the orders: what comes of it is as 'k' says. -/
noncomputable def nCall (n : Nat) : NCall := nCallF P (nExec hi P S N n)
end
end Go.Ev
