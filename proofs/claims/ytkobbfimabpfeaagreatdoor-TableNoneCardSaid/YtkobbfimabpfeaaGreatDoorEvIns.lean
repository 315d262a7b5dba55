/- slices.Insert: the run of its code where its capacity tells nothing, and both runs where it does. -/
import Derived.Test.YtkobbfimabpfeaaGreatDoorEvA
namespace Go.Ev

structure InsParts where
  r0 : Code
  r1 : Code
  r2 : Code
  x : Code
  r5 : Code
  y : Code
  z : Code
  rest : Code

/-- The parts of its code: those between which the capacity is asked for. -/
noncomputable def insParts (c : Code) : Option InsParts :=
  match c with
  | .seq r0 (.seq r1 (.seq r2 (.seq x (.seq r5 (.seq y (.seq (.seq _ z) (.seq _ rest))))))) => some ⟨r0, r1, r2, x, r5, y, z, rest⟩
  | _ => none

section
variable (P : Program) (S : Sums) (n : Nat)

noncomputable def normK (r : Res) (k : T AV → AMem → OR) : OR :=
  @Res.rec (fun _ => OR) OR.fail (fun x t m => @X.rec (fun _ => OR) (k t m) (fun _ => .fail 3101) (.fail 3102) x) r
noncomputable def retK (r : Res) (k : T AV → AMem → OR) : OR :=
  @Res.rec (fun _ => OR) OR.fail (fun x t m => @X.rec (fun _ => OR) (.fail 3103) (fun _ => .fail 3104) (k t m) x) r

noncomputable def setsK (v : AV) (l : List Nat) (t : T AV) (k : T AV → OR) : OR :=
  match l with
  | [] => k t
  | i :: l => T.setK (.fail 3105) (some v) t i fun t => setsK v l t k

/-- Do the slots hold what they should? -/
noncomputable def insChk (b off len : Nat) (t : T AV) (r : OR) : OR :=
  match t.get 0, t.get 7, t.get 8 with
  | some (.slice b0 o0 l0 none), some (.int .i64 (.ofNat a)), some (.int .i64 (.ofNat n0)) => bif2 (Nat.beq b0 b && Nat.beq o0 off && Nat.beq l0 len && Nat.beq a 1 && Nat.beq n0 len && Nat.ble len 1048576) r (.fail 3106)
  | _, _, _ => .fail 3107

/-- Is it a block of one's own, of such elements? -/
noncomputable def ownK (m : AMem) (b size : Nat) (r : OR) : OR :=
  match m.t.get b with
  | some (.cells false _ E _ _) => bif2 (Nat.beq E size) r (.fail 3108)
  | _ => .fail 3109

/-- There is room: what the cells are afterwards. -/
noncomputable def insShift (nt : Nat) (p : InsParts) (size b off len : Nat) (i v : AV) (m0 : AMem) (k : List AV → OR) : OR :=
  ownK m0 b size <| elemsK m0 size len (.slice b off len none) fun old =>
  putK (.fail 3110) (old ++ repA [.any] size) off .leaf fun c0 =>
  T.setK (.fail 3111) (some (.cells false true size (Nat.add off (Nat.mul (Nat.succ len) size)) c0)) m0.t b fun mt =>
  putK (.fail 3112) [.slice b off len none, i, v] 0 .leaf fun t =>
  normK (exec P S n nt p.r0 t ⟨m0.next, mt⟩) fun t m => normK (exec P S n nt p.r1 t m) fun t m => normK (exec P S n nt p.r2 t m) fun t m => normK (exec P S n nt p.x t m) fun t m =>
  normK (exec P S n nt p.r5 t m) fun t m => normK (exec P S n nt p.y t m) fun t m =>
  insChk b off len t <| setsK .any [26, 27, 28, 29, 30] t fun t => setsK (.bool false) [31] t fun t =>
  normK (exec P S n nt p.z t m) fun t m =>
  insChk b off len t <| setsK .any [56, 57, 58, 59, 60] t fun t => setsK (.slice b off (Nat.succ len) none) [0] t fun t =>
  retK (exec P S n nt p.rest t m) fun t m1 =>
    match t.get 6 with
    | some (.slice b' off' len' none) => bif2 (Nat.beq b b' && Nat.beq off off' && Nat.beq len' (Nat.succ len) && Nat.beq m1.next m0.next) (ownK m1 b size <| elemsK m1 size (Nat.succ len) (.slice b off (Nat.succ len) none) k) (.fail 3113)
    | _ => .fail 3114

/-- There is none. -/
noncomputable def insGrow (f : FuncId) (size b off len : Nat) (i v : AV) (m : AMem) (k : List AV → OR) : OR :=
  @OR.rec (fun _ => OR) OR.fail (fun r m1 =>
    match r with
    | .slice b' off' len' none => bif2 (Nat.beq b' m.next && Nat.beq off' 0 && Nat.beq len' (Nat.succ len) && Nat.beq m1.next (Nat.succ m.next)) (ownK m1 b' size <| elemsK m1 size (Nat.succ len) (.slice b' 0 (Nat.succ len) none) k) (.fail 3115)
    | _ => .fail 3116) (callF P S (exec P S n) f [.slice b off len (some len), i, v] m)

/-- The memory of these two alone. -/
noncomputable def twoK (m : AMem) (b vb : Nat) (k : AMem → OR) : OR :=
  match m.t.get b, m.t.get vb with
  | some x, some y => T.setK (.fail 3117) (some x) .leaf b fun t => T.setK (.fail 3118) (some y) t vb fun t => k ⟨m.next, t⟩
  | _, _ => .fail 3119

noncomputable def insMid (f : FuncId) (fc : Func × Code) (size b off len : Nat) (i : AV) (vb : Nat) (v : AV) (m : AMem) : OR :=
  match insParts fc.2 with
  | none => .fail 3120
  | some p => bif2 (Nat.beq b vb) (.fail 3121) (twoK m b vb fun m2 =>
    insGrow P S n f size b off len i v m2 fun l1 => insShift P S n (nTmps fc.1 3) p size b off len i v m2 fun l2 =>
      bif2 (eqV.eqVs 1000 l1 l2) (T.setK (.fail 3122) none m.t b fun t => T.setK (.fail 3123) none t vb fun t => growA size l1 (Nat.succ len) ⟨m.next, t⟩) (.fail 3124))

noncomputable def insertSum (f : FuncId) (size : Nat) (args : List AV) (m : AMem) : OR :=
  match args with
  | [.slice b off len none, .int k (.ofNat i), .slice vb voff vl vc] =>
    bif2 (Nat.blt i len) (match codeOf P f with
      | some fc => insMid P S n f fc size b off len (.int k (.ofNat i)) vb (.slice vb voff vl vc) m
      | none => .fail 3125) (callF P S (exec P S n) f args m)
  | _ => callF P S (exec P S n) f args m
end
end Go.Ev
