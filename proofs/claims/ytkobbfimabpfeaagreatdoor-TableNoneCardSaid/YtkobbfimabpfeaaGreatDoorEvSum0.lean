import Derived.Test.YtkobbfimabpfeaaGreatDoorEvIns
namespace Go.Ev
noncomputable def strsK (m : AMem) : List AV → Option (List (List Nat))
  | [] => some []
  | .str s :: l => match strsK m l with | some r => some (s :: r) | none => none
  | _ => none
noncomputable def joinL (sep : List Nat) : List (List Nat) → List Nat
  | [] => []
  | [a] => a
  | a :: l => a ++ sep ++ joinL sep l
noncomputable def joinSum (args : List AV) (m : AMem) : OR :=
  match args with
  | [.slice b off n cap, .str sep] => bif2 (Nat.ble n 1048576) (elemsK m 1 n (.slice b off n cap) fun l => match strsK m l with
      | some ss => fList (joinL sep ss) fun s => bif2 (Nat.ble s.length 1048576) (.mk (.str s) m) (.fail 3019)
      | none => .fail 3020) (.fail 3018)
  | [.nils, .str _] => .mk (.str []) m
  | [.emp, .str _] => .mk (.str []) m
  | _ => .fail 3022
noncomputable def idxGo (c : Nat) : List Nat → Nat → Int
  | [], _ => -1
  | a :: l, i => bif Nat.beq a c then .ofNat i else idxGo c l (Nat.succ i)
noncomputable def indexByteSum (args : List AV) (m : AMem) : OR :=
  match args with
  | [.str s, .int .u8 (.ofNat c)] => bif2 (Nat.blt c 256) (fInt (idxGo c s 0) fun n => .mk (.int .i64 n) m) (.fail 3031)
  | _ => .fail 3030
/-- A function without parameters that answers true and leaves memory alone. -/
noncomputable def begunSum (args : List AV) (m : AMem) : OR :=
  match args with
  | [] => .mk (.bool true) m
  | _ => .fail 3040
/-- slices.overlaps, of slices of unlike arrays. -/
noncomputable def overSum (args : List AV) (m : AMem) : OR :=
  match args with
  | [.slice b _ _ _, .slice c _ _ _] => match m.t.get b, m.t.get c with
    | some (.cells _ false _ (Nat.succ _) _), some (.cells false _ _ (Nat.succ _) _) => bif2 (Nat.beq b c) (.fail 3050) (.mk (.bool false) m)
    | _, _ => .fail 3051
  | _ => .fail 3052
noncomputable def sumsI (over : FuncId) : Sums := fun f => bif2 (Nat.beq f over) (some overSum) none
noncomputable def sums0 (P : Program) : Sums := fun f => match f with
  | 64 => some (insertSum P (sumsI 75) 60 64 2)
  | 80 => some (insertSum P (sumsI 88) 60 80 1)
  | 175 => some joinSum
  | 177 => some indexByteSum
  | _ => none
end Go.Ev
