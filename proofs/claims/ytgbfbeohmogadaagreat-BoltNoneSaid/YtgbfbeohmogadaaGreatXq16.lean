/- Running closed code: a region that draws its order, run in the text's order, with the checks that make every order come to the same. -/
import Derived.Test.YtgbfbeohmogadaaGreatXq15
import Derived.Orders
namespace Go.Proofs.YtgbfbeohmogadaaGreat
open Go.RowKit
set_option linter.unusedVariables false

/-! ### Ancestors -/
def edgesB (l : List Edge) (anc : Tr Nat) (i : Nat) : Option Nat := match l with
  | [] => some 0
  | e :: l => match edgesB l anc i with
    | none => none
    | some s => if Region.binds .any e then
        if e.on < i then match anc.get e.on with
          | some a => some (Nat.lor (Nat.lor s (Nat.shiftLeft 1 e.on)) a)
          | none => none
        else none
      else some s
def ancsB : List Oper → Nat → Tr Nat → Option (Tr Nat)
  | [], _, anc => some anc
  | o :: l, i, anc => match edgesB o.after.toList anc i with
    | some a => ancsB l (i + 1) (anc.set i a)
    | none => none
/-- which operation writes a slot: none writes one that another writes -/
def writersB : List Oper → Nat → Tr Nat → Option (Tr Nat)
  | [], _, wr => some wr
  | o :: l, i, wr => match o.dst with
    | none => writersB l (i + 1) wr
    | some d => match wr.get d with
      | some _ => none
      | none => writersB l (i + 1) (wr.set d i)
inductive Kd where
  | skip
  | pure
  | load
  | alloc (B : Bk)
  | eff (ha : Hp)
/-- what is known of an operation that was run -/
structure Rec where
  v : Option V
  nb : Nat
  na : Nat
  k : Kd
structure Env where
  P : Program
  ext : ExtF
  call : CallF
  ops : Array Oper
  N : Nat
  s0 : St
  anc : Tr Nat
  wr : Tr Nat
def Env.isAnc (E : Env) (j i : Nat) : Bool := match E.anc.get i with
  | some a => a.testBit j
  | none => false
/-- the value of a slot, as operation i reads it -/
def Env.slot (E : Env) (rs : Tr Rec) (i t : Nat) : Option V := match E.wr.get t with
  | none => E.s0.tm.get t
  | some j => if E.isAnc j i then match rs.get j with
      | some R => R.v
      | none => none
    else if E.isAnc i j then E.s0.tm.get t else none
def Env.ev (E : Env) (rs : Tr Rec) (i : Nat) : Operand → Option V
  | .tmp t => E.slot rs i t
  | .const v => vOf v
  | .func f => some (.w (.c (.f f [] [])))
  | .global _ => none
def Env.want (E : Env) (rs : Tr Rec) (i : Nat) (o : Oper) : Option Bool := match o.guard with
  | none => some true
  | some (j, want) => match E.ops[j]? with
    | some q => match q.dst with
      | some t => match E.slot rs i t with
        | some (.w (.c (.b b))) => some (b == want)
        | some (.t []) => some false
        | _ => none
      | none => none
    | none => none
/-- the memory behind an effect (behind none: the first) -/
def Env.after (E : Env) (rs : Tr Rec) : Option Nat → Hp
  | none => E.s0.hp
  | some e => match rs.get e with
    | some ⟨_, _, _, .eff ha⟩ => ha
    | _ => .nil
/-- is what operation q made part of the memory behind effect p? -/
def Env.mergedB (E : Env) : Option Nat → Nat → Bool
  | some e, q => E.isAnc q e
  | none, _ => false
/-- the memory ahead of effect i, behind effect p: what was made for it comes in -/
def Env.merge (E : Env) (rs : Tr Rec) (p : Option Nat) (i : Nat) : Nat → Hp
  | 0 => E.after rs p
  | q + 1 => match rs.get q with
    | some ⟨_, nb, _, .alloc B⟩ => if E.isAnc q i && !E.mergedB p q then (E.merge rs p i q).set nb B else E.merge rs p i q
    | _ => E.merge rs p i q
/-- what a load finds at name k behind effect p -/
def Env.find (E : Env) (rs : Tr Rec) (p : Option Nat) (i k : Nat) : Nat → Option Bk
  | 0 => (E.after rs p).get k
  | q + 1 => match (E.after rs p).get k with
    | some B => some B
    | none => match rs.get q with
      | some ⟨_, nb, _, .alloc B⟩ => if nb = k ∧ E.isAnc q i = true ∧ E.mergedB p q = false then some B else E.find rs p i k q
      | _ => E.find rs p i k q
/-- the last effect of a list, run or not -/
def lastE : List Nat → Option Nat
  | [] => none
  | e :: _ => some e
end Go.Proofs.YtgbfbeohmogadaaGreat
