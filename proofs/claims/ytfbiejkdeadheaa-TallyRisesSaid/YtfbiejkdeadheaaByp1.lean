/- Layers 13, 14: the node of a thread; who passes whom, as plain data. No program in sight. -/
import Derived.Test.YtfbiejkdeadheaaEv1
namespace Go.Proofs.Ytfbiejkdeadheaa
open Go.RowKit

def nodeOf (ns : List Int) (t : Int) : Int := if t < 0 ∨ (ns.length : Int) ≤ t then -1 else ns.getD t.toNat 0
def cntE (ns : List Int) (t : Int) (p : Int × Int) (e : Ev) : Int × Int :=
  if e.kind = 2 ∧ ¬ e.thread = t then (if nodeOf ns e.thread = nodeOf ns t then (p.1 + 1, p.2) else (p.1, p.2 + 1)) else p
def fromTo (ns : List Int) (t a b : Int) (l : List Ev) : Nat → Int × Int
  | 0 => (0, 0)
  | k + 1 => match l[k]? with
    | some e => if a < k ∧ (k : Int) < b then cntE ns t (fromTo ns t a b l k) e else fromTo ns t a b l k
    | none => fromTo ns t a b l k
def fromL (ns : List Int) (t a b : Int) (l : List Ev) : Int × Int := fromTo ns t a b l l.length

theorem fromTo_succ (ns : List Int) (t a b : Int) (l : List Ev) (k : Nat) (e : Ev) (h : l[k]? = some e) :
    fromTo ns t a b l (k + 1) = if a < k ∧ (k : Int) < b then cntE ns t (fromTo ns t a b l k) e else fromTo ns t a b l k := by
  show (match l[k]? with | some e => if a < k ∧ (k : Int) < b then cntE ns t (fromTo ns t a b l k) e else fromTo ns t a b l k | none => fromTo ns t a b l k) = _
  rw [h]
theorem cntE_le (ns : List Int) (t : Int) (p : Int × Int) (e : Ev) (k : Int) (h : 0 ≤ p.1 ∧ 0 ≤ p.2 ∧ p.1 ≤ k ∧ p.2 ≤ k) : 0 ≤ (cntE ns t p e).1 ∧ 0 ≤ (cntE ns t p e).2 ∧ (cntE ns t p e).1 ≤ k + 1 ∧ (cntE ns t p e).2 ≤ k + 1 := by
  unfold cntE
  split
  · split <;> (simp only; omega)
  · omega
theorem fromTo_le (ns : List Int) (t a b : Int) (l : List Ev) : ∀ k : Nat, 0 ≤ (fromTo ns t a b l k).1 ∧ 0 ≤ (fromTo ns t a b l k).2 ∧ (fromTo ns t a b l k).1 ≤ k ∧ (fromTo ns t a b l k).2 ≤ k
  | 0 => by simp [fromTo]
  | k + 1 => by
    have h := fromTo_le ns t a b l k
    have hc := fun e => cntE_le ns t _ e k h
    unfold fromTo
    split
    · rename_i e he
      split
      · have := hc e; omega
      · omega
    · omega
/-- nothing is counted from the end on -/
theorem fromTo_past (ns : List Int) (t a b : Int) (l : List Ev) (k : Nat) (hb : b ≤ k) : ∀ d, fromTo ns t a b l (k + d) = fromTo ns t a b l k
  | 0 => rfl
  | d + 1 => by
    have h := fromTo_past ns t a b l k hb d
    rw [← Nat.add_assoc]
    show (match l[k + d]? with | some e => if a < (k + d : Nat) ∧ ((k + d : Nat) : Int) < b then cntE ns t (fromTo ns t a b l (k + d)) e else fromTo ns t a b l (k + d) | none => fromTo ns t a b l (k + d)) = _
    split
    · rw [if_neg (by omega), h]
    · exact h
theorem fromTo_end (ns : List Int) (t a b : Int) (l : List Ev) (k : Nat) (hk : k ≤ l.length) (hb : b ≤ k) : fromTo ns t a b l k = fromL ns t a b l := by
  have := fromTo_past ns t a b l k hb (l.length - k)
  rw [show k + (l.length - k) = l.length from by omega] at this
  exact this.symm
end Go.Proofs.Ytfbiejkdeadheaa
