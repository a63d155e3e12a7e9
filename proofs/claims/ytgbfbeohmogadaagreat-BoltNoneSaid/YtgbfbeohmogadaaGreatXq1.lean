/- Running closed code: plain data that stands for values and memory, by names in the place of blocks; what it means for such data to be what a world holds. No program in sight. -/
import Derived.WalkKit
import Derived.WalkSpells
import Derived.ProofKit
import Derived.Below
namespace Go.Proofs.YtgbfbeohmogadaaGreat
open Go.RowKit

/-! ### A tree of numbers -/
inductive Tr (α : Type) where
  | nil
  | nd (x : Option α) (l r : Tr α)
namespace Tr
variable {α : Type}
def get : Tr α → Nat → Option α
  | nil, _ => none
  | nd x l r, k => bif Nat.beq k 0 then x else bif Nat.beq (k % 2) 1 then l.get (k / 2) else r.get (k / 2 - 1)
def single : Nat → Nat → α → Tr α
  | 0, _, v => nd (some v) nil nil
  | f + 1, k, v => bif Nat.beq k 0 then nd (some v) nil nil else bif Nat.beq (k % 2) 1 then nd none (single f (k / 2) v) nil else nd none nil (single f (k / 2 - 1) v)
def set : Tr α → Nat → α → Tr α
  | nil, k, v => single k k v
  | nd x l r, k, v => bif Nat.beq k 0 then nd (some v) l r else bif Nat.beq (k % 2) 1 then nd x (l.set (k / 2) v) r else nd x l (r.set (k / 2 - 1) v)
def del : Tr α → Nat → Tr α
  | nil, _ => nil
  | nd x l r, k => bif Nat.beq k 0 then nd none l r else bif Nat.beq (k % 2) 1 then nd x (l.del (k / 2)) r else nd x l (r.del (k / 2 - 1))
theorem beq0 (k : Nat) : Nat.beq k 0 = decide (k = 0) := by cases k <;> rfl
theorem beqd (a b : Nat) : Nat.beq a b = decide (a = b) := by
  rw [Bool.eq_iff_iff, Nat.beq_eq]; simp
theorem get_nil (k : Nat) : (nil : Tr α).get k = none := rfl
theorem get_single (v : α) : ∀ (f k : Nat), k ≤ f → ∀ j, (single f k v).get j = if j = k then some v else none
  | 0, k, h, j => by
    obtain rfl : k = 0 := by omega
    simp only [single, get, beqd]
    by_cases hj : j = 0 <;> simp [hj]
  | f + 1, k, h, j => by
    simp only [single, beqd]
    by_cases hk : k = 0
    · subst hk
      by_cases hj : j = 0 <;> simp [get, hj, beqd]
    · by_cases ho : k % 2 = 1
      · simp only [hk, ho, decide_false, decide_true, cond_false, cond_true, get, beqd]
        rw [get_single v f (k / 2) (by omega)]
        by_cases hj : j = 0
        · have : ¬ j = k := by omega
          simp [hj]; omega
        · by_cases hjo : j % 2 = 1
          · simp only [hj, hjo, decide_false, decide_true, cond_false, cond_true]
            by_cases e : j = k
            · subst e; simp
            · rw [if_neg (by omega), if_neg e]
          · simp only [hj, hjo, decide_false, cond_false]
            rw [if_neg (by omega)]
      · simp only [hk, ho, decide_false, cond_false, get, beqd]
        rw [get_single v f (k / 2 - 1) (by omega)]
        by_cases hj : j = 0
        · simp [hj]; omega
        · by_cases hjo : j % 2 = 1
          · simp only [hj, hjo, decide_false, decide_true, cond_false, cond_true]
            rw [if_neg (by omega)]
          · simp only [hj, hjo, decide_false, cond_false]
            by_cases e : j = k
            · subst e; simp
            · rw [if_neg (by omega), if_neg e]
theorem get_set (v : α) : ∀ (t : Tr α) (k j : Nat), (t.set k v).get j = if j = k then some v else t.get j
  | nil, k, j => by
    show (single k k v).get j = _
    rw [get_single v k k (Nat.le_refl _) j]; rfl
  | nd x l r, k, j => by
    simp only [set, beqd]
    by_cases hk : k = 0
    · subst hk
      by_cases hj : j = 0 <;> simp [get, hj, beqd]
    · by_cases ho : k % 2 = 1
      · simp only [hk, ho, decide_false, decide_true, cond_false, cond_true, get, beqd]
        by_cases hj : j = 0
        · simp [hj]; omega
        · by_cases hjo : j % 2 = 1
          · simp only [hj, hjo, decide_false, decide_true, cond_false, cond_true]
            rw [get_set v l]
            by_cases e : j = k
            · subst e; simp
            · rw [if_neg (by omega), if_neg e]
          · simp only [hj, hjo, decide_false, cond_false]
            rw [if_neg (by omega)]
      · simp only [hk, ho, decide_false, cond_false, get, beqd]
        by_cases hj : j = 0
        · simp [hj]; omega
        · by_cases hjo : j % 2 = 1
          · simp only [hj, hjo, decide_false, decide_true, cond_false, cond_true]
            rw [if_neg (by omega)]
          · simp only [hj, hjo, decide_false, cond_false]
            rw [get_set v r]
            by_cases e : j = k
            · subst e; simp
            · rw [if_neg (by omega), if_neg e]
theorem get_del : ∀ (t : Tr α) (k j : Nat), (t.del k).get j = if j = k then none else t.get j
  | nil, k, j => by simp [del, get]
  | nd x l r, k, j => by
    simp only [del, beqd]
    by_cases hk : k = 0
    · subst hk
      by_cases hj : j = 0 <;> simp [get, hj, beqd]
    · by_cases ho : k % 2 = 1
      · simp only [hk, ho, decide_false, decide_true, cond_false, cond_true, get, beqd]
        by_cases hj : j = 0
        · simp [hj]; omega
        · by_cases hjo : j % 2 = 1
          · simp only [hj, hjo, decide_false, decide_true, cond_false, cond_true]
            rw [get_del l]
            by_cases e : j = k
            · subst e; simp
            · rw [if_neg (by omega), if_neg e]
          · simp only [hj, hjo, decide_false, cond_false]
            rw [if_neg (by omega)]
      · simp only [hk, ho, decide_false, cond_false, get, beqd]
        by_cases hj : j = 0
        · simp [hj]; omega
        · by_cases hjo : j % 2 = 1
          · simp only [hj, hjo, decide_false, decide_true, cond_false, cond_true]
            rw [if_neg (by omega)]
          · simp only [hj, hjo, decide_false, cond_false]
            rw [get_del r]
            by_cases e : j = k
            · subst e; simp
            · rw [if_neg (by omega), if_neg e]
end Tr

/-! ### Values by names -/
/-- a slice's capacity: known, or what its block has room for (cells an element) -/
inductive Cp where
  | k (c : Nat)
  | u (es : Nat)
/-- what one cell holds -/
inductive C where
  | b (x : Bool)
  | i (k : IntKind) (n : Int)
  | s (x : ByteArray)
  | p (x : Option (Nat × Nat))
  | l (x : Option (Nat × Nat)) (n : Nat) (c : Cp)
  | f (fn : Nat) (first cap : List (Nat × Nat))
  | nf
  | ni
  /-- an interface's value: a cell, or a struct of one cell -/
  | d (t : TypeId) (agg : Bool) (x : C)
/-- a cell, or a struct's or an array's cells -/
inductive Wv where
  | c (x : C)
  | a (cs : List C)
/-- a value of a temporary -/
inductive V where
  | w (x : Wv)
  | t (xs : List Wv)
/-- names' blocks, and how many cells these have -/
abbrev Nm := Nat → Option (Nat × Nat)
def Nm.le (r s : Nm) : Prop := ∀ k x, r k = some x → s k = some x
theorem Nm.le_refl (r : Nm) : r.le r := fun _ _ h => h
theorem Nm.le_trans {r s t : Nm} (h : r.le s) (k : s.le t) : r.le t := fun _ _ e => k _ _ (h _ _ e)
def ptrOf (b o : Nat) : Value := .pointer (some ⟨b, o, none⟩)
inductive AR (r : Nm) : List (Nat × Nat) → List Value → Prop where
  | nil : AR r [] []
  | cons {k o b sz xs vs} (h : r k = some (b, sz)) (t : AR r xs vs) : AR r ((k, o) :: xs) (ptrOf b o :: vs)
inductive CR (r : Nm) : C → Value → Prop where
  | b (x) : CR r (.b x) (.bool x)
  | i (k n) : CR r (.i k n) (.int k n)
  | s (x) : CR r (.s x) (.string x)
  | p0 : CR r (.p none) (.pointer none)
  | p {k o b sz} (h : r k = some (b, sz)) : CR r (.p (some (k, o))) (ptrOf b o)
  | l0 (n c) : CR r (.l none n (.k c)) (.slice none n c)
  | l {k o b sz} (n c) (h : r k = some (b, sz)) : CR r (.l (some (k, o)) n (.k c)) (.slice (some ⟨b, o, none⟩) n c)
  | u {k o b sz} (n c es) (h : r k = some (b, sz)) (h1 : n ≤ c) (h2 : c ≤ maxLen) (h3 : o + c * es = sz) : CR r (.l (some (k, o)) n (.u es)) (.slice (some ⟨b, o, none⟩) n c)
  | f (fn) {a c va vc} (ha : AR r a va) (hc : AR r c vc) : CR r (.f fn a c) (.func (.func fn) va.toArray vc.toArray)
  | nf : CR r .nf .nilFunc
  | ni : CR r .ni .nilIface
  | d (t) {c v} (h : CR r c v) : CR r (.d t false c) (.iface t v)
  | da (t) {c v} (h : CR r c v) : CR r (.d t true c) (.iface t (.agg #[v]))
inductive CsR (r : Nm) : List C → List Value → Prop where
  | nil : CsR r [] []
  | cons {c v cs vs} (h : CR r c v) (t : CsR r cs vs) : CsR r (c :: cs) (v :: vs)
inductive WR (r : Nm) : Wv → Value → Prop where
  | c {x v} (h : CR r x v) : WR r (.c x) v
  | a {cs vs} (h : CsR r cs vs) : WR r (.a cs) (.agg vs.toArray)
inductive WsR (r : Nm) : List Wv → List Value → Prop where
  | nil : WsR r [] []
  | cons {c v cs vs} (h : WR r c v) (t : WsR r cs vs) : WsR r (c :: cs) (v :: vs)
inductive VR (r : Nm) : V → Value → Prop where
  | w {x v} (h : WR r x v) : VR r (.w x) v
  | t {xs vs} (h : WsR r xs vs) : VR r (.t xs) (.tuple vs.toArray)
section mono
variable {r s : Nm} (h : r.le s)
include h
theorem AR.mono {x v} (k : AR r x v) : AR s x v := by
  induction k with
  | nil => exact .nil
  | cons e _ ih => exact .cons (h _ _ e) ih
theorem CR.mono {x v} (k : CR r x v) : CR s x v := by
  induction k with
  | b => exact .b _
  | i => exact .i _ _
  | s => exact .s _
  | p0 => exact .p0
  | p e => exact .p (h _ _ e)
  | l0 => exact .l0 _ _
  | l n c e => exact .l n c (h _ _ e)
  | u n c es e h1 h2 h3 => exact .u n c es (h _ _ e) h1 h2 h3
  | f fn ha hc => exact .f fn (ha.mono h) (hc.mono h)
  | nf => exact .nf
  | ni => exact .ni
  | d t _ ih => exact .d t ih
  | da t _ ih => exact .da t ih
theorem CsR.mono {x v} (k : CsR r x v) : CsR s x v := by
  induction k with
  | nil => exact .nil
  | cons e _ ih => exact .cons (e.mono h) ih
theorem WR.mono {x v} (k : WR r x v) : WR s x v := by
  cases k with
  | c e => exact .c (e.mono h)
  | a e => exact .a (e.mono h)
theorem WsR.mono {x v} (k : WsR r x v) : WsR s x v := by
  induction k with
  | nil => exact .nil
  | cons e _ ih => exact .cons (e.mono h) ih
theorem VR.mono {x v} (k : VR r x v) : VR s x v := by
  cases k with
  | w e => exact .w (e.mono h)
  | t e => exact .t (e.mono h)
end mono

/-! ### Memory by names -/
structure Bk where
  e : TypeId
  n : Nat
  /-- what a cell holds that u does not name: this pattern, again and again -/
  d : List C
  u : Tr C
def Bk.cell (b : Bk) (j : Nat) : C := match b.u.get j with
  | some c => c
  | none => b.d.getD (j % b.d.length) .ni
abbrev Hp := Tr Bk
/-- what a block holds, as far as it is known -/
structure BR (r : Nm) (w : World) (B : Bk) (b sz : Nat) : Prop where
  ex : ∃ cs, w.heap[b]? = some (.cells cs B.e (0, 0)) ∧ cs.size = sz ∧ B.n ≤ sz ∧ ∀ j, j < B.n → ∃ v, cs[j]? = some v ∧ CR r (B.cell j) v
/-- what a memory by names is in a world -/
structure RelH (r : Nm) (H : Hp) (w : World) : Prop where
  at_ : ∀ k B, H.get k = some B → ∃ b sz, r k = some (b, sz) ∧ BR r w B b sz
  inj : ∀ k j B D b s t, H.get k = some B → H.get j = some D → r k = some (b, s) → r j = some (b, t) → k = j
/-- what else a call leaves as it was -/
structure Fr (r : Nm) (H : Hp) (w w' : World) : Prop where
  os : w'.os = w.os
  tape : w'.tape = w.tape
  output : w'.output = w.output
  size : w.heap.size ≤ w'.heap.size
  block : ∀ b, b < w.heap.size → (∀ k B sz, H.get k = some B → r k ≠ some (b, sz)) → w'.heap[b]? = w.heap[b]?
theorem BR.mono {r s : Nm} {w : World} {B : Bk} {b sz : Nat} (h : r.le s) (k : BR r w B b sz) : BR s w B b sz := by
  obtain ⟨cs, h1, h2, h3, h4⟩ := k.ex
  exact ⟨cs, h1, h2, h3, fun j hj => by obtain ⟨v, a, c⟩ := h4 j hj; exact ⟨v, a, c.mono h⟩⟩
theorem BR.lt {r : Nm} {w : World} {B : Bk} {b sz : Nat} (k : BR r w B b sz) : b < w.heap.size := by
  obtain ⟨cs, h1, _⟩ := k.ex
  exact (Array.getElem?_eq_some_iff.1 h1).1
theorem BR.keep {r : Nm} {w w' : World} {B : Bk} {b sz : Nat} (k : BR r w B b sz) (h : w'.heap[b]? = w.heap[b]?) : BR r w' B b sz := by
  obtain ⟨cs, h1, h2⟩ := k.ex
  exact ⟨cs, h.trans h1, h2⟩
theorem Fr.refl (r : Nm) (H : Hp) (w : World) : Fr r H w w := ⟨rfl, rfl, rfl, Nat.le_refl _, fun _ _ _ => rfl⟩
theorem Fr.drew {r : Nm} {H : Hp} {w w' : World} (h : Fr r H w w') : Fr r H w w'.drew := ⟨h.os, h.tape, h.output, h.size, h.block⟩
end Go.Proofs.YtgbfbeohmogadaaGreat
