/- Words for a call that writes to some blocks of its caller's and leaves all others as they were. No program in sight. -/
import Derived.Test.YtgbfbeohmogadaaGreatBase
namespace Go.Proofs.YtgbfbeohmogadaaGreat
open Go.RowKit

/-- w' is w but for the blocks of S, and for new ones -/
structure Turns (S : List Nat) (w w' : World) : Prop where
  os : w'.os = w.os
  tape : w'.tape = w.tape
  output : w'.output = w.output
  size : w.heap.size ≤ w'.heap.size
  block : ∀ i, i < w.heap.size → i ∉ S → w'.heap[i]? = w.heap[i]?
section
variable {S T : List Nat} {a b c w w' : World}
theorem Turns.refl (S : List Nat) (w : World) : Turns S w w := ⟨rfl, rfl, rfl, Nat.le_refl _, fun _ _ _ => rfl⟩
theorem Turns.trans (h : Turns S a b) (k : Turns S b c) : Turns S a c :=
  ⟨k.os.trans h.os, k.tape.trans h.tape, k.output.trans h.output, Nat.le_trans h.size k.size, fun i hi hn => (k.block i (Nat.lt_of_lt_of_le hi h.size) hn).trans (h.block i hi hn)⟩
theorem Turns.mono (h : Turns S a b) (hs : ∀ i ∈ S, i ∈ T) : Turns T a b := ⟨h.os, h.tape, h.output, h.size, fun i hi hn => h.block i hi fun k => hn (hs i k)⟩
/-- blocks that the caller did not have may be struck from the list -/
theorem Turns.fresh (h : Turns S a b) (hs : ∀ i ∈ S, i ∈ T ∨ a.heap.size ≤ i) : Turns T a b :=
  ⟨h.os, h.tape, h.output, h.size, fun i hi hn => h.block i hi fun k => (hs i k).elim hn fun h => by omega⟩
theorem Turns.alloc (h : Turns S a w) (o : Obj) : Turns S a (w.alloc o) :=
  ⟨h.os, h.tape, h.output, Nat.le_trans h.size (by simp), fun i hi hn => (Below.heap_alloc w o i (Nat.lt_of_lt_of_le hi h.size)).trans (h.block i hi hn)⟩
theorem Turns.setCell (h : Turns S a w) {p : Addr} (hp : p.block ∈ S ∨ a.heap.size ≤ p.block) (u : Value) : Turns S a (w.setCell p u) :=
  ⟨h.os, h.tape, h.output, by simpa [World.setCell] using h.size, fun i hi hn => (Below.heap_setCell w p u i (by
    rintro rfl
    rcases hp with hp | hp
    · exact hn hp
    · omega)).trans (h.block i hi hn)⟩
theorem Turns.drewN (h : Turns S a w) (n : Nat) : Turns S a (w.drewN n) := ⟨h.os, h.tape, h.output, h.size, h.block⟩
theorem Turns.drew (h : Turns S a w) : Turns S a w.drew := ⟨h.os, h.tape, h.output, h.size, h.block⟩
theorem Turns.of_below (h : Below a.heap.size a b) : Turns S a b := ⟨h.os, h.tape, h.output, h.size, fun i hi _ => h.block i hi⟩
theorem Turns.of_qt (h : Qt a b) : Turns S a b := Turns.of_below (h.below _)
theorem Turns.below {B : Nat} (h : Turns S a b) (hS : ∀ i ∈ S, B ≤ i) (hB : B ≤ a.heap.size) : Below B a b :=
  ⟨h.os, h.tape, h.output, h.size, fun i hi => h.block i (by omega) fun k => by have := hS i k; omega⟩
theorem Turns.blk {g : Nat} {t : TypeId} {cs : Array Value} (h : Turns S w w') (hb : Blk w g t cs) (hg : g ∉ S) : Blk w' g t cs := (h.block g hb.lt hg).trans hb
theorem Turns.grown {g : Nat} (h : w.grownBy w' (some g)) : Turns [g] w w' := ⟨h.os, h.tape, h.output, h.size, fun i hi hn => h.block i hi (by intro e; injection e with e; exact hn (by simp [e]))⟩
theorem Turns.to_grown {g : Nat} (h : Turns [g] w w') : w.grownBy w' (some g) := ⟨h.os, h.tape, h.output, h.size, fun i hi hn => h.block i hi (by intro e; simp at e; exact hn (by rw [e]))⟩
theorem Turns.to_grown0 (h : Turns [] w w') : w.grownBy w' none := ⟨h.os, h.tape, h.output, h.size, fun i hi _ => h.block i hi (by simp)⟩
theorem Turns.own {base : Nat} {e : TypeId} {sz : Nat} {v : Value} {n : Nat} {xs : List Value} (h : w.ownsRow base e sz v n xs) (k : Turns S w w') (hn : ∀ g, v.ownBlock = some g → g ∉ S) : w'.ownsRow base e sz v n xs := by
  cases hv : v.ownBlock with
  | none =>
    rcases h.2 with ⟨rfl, h0⟩ | ⟨g, cap, cur, rfl, _⟩
    · exact ⟨h.1, .inl ⟨rfl, h0⟩⟩
    · simp [Value.ownBlock] at hv
  | some g =>
    have hg : g ∉ S := hn g hv
    have hl := (h.lt g hv).2
    rcases h.2 with ⟨rfl, h0⟩ | ⟨g', cap, cur, rfl, hb, hc, r⟩
    · simp [Value.ownBlock] at hv
    · have e : g' = g := by simpa [Value.ownBlock] using hv
      subst e
      exact ⟨h.1, .inr ⟨g', cap, cur, rfl, hb, (k.block g' hl hg).trans hc, r⟩⟩
end
end Go.Proofs.YtgbfbeohmogadaaGreat
