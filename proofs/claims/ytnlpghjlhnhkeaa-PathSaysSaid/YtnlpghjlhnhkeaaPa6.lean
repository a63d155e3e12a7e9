/- Rows that a call owns, apart from one another and from one block; and what a topology's table holds (plain lists). -/
import Derived.Test.YtnlpghjlhnhkeaaPa5
namespace Go.Proofs.Ytnlpghjlhnhkeaa
open Go.RowKit

structure ORow where
  e : TypeId
  v : Value
  n : Nat
  xs : List Value
/-- rows that are owned, apart from one another and from block b -/
structure Apart (w : World) (B b : Nat) (l : List ORow) : Prop where
  own : ∀ r ∈ l, w.ownsRow B r.e 1 r.v r.n r.xs
  ne : ∀ (i j : Nat) (r s : ORow), l[i]? = some r → l[j]? = some s → i ≠ j → ∀ g, r.v.ownBlock = some g → s.v.ownBlock ≠ some g
  nb : ∀ r ∈ l, r.v.ownBlock ≠ some b
section
variable {w w' : World} {B b : Nat} {l : List ORow}
theorem Apart.below (h : Apart w B b l) (k : Below w.heap.size w w') : Apart w' B b l := ⟨fun r hr => own_below (h.own r hr) k, h.ne, h.nb⟩
/-- a store to the block itself -/
theorem Apart.turn (h : Apart w B b l) (k : Turns [b] w w') : Apart w' B b l :=
  ⟨fun r hr => Turns.own (h.own r hr) k (fun g hg hm => h.nb r hr (by simp at hm; rw [← hm]; exact hg)), h.ne, h.nb⟩
/-- row number i turns -/
theorem Apart.app (h : Apart w B b l) {i : Nat} {r : ORow} (hi : l[i]? = some r) (hb : b < w.heap.size) (hg : w.grownBy w' r.v.ownBlock) {v' : Value} {n' : Nat} {xs' : List Value} (ho : w'.ownsRow B r.e 1 v' n' xs')
    (hat : v'.ownBlock = r.v.ownBlock ∨ ∃ g, w.heap.size ≤ g ∧ v'.ownBlock = some g) : Apart w' B b (l.set i ⟨r.e, v', n', xs'⟩) := by
  have hil : i < l.length := (List.getElem?_eq_some_iff.1 hi).1
  have hlt : ∀ s ∈ l, ∀ g, s.v.ownBlock = some g → g < w.heap.size := fun s hs g hg => ((h.own s hs).lt g hg).2
  have hset : ∀ (j : Nat) (s : ORow), (l.set i ⟨r.e, v', n', xs'⟩)[j]? = some s → (j = i ∧ s = ⟨r.e, v', n', xs'⟩) ∨ (j ≠ i ∧ l[j]? = some s) := fun j s hj => by
    rw [List.getElem?_set] at hj
    by_cases e : i = j
    · subst e
      rw [if_pos rfl, if_pos hil] at hj
      injection hj with hj
      exact .inl ⟨rfl, hj.symm⟩
    · rw [if_neg e] at hj
      exact .inr ⟨fun h => e h.symm, hj⟩
  have hother : ∀ (j : Nat) (s : ORow), l[j]? = some s → j ≠ i → w'.ownsRow B s.e 1 s.v s.n s.xs := fun j s hj hne => by
    cases hv : r.v.ownBlock with
    | none =>
      rw [hv] at hg
      exact Turns.own (S := []) (h.own s (List.mem_of_getElem? hj)) ⟨hg.os, hg.tape, hg.output, hg.size, fun i hi _ => hg.block i hi (by simp)⟩ (fun _ _ => by simp)
    | some g =>
      rw [hv] at hg
      exact Turns.own (h.own s (List.mem_of_getElem? hj)) (Turns.grown hg) (fun g' hg' hm => by
        simp at hm
        subst hm
        exact h.ne i j r s hi hj (fun e => hne e.symm) g' hv hg')
  have hnew : ∀ g, v'.ownBlock = some g → r.v.ownBlock = some g ∨ w.heap.size ≤ g := fun g hg' => by
    rcases hat with e | ⟨c, hc, e⟩
    · exact .inl (by rw [← e]; exact hg')
    · rw [e] at hg'; injection hg' with hg'; exact .inr (by omega)
  refine ⟨fun s hs => ?_, fun j k s t hj hk hne g hg1 hg2 => ?_, fun s hs hsb => ?_⟩
  · obtain ⟨j, hj⟩ := List.getElem?_of_mem hs
    rcases hset j s hj with ⟨rfl, rfl⟩ | ⟨e, hj'⟩
    · exact ho
    · exact hother j s hj' e
  · rcases hset j s hj with ⟨rfl, rfl⟩ | ⟨e1, hj'⟩
    · rcases hset k t hk with ⟨rfl, rfl⟩ | ⟨e2, hk'⟩
      · exact hne rfl
      · rcases hnew g hg1 with hx | hx
        · exact h.ne j k r t hi hk' hne g hx hg2
        · have := hlt t (List.mem_of_getElem? hk') g hg2; omega
    · rcases hset k t hk with ⟨rfl, rfl⟩ | ⟨e2, hk'⟩
      · rcases hnew g hg2 with hx | hx
        · exact h.ne j k s r hj' hi hne g hg1 hx
        · have := hlt s (List.mem_of_getElem? hj') g hg1; omega
      · exact h.ne j k s t hj' hk' hne g hg1 hg2
  · obtain ⟨j, hj⟩ := List.getElem?_of_mem hs
    rcases hset j s hj with ⟨rfl, rfl⟩ | ⟨e, hj'⟩
    · rcases hnew b hsb with hx | hx
      · exact h.nb r (List.mem_of_getElem? hi) hx
      · omega
    · exact h.nb s (List.mem_of_getElem? hj') hsb
theorem Apart.nil (w : World) (B b : Nat) : Apart w B b [] := ⟨by simp, by simp, by simp⟩
/-- a row of nothing comes in -/
theorem Apart.push (h : Apart w B b l) (e : TypeId) : Apart w B b (l ++ [⟨e, .slice none 0 0, 0, []⟩]) := by
  have hget : ∀ (j : Nat) (s : ORow), (l ++ [⟨e, .slice none 0 0, 0, []⟩])[j]? = some s → l[j]? = some s ∨ s = ⟨e, .slice none 0 0, 0, []⟩ := fun j s hj => by
    rw [List.getElem?_append] at hj
    split at hj
    · exact .inl hj
    · rw [List.getElem?_singleton] at hj
      split at hj
      · injection hj with hj; exact .inr hj.symm
      · cases hj
  refine ⟨fun r hr => ?_, fun i j r s hi hj hne g h1 h2 => ?_, fun r hr => ?_⟩
  · rcases List.mem_append.1 hr with hr | hr
    · exact h.own r hr
    · simp at hr; subst hr; exact World.ownsRow_nil _ _ _ _
  · rcases hget i r hi with a | a
    · rcases hget j s hj with c | c
      · exact h.ne i j r s a c hne g h1 h2
      · subst c; cases h2
    · subst a; cases h1
  · rcases List.mem_append.1 hr with hr | hr
    · exact h.nb r hr
    · simp at hr; subst hr; simp [Value.ownBlock]
end

/-- up from a place to the root -/
def upF (P : List Int) : Nat → Int → List Int
  | 0, _ => []
  | f + 1, v => if 0 ≤ v ∧ v < P.length then v :: upF P f (P.getD v.toNat 0) else []
def upL (P : List Int) (v : Int) : List Int := upF P P.length v
def nodesTo (P T : List Int) (k : Nat) : List Int := (T.take k).map (idxI (leavesL P))
def slotOf (T : List Int) (i : Nat) : Int := (((T.take i).count (T.getD i 0) : Nat) : Int)
def slotsTo (T : List Int) (k : Nat) : List Int := (List.range k).map (slotOf T)
def matesTo (P T : List Int) (k : Nat) : List Int := (leavesL P).map fun leaf => (((T.take k).count leaf : Nat) : Int)
theorem upF_fuel {P : List Int} (h : treeB P = true) : ∀ (f : Nat) (v : Int), v < f → ∀ g : Nat, v < g → upF P f v = upF P g v
  | 0, v, hv, g, hg => by
    cases g with
    | zero => rfl
    | succ g => unfold upF; rw [if_neg (by omega)]
  | f + 1, v, hv, g, hg => by
    cases g with
    | zero => unfold upF; rw [if_neg (by omega)]
    | succ g =>
      unfold upF
      split
      · rename_i hb
        obtain ⟨p, hp⟩ := getElem?_lt (show v.toNat < P.length by omega)
        have := tree_lt h hp
        rw [getD_of hp, upF_fuel h f p (by omega) g (by omega)]
      · rfl
theorem upL_step {P : List Int} (h : treeB P = true) {v : Nat} {p : Int} (hp : P[v]? = some p) : upL P v = (v : Int) :: upL P p := by
  have hlt := (List.getElem?_eq_some_iff.1 hp).1
  have hpl := tree_lt h hp
  unfold upL
  rw [upF_fuel h P.length v (by omega) (v + 1) (by omega)]
  show (if 0 ≤ (v : Int) ∧ (v : Int) < P.length then (v : Int) :: upF P v (P.getD (v : Int).toNat 0) else []) = _
  rw [if_pos (by omega), Int.toNat_natCast, getD_of hp]
  by_cases h0 : 0 ≤ p
  · rw [upF_fuel h v p (by omega) P.length (by omega)]
  · cases v with
    | zero =>
      show _ :: [] = _ :: upF P P.length p
      cases hn : P.length with
      | zero => rfl
      | succ n => unfold upF; rw [if_neg (by omega)]
    | succ v =>
      cases hn : P.length with
      | zero => omega
      | succ n => unfold upF; rw [if_neg (by omega), if_neg (by omega)]
theorem upL_neg {P : List Int} {p : Int} (h : p < 0) : upL P p = [] := by
  unfold upL
  cases hn : P.length with
  | zero => rfl
  | succ n => unfold upF; rw [if_neg (by omega)]
end Go.Proofs.Ytnlpghjlhnhkeaa
