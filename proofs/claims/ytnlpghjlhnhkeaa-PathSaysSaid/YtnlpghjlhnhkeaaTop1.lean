/- Layer 6: trees of places as lists of parents; plain data, no program in sight. -/
import Derived.Test.YtnlpghjlhnhkeaaBase
namespace Go.Proofs.Ytnlpghjlhnhkeaa
open Go.RowKit

def okP (P : List Int) (v : Nat) : Bool := decide ((v = 0 → P.getD v 0 = -1) ∧ (0 < v → 0 ≤ P.getD v 0 ∧ P.getD v 0 < v))
def treeB (P : List Int) : Bool := (List.range P.length).all (okP P)
def leafB (P : List Int) (v : Int) : Bool := decide (0 ≤ v ∧ v < P.length ∧ v ∉ P)
def leavesTo (P : List Int) (k : Nat) : List Int := ((List.range k).map Int.ofNat).filter (leafB P)
def leavesL (P : List Int) : List Int := leavesTo P P.length
def dep (P : List Int) : Nat → Int → Nat
  | 0, _ => 0
  | f + 1, v => if 0 ≤ v ∧ v < P.length then dep P f (P.getD v.toNat 0) + 1 else 0
def depL (P : List Int) (v : Int) : Nat := dep P P.length v
def evenB (P : List Int) : Bool := (leavesL P).all fun v => decide (depL P v = depL P ((leavesL P).headD 0) ∧ depL P v ≤ 5)
def thrB (P T : List Int) : Bool := T.all (leafB P)
def manyB (P T : List Int) : Bool := decide (P.length < 1 ∨ 32 < P.length ∨ T.length < 1 ∨ 32 < T.length)
def chkT (P T : List Int) : Int := if manyB P T then 8 else if treeB P = false then 9 else if evenB P = false then 9 else if thrB P T = false then 4 else 0

theorem getD_of {P : List Int} {k : Nat} {p : Int} (h : P[k]? = some p) : P.getD k 0 = p := by rw [List.getD_eq_getElem?_getD, h]; rfl
theorem range_all_succ (f : Nat → Bool) (k : Nat) : (List.range (k + 1)).all f = ((List.range k).all f && f k) := by rw [List.range_succ, List.all_append]; simp
theorem tree_at {P : List Int} (h : treeB P = true) {k : Nat} {p : Int} (hk : P[k]? = some p) : (k = 0 → p = -1) ∧ (0 < k → 0 ≤ p ∧ p < k) := by
  have hlt := (List.getElem?_eq_some_iff.1 hk).1
  unfold treeB at h
  rw [List.all_eq_true] at h
  have := h k (List.mem_range.2 hlt)
  simp only [okP, decide_eq_true_eq, getD_of hk] at this
  exact this
theorem tree_lt {P : List Int} (h : treeB P = true) {k : Nat} {p : Int} (hk : P[k]? = some p) : -1 ≤ p ∧ p < k := by
  have := tree_at h hk
  rcases Nat.eq_zero_or_pos k with h0 | h0
  · have := this.1 h0; omega
  · have := this.2 h0; omega
/-- enough fuel is enough -/
theorem dep_fuel {P : List Int} (h : treeB P = true) : ∀ (f : Nat) (v : Int), v < f → ∀ g : Nat, v < g → dep P f v = dep P g v
  | 0, v, hv, g, hg => by
    cases g with
    | zero => rfl
    | succ g => unfold dep; rw [if_neg (by omega)]
  | f + 1, v, hv, g, hg => by
    cases g with
    | zero => unfold dep; rw [if_neg (by omega)]
    | succ g =>
      unfold dep
      split
      · rename_i hb
        obtain ⟨p, hp⟩ := getElem?_lt (show v.toNat < P.length by omega)
        have := tree_lt h hp
        rw [getD_of hp, dep_fuel h f p (by omega) g (by omega)]
      · rfl
theorem depL_step {P : List Int} (h : treeB P = true) {k : Nat} {p : Int} (hk : P[k]? = some p) : depL P k = if 0 ≤ p then depL P p + 1 else 1 := by
  have hlt := (List.getElem?_eq_some_iff.1 hk).1
  have hp := tree_lt h hk
  unfold depL
  rw [dep_fuel h P.length k (by omega) (k + 1) (by omega)]
  show (if 0 ≤ (k : Int) ∧ (k : Int) < P.length then dep P k (P.getD (k : Int).toNat 0) + 1 else 0) = _
  rw [if_pos (by omega), Int.toNat_natCast, getD_of hk]
  split
  · rw [dep_fuel h k p (by omega) P.length (by omega)]
  · have : dep P k p = 0 := by
      cases k with
      | zero => rfl
      | succ k => unfold dep; rw [if_neg (by omega)]
    omega
theorem dep_le (P : List Int) : ∀ (f : Nat) (v : Int), dep P f v ≤ f
  | 0, _ => Nat.le_refl _
  | f + 1, v => by
    unfold dep
    split
    · have := dep_le P f (P.getD v.toNat 0); omega
    · omega
theorem depL_le (P : List Int) (v : Int) : depL P v ≤ P.length := dep_le P _ _

theorem leavesTo_succ (P : List Int) (k : Nat) : leavesTo P (k + 1) = if leafB P k then leavesTo P k ++ [(k : Int)] else leavesTo P k := by
  unfold leavesTo
  rw [List.range_succ, List.map_append, List.filter_append]
  show _ ++ List.filter (leafB P) [(k : Int)] = _
  by_cases h : leafB P k = true
  · simp [h]
  · simp [h]
theorem leavesTo_len (P : List Int) : ∀ k, (leavesTo P k).length ≤ k := fun k => by
  unfold leavesTo
  have := List.length_filter_le (leafB P) ((List.range k).map Int.ofNat)
  simpa using this
theorem mem_leaves {P : List Int} {v : Int} : v ∈ leavesL P ↔ leafB P v = true := by
  unfold leavesL leavesTo
  rw [List.mem_filter]
  constructor
  · exact fun h => h.2
  · intro h
    refine ⟨?_, h⟩
    simp only [leafB, decide_eq_true_eq] at h
    rw [List.mem_map]
    exact ⟨v.toNat, List.mem_range.2 (by omega), by show ((v.toNat : Nat) : Int) = v; omega⟩
theorem mem_take {P : List Int} {k : Nat} {p : Int} (hk : P[k]? = some p) (x : Int) : x ∈ P.take (k + 1) ↔ x ∈ P.take k ∨ x = p := by
  rw [take_succ_of hk]; simp
/-- a list over a range, one place written -/
theorem range_set {α : Type} (n i : Nat) (f g : Nat → α) (u : α) (hi : g i = u) (ho : ∀ j, j ≠ i → g j = f j) : ((List.range n).map f).set i u = (List.range n).map g := by
  refine List.ext_getElem? fun j => ?_
  rw [List.getElem?_set]
  by_cases hji : i = j
  · subst hji
    rw [if_pos rfl]
    by_cases hin : i < n
    · simp [hin, hi]
    · simp [hin]
  · rw [if_neg hji]
    by_cases hjn : j < n
    · simp [hjn, ho j (fun h => hji h.symm)]
    · simp [hjn]
theorem range_get {α : Type} (n i : Nat) (f : Nat → α) (h : i < n) : ((List.range n).map f)[i]? = some (f i) := by simp [h]
end Go.Proofs.Ytnlpghjlhnhkeaa
