/- Layer 14: who asked later passes nobody, as plain data. -/
import Derived.Test.YtfbiejkdeadheaaByp4
namespace Go.Proofs.Ytfbiejkdeadheaa
open Go.RowKit

/-- the ends rise: as slices.IsSortedFunc asks it, from the last pair on -/
def sortedFrom (l : List Ev) (s : List Stay) : Nat → Bool
  | 0 => true
  | k + 1 => match s[k]?, s[k + 1]? with
    | some a, some b => decide (endS l a ≤ endS l b) && sortedFrom l s k
    | _, _ => sortedFrom l s k
def fifoB (l : List Ev) (s : List Stay) : Bool := sortedFrom l s (s.length - 1)

theorem sortedFrom_pair (l : List Ev) (s : List Stay) : ∀ (n k : Nat) (a b : Stay), sortedFrom l s n = true → k < n → s[k]? = some a → s[k + 1]? = some b → endS l a ≤ endS l b
  | 0, k, a, b, _, h, _, _ => by omega
  | n + 1, k, a, b, h, hk, ha, hb => by
    unfold sortedFrom at h
    by_cases hkn : k = n
    · subst hkn
      rw [ha, hb] at h
      simp at h
      exact h.1
    · refine sortedFrom_pair l s n k a b ?_ (by omega) ha hb
      split at h
      · simp at h; exact h.2
      · exact h
theorem sorted_le (l : List Ev) (s : List Stay) (h : fifoB l s = true) : ∀ (d i : Nat) (a b : Stay), s[i]? = some a → s[i + d]? = some b → endS l a ≤ endS l b
  | 0, i, a, b, ha, hb => by
    rw [Nat.add_zero, ha] at hb
    injection hb with hb; subst hb; exact Int.le_refl _
  | d + 1, i, a, b, ha, hb => by
    have hlt : i + (d + 1) < s.length := (List.getElem?_eq_some_iff.1 hb).1
    obtain ⟨c, hc⟩ := getElem?_lt (show i + d < s.length by omega)
    have h1 := sorted_le l s h d i a c ha hc
    have h2 := sortedFrom_pair l s (s.length - 1) (i + d) c b h (by omega) hc (by rw [← hb]; rfl)
    omega

def strayB (s : List Stay) (k : Int) : Bool := !s.any (fun x => x.enter == k)
def ownTo (l : List Ev) (s : List Stay) : Nat → Int
  | 0 => 0
  | k + 1 => match l[k]? with
    | some e => if e.kind = 2 ∧ strayB s k = true then ownTo l s k + 1 else ownTo l s k
    | none => ownTo l s k
theorem ownTo_succ (l : List Ev) (s : List Stay) (k : Nat) (e : Ev) (h : l[k]? = some e) : ownTo l s (k + 1) = if e.kind = 2 ∧ strayB s k = true then ownTo l s k + 1 else ownTo l s k := by
  show (match l[k]? with | some e => if e.kind = 2 ∧ strayB s k = true then ownTo l s k + 1 else ownTo l s k | none => ownTo l s k) = _
  rw [h]
theorem ownTo_le (l : List Ev) (s : List Stay) : ∀ k : Nat, 0 ≤ ownTo l s k ∧ ownTo l s k ≤ k
  | 0 => by simp [ownTo]
  | k + 1 => by
    have := ownTo_le l s k
    unfold ownTo
    split
    · split <;> omega
    · omega
def metTo (s : List Stay) (i : Nat) : Nat → Int
  | 0 => 0
  | k + 1 => if (s.take i).any (fun x => x.enter == (k : Int)) = true then metTo s i k + 1 else metTo s i k
def onceTo (c : Int) (k : Nat) : Int := if 0 ≤ c ∧ c < k then 1 else 0
theorem metTo_zero (s : List Stay) : ∀ k, metTo s 0 k = 0
  | 0 => rfl
  | k + 1 => by unfold metTo; rw [metTo_zero s k]; simp
theorem metTo_step (s : List Stay) (i : Nat) (x : Stay) (hx : s[i]? = some x) : ∀ k, metTo s (i + 1) k ≤ metTo s i k + onceTo x.enter k
  | 0 => by simp [metTo, onceTo]; split <;> omega
  | k + 1 => by
    have ih := metTo_step s i x hx k
    unfold metTo
    rw [take_succ_of hx, List.any_append]
    by_cases h1 : (s.take i).any (fun x => x.enter == (k : Int)) = true
    · rw [if_pos (by rw [h1]; rfl), if_pos h1]
      unfold onceTo at *
      split at ih <;> split <;> omega
    · rw [if_neg h1]
      by_cases h2 : x.enter = k
      · rw [if_pos (by simp [h2])]
        unfold onceTo at *
        rw [if_neg (by omega)] at ih
        rw [if_pos (by omega)]
        omega
      · rw [if_neg (by simp [h2]; simpa using h1)]
        unfold onceTo at *
        split at ih <;> split <;> omega
theorem metTo_le (s : List Stay) (k : Nat) : ∀ i : Nat, i ≤ s.length → metTo s i k ≤ i
  | 0, _ => by rw [metTo_zero]; omega
  | i + 1, h => by
    obtain ⟨x, hx⟩ := getElem?_lt (show i < s.length by omega)
    have h1 := metTo_step s i x hx k
    have h2 := metTo_le s k i (by omega)
    unfold onceTo at h1
    split at h1 <;> omega

/-- nobody is passed by who asked later -/
theorem fifo_passes (l : List Ev) (s : List Stay) (hs : fifoB l s = true) (i : Nat) (x : Stay) (hx : s[i]? = some x) (t a : Int) : ∀ k : Nat, k ≤ l.length →
    (fromTo [] t a (endS l x) l k).1 ≤ ownTo l s k + metTo s i k ∧ (fromTo [] t a (endS l x) l k).2 = 0
  | 0, _ => by simp [fromTo, ownTo, metTo]
  | k + 1, hk => by
    obtain ⟨i1, i2⟩ := fifo_passes l s hs i x hx t a k (by omega)
    obtain ⟨e, he⟩ := getElem?_lt (show k < l.length by omega)
    rw [fromTo_succ [] t a _ l k e he, ownTo_succ l s k e he]
    have hm : metTo s i k ≤ metTo s i (k + 1) := by
      show _ ≤ (if (s.take i).any (fun x => x.enter == (k : Int)) = true then metTo s i k + 1 else metTo s i k)
      split <;> omega
    by_cases hc : a < (k : Int) ∧ (k : Int) < endS l x
    · rw [if_pos hc]
      unfold cntE
      by_cases h2 : e.kind = 2 ∧ ¬ e.thread = t
      · rw [if_pos h2]
        have hn : ∀ u, nodeOf [] u = -1 := fun u => by unfold nodeOf; rw [if_pos]; simp; omega
        rw [if_pos (by rw [hn, hn])]
        simp only
        refine ⟨?_, i2⟩
        by_cases hst : strayB s k = true
        · rw [if_pos ⟨h2.1, hst⟩]; omega
        · rw [if_neg (fun h => hst h.2)]
          have hany : s.any (fun x => x.enter == (k : Int)) = true := by
            unfold strayB at hst; simpa using hst
          rw [List.any_eq_true] at hany
          obtain ⟨y, hy, hye⟩ := hany
          obtain ⟨j, hj⟩ := List.getElem?_of_mem hy
          rw [beq_iff_eq] at hye
          have hey : endS l y = k := by unfold endS; rw [if_neg (by omega), hye]
          have hji : j < i := by
            rcases Nat.lt_or_ge j i with h | h
            · exact h
            · have := sorted_le l s hs (j - i) i x y hx (by rw [show i + (j - i) = j from by omega]; exact hj)
              omega
          have hmk : metTo s i (k + 1) = metTo s i k + 1 := by
            show (if (s.take i).any (fun x => x.enter == (k : Int)) = true then metTo s i k + 1 else metTo s i k) = _
            rw [if_pos]
            rw [List.any_eq_true]
            refine ⟨y, ?_, by rw [beq_iff_eq]; exact hye⟩
            rw [List.mem_iff_getElem?]
            exact ⟨j, by rw [List.getElem?_take, if_pos hji]; exact hj⟩
          omega
      · rw [if_neg h2]
        exact ⟨by split <;> omega, i2⟩
    · rw [if_neg hc]
      exact ⟨by split <;> omega, i2⟩
theorem fifo_pass (l : List Ev) (s : List Stay) (hs : fifoB l s = true) (i : Nat) (x : Stay) (hx : s[i]? = some x) (t a : Int) :
    (fromL [] t a (endS l x) l).1 ≤ i + ownTo l s l.length ∧ (fromL [] t a (endS l x) l).2 = 0 := by
  have h := fifo_passes l s hs i x hx t a l.length (Nat.le_refl _)
  have hi : i < s.length := (List.getElem?_eq_some_iff.1 hx).1
  have h2 := metTo_le s l.length i (by omega)
  unfold fromL
  exact ⟨by omega, h.2⟩
end Go.Proofs.Ytfbiejkdeadheaa
