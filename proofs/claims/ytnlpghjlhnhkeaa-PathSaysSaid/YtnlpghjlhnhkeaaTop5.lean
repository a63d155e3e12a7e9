/- Layer 6: even trees; plain data, no program in sight. -/
import Derived.Test.YtnlpghjlhnhkeaaTop1
namespace Go.Proofs.Ytnlpghjlhnhkeaa
open Go.RowKit

/-- are the first leaves even? -/
def evL (P : List Int) (l : List Int) : Bool := l.all fun v => decide (depL P v = depL P (l.headD 0) ∧ depL P v ≤ 5)
theorem evenB_eq (P : List Int) : evenB P = evL P (leavesL P) := rfl
theorem evL_nil (P : List Int) : evL P [] = true := rfl
theorem evL_snoc (P : List Int) (l : List Int) (x : Int) : evL P (l ++ [x]) = (evL P l && decide (depL P x = depL P ((l ++ [x]).headD 0) ∧ depL P x ≤ 5)) := by
  unfold evL
  rw [List.all_append]
  cases l with
  | nil => simp
  | cons a l => simp
theorem evL_prefix (P : List Int) (l m : List Int) (h : evL P (l ++ m) = true) : evL P l = true := by
  unfold evL at *
  rw [List.all_append, Bool.and_eq_true] at h
  cases l with
  | nil => rfl
  | cons a l => exact h.1
theorem evL_bad {P : List Int} {l m : List Int} (h : evL P l = false) : evL P (l ++ m) = false := by
  cases he : evL P (l ++ m)
  · rfl
  · rw [evL_prefix P l m he] at h; cases h
theorem leavesTo_prefix (P : List Int) (k : Nat) : ∀ m, ∃ r, leavesTo P (k + m) = leavesTo P k ++ r
  | 0 => ⟨[], by simp⟩
  | m + 1 => by
    obtain ⟨r, hr⟩ := leavesTo_prefix P k m
    rw [← Nat.add_assoc, leavesTo_succ]
    split
    · exact ⟨r ++ [((k + m : Nat) : Int)], by rw [hr, List.append_assoc]⟩
    · exact ⟨r, hr⟩
theorem leaves_prefix (P : List Int) {k : Nat} (h : k ≤ P.length) : ∃ r, leavesL P = leavesTo P k ++ r := by
  obtain ⟨r, hr⟩ := leavesTo_prefix P k (P.length - k)
  exact ⟨r, by rw [← hr]; unfold leavesL; congr 1; omega⟩
theorem even_bad {P : List Int} {k : Nat} (h : k ≤ P.length) (hb : evL P (leavesTo P k) = false) : evenB P = false := by
  obtain ⟨r, hr⟩ := leaves_prefix P h
  rw [evenB_eq, hr]
  exact evL_bad hb
theorem depL_pos {P : List Int} {k : Nat} (h : k < P.length) : 1 ≤ depL P k := by
  unfold depL
  obtain ⟨n, hn⟩ : ∃ n, P.length = n + 1 := ⟨P.length - 1, by omega⟩
  rw [hn]
  unfold dep
  rw [if_pos (by omega)]
  omega
/-- the depth of the first leaf, 0 before there is one -/
def first (P : List Int) (k : Nat) : Nat := if leavesTo P k = [] then 0 else depL P ((leavesTo P k).headD 0)
theorem first_zero (P : List Int) : first P 0 = 0 := rfl
theorem first_skip {P : List Int} {k : Nat} (h : leafB P k = false) : first P (k + 1) = first P k := by
  unfold first; rw [leavesTo_succ, h]; rfl
theorem leaf_lt {P : List Int} {v : Int} (h : leafB P v = true) : 0 ≤ v ∧ v < P.length ∧ v ∉ P := by
  simpa [leafB] using h
theorem mem_leavesTo {P : List Int} {k : Nat} {v : Int} (h : v ∈ leavesTo P k) : leafB P v = true ∧ 0 ≤ v ∧ v < k := by
  unfold leavesTo at h
  rw [List.mem_filter, List.mem_map] at h
  obtain ⟨⟨a, ha, rfl⟩, h2⟩ := h
  have := List.mem_range.1 ha
  exact ⟨h2, by show (0 : Int) ≤ (a : Int); omega, by show ((a : Nat) : Int) < k; omega⟩
theorem first_pos {P : List Int} {k : Nat} (hk : k ≤ P.length) (h : leavesTo P k ≠ []) : 1 ≤ first P k := by
  unfold first
  rw [if_neg h]
  cases hl : leavesTo P k with
  | nil => exact absurd hl h
  | cons a l =>
    have := (mem_leavesTo (P := P) (k := k) (v := a) (by rw [hl]; simp)).2
    obtain ⟨n, rfl⟩ := Int.eq_ofNat_of_zero_le this.1
    show 1 ≤ depL P (n : Int)
    exact depL_pos (by omega)
/-- the next leaf -/
theorem first_step {P : List Int} {k : Nat} (hk : k < P.length) (h : leafB P k = true) :
    first P (k + 1) = (if first P k = 0 then depL P k else first P k) ∧
    evL P (leavesTo P (k + 1)) = (evL P (leavesTo P k) && decide (depL P k = first P (k + 1) ∧ depL P k ≤ 5)) := by
  have e : leavesTo P (k + 1) = leavesTo P k ++ [(k : Int)] := by rw [leavesTo_succ, if_pos h]
  have e2 : first P (k + 1) = depL P ((leavesTo P k ++ [(k : Int)]).headD 0) := by
    unfold first; rw [e, if_neg (by simp)]
  refine ⟨?_, by rw [e, evL_snoc, e2]⟩
  by_cases hn : leavesTo P k = []
  · have : first P k = 0 := by unfold first; rw [if_pos hn]
    rw [if_pos this, e2, hn]; rfl
  · have := first_pos (by omega) hn
    rw [if_neg (by omega), e2]
    unfold first
    rw [if_neg hn]
    cases hl : leavesTo P k with
    | nil => exact absurd hl hn
    | cons a l => rfl
theorem thr_any (P T : List Int) : T.any (fun x => !decide (x ∈ leavesL P)) = !thrB P T := by
  unfold thrB
  rw [List.not_all_eq_any_not]
  congr 1
  funext x
  congr 1
  cases h : leafB P x
  · exact decide_eq_false fun hm => by rw [mem_leaves.1 hm] at h; cases h
  · exact decide_eq_true (mem_leaves.2 h)
/-- what may be -/
theorem chk_ok {P T : List Int} (h : chkT P T = 0) : manyB P T = false ∧ treeB P = true ∧ evenB P = true ∧ thrB P T = true := by
  unfold chkT at h
  cases h1 : manyB P T
  · cases h2 : treeB P
    · rw [h1, h2] at h; simp at h
    · cases h3 : evenB P
      · rw [h1, h2, h3] at h; simp at h
      · cases h4 : thrB P T
        · rw [h1, h2, h3, h4] at h; simp at h
        · exact ⟨rfl, rfl, rfl, rfl⟩
  · rw [h1] at h; simp at h
theorem many_lt {P T : List Int} (h : manyB P T = false) : 1 ≤ P.length ∧ P.length ≤ 32 ∧ 1 ≤ T.length ∧ T.length ≤ 32 := by
  simp only [manyB, decide_eq_false_iff_not] at h
  omega
theorem thr_mem {P T : List Int} (h : thrB P T = true) {i : Nat} {x : Int} (hi : T[i]? = some x) : x ∈ leavesL P := by
  unfold thrB at h
  rw [List.all_eq_true] at h
  exact mem_leaves.2 (h x (List.mem_of_getElem? hi))
theorem leaves_ne {P T : List Int} (h : chkT P T = 0) : ∃ a l, leavesL P = a :: l := by
  obtain ⟨h1, _, _, h4⟩ := chk_ok h
  have := many_lt h1
  obtain ⟨x, hx⟩ := getElem?_lt (show 0 < T.length by omega)
  have hm := thr_mem h4 hx
  cases hl : leavesL P with
  | nil => rw [hl] at hm; cases hm
  | cons a l => exact ⟨a, l, rfl⟩
/-- how deep all leaves are -/
def depT (P T : List Int) : Int := if chkT P T = 0 then ((depL P ((leavesL P).headD 0) : Nat) : Int) else 0
theorem depT_of {P T : List Int} (h : chkT P T = 0) {v : Int} (hv : v ∈ leavesL P) : ((depL P v : Nat) : Int) = depT P T := by
  obtain ⟨_, _, h3, _⟩ := chk_ok h
  unfold depT
  rw [if_pos h]
  unfold evenB at h3
  rw [List.all_eq_true] at h3
  have := h3 v hv
  simp only [decide_eq_true_eq] at this
  rw [this.1]
def lvsT (P T : List Int) : List Int := if chkT P T = 0 then leavesL P else []
end Go.Proofs.Ytnlpghjlhnhkeaa
