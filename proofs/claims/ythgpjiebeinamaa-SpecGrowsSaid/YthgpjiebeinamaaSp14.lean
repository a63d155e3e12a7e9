/- Layer 44: longer stays, and less fair scripts, are told no less; plain numbers. -/
import Derived.Test.YthgpjiebeinamaaSp1
namespace Go.Proofs.Ythgpjiebeinamaa

theorem cohB_same {A B s s' g l b : Int} (h : 0 ≤ s ∧ s ≤ 40000) (h' : 0 ≤ s' ∧ s' ≤ 40000) : cohB A B s g l b = cohB A B s' g l b := by
  unfold cohB
  rw [Bool.eq_iff_iff]
  simp only [decide_eq_true_eq]
  constructor
  · rintro ⟨a, c, d, e, _⟩; exact ⟨a, c, d, e, h'⟩
  · rintro ⟨a, c, d, e, _⟩; exact ⟨a, c, d, e, h⟩
theorem cohI_mono {A B g l b : Int} {s s' : Nat} (h : s ≤ s') (h' : s' ≤ 40000) : cohI A B s g l b ≤ cohI A B s' g l b ∧ (cohI A B s g l b = 0 ↔ cohI A B s' g l b = 0) := by
  have e : cohB A B s g l b = cohB A B s' g l b := cohB_same ⟨by omega, by omega⟩ ⟨by omega, by omega⟩
  unfold cohI
  rw [e]
  cases cohB A B s' g l b
  · simp
  · simp only [if_true]
    have p1 := cohN_pos A.toNat B.toNat (s : Int).toNat b.toNat
    have p2 := cohN_pos A.toNat B.toNat (s' : Int).toNat b.toNat
    exact ⟨cohN_mono _ _ _ (by omega), by omega⟩
theorem treeI_mono {A B C b : Int} {s s' : Nat} (h : s ≤ s') (h' : s' ≤ 4000) : treeI A B C s b ≤ treeI A B C s' b ∧ (treeI A B C s b = 0 ↔ treeI A B C s' b = 0) := by
  have e : treeB' A B C s b = treeB' A B C s' b := by
    unfold treeB'
    rw [Bool.eq_iff_iff]
    simp only [decide_eq_true_eq]
    constructor
    · rintro ⟨a, c, d, _, f⟩; exact ⟨a, c, d, ⟨by omega, by omega⟩, f⟩
    · rintro ⟨a, c, d, _, f⟩; exact ⟨a, c, d, ⟨by omega, by omega⟩, f⟩
  unfold treeI
  rw [e]
  cases hb : treeB' A B C s' b
  · simp
  · simp only [if_true]
    simp only [treeB', decide_eq_true_eq] at hb
    have p1 := treeN_pos A.toNat B.toNat C.toNat (s : Int).toNat b.toNat (by omega)
    have p2 := treeN_pos A.toNat B.toNat C.toNat (s' : Int).toNat b.toNat (by omega)
    exact ⟨by unfold treeN; exact waitsN_mono _ _ _ (by omega) _, by omega⟩
theorem turnN_mono {th nd pl dp : Nat} {kind g l b : Int} {r : Bool} {s s' : Nat} (h1 : th ≤ 32) (h2 : nd ≤ 32) (h : s ≤ s') (h' : s' ≤ 4000) :
    turnN th nd pl dp kind g l b s r ≤ turnN th nd pl dp kind g l b s' r ∧ (turnN th nd pl dp kind g l b s r = 0 ↔ turnN th nd pl dp kind g l b s' r = 0) := by
  unfold turnN
  split
  · exact cohI_mono h (by omega)
  split
  · exact treeI_mono h h'
  split
  · have := Nat.mul_le_mul (Nat.le_refl th) (show s + 4 ≤ s' + 4 by omega)
    exact ⟨by omega, by omega⟩
  split
  · have := Nat.mul_le_mul (Nat.le_refl (th - 1 + th * b.toNat + 1)) (show s + th + 20 ≤ s' + th + 20 by omega)
    exact ⟨by omega, by omega⟩
  split
  · have := Nat.mul_le_mul (Nat.le_refl (th * (th + b.toNat + 2) + 1)) (show s + 24 ≤ s' + 24 by omega)
    exact ⟨by omega, by omega⟩
  split
  · exact ⟨by omega, by omega⟩
  split
  · simp
  split
  · simp
  have hl : longN th nd s ≤ longN th nd s' := by unfold longN; omega
  have hl' : longN th nd s' ≤ 40000 := by unfold longN; omega
  obtain ⟨m1, m2⟩ := cohI_mono (A := th) (B := nd) (g := g) (l := l) (b := b) hl hl'
  by_cases hz : cohI th nd (longN th nd s : Nat) g l b = 0
  · rw [if_pos hz, if_pos (m2.1 hz)]; simp
  · rw [if_neg hz, if_neg (fun h => hz (m2.2 h))]
    have p1 := addN_gel (cohI th nd (longN th nd s : Nat) g l b) (longN th nd s + 20) (by unfold cohI; split; exact addN_le _ _; omega)
    have p2 := addN_gel (cohI th nd (longN th nd s' : Nat) g l b) (longN th nd s' + 20) (by unfold cohI; split; exact addN_le _ _; omega)
    exact ⟨addN_mono m1 (by omega), by omega⟩
theorem mulN_zero {a b : Nat} (ha : 1 ≤ a) : mulN a b = 0 ↔ b = 0 := by
  constructor
  · intro h
    rcases Nat.eq_zero_or_pos b with h0 | h0
    · exact h0
    · have := mulN_pos ha h0; omega
  · rintro rfl; simp [mulN]
/-- what SpecGrows asks -/
theorem grows {P T : List Int} {kind g l b : Int} {r : Bool} {k s k' s' : Nat} (hk : 1 ≤ k) (hkk : k ≤ k') (hk' : k' ≤ 4000) (hs : s ≤ s') (hs' : s' ≤ 4000) :
    eachI P T kind g l b k s r ≤ eachI P T kind g l b k' s' r ∧ (eachI P T kind g l b k s r = 0 ↔ eachI P T kind g l b k' s' r = 0) ∧ eachI P T kind g l b k' s' r ≤ 1099511627776 := by
  have e : eachB P T kind b k s r = eachB P T kind b k' s' r := by
    unfold eachB
    rw [Bool.eq_iff_iff]
    simp only [decide_eq_true_eq]
    constructor
    · rintro ⟨a, c, d, _, _, f⟩; exact ⟨a, c, d, ⟨by omega, by omega⟩, ⟨by omega, by omega⟩, f⟩
    · rintro ⟨a, c, d, _, _, f⟩; exact ⟨a, c, d, ⟨by omega, by omega⟩, ⟨by omega, by omega⟩, f⟩
  unfold eachI
  rw [e]
  cases hb : eachB P T kind b k' s' r
  · simp
  · simp only [if_true]
    simp only [eachB, decide_eq_true_eq] at hb
    have hml := many_lt (chk_ok hb.2.1).1
    have hll : (leavesL P).length ≤ 32 := by have := leavesTo_len P P.length; show (leavesTo P P.length).length ≤ _; omega
    split
    · have e1 : spanB T.length k s = true := decide_eq_true (by omega)
      have e2 : spanB T.length k' s' = true := decide_eq_true (by omega)
      unfold spanI
      rw [e1, e2]
      by_cases h25 : 2 ≤ kind ∧ kind ≤ 5
      · rw [if_pos ⟨rfl, h25⟩, if_pos ⟨rfl, h25⟩]
        simp only [Int.toNat_natCast]
        have ho : 3 ≤ onceOf kind ∧ onceOf kind ≤ 6 ∧ eachOf kind ≤ 8 := by unfold onceOf eachOf; refine ⟨?_, ?_, ?_⟩ <;> (repeat' split) <;> omega
        have q1 := Nat.mul_le_mul (Nat.le_refl (T.length - 1)) (show s + eachOf kind ≤ s' + eachOf kind by omega)
        have q2 : (T.length - 1) * (s' + eachOf kind) ≤ 31 * 4008 := Nat.mul_le_mul (by omega) (by omega)
        have q3 := Nat.mul_le_mul hkk (show onceOf kind + (T.length - 1) * (s + eachOf kind) ≤ onceOf kind + (T.length - 1) * (s' + eachOf kind) by omega)
        have q4 : k' * (onceOf kind + (T.length - 1) * (s' + eachOf kind)) ≤ 4000 * (6 + 31 * 4008) := Nat.mul_le_mul hk' (by omega)
        have q5 := Nat.mul_le_mul hk (show 3 ≤ onceOf kind + (T.length - 1) * (s + eachOf kind) by omega)
        exact ⟨q3, by omega, by omega⟩
      · rw [if_neg (fun h => h25 h.2), if_neg (fun h => h25 h.2)]; simp
    · simp only [Int.toNat_natCast]
      obtain ⟨m1, m2⟩ := turnN_mono (th := T.length) (nd := (leavesL P).length) (pl := P.length) (dp := (depT P T).toNat) (kind := kind) (g := g) (l := l) (b := b) (r := r) (by omega) hll hs hs'
      exact ⟨mulN_mono hkk m1, by rw [mulN_zero hk, mulN_zero (by omega)]; exact m2, mulN_le _ _⟩
end Go.Proofs.Ythgpjiebeinamaa
