/- Layer 44: within how many picks; plain numbers, no program in sight. -/
import Derived.Test.YthgpjiebeinamaaTop5
namespace Go.Proofs.Ythgpjiebeinamaa

def M40 : Nat := 1099511627776
/-- a sum and a product that stop at 2^40 -/
def addN (a b : Nat) : Nat := if a + b ≤ 1099511627776 then a + b else 1099511627776
def mulN (a b : Nat) : Nat := if a * b ≤ 1099511627776 then a * b else 1099511627776
def sumN (l : List Nat) : Nat := l.foldl addN 0
theorem addN_le (a b : Nat) : addN a b ≤ 1099511627776 := by unfold addN; split <;> omega
theorem mulN_le (a b : Nat) : mulN a b ≤ 1099511627776 := by unfold mulN; split <;> omega
theorem addN_mono {a b c d : Nat} (h : a ≤ c) (k : b ≤ d) : addN a b ≤ addN c d := by unfold addN; split <;> split <;> omega
theorem mulN_mono {a b c d : Nat} (h : a ≤ c) (k : b ≤ d) : mulN a b ≤ mulN c d := by
  have := Nat.mul_le_mul h k
  unfold mulN; split <;> split <;> omega
theorem addN_ge (a b : Nat) (h : b ≤ 1099511627776) : b ≤ addN a b := by unfold addN; split <;> omega
theorem addN_gel (a b : Nat) (h : a ≤ 1099511627776) : a ≤ addN a b := by unfold addN; split <;> omega
theorem addN_comm (a b : Nat) : addN a b = addN b a := by unfold addN; rw [Nat.add_comm]
theorem addN_of {a b : Nat} (h : a + b ≤ 1099511627776) : addN a b = a + b := if_pos h
theorem mulN_of {a b : Nat} (h : a * b ≤ 1099511627776) : mulN a b = a * b := if_pos h
theorem mulN_pos {a b : Nat} (ha : 1 ≤ a) (hb : 1 ≤ b) : 1 ≤ mulN a b := by
  have := Nat.mul_le_mul ha hb
  unfold mulN; split <;> omega
theorem sum2 (a b : Nat) : sumN [a, b] = addN (addN 0 a) b := rfl
theorem sum_two {a b : Nat} (ha : a ≤ 1099511627776) : sumN [a, b] = addN a b := by
  rw [sum2]; unfold addN; split <;> (try split) <;> (try split) <;> omega
theorem sum_three {a b c : Nat} (ha : a ≤ 1099511627776) : sumN [a, b, c] = addN (addN a b) c := by
  show addN (addN (addN 0 a) b) c = _
  congr 2
  unfold addN; split <;> omega
theorem add_three (a b c : Nat) : addN (addN a b) c = addN a (b + c) := by
  unfold addN; split <;> (try split) <;> (try split) <;> omega
/-- doubling: a step of the document's product -/
theorem mul_step (n a b : Nat) (hb : b ≤ 1099511627776) (ha : 1 ≤ a) :
    addN (if a % 2 = 1 then addN n b else n) (mulN (a / 2) (addN b b)) = addN n (mulN a b) := by
  have h2 : a = 2 * (a / 2) + a % 2 := by omega
  obtain ⟨q, hq⟩ : ∃ q, q = a / 2 := ⟨_, rfl⟩
  obtain ⟨x, hx⟩ : ∃ x, x = q * b := ⟨_, rfl⟩
  rw [← hq] at h2 ⊢
  have e1 : q * (b + b) = 2 * x := by rw [hx, Nat.mul_add]; omega
  rcases Nat.mod_two_eq_zero_or_one a with h0 | h0
  · rw [h0, if_neg (by omega)]
    have e2 : a * b = 2 * x := by rw [h2, h0, hx, Nat.add_zero, Nat.mul_assoc]
    have hq1 : 1 ≤ q := by omega
    have hxb : b ≤ x := by rw [hx]; exact Nat.le_mul_of_pos_left b hq1
    unfold mulN
    rw [e2]
    by_cases hbb : b + b ≤ 1099511627776
    · have : addN b b = b + b := if_pos hbb
      rw [this, e1]
    · have : addN b b = 1099511627776 := if_neg hbb
      rw [this]
      have hqM : 1099511627776 ≤ q * 1099511627776 := Nat.le_mul_of_pos_left _ hq1
      unfold addN
      split <;> split <;> (try split) <;> (try split) <;> omega
  · rw [h0, if_pos rfl]
    have e2 : a * b = 2 * x + b := by rw [h2, h0, hx, Nat.add_mul, Nat.mul_assoc, Nat.one_mul]
    unfold mulN
    rw [e2]
    rcases Nat.eq_zero_or_pos q with hq0 | hq1
    · have hx0 : x = 0 := by rw [hx, hq0, Nat.zero_mul]
      rw [hq0, hx0]
      simp only [Nat.zero_mul, addN]
      repeat' split
      all_goals omega
    · have hxb : b ≤ x := by rw [hx]; exact Nat.le_mul_of_pos_left b hq1
      by_cases hbb : b + b ≤ 1099511627776
      · have : addN b b = b + b := if_pos hbb
        rw [this, e1]
        unfold addN
        split <;> (try split) <;> (try split) <;> (try split) <;> (try split) <;> (try split) <;> omega
      · have : addN b b = 1099511627776 := if_neg hbb
        rw [this]
        have hqM : 1099511627776 ≤ q * 1099511627776 := Nat.le_mul_of_pos_left _ hq1
        unfold addN
        split <;> (try split) <;> (try split) <;> (try split) <;> (try split) <;> (try split) <;> omega
theorem mul_done (n b : Nat) (hn : n ≤ 1099511627776) : addN n (mulN 0 b) = n := by
  unfold mulN addN; simp; omega
/-- a cohort lock -/
def cohN (threads nodes stay b : Nat) : Nat := addN (mulN threads (addN (mulN nodes (addN (mulN (b + 1) (stay + 14)) 12)) (stay + 26))) 4
theorem cohN_prog (threads nodes stay b : Nat) :
    sumN [4, mulN threads (sumN [mulN nodes (sumN [mulN (b + 1) (stay + 14), 12]), stay, 26])] = cohN threads nodes stay b := by
  rw [sum_two (by omega), sum_three (mulN_le _ _), sum_two (mulN_le _ _), add_three, addN_comm]; rfl
theorem cohN_pos (threads nodes stay b : Nat) : 4 ≤ cohN threads nodes stay b := addN_ge _ _ (by omega)
theorem cohN_mono (threads nodes b : Nat) {s s' : Nat} (h : s ≤ s') : cohN threads nodes s b ≤ cohN threads nodes s' b :=
  addN_mono (mulN_mono (Nat.le_refl _) (addN_mono (mulN_mono (Nat.le_refl _) (addN_mono (mulN_mono (Nat.le_refl _) (by omega)) (Nat.le_refl _))) (by omega))) (Nat.le_refl _)
/-- a tree of locks -/
def holdsN (depth stay b : Nat) : Nat → Nat
  | 0 => stay + 1 + (8 * depth + 8)
  | l + 1 => addN (mulN (b + 1) (addN (holdsN depth stay b l) 4)) (8 * depth + 8)
/-- n levels below the root of the way up are gone -/
def waitsN (s depth stay b : Nat) : Nat → Nat
  | 0 => 0
  | n + 1 => addN (addN 7 (waitsN s depth stay b n)) (mulN (s - 1) (addN (addN 4 (waitsN s depth stay b n)) (addN (holdsN depth stay b (depth - (n + 1))) (8 * depth + 8))))
theorem holdsN_le (depth stay b : Nat) (hd : depth ≤ 5) (hs : stay ≤ 4000) : ∀ l, holdsN depth stay b l ≤ 1099511627776
  | 0 => by unfold holdsN; omega
  | l + 1 => addN_le _ _
theorem waitsN_le (s depth stay b : Nat) : ∀ n, waitsN s depth stay b n ≤ 1099511627776
  | 0 => by unfold waitsN; omega
  | n + 1 => addN_le _ _
theorem holds_prog (depth stay b l : Nat) (hd : depth ≤ 5) (hs : stay ≤ 4000) : sumN [mulN (b + 1) (sumN [holdsN depth stay b l, 4]), 8 * depth + 8] = holdsN depth stay b (l + 1) := by
  rw [sum_two (mulN_le _ _), sum_two (holdsN_le depth stay b hd hs l)]; rfl
theorem add_four (a b c d : Nat) : addN (addN (addN a b) c) d = addN (addN a b) (addN c d) := by
  unfold addN; split <;> (try split) <;> (try split) <;> (try split) <;> (try split) <;> (try split) <;> omega
theorem waits_prog (s depth stay b n : Nat) : sumN [7, waitsN s depth stay b n, mulN (s - 1) (sumN [4, waitsN s depth stay b n, holdsN depth stay b (depth - (n + 1)), 8 * depth + 8])] = waitsN s depth stay b (n + 1) := by
  rw [sum_three (by omega)]
  have : sumN [4, waitsN s depth stay b n, holdsN depth stay b (depth - (n + 1)), 8 * depth + 8] = addN (addN (addN 4 (waitsN s depth stay b n)) (holdsN depth stay b (depth - (n + 1)))) (8 * depth + 8) := by
    show addN (addN (addN (addN 0 4) _) _) _ = _
    rfl
  rw [this, add_four]; rfl
theorem holdsN_mono (depth b : Nat) {s s' : Nat} (h : s ≤ s') : ∀ l, holdsN depth s b l ≤ holdsN depth s' b l
  | 0 => by unfold holdsN; omega
  | l + 1 => addN_mono (mulN_mono (Nat.le_refl _) (addN_mono (holdsN_mono depth b h l) (Nat.le_refl _))) (Nat.le_refl _)
theorem waitsN_mono (s0 depth b : Nat) {s s' : Nat} (h : s ≤ s') : ∀ n, waitsN s0 depth s b n ≤ waitsN s0 depth s' b n
  | 0 => Nat.le_refl _
  | n + 1 => addN_mono (addN_mono (Nat.le_refl _) (waitsN_mono s0 depth b h n)) (mulN_mono (Nat.le_refl _) (addN_mono (addN_mono (Nat.le_refl _) (waitsN_mono s0 depth b h n)) (addN_mono (holdsN_mono depth b h _) (Nat.le_refl _))))
def treeN (threads places depth stay b : Nat) : Nat := waitsN (threads + places) depth stay b depth
theorem treeN_pos (threads places depth stay b : Nat) (hd : 1 ≤ depth) : 7 ≤ treeN threads places depth stay b := by
  unfold treeN
  obtain ⟨n, rfl⟩ : ∃ n, depth = n + 1 := ⟨depth - 1, by omega⟩
  unfold waitsN
  exact Nat.le_trans (addN_gel 7 _ (by omega)) (addN_gel _ _ (addN_le _ _))

/-- may a number be between two others? -/
def inI (n a b : Int) : Bool := decide (a ≤ n ∧ n ≤ b)
def fifoB (g l : Int) : Bool := decide ((2 ≤ g ∧ g ≤ 5) ∧ (2 ≤ l ∧ l ≤ 5))
def cohB (A B stay g l b : Int) : Bool := decide (((2 ≤ g ∧ g ≤ 5) ∧ (2 ≤ l ∧ l ≤ 5)) ∧ (0 ≤ b ∧ b ≤ 1000) ∧ (1 ≤ A ∧ A ≤ 32) ∧ (1 ≤ B ∧ B ≤ 32) ∧ (0 ≤ stay ∧ stay ≤ 40000))
def cohI (A B stay g l b : Int) : Nat := if cohB A B stay g l b then cohN A.toNat B.toNat stay.toNat b.toNat else 0
def treeB' (A B C stay b : Int) : Bool := decide ((1 ≤ A ∧ A ≤ 32) ∧ (1 ≤ B ∧ B ≤ 32) ∧ (1 ≤ C ∧ C ≤ 5) ∧ (0 ≤ stay ∧ stay ≤ 4000) ∧ (0 ≤ b ∧ b ≤ 1000))
def treeI (A B C stay b : Int) : Nat := if treeB' A B C stay b then treeN A.toNat B.toNat C.toNat stay.toNat b.toNat else 0
/-- locks of readers and writers of one kind: of a flat kind -/
def spanB (threads k stay : Int) : Bool := decide ((1 ≤ threads ∧ threads ≤ 32) ∧ (1 ≤ k ∧ k ≤ 4000) ∧ (0 ≤ stay ∧ stay ≤ 4000))
def onceOf (kind : Int) : Nat := if kind = 4 then 6 else if kind = 5 then 4 else 3
def eachOf (kind : Int) : Nat := if kind = 4 then 8 else 4
def spanI (kind threads k stay : Int) : Nat := if spanB threads k stay = true ∧ 2 ≤ kind ∧ kind ≤ 5 then k.toNat * (onceOf kind + (threads.toNat - 1) * (stay.toNat + eachOf kind)) else 0
def longN (threads nodes stay : Nat) : Nat := 2 * stay + 2 * nodes + 7 * threads + 12
/-- how many picks of a thread: threads, nodes, places, depth -/
def turnN (th nd pl dp : Nat) (kind g l b : Int) (stay : Nat) (read : Bool) : Nat :=
  if kind = 6 then cohI th nd stay g l b
  else if kind = 7 then treeI th pl dp stay b
  else if kind = 8 then b.toNat + 8 + th * (stay + 4)
  else if kind = 9 then 4 + ((th - 1 + th * b.toNat) + 1) * (stay + th + 20)
  else if kind = 10 then 4 + (th * (th + b.toNat + 2) + 1) * (stay + 24)
  else if kind = 12 ∧ read = true then 4 * nd + stay + 12
  else if kind = 12 then 0
  else if kind = 13 ∧ read = true then 0
  else if cohI th nd (longN th nd stay : Nat) g l b = 0 then 0
  else addN (cohI th nd (longN th nd stay : Nat) g l b) (longN th nd stay + 20)
def eachB (P T : List Int) (kind b k stay : Int) (read : Bool) : Bool :=
  decide ((1 ≤ kind ∧ kind ≤ 13) ∧ chkT P T = 0 ∧ (0 ≤ b ∧ b ≤ 1000) ∧ (1 ≤ k ∧ k ≤ 4000) ∧ (0 ≤ stay ∧ stay ≤ 4000) ∧ (read = true → 11 ≤ kind))
def eachI (P T : List Int) (kind g l b k stay : Int) (read : Bool) : Nat :=
  if eachB P T kind b k stay read then
    (if kind < 6 then spanI kind T.length k stay else mulN k.toNat (turnN T.length (leavesL P).length P.length (depT P T).toNat kind g l b stay.toNat read))
  else 0
end Go.Proofs.Ythgpjiebeinamaa
