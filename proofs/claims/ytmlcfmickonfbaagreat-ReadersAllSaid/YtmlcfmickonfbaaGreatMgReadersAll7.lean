/- Joined: Mx1, Mx2, Mx3. -/
import Derived.Test.YtmlcfmickonfbaaGreatMgReadersAll6
section
set_option linter.unusedVariables false
set_option linter.unusedSimpArgs false
/- Layers 15 to 17, plain: of a lock of kind tas, ticket or parted one slot holds at most. No program in sight. -/
namespace Go.Proofs.YtmlcfmickonfbaaGreat
open Go

theorem ldW_st {W : List Int} {x : Int} (h : inR W x = true) (v y : Int) : ldW (stW W x v) y = if y = x then v else ldW W y := by
  obtain ⟨h1, h2⟩ := inR_true.1 h
  unfold ldW stW
  rw [if_pos h]
  have e : inR (W.set (x.toNat - 1) v) y = inR W y := by unfold inR; rw [List.length_set]
  rw [e]
  by_cases hy : inR W y = true
  · rw [if_pos hy, if_pos hy, List.getD_eq_getElem?_getD, List.getElem?_set]
    obtain ⟨h3, h4⟩ := inR_true.1 hy
    by_cases hxy : y = x
    · subst hxy
      rw [if_pos rfl, if_pos rfl, if_pos (by omega)]; rfl
    · rw [if_neg hxy, if_neg (by omega), List.getD_eq_getElem?_getD]
  · rw [if_neg hy, if_neg hy]
    rw [if_neg]
    rintro rfl
    exact hy h
section
variable {t m : Int} {n : Nat} {f f' : Int → Int} {σ σ' : Nat → Sp}
/-- tas: who holds has written its number -/
def TasI (t : Int) (n : Nat) (f : Int → Int) (σ : Nat → Sp) : Prop := ∀ i, i < n → (σ i).pc = 10 ∨ (σ i).pc = 11 → f t = (i : Int) + 1
theorem TasI.one (h : TasI t n f σ) {i j : Nat} (hi : i < n) (hj : j < n) (h1 : (σ i).pc = 10) (h2 : (σ j).pc = 10) : i = j := by
  have e1 := h i hi (.inl h1)
  have e2 := h j hj (.inl h2)
  omega
/-- a slot that does not come to hold -/
theorem TasI.off (h : TasI t n f σ) {i : Nat} {p : Sp} (hs : ∀ j, σ' j = if j = i then p else σ j) (hp : (p.pc = 10 ∨ p.pc = 11) → (σ i).pc = 10 ∨ (σ i).pc = 11) : TasI t n f σ' := by
  intro j hj hc
  rw [hs] at hc
  split at hc
  · rename_i e; subst e; exact h j hj (hp hc)
  · exact h j hj hc
theorem TasI.get (h : TasI t n f σ) {i : Nat} {p : Sp} (hs : ∀ j, σ' j = if j = i then p else σ j) (hf : ∀ y, f' y = if y = t then (i : Int) + 1 else f y) (h0 : f t = 0) : TasI t n f' σ' := by
  intro j hj hc
  rw [hs] at hc
  rw [hf, if_pos rfl]
  split at hc
  · rename_i e; subst e; rfl
  · have := h j hj hc; omega
theorem TasI.put (h : TasI t n f σ) {i : Nat} {p : Sp} (hi : i < n) (hs : ∀ j, σ' j = if j = i then p else σ j) (hf : ∀ y, f' y = if y = t then 0 else f y) (h0 : (σ i).pc = 11) (hp : p.pc = 0) : TasI t n f' σ' := by
  intro j hj hc
  rw [hs] at hc
  split at hc
  · omega
  · rename_i e
    have e1 := h j hj hc
    have e2 := h i hi (.inr h0)
    omega
/-- ticket: who is served, and who waits -/
structure TickI (t : Int) (n : Nat) (f : Int → Int) (σ : Nat → Sp) : Prop where
  le : f (t + 1) ≤ f t
  w : ∀ i, i < n → (σ i).pc = 2 → f (t + 1) ≤ (σ i).a ∧ (σ i).a < f t
  hd : ∀ i, i < n → (σ i).pc = 10 ∨ (σ i).pc = 11 → (σ i).a = f (t + 1) ∧ (σ i).a < f t
  ne : ∀ i j, i < n → j < n → i ≠ j → ((σ i).pc = 2 ∨ (σ i).pc = 10 ∨ (σ i).pc = 11) → ((σ j).pc = 2 ∨ (σ j).pc = 10 ∨ (σ j).pc = 11) → (σ i).a ≠ (σ j).a
theorem TickI.one (h : TickI t n f σ) {i j : Nat} (hi : i < n) (hj : j < n) (h1 : (σ i).pc = 10) (h2 : (σ j).pc = 10) : i = j := by
  have e1 := (h.hd i hi (.inl h1)).1
  have e2 := (h.hd j hj (.inl h2)).1
  by_cases e : i = j
  · exact e
  · exact absurd (by rw [e1, e2]) (h.ne i j hi hj e (.inr (.inl h1)) (.inr (.inl h2)))
theorem TickI.off (h : TickI t n f σ) {i : Nat} {p : Sp} (hs : ∀ j, σ' j = if j = i then p else σ j) (ha : p.a = (σ i).a) (hp : ((σ i).pc = 0 ∧ p.pc = 1) ∨ ((σ i).pc = 10 ∧ p.pc = 11) ∨ p.pc = (σ i).pc) : TickI t n f σ' := by
  have key : ∀ j, (σ' j).a = (σ j).a := fun j => by rw [hs]; split; (rename_i e; rw [e, ha]); rfl
  have kc : ∀ j, ((σ' j).pc = 2 → (σ j).pc = 2) ∧ (((σ' j).pc = 10 ∨ (σ' j).pc = 11) → (σ j).pc = 10 ∨ (σ j).pc = 11) := fun j => by
    rw [hs]
    split
    · rename_i e; subst e; omega
    · exact ⟨id, id⟩
  refine ⟨h.le, fun j hj hc => ?_, fun j hj hc => ?_, fun j k hj hk hn h1 h2 => ?_⟩
  · rw [key]; exact h.w j hj ((kc j).1 hc)
  · rw [key]; exact h.hd j hj ((kc j).2 hc)
  · rw [key, key]
    refine h.ne j k hj hk hn ?_ ?_
    · rcases h1 with h1 | h1
      · exact .inl ((kc j).1 h1)
      · exact .inr ((kc j).2 h1)
    · rcases h2 with h2 | h2
      · exact .inl ((kc k).1 h2)
      · exact .inr ((kc k).2 h2)
theorem TickI.take (h : TickI t n f σ) {i : Nat} {p : Sp} (hs : ∀ j, σ' j = if j = i then p else σ j) (hp : p.pc = 2) (ha : p.a = f t) (hf : ∀ y, f' y = if y = t then f t + 1 else f y) : TickI t n f' σ' := by
  have f0 : f' t = f t + 1 := by rw [hf, if_pos rfl]
  have f1 : f' (t + 1) = f (t + 1) := by rw [hf, if_neg (by omega)]
  have hle := h.le
  refine ⟨by rw [f0, f1]; omega, fun j hj hc => ?_, fun j hj hc => ?_, fun j k hj hk hn h1 h2 => ?_⟩
  · rw [f0, f1]
    rw [hs] at hc ⊢
    split
    · rw [ha]; omega
    · rename_i e
      rw [if_neg e] at hc
      have := h.w j hj hc
      omega
  · rw [f0, f1]
    rw [hs] at hc ⊢
    split
    · rename_i e; rw [if_pos e] at hc; omega
    · rename_i e
      rw [if_neg e] at hc
      have := h.hd j hj hc
      omega
  · have lt : ∀ j, j < n → ((σ j).pc = 2 ∨ (σ j).pc = 10 ∨ (σ j).pc = 11) → (σ j).a < f t := fun j hj hc => by
      rcases hc with hc | hc
      · exact (h.w j hj hc).2
      · exact (h.hd j hj hc).2
    rw [hs] at h1
    rw [hs] at h2
    rw [hs, hs]
    by_cases e1 : j = i <;> by_cases e2 : k = i
    · omega
    · rw [if_neg e2] at h2
      rw [if_pos e1, if_neg e2, ha]
      have := lt k hk h2; omega
    · rw [if_neg e1] at h1
      rw [if_neg e1, if_pos e2, ha]
      have := lt j hj h1; omega
    · rw [if_neg e1] at h1
      rw [if_neg e2] at h2
      rw [if_neg e1, if_neg e2]
      exact h.ne j k hj hk hn h1 h2
theorem TickI.enter (h : TickI t n f σ) {i : Nat} {p : Sp} (hi : i < n) (hs : ∀ j, σ' j = if j = i then p else σ j) (h2 : (σ i).pc = 2) (hp : p.pc = 10) (ha : p.a = (σ i).a) (he : f (t + 1) = (σ i).a) : TickI t n f σ' := by
  have hw := h.w i hi h2
  have key : ∀ j, (σ' j).a = (σ j).a := fun j => by rw [hs]; split; (rename_i e; rw [e, ha]); rfl
  refine ⟨h.le, fun j hj hc => ?_, fun j hj hc => ?_, fun j k hj hk hn h1 h3 => ?_⟩
  · rw [key]
    rw [hs] at hc
    split at hc
    · omega
    · exact h.w j hj hc
  · rw [key]
    rw [hs] at hc
    split at hc
    · rename_i e; subst e; omega
    · exact h.hd j hj hc
  · rw [key, key]
    refine h.ne j k hj hk hn ?_ ?_
    · rw [hs] at h1
      split at h1
      · rename_i e; subst e; exact .inl h2
      · exact h1
    · rw [hs] at h3
      split at h3
      · rename_i e; subst e; exact .inl h2
      · exact h3
theorem TickI.put (h : TickI t n f σ) {i : Nat} {p : Sp} (hi : i < n) (hs : ∀ j, σ' j = if j = i then p else σ j) (h1 : (σ i).pc = 11) (hp : p.pc = 0) (hf : ∀ y, f' y = if y = t + 1 then (σ i).a + 1 else f y) : TickI t n f' σ' := by
  have hh := h.hd i hi (.inr h1)
  have f0 : f' t = f t := by rw [hf, if_neg (by omega)]
  have f1 : f' (t + 1) = (σ i).a + 1 := by rw [hf, if_pos rfl]
  refine ⟨by rw [f0, f1]; omega, fun j hj hc => ?_, fun j hj hc => ?_, fun j k hj hk hn h2 h3 => ?_⟩
  · rw [f0, f1]
    rw [hs] at hc ⊢
    split
    · rename_i e; rw [if_pos e] at hc; omega
    · rename_i e
      rw [if_neg e] at hc
      have a1 := h.w j hj hc
      have a2 := h.ne j i hj hi e (.inl hc) (.inr (.inr h1))
      omega
  · rw [hs] at hc
    split at hc
    · omega
    · rename_i e
      have a1 := h.hd j hj hc
      have a2 := h.ne j i hj hi e (.inr hc) (.inr (.inr h1))
      omega
  · rw [hs] at h2
    rw [hs] at h3
    rw [hs, hs]
    split at h2
    · omega
    split at h3
    · omega
    rename_i e1 e2
    rw [if_neg e1, if_neg e2]
    exact h.ne j k hj hk hn h2 h3
/-- parted: a place for each ticket -/
structure PartI (t m : Int) (n : Nat) (f : Int → Int) (σ : Nat → Sp) (v : Int) : Prop where
  v0 : 0 ≤ v
  le : v ≤ f t
  w : ∀ i, i < n → (σ i).pc = 2 → v ≤ (σ i).a ∧ (σ i).a < f t
  hd : ∀ i, i < n → (σ i).pc = 10 ∨ (σ i).pc = 11 → (σ i).a = v ∧ (σ i).a < f t
  ne : ∀ i j, i < n → j < n → i ≠ j → ((σ i).pc = 2 ∨ (σ i).pc = 10 ∨ (σ i).pc = 11) → ((σ j).pc = 2 ∨ (σ j).pc = 10 ∨ (σ j).pc = 11) → (σ i).a ≠ (σ j).a
  pl : ∀ k : Int, 0 ≤ k → k < m → f (t + 1 + k) ≤ v + 1
  sv : f (pPl t m v) = v + 1
theorem PartI.one {v : Int} (h : PartI t m n f σ v) {i j : Nat} (hi : i < n) (hj : j < n) (h1 : (σ i).pc = 10) (h2 : (σ j).pc = 10) : i = j := by
  have e1 := (h.hd i hi (.inl h1)).1
  have e2 := (h.hd j hj (.inl h2)).1
  by_cases e : i = j
  · exact e
  · exact absurd (by rw [e1, e2]) (h.ne i j hi hj e (.inr (.inl h1)) (.inr (.inl h2)))
theorem PartI.off {v : Int} (h : PartI t m n f σ v) {i : Nat} {p : Sp} (hs : ∀ j, σ' j = if j = i then p else σ j) (ha : p.a = (σ i).a) (hp : ((σ i).pc = 0 ∧ p.pc = 1) ∨ ((σ i).pc = 10 ∧ p.pc = 11) ∨ p.pc = (σ i).pc) : PartI t m n f σ' v := by
  have key : ∀ j, (σ' j).a = (σ j).a := fun j => by rw [hs]; split; (rename_i e; rw [e, ha]); rfl
  have kc : ∀ j, ((σ' j).pc = 2 → (σ j).pc = 2) ∧ (((σ' j).pc = 10 ∨ (σ' j).pc = 11) → (σ j).pc = 10 ∨ (σ j).pc = 11) := fun j => by
    rw [hs]
    split
    · rename_i e; subst e; omega
    · exact ⟨id, id⟩
  refine ⟨h.v0, h.le, fun j hj hc => ?_, fun j hj hc => ?_, fun j k hj hk hn h1 h2 => ?_, h.pl, h.sv⟩
  · rw [key]; exact h.w j hj ((kc j).1 hc)
  · rw [key]; exact h.hd j hj ((kc j).2 hc)
  · rw [key, key]
    refine h.ne j k hj hk hn ?_ ?_
    · rcases h1 with h1 | h1
      · exact .inl ((kc j).1 h1)
      · exact .inr ((kc j).2 h1)
    · rcases h2 with h2 | h2
      · exact .inl ((kc k).1 h2)
      · exact .inr ((kc k).2 h2)
theorem PartI.take {v : Int} (h : PartI t m n f σ v) (hm : 1 ≤ m) {i : Nat} {p : Sp} (hs : ∀ j, σ' j = if j = i then p else σ j) (hp : p.pc = 2) (ha : p.a = f t) (hf : ∀ y, f' y = if y = t then f t + 1 else f y) : PartI t m n f' σ' v := by
  have f0 : f' t = f t + 1 := by rw [hf, if_pos rfl]
  have hle := h.le
  have hm0 := Int.emod_nonneg v (show m ≠ 0 by omega)
  refine ⟨h.v0, by rw [f0]; omega, fun j hj hc => ?_, fun j hj hc => ?_, fun j k hj hk hn h1 h2 => ?_, fun k k0 k1 => by rw [hf, if_neg (by omega)]; exact h.pl k k0 k1, by rw [hf, if_neg (by unfold pPl; omega)]; exact h.sv⟩
  · rw [f0]
    rw [hs] at hc ⊢
    split
    · rw [ha]; omega
    · rename_i e
      rw [if_neg e] at hc
      have := h.w j hj hc
      omega
  · rw [f0]
    rw [hs] at hc ⊢
    split
    · rename_i e; rw [if_pos e] at hc; omega
    · rename_i e
      rw [if_neg e] at hc
      have := h.hd j hj hc
      omega
  · have lt : ∀ j, j < n → ((σ j).pc = 2 ∨ (σ j).pc = 10 ∨ (σ j).pc = 11) → (σ j).a < f t := fun j hj hc => by
      rcases hc with hc | hc
      · exact (h.w j hj hc).2
      · exact (h.hd j hj hc).2
    rw [hs] at h1
    rw [hs] at h2
    rw [hs, hs]
    by_cases e1 : j = i <;> by_cases e2 : k = i
    · omega
    · rw [if_neg e2] at h2
      rw [if_pos e1, if_neg e2, ha]
      have := lt k hk h2; omega
    · rw [if_neg e1] at h1
      rw [if_neg e1, if_pos e2, ha]
      have := lt j hj h1; omega
    · rw [if_neg e1] at h1
      rw [if_neg e2] at h2
      rw [if_neg e1, if_neg e2]
      exact h.ne j k hj hk hn h1 h2
theorem PartI.enter {v : Int} (h : PartI t m n f σ v) (hm : 1 ≤ m) {i : Nat} {p : Sp} (hi : i < n) (hs : ∀ j, σ' j = if j = i then p else σ j) (h2 : (σ i).pc = 2) (hp : p.pc = 10) (ha : p.a = (σ i).a) (he : f (pPl t m (σ i).a) = (σ i).a + 1) : PartI t m n f σ' v := by
  have hw := h.w i hi h2
  have hq := h.pl ((σ i).a % m) (Int.emod_nonneg _ (by omega)) (Int.emod_lt_of_pos _ (by omega))
  have he' : f (t + 1 + (σ i).a % m) = (σ i).a + 1 := he
  have key : ∀ j, (σ' j).a = (σ j).a := fun j => by rw [hs]; split; (rename_i e; rw [e, ha]); rfl
  refine ⟨h.v0, h.le, fun j hj hc => ?_, fun j hj hc => ?_, fun j k hj hk hn h1 h3 => ?_, h.pl, h.sv⟩
  · rw [key]
    rw [hs] at hc
    split at hc
    · omega
    · exact h.w j hj hc
  · rw [key]
    rw [hs] at hc
    split at hc
    · rename_i e; subst e; omega
    · exact h.hd j hj hc
  · rw [key, key]
    refine h.ne j k hj hk hn ?_ ?_
    · rw [hs] at h1
      split at h1
      · rename_i e; subst e; exact .inl h2
      · exact h1
    · rw [hs] at h3
      split at h3
      · rename_i e; subst e; exact .inl h2
      · exact h3
theorem PartI.put {v : Int} (h : PartI t m n f σ v) (hm : 1 ≤ m) {i : Nat} {p : Sp} (hi : i < n) (hs : ∀ j, σ' j = if j = i then p else σ j) (h1 : (σ i).pc = 11) (hp : p.pc = 0) (hf : ∀ y, f' y = if y = pPl t m ((σ i).a + 1) then (σ i).a + 2 else f y) : PartI t m n f' σ' (v + 1) := by
  have hh := h.hd i hi (.inr h1)
  have hm0 := Int.emod_nonneg ((σ i).a + 1) (show m ≠ 0 by omega)
  have f0 : f' t = f t := by rw [hf, if_neg (by unfold pPl; omega)]
  have hv0 := h.v0
  refine ⟨by omega, by rw [f0]; omega, fun j hj hc => ?_, fun j hj hc => ?_, fun j k hj hk hn h2 h3 => ?_, fun k k0 k1 => ?_, ?_⟩
  · rw [f0]
    rw [hs] at hc ⊢
    split
    · rename_i e; rw [if_pos e] at hc; omega
    · rename_i e
      rw [if_neg e] at hc
      have a1 := h.w j hj hc
      have a2 := h.ne j i hj hi e (.inl hc) (.inr (.inr h1))
      omega
  · rw [hs] at hc
    split at hc
    · omega
    · rename_i e
      have a1 := h.hd j hj hc
      have a2 := h.ne j i hj hi e (.inr hc) (.inr (.inr h1))
      omega
  · rw [hs] at h2
    rw [hs] at h3
    rw [hs, hs]
    split at h2
    · omega
    split at h3
    · omega
    rename_i e1 e2
    rw [if_neg e1, if_neg e2]
    exact h.ne j k hj hk hn h2 h3
  · rw [hf]
    split
    · omega
    · have := h.pl k k0 k1; omega
  · rw [hf, if_pos (by rw [hh.1]), hh.1]; omega
end
end Go.Proofs.YtmlcfmickonfbaaGreat
end
section
set_option linter.unusedVariables false
set_option linter.unusedSimpArgs false
/- Layer 18 (mcs), plain: who stands in the queue; its head alone holds. No program in sight. -/
namespace Go.Proofs.YtmlcfmickonfbaaGreat
open Go

def nxI (t : Int) (i : Nat) : Int := t + 2 * (i : Int) + 1
def wtI (t : Int) (i : Nat) : Int := t + 2 * (i : Int) + 2
theorem mNx_i (t : Int) (i : Nat) : mNx t ((i : Int) + 1) = nxI t i := by unfold mNx nxI; omega
theorem mWt_i (t : Int) (i : Nat) : mWt t ((i : Int) + 1) = wtI t i := by unfold mWt wtI; omega
/-- the links of a queue -/
def Lk (t : Int) (f : Int → Int) (σ : Nat → Sp) : List Nat → Prop
  | [] => True
  | [l] => f (nxI t l) = 0
  | p :: s :: r => (((σ s).pc = 4 → f (nxI t p) = 0 ∧ (σ s).a = (p : Int) + 1) ∧ ((σ s).pc ≠ 4 → f (nxI t p) = (s : Int) + 1)) ∧ Lk t f σ (s :: r)
def tailQ : List Nat → Int
  | [] => 0
  | [l] => (l : Int) + 1
  | _ :: s :: r => tailQ (s :: r)
/-- what a queue's head is at -/
def HdQ (t : Int) (f : Int → Int) (σ : Nat → Sp) : List Nat → Prop
  | [] => True
  | h :: r => 5 ≤ (σ h).pc ∧ ((σ h).pc = 5 → f (wtI t h) = 0) ∧ ((σ h).pc = 14 → ∃ s r', r = s :: r' ∧ (σ h).a = (s : Int) + 1 ∧ (σ s).pc = 5) ∧ ∀ i ∈ r, ((σ i).pc = 4 ∨ (σ i).pc = 5) ∧ f (wtI t i) = 1
structure McsI (t : Int) (n : Nat) (f : Int → Int) (σ : Nat → Sp) (q : List Nat) : Prop where
  nd : q.Nodup
  lt : ∀ i ∈ q, i < n
  mem : ∀ i, i < n → (i ∈ q ↔ 4 ≤ (σ i).pc)
  tl : f t = tailQ q
  hd : HdQ t f σ q
  lk : Lk t f σ q
  n0 : ∀ i, i < n → (σ i).pc = 2 ∨ (σ i).pc = 3 → f (nxI t i) = 0
  w1 : ∀ i, i < n → (σ i).pc = 3 → f (wtI t i) = 1
section
variable {t : Int} {n : Nat} {f f' : Int → Int} {σ σ' : Nat → Sp} {q : List Nat}
theorem Lk.same : ∀ {q : List Nat}, Lk t f σ q → (∀ p ∈ q, f' (nxI t p) = f (nxI t p)) → (∀ s ∈ q.tail, σ' s = σ s) → Lk t f' σ' q
  | [], _, _, _ => trivial
  | [l], h, hf, _ => by
    show f' (nxI t l) = 0
    rw [hf l (by simp)]; exact h
  | p :: s :: r, h, hf, hs => by
    have e := hs s (by simp)
    refine ⟨?_, Lk.same h.2 (fun x hx => hf x (by simp at hx ⊢; exact .inr hx)) (fun x hx => hs x (by simp at hx ⊢; exact .inr hx))⟩
    rw [e, hf p (by simp)]
    exact h.1
theorem HdQ.same (h : HdQ t f σ q) (hf : ∀ p ∈ q, f' (wtI t p) = f (wtI t p)) (hs : ∀ s ∈ q, σ' s = σ s) : HdQ t f' σ' q := by
  cases q with
  | nil => trivial
  | cons a r =>
    obtain ⟨h1, h2, h3, h4⟩ := h
    have ea := hs a (by simp)
    refine ⟨by rw [ea]; exact h1, by rw [ea, hf a (by simp)]; exact h2, fun hc => ?_, fun i hi => ?_⟩
    · rw [ea] at hc
      obtain ⟨s, r', e1, e2, e3⟩ := h3 hc
      exact ⟨s, r', e1, by rw [ea]; exact e2, by rw [hs s (by rw [e1]; simp)]; exact e3⟩
    · rw [hs i (by simp [hi]), hf i (by simp [hi])]
      exact h4 i hi
theorem tailQ_pos : ∀ {q : List Nat}, q ≠ [] → 0 < tailQ q
  | [], h => absurd rfl h
  | [l], _ => by show (0 : Int) < (l : Int) + 1; omega
  | _ :: s :: r, _ => tailQ_pos (q := s :: r) (by simp)
theorem tailQ_snoc : ∀ (q : List Nat) (i : Nat), tailQ (q ++ [i]) = (i : Int) + 1
  | [], _ => rfl
  | [_], _ => rfl
  | _ :: s :: r, i => tailQ_snoc (s :: r) i
theorem tailQ_mem : ∀ {q : List Nat} {i : Nat}, tailQ q = (i : Int) + 1 → ∃ r, q = r ++ [i]
  | [], i, h => by exfalso; have : (0 : Int) = (i : Int) + 1 := h; omega
  | [l], i, h => by
    have : (l : Int) + 1 = (i : Int) + 1 := h
    exact ⟨[], by simp; omega⟩
  | a :: s :: r, i, h => by
    obtain ⟨x, hx⟩ := tailQ_mem (q := s :: r) h
    exact ⟨a :: x, by rw [hx]; rfl⟩
theorem Lk.snoc : ∀ {q : List Nat} {i : Nat}, Lk t f σ q → (∀ p ∈ q, f' (nxI t p) = f (nxI t p)) → (∀ s ∈ q, σ' s = σ s) → (σ' i).pc = 4 → (q ≠ [] → (σ' i).a = tailQ q) → f' (nxI t i) = 0 → Lk t f' σ' (q ++ [i])
  | [], _, _, _, _, _, _, h0 => h0
  | [l], i, h, hf, _, h4, ha, h0 => by
    refine ⟨⟨fun _ => ⟨by rw [hf l (by simp)]; exact h, ha (by simp)⟩, fun hc => absurd h4 hc⟩, h0⟩
  | p :: s :: r, i, h, hf, hs, h4, ha, h0 => by
    have e := hs s (by simp)
    refine ⟨by rw [e, hf p (by simp)]; exact h.1, Lk.snoc (q := s :: r) h.2 (fun x hx => hf x (by simp at hx ⊢; exact .inr hx)) (fun x hx => hs x (by simp at hx ⊢; exact .inr hx)) h4 (fun _ => ha (by simp)) h0⟩
/-- who stands at 4 has one ahead, and knows it; what the link becomes -/
theorem Lk.link : ∀ {q : List Nat} {i : Nat}, q.Nodup → Lk t f σ q → i ∈ q.tail → (σ i).pc = 4 → ∃ p ∈ q, p ≠ i ∧ (σ i).a = (p : Int) + 1 ∧
    ∀ {f' : Int → Int} {σ' : Nat → Sp}, (∀ y, f' y = if y = nxI t p then (i : Int) + 1 else f y) → (∀ j, j ≠ i → σ' j = σ j) → (σ' i).pc ≠ 4 → Lk t f' σ' q
  | [], _, _, _, hi, _ => by simp at hi
  | [_], _, _, _, hi, _ => by simp at hi
  | p :: s :: r, i, hn, h, hi, h4 => by
    have hps : p ≠ s := fun e => by rw [e] at hn; simp at hn
    by_cases e : i = s
    · subst e
      refine ⟨p, by simp, hps, (h.1.1 h4).2, fun {f'} {σ'} hf hs hc => ⟨⟨fun h4' => absurd h4' hc, fun _ => by rw [hf, if_pos rfl]⟩, ?_⟩⟩
      refine Lk.same h.2 (fun x hx => ?_) (fun x hx => ?_)
      · rw [hf, if_neg]
        have : x ≠ p := fun e => by rw [e] at hx; simp at hn hx; rcases hx with hx | hx; exact hps hx; exact hn.1.2 hx
        unfold nxI; omega
      · have : x ≠ i := fun e => by rw [e] at hx; simp at hn hx; exact hn.2.1 hx
        exact hs x this
    · have hi' : i ∈ (s :: r).tail := by simp at hi ⊢; rcases hi with hi | hi; exact absurd hi e; exact hi
      obtain ⟨p', hp', hpi, ha, hL⟩ := Lk.link (q := s :: r) (List.nodup_cons.1 hn).2 h.2 hi' h4
      refine ⟨p', by simp at hp' ⊢; exact .inr hp', hpi, ha, fun {f'} {σ'} hf hs hc => ⟨?_, hL hf hs hc⟩⟩
      have hpp : p ≠ p' := fun e => by rw [← e] at hp'; exact (List.nodup_cons.1 hn).1 hp'
      have e1 : f' (nxI t p) = f (nxI t p) := by rw [hf, if_neg (by unfold nxI; omega)]
      rw [e1, hs s (fun e2 => e e2.symm)]
      exact h.1
/-- who is past 9 is the head -/
theorem McsI.head (h : McsI t n f σ q) {i : Nat} (hi : i < n) (hc : 10 ≤ (σ i).pc) : ∃ r, q = i :: r := by
  have hm := (h.mem i hi).2 (by omega)
  have hd := h.hd
  cases q with
  | nil => simp at hm
  | cons a r =>
    rcases List.mem_cons.1 hm with e | e
    · exact ⟨r, by rw [e]⟩
    · have := (hd.2.2.2 i e).1
      omega
theorem McsI.one (h : McsI t n f σ q) {i j : Nat} (hi : i < n) (hj : j < n) (h1 : (σ i).pc = 10) (h2 : (σ j).pc = 10) : i = j := by
  obtain ⟨r, e1⟩ := h.head hi (by omega)
  obtain ⟨r', e2⟩ := h.head hj (by omega)
  rw [e1] at e2
  injection e2
/-- a slot out of the queue, whatever its own words become -/
theorem McsI.out (h : McsI t n f σ q) {i : Nat} {p : Sp} (hi : i < n) (hs : ∀ j, σ' j = if j = i then p else σ j) (h4 : (σ i).pc < 4) (hp : p.pc < 4) (hf : ∀ y, y ≠ nxI t i → y ≠ wtI t i → f' y = f y) (h0 : p.pc = 2 ∨ p.pc = 3 → f' (nxI t i) = 0) (h1 : p.pc = 3 → f' (wtI t i) = 1) : McsI t n f' σ' q := by
  have hni : i ∉ q := fun hm => by have := (h.mem i hi).1 hm; omega
  have hne : ∀ j, j ≠ i → σ' j = σ j := fun j e => by rw [hs, if_neg e]
  have hpi : σ' i = p := by rw [hs, if_pos rfl]
  have hq : ∀ j ∈ q, j ≠ i := fun j hj e => hni (e ▸ hj)
  have fn : ∀ j, j ≠ i → f' (nxI t j) = f (nxI t j) ∧ f' (wtI t j) = f (wtI t j) := fun j e => ⟨hf _ (by unfold nxI; omega) (by unfold nxI wtI; omega), hf _ (by unfold nxI wtI; omega) (by unfold wtI; omega)⟩
  refine ⟨h.nd, h.lt, fun j hj => ?_, by rw [hf t (by unfold nxI; omega) (by unfold wtI; omega)]; exact h.tl, h.hd.same (fun j hj => (fn j (hq j hj)).2) (fun j hj => hne j (hq j hj)), h.lk.same (fun j hj => (fn j (hq j hj)).1) (fun j hj => hne j (hq j (List.mem_of_mem_tail hj))), fun j hj hc => ?_, fun j hj hc => ?_⟩
  · by_cases e : j = i
    · subst e
      rw [hpi]
      exact ⟨fun hm => absurd hm hni, fun hc => by omega⟩
    · rw [hne j e]; exact h.mem j hj
  · by_cases e : j = i
    · subst e; rw [hpi] at hc; exact h0 hc
    · rw [hne j e] at hc; rw [(fn j e).1]; exact h.n0 j hj hc
  · by_cases e : j = i
    · subst e; rw [hpi] at hc; exact h1 hc
    · rw [hne j e] at hc; rw [(fn j e).2]; exact h.w1 j hj hc
/-- to the end of the queue -/
theorem McsI.swap (h : McsI t n f σ q) {i : Nat} {p : Sp} (hi : i < n) (hs : ∀ j, σ' j = if j = i then p else σ j) (h3 : (σ i).pc = 3) (hp : p.pc = if f t = 0 then 10 else 4) (ha : p.a = f t) (hf : ∀ y, f' y = if y = t then (i : Int) + 1 else f y) : McsI t n f' σ' (q ++ [i]) := by
  have hni : i ∉ q := fun hm => by have := (h.mem i hi).1 hm; omega
  have hne : ∀ j, j ≠ i → σ' j = σ j := fun j e => by rw [hs, if_neg e]
  have hpi : σ' i = p := by rw [hs, if_pos rfl]
  have hq : ∀ j ∈ q, j ≠ i := fun j hj e => hni (e ▸ hj)
  have fn : ∀ j, f' (nxI t j) = f (nxI t j) ∧ f' (wtI t j) = f (wtI t j) := fun j => ⟨by rw [hf, if_neg (by unfold nxI; omega)], by rw [hf, if_neg (by unfold wtI; omega)]⟩
  have hn0 := h.n0 i hi (.inr h3)
  have hw1 := h.w1 i hi h3
  have htl := h.tl
  refine ⟨List.nodup_append.2 ⟨h.nd, by simp, fun a ha b hb e => by simp at hb; subst hb; exact hni (e ▸ ha)⟩, fun j hj => ?_, fun j hj => ?_, by rw [hf, if_pos rfl, tailQ_snoc], ?_, ?_, fun j hj hc => ?_, fun j hj hc => ?_⟩
  · rcases List.mem_append.1 hj with hj | hj
    · exact h.lt j hj
    · simp at hj; rw [hj]; exact hi
  · by_cases e : j = i
    · subst e
      rw [hpi, hp]
      refine ⟨fun _ => by split <;> omega, fun _ => by simp⟩
    · rw [hne j e]
      simp [e]
      exact h.mem j hj
  · cases q with
    | nil =>
      have e0 : f t = 0 := htl
      rw [if_pos e0] at hp
      refine ⟨by rw [hpi]; omega, fun hc => by rw [hpi] at hc; omega, fun hc => by rw [hpi] at hc; omega, fun j hj => by cases hj⟩
    | cons a r =>
      have e0 : f t ≠ 0 := by rw [htl]; have := tailQ_pos (q := a :: r) (by simp); omega
      rw [if_neg e0] at hp
      obtain ⟨k1, k2, k3, k4⟩ := h.hd
      have ea := hne a (hq a (by simp))
      refine ⟨by rw [ea]; exact k1, by rw [ea, (fn a).2]; exact k2, fun hc => ?_, fun j hj => ?_⟩
      · rw [ea] at hc
        obtain ⟨s, r', e1, e2, e3⟩ := k3 hc
        exact ⟨s, r' ++ [i], by rw [e1]; rfl, by rw [ea]; exact e2, by rw [hne s (hq s (by rw [e1]; simp))]; exact e3⟩
      · rcases List.mem_append.1 hj with hj | hj
        · rw [hne j (hq j (by simp [hj])), (fn j).2]; exact k4 j hj
        · simp at hj; subst hj
          rw [hpi, (fn j).2]; exact ⟨.inl hp, hw1⟩
  · by_cases e : q = []
    · subst e
      show f' (nxI t i) = 0
      rw [(fn i).1]; exact hn0
    · have e0 : f t ≠ 0 := by rw [htl]; have := tailQ_pos e; omega
      rw [if_neg e0] at hp
      exact h.lk.snoc (fun j _ => (fn j).1) (fun j hj => hne j (hq j hj)) (by rw [hpi]; exact hp) (fun _ => by rw [hpi, ha, htl]) (by rw [(fn i).1]; exact hn0)
  · by_cases e : j = i
    · subst e; rw [hpi, hp] at hc; split at hc <;> omega
    · rw [hne j e] at hc; rw [(fn j).1]; exact h.n0 j hj hc
  · by_cases e : j = i
    · subst e; rw [hpi, hp] at hc; split at hc <;> omega
    · rw [hne j e] at hc; rw [(fn j).2]; exact h.w1 j hj hc
/-- who stands at 4 is told of by who is ahead -/
theorem McsI.tell (h : McsI t n f σ q) {i : Nat} {p : Sp} (hi : i < n) (hs : ∀ j, σ' j = if j = i then p else σ j) (h4 : (σ i).pc = 4) (hp : p.pc = 5) :
    ∃ b, b < n ∧ (σ i).a = (b : Int) + 1 ∧ ∀ {f' : Int → Int}, (∀ y, f' y = if y = nxI t b then (i : Int) + 1 else f y) → McsI t n f' σ' q := by
  have hne : ∀ j, j ≠ i → σ' j = σ j := fun j e => by rw [hs, if_neg e]
  have hpi : σ' i = p := by rw [hs, if_pos rfl]
  have hm := (h.mem i hi).2 (by omega)
  have htl : i ∈ q.tail := by
    have hd := h.hd
    cases q with
    | nil => simp at hm
    | cons a r =>
      rcases List.mem_cons.1 hm with e | e
      · subst e; have := hd.1; omega
      · exact e
  obtain ⟨b, hb, hbi, ha, hL⟩ := h.lk.link h.nd htl h4
  refine ⟨b, h.lt b hb, ha, fun {f'} hf => ?_⟩
  have fw : ∀ j, f' (wtI t j) = f (wtI t j) := fun j => by rw [hf, if_neg (by unfold wtI nxI; omega)]
  refine ⟨h.nd, h.lt, fun j hj => ?_, by rw [hf, if_neg (by unfold nxI; omega)]; exact h.tl, ?_, hL hf (fun j hj => hne j hj) (by rw [hpi, hp]; decide), fun j hj hc => ?_, fun j hj hc => ?_⟩
  · by_cases e : j = i
    · subst e; rw [hpi]; exact ⟨fun _ => by omega, fun _ => hm⟩
    · rw [hne j e]; exact h.mem j hj
  · have hd := h.hd
    have hnd := h.nd
    cases q with
    | nil => trivial
    | cons a r =>
      obtain ⟨k1, k2, k3, k4⟩ := hd
      have hir : i ∈ r := htl
      have hai : a ≠ i := fun e => by subst e; exact (List.nodup_cons.1 hnd).1 hir
      refine ⟨by rw [hne a hai]; exact k1, by rw [hne a hai, fw]; exact k2, fun hc => ?_, fun j hj => ?_⟩
      · rw [hne a hai] at hc
        obtain ⟨s, r', e1, e2, e3⟩ := k3 hc
        refine ⟨s, r', e1, by rw [hne a hai]; exact e2, ?_⟩
        by_cases e : s = i
        · subst e; omega
        · rw [hne s e]; exact e3
      · rw [fw]
        by_cases e : j = i
        · subst e; rw [hpi]; exact ⟨.inr hp, (k4 j hj).2⟩
        · rw [hne j e]; exact k4 j hj
  · by_cases e : j = i
    · subst e; rw [hpi] at hc; omega
    · rw [hne j e] at hc
      have hjb : j ≠ b := fun e2 => by
        have := (h.mem j hj).1 (e2 ▸ hb)
        omega
      rw [hf, if_neg (by unfold nxI; omega)]; exact h.n0 j hj hc
  · by_cases e : j = i
    · subst e; rw [hpi] at hc; omega
    · rw [hne j e] at hc; rw [fw]; exact h.w1 j hj hc
/-- the head goes on, no word turns -/
theorem McsI.hdgo (h : McsI t n f σ q) {i : Nat} {p : Sp} (hi : i < n) (hs : ∀ j, σ' j = if j = i then p else σ j) {r : List Nat} (hq : q = i :: r) (hp : 10 ≤ p.pc) (h14 : p.pc = 14 → ∃ s r', r = s :: r' ∧ p.a = (s : Int) + 1 ∧ (σ s).pc = 5) : McsI t n f σ' q := by
  have hne : ∀ j, j ≠ i → σ' j = σ j := fun j e => by rw [hs, if_neg e]
  have hpi : σ' i = p := by rw [hs, if_pos rfl]
  have hnd := h.nd
  have hd := h.hd
  have hlk := h.lk
  have hm := (h.mem i hi).1 (by rw [hq]; simp)
  rw [hq] at hnd hd hlk
  have hr : ∀ j ∈ r, j ≠ i := fun j hj e => (List.nodup_cons.1 hnd).1 (e ▸ hj)
  refine ⟨h.nd, h.lt, fun j hj => ?_, h.tl, ?_, ?_, fun j hj hc => ?_, fun j hj hc => ?_⟩
  · by_cases e : j = i
    · subst e; rw [hpi]; exact ⟨fun _ => by omega, fun _ => (h.mem j hj).2 hm⟩
    · rw [hne j e]; exact h.mem j hj
  · rw [hq]
    obtain ⟨k1, k2, k3, k4⟩ := hd
    refine ⟨by rw [hpi]; omega, fun hc => by rw [hpi] at hc; omega, fun hc => ?_, fun j hj => by rw [hne j (hr j hj)]; exact k4 j hj⟩
    rw [hpi] at hc
    obtain ⟨s, r', e1, e2, e3⟩ := h14 hc
    exact ⟨s, r', e1, by rw [hpi]; exact e2, by rw [hne s (hr s (by rw [e1]; simp))]; exact e3⟩
  · rw [hq]; exact hlk.same (fun _ _ => rfl) (fun j hj => hne j (hr j hj))
  · by_cases e : j = i
    · subst e; rw [hpi] at hc; omega
    · rw [hne j e] at hc; exact h.n0 j hj hc
  · by_cases e : j = i
    · subst e; rw [hpi] at hc; omega
    · rw [hne j e] at hc; exact h.w1 j hj hc
/-- who waits at 5 and finds 0 is the head -/
theorem McsI.enter (h : McsI t n f σ q) {i : Nat} {p : Sp} (hi : i < n) (hs : ∀ j, σ' j = if j = i then p else σ j) (h5 : (σ i).pc = 5) (h0 : f (wtI t i) = 0) (hp : p.pc = 10) : McsI t n f σ' q := by
  have hm := (h.mem i hi).2 (by omega)
  have hd := h.hd
  obtain ⟨r, hr⟩ : ∃ r, q = i :: r := by
    cases q with
    | nil => simp at hm
    | cons a r =>
      rcases List.mem_cons.1 hm with e | e
      · exact ⟨r, by rw [e]⟩
      · have := (hd.2.2.2 i e).2; omega
  exact h.hdgo hi hs hr (by omega) (fun hc => by omega)
/-- what the head finds behind it -/
theorem McsI.next (h : McsI t n f σ q) {i : Nat} (hi : i < n) (hc : 10 ≤ (σ i).pc) : ∃ r, q = i :: r ∧ (f (nxI t i) ≠ 0 → ∃ s r', r = s :: r' ∧ f (nxI t i) = (s : Int) + 1 ∧ (σ s).pc = 5) := by
  obtain ⟨r, hr⟩ := h.head hi hc
  refine ⟨r, hr, fun hv => ?_⟩
  have hlk := h.lk
  have hd := h.hd
  rw [hr] at hlk hd
  cases r with
  | nil => exact absurd hlk hv
  | cons s r' =>
    have h4 := (hd.2.2.2 s (by simp)).1
    have : (σ s).pc ≠ 4 := fun e => hv (hlk.1.1 e).1
    exact ⟨s, r', rfl, hlk.1.2 this, by omega⟩
/-- the last one leaves -/
theorem McsI.empty (h : McsI t n f σ q) {i : Nat} {p : Sp} (hi : i < n) (hs : ∀ j, σ' j = if j = i then p else σ j) (hcc : 10 ≤ (σ i).pc) (ht : f t = (i : Int) + 1) (hp : p.pc = 0) (hf : ∀ y, f' y = if y = t then 0 else f y) : McsI t n f' σ' [] := by
  obtain ⟨r, hr⟩ := h.head hi hcc
  have hne : ∀ j, j ≠ i → σ' j = σ j := fun j e => by rw [hs, if_neg e]
  have hpi : σ' i = p := by rw [hs, if_pos rfl]
  have htl := h.tl
  rw [ht] at htl
  obtain ⟨x, hx⟩ := tailQ_mem htl.symm
  have hq : q = [i] := by
    have hnd := h.nd
    rw [hr] at hx hnd
    cases x with
    | nil => rw [hr]; simpa using hx
    | cons a x =>
      simp only [List.cons_append, List.cons.injEq] at hx
      exfalso
      exact (List.nodup_cons.1 hnd).1 (by rw [hx.2]; simp)
  have fn : ∀ j, f' (nxI t j) = f (nxI t j) ∧ f' (wtI t j) = f (wtI t j) := fun j => ⟨by rw [hf, if_neg (by unfold nxI; omega)], by rw [hf, if_neg (by unfold wtI; omega)]⟩
  refine ⟨by simp, by simp, fun j hj => ?_, by rw [hf, if_pos rfl]; rfl, trivial, trivial, fun j hj hc => ?_, fun j hj hc => ?_⟩
  · by_cases e : j = i
    · subst e; rw [hpi]; simp; omega
    · have := h.mem j hj
      rw [hq] at this
      simp [e] at this
      rw [hne j e]; simp; omega
  · by_cases e : j = i
    · subst e; rw [hpi] at hc; omega
    · rw [hne j e] at hc; rw [(fn j).1]; exact h.n0 j hj hc
  · by_cases e : j = i
    · subst e; rw [hpi] at hc; omega
    · rw [hne j e] at hc; rw [(fn j).2]; exact h.w1 j hj hc
/-- the head hands on -/
theorem McsI.hand (h : McsI t n f σ q) {i : Nat} {p : Sp} (hi : i < n) (hs : ∀ j, σ' j = if j = i then p else σ j) (hcc : (σ i).pc = 14) (hp : p.pc = 0) :
    ∃ s r, q = i :: s :: r ∧ s < n ∧ (σ i).a = (s : Int) + 1 ∧ ∀ {f' : Int → Int}, (∀ y, f' y = if y = wtI t s then 0 else f y) → McsI t n f' σ' (s :: r) := by
  obtain ⟨r0, hr⟩ := h.head hi (by omega)
  have hd := h.hd
  have hnd := h.nd
  have hlk := h.lk
  rw [hr] at hd hnd hlk
  obtain ⟨k1, k2, k3, k4⟩ := hd
  obtain ⟨s, r, rfl, ha, h5⟩ := k3 hcc
  clear k3
  have hsn : s < n := h.lt s (by rw [hr]; simp)
  refine ⟨s, r, hr, hsn, ha, fun {f'} hf => ?_⟩
  have hne : ∀ j, j ≠ i → σ' j = σ j := fun j e => by rw [hs, if_neg e]
  have hpi : σ' i = p := by rw [hs, if_pos rfl]
  have hnd2 := (List.nodup_cons.1 hnd)
  have hnd3 := (List.nodup_cons.1 hnd2.2)
  have hri : ∀ j ∈ s :: r, j ≠ i := fun j hj e => hnd2.1 (e ▸ hj)
  have hrs : ∀ j ∈ r, j ≠ s := fun j hj e => hnd3.1 (e ▸ hj)
  have fx : ∀ j, f' (nxI t j) = f (nxI t j) := fun j => by rw [hf, if_neg (by unfold nxI wtI; omega)]
  have fw : ∀ j, j ≠ s → f' (wtI t j) = f (wtI t j) := fun j e => by rw [hf, if_neg (by unfold wtI; omega)]
  refine ⟨hnd2.2, fun j hj => h.lt j (by rw [hr]; exact List.mem_cons_of_mem _ hj), fun j hj => ?_, by rw [hf, if_neg (by unfold wtI; omega), h.tl, hr]; rfl, ?_, hlk.2.same (fun j _ => fx j) (fun j hj => hne j (hri j (List.mem_of_mem_tail hj))), fun j hj hc => ?_, fun j hj hc => ?_⟩
  · by_cases e : j = i
    · subst e; rw [hpi]; exact ⟨fun hm => absurd hm hnd2.1, fun hc => by omega⟩
    · have := h.mem j hj
      rw [hr, List.mem_cons] at this
      rw [hne j e, ← this]
      exact ⟨.inr, fun hx => hx.resolve_left e⟩
  · have es := hne s (hri s (by simp))
    refine ⟨by rw [es]; omega, fun _ => by rw [hf, if_pos rfl], fun hc => by rw [es] at hc; omega, fun j hj => ?_⟩
    rw [hne j (hri j (by simp [hj])), fw j (hrs j hj)]
    exact k4 j (by simp [hj])
  · by_cases e : j = i
    · subst e; rw [hpi] at hc; omega
    · rw [hne j e] at hc; rw [fx]; exact h.n0 j hj hc
  · by_cases e : j = i
    · subst e; rw [hpi] at hc; omega
    · rw [hne j e] at hc
      have hjs : j ≠ s := fun e2 => by subst e2; omega
      rw [fw j hjs]; exact h.w1 j hj hc
end
end Go.Proofs.YtmlcfmickonfbaaGreat
end
section
set_option linter.unusedVariables false
set_option linter.unusedSimpArgs false
/- Layer 19 (clh), plain: who stands in the queue; its head alone holds. No program in sight. -/
namespace Go.Proofs.YtmlcfmickonfbaaGreat
open Go

def Ck (σ : Nat → Sp) : Int → List Nat → Prop
  | _, [] => True
  | e, i :: r => (σ i).b = e ∧ Ck σ (σ i).a r
def lastB (σ : Nat → Sp) : Int → List Nat → Int
  | e, [] => e
  | _, i :: r => lastB σ (σ i).a r
structure ClhI (t : Int) (n : Nat) (f : Int → Int) (σ : Nat → Sp) (q : List Nat) (e : Int) : Prop where
  nd : q.Nodup
  lt : ∀ i ∈ q, i < n
  mem : ∀ i, i < n → (i ∈ q ↔ 3 ≤ (σ i).pc)
  e0 : 1 ≤ e ∧ e ≤ (n : Int) + 1
  a0 : ∀ i, i < n → 1 ≤ (σ i).a ∧ (σ i).a ≤ (n : Int) + 1
  ne : ∀ i j, i < n → j < n → i ≠ j → (σ i).a ≠ (σ j).a
  ea : ∀ i, i < n → (σ i).a ≠ e
  tl : f t = lastB σ e q
  ck : Ck σ e q
  f0 : f (t + e) = 0
  f1 : ∀ i, i < n → 2 ≤ (σ i).pc → f (t + (σ i).a) = 1
  w3 : ∀ i ∈ q.tail, (σ i).pc = 3
section
variable {t : Int} {n : Nat} {f f' : Int → Int} {σ σ' : Nat → Sp} {q : List Nat} {e : Int}
theorem Ck.same : ∀ {q : List Nat} {e : Int}, Ck σ e q → (∀ i ∈ q, (σ' i).a = (σ i).a ∧ (σ' i).b = (σ i).b) → Ck σ' e q
  | [], _, _, _ => trivial
  | i :: r, e, h, hs => ⟨by rw [(hs i (by simp)).2]; exact h.1, by rw [(hs i (by simp)).1]; exact Ck.same h.2 (fun j hj => hs j (by simp [hj]))⟩
theorem lastB_same : ∀ {q : List Nat} {e : Int}, (∀ i ∈ q, (σ' i).a = (σ i).a) → lastB σ' e q = lastB σ e q
  | [], _, _ => rfl
  | i :: r, e, hs => by
    show lastB σ' (σ' i).a r = lastB σ (σ i).a r
    rw [hs i (by simp)]
    exact lastB_same (fun j hj => hs j (by simp [hj]))
theorem lastB_snoc : ∀ (q : List Nat) (e : Int) (i : Nat), lastB σ e (q ++ [i]) = (σ i).a
  | [], _, _ => rfl
  | j :: r, _, i => lastB_snoc r (σ j).a i
theorem Ck.snoc : ∀ {q : List Nat} {e : Int} {i : Nat}, Ck σ e q → (∀ j ∈ q, (σ' j).a = (σ j).a ∧ (σ' j).b = (σ j).b) → (σ' i).b = lastB σ e q → Ck σ' e (q ++ [i])
  | [], _, _, _, _, hb => ⟨hb, trivial⟩
  | j :: r, e, i, h, hs, hb => by
    refine ⟨by rw [(hs j (by simp)).2]; exact h.1, ?_⟩
    rw [(hs j (by simp)).1]
    exact Ck.snoc h.2 (fun k hk => hs k (by simp [hk])) hb
/-- whom one waits for -/
theorem Ck.prev : ∀ {q : List Nat} {e : Int} {i : Nat}, Ck σ e q → i ∈ q.tail → ∃ j ∈ q, (σ i).b = (σ j).a
  | [], _, _, _, hi => by simp at hi
  | [_], _, _, _, hi => by simp at hi
  | j :: k :: r, e, i, h, hi => by
    by_cases he : i = k
    · subst he; exact ⟨j, by simp, h.2.1⟩
    · have hi' : i ∈ (k :: r).tail := by simp at hi ⊢; exact hi.resolve_left he
      obtain ⟨x, hx, hb⟩ := Ck.prev h.2 hi'
      exact ⟨x, by simp at hx ⊢; exact .inr hx, hb⟩
theorem ClhI.head (h : ClhI t n f σ q e) {i : Nat} (hi : i < n) (hc : 10 ≤ (σ i).pc) : ∃ r, q = i :: r := by
  have hm := (h.mem i hi).2 (by omega)
  cases q with
  | nil => simp at hm
  | cons a r =>
    rcases List.mem_cons.1 hm with e1 | e1
    · exact ⟨r, by rw [e1]⟩
    · have := h.w3 i e1; omega
theorem ClhI.one (h : ClhI t n f σ q e) {i j : Nat} (hi : i < n) (hj : j < n) (h1 : (σ i).pc = 10) (h2 : (σ j).pc = 10) : i = j := by
  obtain ⟨r, e1⟩ := h.head hi (by omega)
  obtain ⟨r', e2⟩ := h.head hj (by omega)
  rw [e1] at e2
  injection e2
/-- a slot out of the queue, whatever its own box becomes -/
theorem ClhI.out (h : ClhI t n f σ q e) {i : Nat} {p : Sp} (hi : i < n) (hs : ∀ j, σ' j = if j = i then p else σ j) (h3 : (σ i).pc < 3) (hp : p.pc < 3) (ha : p.a = (σ i).a) (hf : ∀ y, y ≠ t + (σ i).a → f' y = f y) (h1 : 2 ≤ p.pc → f' (t + (σ i).a) = 1) : ClhI t n f' σ' q e := by
  have hni : i ∉ q := fun hm => by have := (h.mem i hi).1 hm; omega
  have hne : ∀ j, j ≠ i → σ' j = σ j := fun j e => by rw [hs, if_neg e]
  have hpi : σ' i = p := by rw [hs, if_pos rfl]
  have hq : ∀ j ∈ q, j ≠ i := fun j hj e => hni (e ▸ hj)
  have haa : ∀ j, (σ' j).a = (σ j).a := fun j => by rw [hs]; split; (rename_i e1; rw [e1, ha]); rfl
  have h0 := h.a0 i hi
  refine ⟨h.nd, h.lt, fun j hj => ?_, h.e0, fun j hj => by rw [haa]; exact h.a0 j hj, fun j k hj hk hn => by rw [haa, haa]; exact h.ne j k hj hk hn, fun j hj => by rw [haa]; exact h.ea j hj, ?_, h.ck.same (fun j hj => by rw [hne j (hq j hj)]; exact ⟨rfl, rfl⟩), ?_, fun j hj hc => ?_, fun j hj => by rw [hne j (hq j (List.mem_of_mem_tail hj))]; exact h.w3 j hj⟩
  · by_cases e1 : j = i
    · subst e1; rw [hpi]; exact ⟨fun hm => absurd hm hni, fun hc => by omega⟩
    · rw [hne j e1]; exact h.mem j hj
  · rw [hf t (by omega), h.tl, lastB_same (fun j _ => haa j)]
  · rw [hf _ (by have := h.ea i hi; omega)]; exact h.f0
  · rw [haa]
    by_cases e1 : j = i
    · subst e1; rw [hpi] at hc; exact h1 hc
    · rw [hne j e1] at hc
      have := h.ne j i hj hi e1
      rw [hf _ (by omega)]; exact h.f1 j hj hc
theorem ClhI.swap (h : ClhI t n f σ q e) {i : Nat} {p : Sp} (hi : i < n) (hs : ∀ j, σ' j = if j = i then p else σ j) (h2 : (σ i).pc = 2) (hp : p.pc = 3) (ha : p.a = (σ i).a) (hb : p.b = f t) (hf : ∀ y, f' y = if y = t then (σ i).a else f y) : ClhI t n f' σ' (q ++ [i]) e := by
  have hni : i ∉ q := fun hm => by have := (h.mem i hi).1 hm; omega
  have hne : ∀ j, j ≠ i → σ' j = σ j := fun j e => by rw [hs, if_neg e]
  have hpi : σ' i = p := by rw [hs, if_pos rfl]
  have hq : ∀ j ∈ q, j ≠ i := fun j hj e => hni (e ▸ hj)
  have haa : ∀ j, (σ' j).a = (σ j).a := fun j => by rw [hs]; split; (rename_i e1; rw [e1, ha]); rfl
  have fx : ∀ y : Int, 1 ≤ y → f' (t + y) = f (t + y) := fun y hy => by rw [hf, if_neg (by omega)]
  refine ⟨List.nodup_append.2 ⟨h.nd, by simp, fun x hx y hy e => by simp at hy; subst hy; exact hni (e ▸ hx)⟩, fun j hj => ?_, fun j hj => ?_, h.e0, fun j hj => by rw [haa]; exact h.a0 j hj, fun j k hj hk hn => by rw [haa, haa]; exact h.ne j k hj hk hn, fun j hj => by rw [haa]; exact h.ea j hj, ?_, ?_, by rw [fx _ h.e0.1]; exact h.f0, fun j hj hc => ?_, fun j hj => ?_⟩
  · rcases List.mem_append.1 hj with hj | hj
    · exact h.lt j hj
    · simp at hj; rw [hj]; exact hi
  · by_cases e1 : j = i
    · subst e1; rw [hpi, hp]; exact ⟨fun _ => by omega, fun _ => by simp⟩
    · rw [hne j e1]
      simp [e1]
      exact h.mem j hj
  · rw [hf, if_pos rfl, lastB_snoc, haa]
  · exact h.ck.snoc (fun j hj => by rw [hne j (hq j hj)]; exact ⟨rfl, rfl⟩) (by rw [hpi, hb, h.tl])
  · rw [haa, fx _ (h.a0 j hj).1]
    by_cases e1 : j = i
    · subst e1; exact h.f1 j hj (by omega)
    · rw [hne j e1] at hc; exact h.f1 j hj hc
  · cases q with
    | nil => simp at hj
    | cons a r =>
      simp only [List.cons_append, List.tail_cons] at hj
      rcases List.mem_append.1 hj with hj | hj
      · rw [hne j (hq j (by simp [hj]))]; exact h.w3 j hj
      · simp at hj; subst hj; rw [hpi, hp]
theorem ClhI.hdgo (h : ClhI t n f σ q e) {i : Nat} {p : Sp} (hi : i < n) (hs : ∀ j, σ' j = if j = i then p else σ j) {r : List Nat} (hq : q = i :: r) (hp : 3 ≤ p.pc) (ha : p.a = (σ i).a) (hb : p.b = (σ i).b) : ClhI t n f σ' q e := by
  have hne : ∀ j, j ≠ i → σ' j = σ j := fun j e => by rw [hs, if_neg e]
  have hpi : σ' i = p := by rw [hs, if_pos rfl]
  have haa : ∀ j, (σ' j).a = (σ j).a ∧ (σ' j).b = (σ j).b := fun j => by rw [hs]; split; (rename_i e1; rw [e1, ha, hb]; exact ⟨rfl, rfl⟩); exact ⟨rfl, rfl⟩
  have hm := (h.mem i hi).1 (by rw [hq]; simp)
  have hnd := h.nd
  refine ⟨h.nd, h.lt, fun j hj => ?_, h.e0, fun j hj => by rw [(haa j).1]; exact h.a0 j hj, fun j k hj hk hn => by rw [(haa j).1, (haa k).1]; exact h.ne j k hj hk hn, fun j hj => by rw [(haa j).1]; exact h.ea j hj, by rw [h.tl, lastB_same (fun j _ => (haa j).1)], h.ck.same (fun j _ => haa j), h.f0, fun j hj hc => ?_, fun j hj => ?_⟩
  · by_cases e1 : j = i
    · subst e1; rw [hpi]; exact ⟨fun _ => hp, fun _ => (h.mem j hj).2 hm⟩
    · rw [hne j e1]; exact h.mem j hj
  · rw [(haa j).1]
    by_cases e1 : j = i
    · subst e1; exact h.f1 j hj (by omega)
    · rw [hne j e1] at hc; exact h.f1 j hj hc
  · have e1 : j ≠ i := fun e2 => by
      subst e2
      rw [hq] at hj hnd
      exact (List.nodup_cons.1 hnd).1 hj
    rw [hne j e1]; exact h.w3 j hj
theorem ClhI.enter (h : ClhI t n f σ q e) {i : Nat} {p : Sp} (hi : i < n) (hs : ∀ j, σ' j = if j = i then p else σ j) (h3 : (σ i).pc = 3) (h0 : f (t + (σ i).b) = 0) (hp : p.pc = 10) (ha : p.a = (σ i).a) (hb : p.b = (σ i).b) : ClhI t n f σ' q e := by
  have hm := (h.mem i hi).2 (by omega)
  obtain ⟨r, hr⟩ : ∃ r, q = i :: r := by
    cases q with
    | nil => simp at hm
    | cons a r =>
      rcases List.mem_cons.1 hm with e1 | e1
      · exact ⟨r, by rw [e1]⟩
      · obtain ⟨j, hj, hjb⟩ := h.ck.prev (i := i) e1
        have hjn := h.lt j hj
        have := h.f1 j hjn (by have := (h.mem j hjn).1 hj; omega)
        rw [hjb] at h0; omega
  exact h.hdgo hi hs hr (by omega) ha hb
theorem ClhI.put (h : ClhI t n f σ q e) {i : Nat} {p : Sp} (hi : i < n) (hs : ∀ j, σ' j = if j = i then p else σ j) (hcc : (σ i).pc = 11) (hp : p.pc = 0) (ha : p.a = (σ i).b) (hf : ∀ y, f' y = if y = t + (σ i).a then 0 else f y) : ∃ r, q = i :: r ∧ ClhI t n f' σ' r (σ i).a := by
  obtain ⟨r, hr⟩ := h.head hi (by omega)
  refine ⟨r, hr, ?_⟩
  have hne : ∀ j, j ≠ i → σ' j = σ j := fun j e => by rw [hs, if_neg e]
  have hpi : σ' i = p := by rw [hs, if_pos rfl]
  have hck := h.ck
  have hnd := h.nd
  have htl := h.tl
  rw [hr] at hck hnd htl
  have hb : (σ i).b = e := hck.1
  have hnd2 := List.nodup_cons.1 hnd
  have hri : ∀ j ∈ r, j ≠ i := fun j hj e => hnd2.1 (e ▸ hj)
  have h0 := h.a0 i hi
  have fx : ∀ y : Int, y ≠ (σ i).a → f' (t + y) = f (t + y) := fun y hy => by rw [hf, if_neg (by omega)]
  refine ⟨hnd2.2, fun j hj => h.lt j (by rw [hr]; exact List.mem_cons_of_mem _ hj), fun j hj => ?_, h0, fun j hj => ?_, fun j k hj hk hn => ?_, fun j hj => ?_, ?_, hck.2.same (fun j hj => by rw [hne j (hri j hj)]; exact ⟨rfl, rfl⟩), by rw [hf, if_pos rfl], fun j hj hc => ?_, fun j hj => ?_⟩
  · by_cases e1 : j = i
    · subst e1; rw [hpi]; exact ⟨fun hm => absurd hm hnd2.1, fun hc => by omega⟩
    · have := h.mem j hj
      rw [hr, List.mem_cons] at this
      rw [hne j e1, ← this]
      exact ⟨.inr, fun hx => hx.resolve_left e1⟩
  · by_cases e1 : j = i
    · subst e1; rw [hpi, ha, hb]; exact h.e0
    · rw [hne j e1]; exact h.a0 j hj
  · by_cases e1 : j = i
    · subst e1
      rw [hpi, ha, hb, hne k (fun e2 => hn e2.symm)]
      exact fun e2 => h.ea k hk e2.symm
    · rw [hne j e1]
      by_cases e2 : k = i
      · subst e2; rw [hpi, ha, hb]; exact h.ea j hj
      · rw [hne k e2]; exact h.ne j k hj hk hn
  · by_cases e1 : j = i
    · subst e1; rw [hpi, ha, hb]; exact fun e2 => h.ea j hj e2.symm
    · rw [hne j e1]; exact h.ne j i hj hi e1
  · rw [hf, if_neg (by omega), htl]
    show lastB σ (σ i).a r = _
    exact (lastB_same (σ := σ) (σ' := σ') (fun j hj => by rw [hne j (hri j hj)])).symm
  · by_cases e1 : j = i
    · subst e1; rw [hpi] at hc; omega
    · rw [hne j e1] at hc ⊢
      rw [fx _ (h.ne j i hj hi e1)]; exact h.f1 j hj hc
  · have hj' := List.mem_of_mem_tail hj
    rw [hne j (hri j hj')]
    exact h.w3 j (by rw [hr]; exact hj')
end
end Go.Proofs.YtmlcfmickonfbaaGreat
end
