/- Joined: Lv1, Lv2. -/
import Derived.Test.YtmlcfmickonfbaaGreatMgReadersAll15
section
set_option linter.unusedVariables false
set_option linter.unusedSimpArgs false
/- Layers 15 to 20, plain: progress in a flat lock of any kind: which steps lead on, and that there is one. No program in sight. -/
namespace Go.Proofs.YtmlcfmickonfbaaGreat
open Go

/-- a slot whose step leads on -/
def FWit (k : Nat) (t m : Int) (W : List Int) (i : Nat) (p : Sp) : Prop :=
  if k = 1 then p.pc = 11 ∨ ((p.pc = 1 ∨ p.pc = 2) ∧ ldW W t = 0)
  else if k = 2 then p.pc = 1 ∨ p.pc = 11 ∨ (p.pc = 2 ∧ ldW W (t + 1) = p.a)
  else if k = 3 then p.pc = 1 ∨ p.pc = 11 ∨ (p.pc = 2 ∧ ldW W (pPl t m p.a) = p.a + 1)
  else if k = 4 then p.pc = 1 ∨ p.pc = 2 ∨ p.pc = 3 ∨ p.pc = 4 ∨ (p.pc = 5 ∧ ldW W (mWt t ((i : Int) + 1)) = 0) ∨ p.pc = 11 ∨ p.pc = 12 ∨ p.pc = 14 ∨ (p.pc = 13 ∧ ldW W (mNx t ((i : Int) + 1)) ≠ 0)
  else p.pc = 1 ∨ p.pc = 2 ∨ p.pc = 11 ∨ (p.pc = 3 ∧ ldW W (t + p.b) = 0)
/-- how far a slot is from where it goes -/
def fw (k : Nat) (fr : Bool) (p : Sp) : Nat :=
  if p.pc = 0 ∨ p.pc = 10 then 0
  else if 10 < p.pc then (if k = 4 then (15 - p.pc).toNat else 1)
  else if k = 1 then 21 + (if fr then (if p.pc = 1 then 0 else p.b.toNat) else 4)
  else (6 - p.pc).toNat
def freeK (t : Int) (W : List Int) : Bool := decide (ldW W t = 0)
/-- what a tas slot waits -/
def tasB (k : Nat) (p : Sp) : Prop := k = 1 → ((p.pc = 1 ∨ p.pc = 2) → 1 ≤ p.a ∧ p.a ≤ 4) ∧ (p.pc = 2 → 1 ≤ p.b ∧ p.b ≤ 4)
section
variable {k : Nat} {t m : Int} {s : Ar} {i : Nat} {p : Sp}
theorem pcK1 {k : Nat} {p : Sp} (hc : pcK k p) (h : k = 1) : p.pc = 0 ∨ p.pc = 1 ∨ p.pc = 2 ∨ p.pc = 10 ∨ p.pc = 11 := by subst h; exact hc
theorem fw_le (k : Nat) {fr : Bool} {p : Sp} (hc : pcK k p) (hb : tasB k p) : fw k fr p ≤ 25 := by
  unfold fw
  split
  · omega
  split
  · split <;> omega
  split
  · rename_i h1
    have h2 := hb h1
    have h3 := pcK1 hc h1
    split
    · split <;> omega
    · omega
  · unfold pcK mcsPc at hc
    have : 0 ≤ p.pc := by split at hc <;> (try split at hc) <;> omega
    omega
theorem fw_fr (k : Nat) {p : Sp} (hc : pcK k p) (hb : tasB k p) (a b : Bool) : fw k a p ≤ fw k b p + 4 ∧ (k ≠ 1 → fw k a p = fw k b p) ∧ fw k true p ≤ fw k false p := by
  unfold fw
  split
  · exact ⟨by omega, fun _ => rfl, Nat.le_refl _⟩
  split
  · exact ⟨by omega, fun _ => rfl, Nat.le_refl _⟩
  split
  · rename_i n0 n1 h1
    have h2 := hb h1
    have h3 := pcK1 hc h1
    refine ⟨?_, fun h => absurd h1 h, ?_⟩
    · split <;> split <;> (try split) <;> omega
    · simp only [reduceIte, Bool.false_eq_true]; split <;> omega
  · exact ⟨by omega, fun _ => rfl, Nat.le_refl _⟩
/-- a step of an active slot -/
structure FStep (k : Nat) (t m : Int) (s : Ar) (i : Nat) (p : Sp) (r : Ar × Sp) : Prop where
  tb : tasB k r.2
  go : FWit k t m s.W i p → cameK p r.2 = true ∨ ((k = 1 → freeK t r.1.W = freeK t s.W) ∧ fw k (freeK t r.1.W) r.2 < fw k (freeK t s.W) p)
  st : ¬ FWit k t m s.W i p → r.1.W = s.W ∧ cameK p r.2 = false ∧ ∀ fr, (k = 1 → fr = freeK t s.W) → fw k fr r.2 = fw k fr p
theorem lvs_tas (hb : tasB 1 p) (hm : 1 ≤ m ∧ m ≤ 4) (hin : inR s.W t = true) (hc : p.pc = 1 ∨ p.pc = 2 ∨ p.pc = 11) : FStep 1 t m s i p (tasK t m s i p) := by
  obtain ⟨pc, u, b, z⟩ := p
  have hb1 := hb rfl
  simp only at hb1 hc
  rcases hc with rfl | rfl | rfl
  · have hb2 := hb1.1 (.inl rfl)
    unfold tasK
    rw [if_pos rfl]
    have hcw := casA_W s t 0 ((i : Int) + 1)
    by_cases h0 : ldW s.W t = 0
    · have hcb : casB s t 0 = true := by unfold casB; rw [hin, h0]; rfl
      rw [hcb]
      exact ⟨fun _ => ⟨fun q => by simp at q, fun q => by simp at q⟩, fun _ => .inl rfl, fun q => absurd (.inr ⟨.inl rfl, h0⟩) q⟩
    · have hcb : casB s t 0 = false := by unfold casB; rw [hin]; simp [h0]
      rw [hcb] at hcw ⊢
      refine ⟨fun _ => ⟨fun _ => ?_, fun _ => ?_⟩, fun q => ?_, fun _ => ⟨by simpa using hcw, rfl, fun fr hfr => ?_⟩⟩
      · simp; omega
      · simp; omega
      · exfalso
        rcases q with q | q
        · simp at q
        · exact h0 q.2
      · rw [hfr rfl]; unfold freeK fw; rw [decide_eq_false h0]; simp
  · have hb2 := hb1.1 (.inr rfl)
    have hb3 := hb1.2 rfl
    unfold tasK
    rw [if_neg (by simp), if_pos rfl]
    have htb : tasB 1 ({ pc := if b - 1 = 0 then 1 else 2, a := u, b := b - 1, c := z } : Sp) := fun _ => ⟨fun _ => hb2, fun q => by
      simp only at q ⊢
      split at q
      · simp at q
      · omega⟩
    have hnc : cameK ⟨2, u, b, z⟩ ({ pc := if b - 1 = 0 then 1 else 2, a := u, b := b - 1, c := z } : Sp) = false := by
      unfold cameK
      split <;> simp
    refine ⟨htb, fun q => .inr ⟨fun _ => rfl, ?_⟩, fun q => ⟨rfl, hnc, fun fr hfr => ?_⟩⟩
    · have h0 : ldW s.W t = 0 := by
        rcases q with q | q
        · simp at q
        · exact q.2
      unfold freeK fw
      simp only [h0, decide_true]
      split
      · rename_i e; simp; omega
      · simp
        omega
    · have h0 : ¬ ldW s.W t = 0 := fun e => q (.inr ⟨.inr rfl, e⟩)
      rw [hfr rfl]
      unfold freeK fw
      simp only [h0, decide_false]
      split <;> simp
  · unfold tasK
    rw [if_neg (by simp), if_neg (by simp), if_pos rfl]
    exact ⟨fun _ => ⟨fun q => by simp at q, fun q => by simp at q⟩, fun _ => .inl rfl, fun q => absurd (.inl rfl) q⟩
theorem tasB_ne {k : Nat} (h : k ≠ 1) (p : Sp) : tasB k p := fun e => absurd e h
theorem lvs_tick (hc : p.pc = 1 ∨ p.pc = 2 ∨ p.pc = 11) : FStep 2 t m s i p (tickK t s p) := by
  obtain ⟨pc, u, b, z⟩ := p
  simp only at hc
  rcases hc with rfl | rfl | rfl
  · refine ⟨tasB_ne (by decide) _, fun _ => .inr ⟨fun h => absurd h (by decide), ?_⟩, fun q => absurd (.inl rfl) q⟩
    unfold tickK fw; simp
  · unfold tickK
    rw [if_neg (by simp), if_pos rfl]
    by_cases h0 : ldW s.W (t + 1) = u
    · refine ⟨tasB_ne (by decide) _, fun _ => .inl ?_, fun q => absurd (.inr (.inr ⟨rfl, h0⟩)) q⟩
      simp only [h0, reduceIte]; rfl
    · refine ⟨tasB_ne (by decide) _, fun q => ?_, fun _ => ⟨loadA_W _ _, ?_, fun fr _ => ?_⟩⟩
      · exfalso
        rcases q with q | q | q
        · simp at q
        · simp at q
        · exact h0 q.2
      · simp only [h0, reduceIte]; rfl
      · simp only [h0, reduceIte]
  · unfold tickK
    rw [if_neg (by simp), if_neg (by simp), if_pos rfl]
    exact ⟨tasB_ne (by decide) _, fun _ => .inl rfl, fun q => absurd (.inr (.inl rfl)) q⟩
theorem lvs_part (hc : p.pc = 1 ∨ p.pc = 2 ∨ p.pc = 11) : FStep 3 t m s i p (partK t m s p) := by
  obtain ⟨pc, u, b, z⟩ := p
  simp only at hc
  rcases hc with rfl | rfl | rfl
  · refine ⟨tasB_ne (by decide) _, fun _ => .inr ⟨fun h => absurd h (by decide), ?_⟩, fun q => absurd (.inl rfl) q⟩
    unfold partK fw; simp
  · unfold partK
    rw [if_neg (by simp), if_pos rfl]
    by_cases h0 : ldW s.W (pPl t m u) = u + 1
    · refine ⟨tasB_ne (by decide) _, fun _ => .inl ?_, fun q => absurd (.inr (.inr ⟨rfl, h0⟩)) q⟩
      simp only [h0, reduceIte]; rfl
    · refine ⟨tasB_ne (by decide) _, fun q => ?_, fun _ => ⟨loadA_W _ _, ?_, fun fr _ => ?_⟩⟩
      · exfalso
        rcases q with q | q | q
        · simp at q
        · simp at q
        · exact h0 q.2
      · simp only [h0, reduceIte]; rfl
      · simp only [h0, reduceIte]
  · unfold partK
    rw [if_neg (by simp), if_neg (by simp), if_pos rfl]
    exact ⟨tasB_ne (by decide) _, fun _ => .inl rfl, fun q => absurd (.inr (.inl rfl)) q⟩
theorem lvs_clh (hc : p.pc = 1 ∨ p.pc = 2 ∨ p.pc = 3 ∨ p.pc = 11) : FStep 5 t m s i p (clhK t s p) := by
  obtain ⟨pc, u, b, z⟩ := p
  simp only at hc
  rcases hc with rfl | rfl | rfl | rfl
  · refine ⟨tasB_ne (by decide) _, fun _ => .inr ⟨fun h => absurd h (by decide), ?_⟩, fun q => absurd (.inl rfl) q⟩
    unfold clhK fw; simp
  · refine ⟨tasB_ne (by decide) _, fun _ => .inr ⟨fun h => absurd h (by decide), ?_⟩, fun q => absurd (.inr (.inl rfl)) q⟩
    unfold clhK fw; simp
  · unfold clhK
    rw [if_neg (by simp), if_neg (by simp), if_pos rfl]
    by_cases h0 : ldW s.W (t + b) = 0
    · refine ⟨tasB_ne (by decide) _, fun _ => .inl ?_, fun q => absurd (.inr (.inr (.inr ⟨rfl, h0⟩))) q⟩
      simp only [h0, reduceIte]; rfl
    · refine ⟨tasB_ne (by decide) _, fun q => ?_, fun _ => ⟨loadA_W _ _, ?_, fun fr _ => ?_⟩⟩
      · exfalso
        rcases q with q | q | q | q
        · simp at q
        · simp at q
        · simp at q
        · exact h0 q.2
      · simp only [h0, reduceIte]; rfl
      · simp only [h0, reduceIte]
  · unfold clhK
    rw [if_neg (by simp), if_neg (by simp), if_neg (by simp), if_pos rfl]
    exact ⟨tasB_ne (by decide) _, fun _ => .inl rfl, fun q => absurd (.inr (.inr (.inl rfl))) q⟩
theorem lvs_mcs (hc : mcsPc p) (hn : p.pc ≠ 0 ∧ p.pc ≠ 10) : FStep 4 t m s i p (mcsK t s i p) := by
  obtain ⟨pc, u, b, z⟩ := p
  unfold mcsPc at hc
  simp only at hc hn
  have h4 : tasB 4 (mcsK t s i ⟨pc, u, b, z⟩).2 := tasB_ne (by decide) _
  have hcs : pc = 1 ∨ pc = 2 ∨ pc = 3 ∨ pc = 4 ∨ pc = 5 ∨ pc = 11 ∨ pc = 12 ∨ pc = 13 ∨ pc = 14 := by omega
  have nk : ¬ ((4 : Nat) = 1) := by decide
  refine ⟨h4, fun q => ?_, fun q => ?_⟩
  · rcases hcs with rfl | rfl | rfl | rfl | rfl | rfl | rfl | rfl | rfl
    · right; exact ⟨fun h => absurd h nk, by simp [mcsK, mcsIn, fw]⟩
    · right; exact ⟨fun h => absurd h nk, by simp [mcsK, mcsIn, fw]⟩
    · by_cases h0 : ldW s.W t = 0
      · left; simp [mcsK, mcsIn, h0, cameK]
      · right; exact ⟨fun h => absurd h nk, by simp [mcsK, mcsIn, h0, fw]⟩
    · right; exact ⟨fun h => absurd h nk, by simp [mcsK, mcsIn, fw]⟩
    · have h0 : ldW s.W (mWt t ((i : Int) + 1)) = 0 := by
        unfold FWit at q
        simp at q
        exact q
      left; simp [mcsK, mcsIn, h0, cameK]
    · right
      refine ⟨fun h => absurd h nk, ?_⟩
      by_cases h0 : ldW s.W (mNx t ((i : Int) + 1)) = 0
      · simp [mcsK, mcsOut, h0, fw]
      · simp [mcsK, mcsOut, h0, fw]
    · by_cases h0 : casB s t ((i : Int) + 1) = true
      · left; simp [mcsK, mcsOut, h0, cameK]
      · right; exact ⟨fun h => absurd h nk, by simp [mcsK, mcsOut, h0, fw]⟩
    · have h0 : ldW s.W (mNx t ((i : Int) + 1)) ≠ 0 := by
        unfold FWit at q
        simp at q
        exact q
      right; exact ⟨fun h => absurd h nk, by simp [mcsK, mcsOut, h0, fw]⟩
    · left; simp [mcsK, mcsOut, cameK]
  · unfold FWit at q
    simp only [reduceIte, show ¬ (4 = 1) by decide, show ¬ (4 = 2) by decide, show ¬ (4 = 3) by decide] at q
    rcases hcs with rfl | rfl | rfl | rfl | rfl | rfl | rfl | rfl | rfl
    · simp at q
    · simp at q
    · simp at q
    · simp at q
    · have h0 : ldW s.W (mWt t ((i : Int) + 1)) ≠ 0 := by simpa using q
      refine ⟨by simp [mcsK, mcsIn, loadA_W], by simp [mcsK, mcsIn, h0, cameK], fun fr _ => by simp [mcsK, mcsIn, h0]⟩
    · simp at q
    · simp at q
    · have h0 : ldW s.W (mNx t ((i : Int) + 1)) = 0 := by simpa using q
      refine ⟨by simp [mcsK, mcsOut, loadA_W], by simp [mcsK, mcsOut, h0, cameK], fun fr _ => by simp [mcsK, mcsOut, h0, fw]⟩
    · simp at q
/-- a step of an active slot of any kind -/
theorem lv_step (hk : 1 ≤ k ∧ k ≤ 5) (hc : pcK k p) (hb : tasB k p) (hm : 1 ≤ m ∧ m ≤ 4) (hin : inR s.W t = true) (hn : p.pc ≠ 0 ∧ p.pc ≠ 10) : FStep k t m s i p (stepK k t m s i p) := by
  have hk' : k = 1 ∨ k = 2 ∨ k = 3 ∨ k = 4 ∨ k = 5 := by omega
  rcases hk' with rfl | rfl | rfl | rfl | rfl
  · exact lvs_tas hb hm hin (by have h : p.pc = 0 ∨ p.pc = 1 ∨ p.pc = 2 ∨ p.pc = 10 ∨ p.pc = 11 := hc; omega)
  · exact lvs_tick (by have h : p.pc = 0 ∨ p.pc = 1 ∨ p.pc = 2 ∨ p.pc = 10 ∨ p.pc = 11 := hc; omega)
  · exact lvs_part (by have h : p.pc = 0 ∨ p.pc = 1 ∨ p.pc = 2 ∨ p.pc = 10 ∨ p.pc = 11 := hc; omega)
  · exact lvs_mcs hc hn
  · exact lvs_clh (by have h : p.pc = 0 ∨ p.pc = 1 ∨ p.pc = 2 ∨ p.pc = 3 ∨ p.pc = 10 ∨ p.pc = 11 := hc; omega)
end
end Go.Proofs.YtmlcfmickonfbaaGreat
end
section
set_option linter.unusedVariables false
set_option linter.unusedSimpArgs false
/- Layers 15 to 20, plain: a flat lock never stands still: what holds behind any steps, that one slot's step leads on, who is not alone. No program in sight. -/
namespace Go.Proofs.YtmlcfmickonfbaaGreat
open Go

/-- each ticket that is out, and not yet served, is a slot's -/
def OwnK (n : Nat) (σ : Nat → Sp) (v0 v1 : Int) : Prop := ∀ v, v0 ≤ v → v < v1 → ∃ i, i < n ∧ ((σ i).pc = 2 ∨ (σ i).pc = 10 ∨ (σ i).pc = 11) ∧ (σ i).a = v
def LvF (k : Nat) (t m : Int) (n : Nat) (f : Int → Int) (σ : Nat → Sp) : Prop :=
  if k = 1 then f t ≠ 0 → ∃ i, i < n ∧ ((σ i).pc = 10 ∨ (σ i).pc = 11) else if k = 2 then OwnK n σ (f (t + 1)) (f t)
  else if k = 3 then ∀ v, PartI t m n f σ v → OwnK n σ v (f t) else if k = 4 then ∀ i, i < n → (σ i).pc = 13 → f t ≠ (i : Int) + 1 else True
section
variable {t m : Int} {n k : Nat} {f f' : Int → Int} {σ σ' : Nat → Sp}
theorem OwnK.off {v0 v1 : Int} (h : OwnK n σ v0 v1) {i : Nat} {p : Sp} (hs : ∀ j, σ' j = if j = i then p else σ j) (ha : p.a = (σ i).a) (hp : ((σ i).pc = 2 ∨ (σ i).pc = 10 ∨ (σ i).pc = 11) → p.pc = 2 ∨ p.pc = 10 ∨ p.pc = 11) : OwnK n σ' v0 v1 := fun v h1 h2 => by
  obtain ⟨j, hj, hc, he⟩ := h v h1 h2
  refine ⟨j, hj, ?_, ?_⟩
  · rw [hs]; split
    · rename_i e; rw [e] at hc; exact hp hc
    · exact hc
  · rw [hs]; split
    · rename_i e; rw [ha, ← e]; exact he
    · exact he
theorem OwnK.take {v0 v1 : Int} (h : OwnK n σ v0 v1) {i : Nat} {p : Sp} (hi : i < n) (hs : ∀ j, σ' j = if j = i then p else σ j) (h1 : (σ i).pc = 1) (hp : p.pc = 2) (ha : p.a = v1) : OwnK n σ' v0 (v1 + 1) := fun v g1 g2 => by
  by_cases e : v = v1
  · exact ⟨i, hi, by rw [hs, if_pos rfl]; exact .inl hp, by rw [hs, if_pos rfl, ha, e]⟩
  · obtain ⟨j, hj, hc, he⟩ := h v g1 (by omega)
    have hne : j ≠ i := fun e2 => by rw [e2] at hc; omega
    exact ⟨j, hj, by rw [hs, if_neg hne]; exact hc, by rw [hs, if_neg hne]; exact he⟩
theorem OwnK.put {v0 v1 : Int} (h : OwnK n σ v0 v1) {i : Nat} {p : Sp} (hs : ∀ j, σ' j = if j = i then p else σ j) (ha : (σ i).a = v0) : OwnK n σ' (v0 + 1) v1 := fun v g1 g2 => by
  obtain ⟨j, hj, hc, he⟩ := h v (by omega) g2
  have hne : j ≠ i := fun e2 => by rw [e2] at he; omega
  exact ⟨j, hj, by rw [hs, if_neg hne]; exact hc, by rw [hs, if_neg hne]; exact he⟩
theorem PartI.uni (hm : 1 ≤ m) {v v' : Int} (h : PartI t m n f σ v) (h' : PartI t m n f σ' v') : v = v' := by
  have key : ∀ {v v' : Int} {σ σ' : Nat → Sp}, PartI t m n f σ v → PartI t m n f σ' v' → v ≤ v' := fun {v v' σ σ'} h h' => by
    have h1 := h.sv
    have h2 := h'.pl (v % m) (Int.emod_nonneg v (by omega)) (Int.emod_lt_of_pos v (by omega))
    have e : pPl t m v = t + 1 + v % m := rfl
    rw [e] at h1
    omega
  have := key h h'
  have := key h' h
  omega
end
section
variable {t m : Int} {n k : Nat} {s : Ar} {S : List Sp}
theorem lv_tas (h : FInv 1 t m n s.W S) (hl : LvF 1 t m n (ldW s.W) (sv S)) {i : Nat} (hi : i < n) : LvF 1 t m n (ldW (tasK t m s i (sv S i)).1.W) (sv (S.set i (tasK t m s i (sv S i)).2)) := by
  have hL : i < S.length := by rw [h.len]; exact hi
  have ho : t < t + szI 1 n m := by unfold szI; rw [if_pos rfl]; omega
  have hin := inOwn h (Int.le_refl t) ho
  have hl' : ldW s.W t ≠ 0 → ∃ i, i < n ∧ ((sv S i).pc = 10 ∨ (sv S i).pc = 11) := hl
  have keep : ∀ (p : Sp), ((sv S i).pc = 10 ∨ (sv S i).pc = 11 → p.pc = 10 ∨ p.pc = 11) → ldW s.W t ≠ 0 → ∃ j, j < n ∧ ((sv (S.set i p) j).pc = 10 ∨ (sv (S.set i p) j).pc = 11) := fun p hp h0 => by
    obtain ⟨j, hj, hc⟩ := hl' h0
    refine ⟨j, hj, ?_⟩
    rw [svS hL]
    split
    · rename_i e; rw [e] at hc; exact hp hc
    · exact hc
  unfold tasK
  split
  · rename_i hpc
    have hcw := casA_W s t 0 ((i : Int) + 1)
    by_cases h0 : ldW s.W t = 0
    · have hb : casB s t 0 = true := by unfold casB; rw [hin, h0]; rfl
      rw [hb]
      intro _
      exact ⟨i, hi, by rw [svS hL, if_pos rfl]; exact .inl rfl⟩
    · have hb : casB s t 0 = false := by unfold casB; rw [hin]; simp [h0]
      rw [hb] at hcw ⊢
      rw [if_neg (by decide)] at hcw
      show ldW (casA s t 0 ((i : Int) + 1)).W t ≠ 0 → _
      rw [hcw]
      exact keep _ (by omega)
  split
  · exact keep _ (by simp only; intro q; omega)
  split
  · have hw := own_st h (Int.le_refl t) ho 0
    show ldW (storeA s t 0).W t ≠ 0 → _
    rw [storeA_W, hw.1, if_pos rfl]
    intro q; exact absurd rfl q
  · exact keep _ id
theorem lv_tick (h : FInv 2 t m n s.W S) (hl : LvF 2 t m n (ldW s.W) (sv S)) {B : Int} (hW : WdB B s) (hB : 0 ≤ B) (hB2 : B ≤ 10000000000000) {i : Nat} (hi : i < n) : LvF 2 t m n (ldW (tickK t s (sv S i)).1.W) (sv (S.set i (tickK t s (sv S i)).2)) := by
  have hL : i < S.length := by rw [h.len]; exact hi
  have hI : TickI t n (ldW s.W) (sv S) := h.i
  have hl' : OwnK n (sv S) (ldW s.W (t + 1)) (ldW s.W t) := hl
  have hz : szI 2 n m = 2 := rfl
  unfold tickK
  split
  · rename_i h1
    have hw := own_st h (Int.le_refl t) (by rw [hz]; omega) (ldW s.W t + 1)
    have hld := hW.ld hB t
    show OwnK n _ (ldW (addA s t 1).W (t + 1)) (ldW (addA s t 1).W t)
    rw [addA_W, IntWalk.i64_in _ (by omega), hw.1, hw.1, if_neg (by omega), if_pos rfl]
    exact hl'.take hi (svS hL _) h1 rfl rfl
  split
  · show OwnK n _ (ldW (loadA s (t + 1)).W (t + 1)) (ldW (loadA s (t + 1)).W t)
    rw [loadA_W]
    exact hl'.off (svS hL _) rfl (fun _ => by simp only; split <;> simp)
  split
  · rename_i h11
    have hw := own_st h (show t ≤ t + 1 by omega) (by rw [hz]; omega) ((sv S i).a + 1)
    have hd := hI.hd i hi (.inr h11)
    show OwnK n _ (ldW (storeA s (t + 1) _).W (t + 1)) (ldW (storeA s (t + 1) _).W t)
    rw [storeA_W, hw.1, hw.1, if_pos rfl, if_neg (by omega), hd.1]
    exact hl'.put (svS hL _) hd.1
  · exact hl'.off (svS hL _) rfl id
theorem lv_part (h : FInv 3 t m n s.W S) (hl : LvF 3 t m n (ldW s.W) (sv S)) {B : Int} (hW : WdB B s) (hB : 0 ≤ B) (hB2 : B ≤ 10000000000000) {i : Nat} (hi : i < n) : LvF 3 t m n (ldW (partK t m s (sv S i)).1.W) (sv (S.set i (partK t m s (sv S i)).2)) := by
  have hL : i < S.length := by rw [h.len]; exact hi
  obtain ⟨v, hI⟩ : ∃ v, PartI t m n (ldW s.W) (sv S) v := h.i
  have hl' : OwnK n (sv S) v (ldW s.W t) := (show ∀ v, PartI t m n (ldW s.W) (sv S) v → OwnK n (sv S) v (ldW s.W t) from hl) v hI
  have hm := h.m1
  have hz : szI 3 n m = 1 + m := rfl
  unfold partK
  split
  · rename_i h1
    have hw := own_st h (Int.le_refl t) (by rw [hz]; omega) (ldW s.W t + 1)
    have hld := hW.ld hB t
    show ∀ v, PartI t m n (ldW (addA s t 1).W) _ v → OwnK n _ v (ldW (addA s t 1).W t)
    rw [addA_W, IntWalk.i64_in _ (by omega)]
    intro v' hv'
    have hN := hI.take hm (svS hL { (sv S i) with a := ldW s.W t, pc := 2 }) rfl rfl hw.1
    rw [hv'.uni hm hN, hw.1, if_pos rfl]
    exact hl'.take hi (svS hL _) h1 rfl rfl
  split
  · rename_i h2
    show ∀ v, PartI t m n (ldW (loadA s _).W) _ v → OwnK n _ v (ldW (loadA s _).W t)
    rw [loadA_W]
    intro v' hv'
    rw [hv'.uni hm hI]
    exact hl'.off (svS hL _) rfl (fun _ => by simp only; split <;> simp)
  split
  · rename_i h11
    have hp := pPl_own t hm ((sv S i).a + 1)
    have hw := own_st h (show t ≤ pPl t m ((sv S i).a + 1) by omega) (by rw [hz]; omega) ((sv S i).a + 2)
    have hd := hI.hd i hi (.inr h11)
    show ∀ v, PartI t m n (ldW (storeA s _ _).W) _ v → OwnK n _ v (ldW (storeA s _ _).W t)
    rw [storeA_W]
    intro v' hv'
    have hN := hI.put hm hi (svS hL { (sv S i) with pc := 0 }) h11 rfl hw.1
    rw [hv'.uni hm hN, hw.1, if_neg (by omega)]
    exact hl'.put (svS hL _) hd.1
  · intro v' hv'
    rw [hv'.uni hm hI]
    exact hl'.off (svS hL _) rfl id
theorem lv_mcs (h : FInv 4 t m n s.W S) (hl : LvF 4 t m n (ldW s.W) (sv S)) {i : Nat} (hi : i < n) (hc : mcsPc (sv S i)) : LvF 4 t m n (ldW (mcsK t s i (sv S i)).1.W) (sv (S.set i (mcsK t s i (sv S i)).2)) := by
  have hL : i < S.length := by rw [h.len]; exact hi
  obtain ⟨q, hI⟩ : ∃ q, McsI t n (ldW s.W) (sv S) q := h.i
  have hl' : ∀ i, i < n → (sv S i).pc = 13 → ldW s.W t ≠ (i : Int) + 1 := hl
  have hz : szI 4 n m = 1 + 2 * (n : Int) := rfl
  have own : ∀ j, j < n → (t ≤ nxI t j ∧ nxI t j < t + szI 4 n m) ∧ (t ≤ wtI t j ∧ wtI t j < t + szI 4 n m) := fun j hj => by rw [hz]; unfold nxI wtI; omega
  have key : ∀ (W' : List Int) (p : Sp), (∀ j, j < n → j ≠ i → (sv S j).pc = 13 → ldW W' t ≠ (j : Int) + 1) → (p.pc = 13 → ldW W' t ≠ (i : Int) + 1) → LvF 4 t m n (ldW W') (sv (S.set i p)) := fun W' p h1 h2 => by
    show ∀ j, j < n → (sv (S.set i p) j).pc = 13 → ldW W' t ≠ (j : Int) + 1
    intro j hj hc
    rw [svS hL] at hc
    split at hc
    · rename_i e; rw [e]; exact h2 hc
    · rename_i e; exact h1 j hj e hc
  have same : ∀ (W' : List Int) (p : Sp), ldW W' t = ldW s.W t → (p.pc = 13 → ldW s.W t ≠ (i : Int) + 1) → LvF 4 t m n (ldW W') (sv (S.set i p)) := fun W' p e h2 => key W' p (fun j hj _ hc => by rw [e]; exact hl' j hj hc) (fun q => by rw [e]; exact h2 q)
  unfold mcsPc at hc
  unfold mcsK
  split
  · rename_i hin
    unfold mcsIn
    rw [mNx_i, mWt_i]
    split
    · have hw := own_st h (own i hi).1.1 (own i hi).1.2 0
      exact same _ _ (by show ldW (storeA _ _ _).W t = _; rw [storeA_W, hw.1, if_neg (by unfold nxI; omega)]) (by simp)
    split
    · have hw := own_st h (own i hi).2.1 (own i hi).2.2 1
      exact same _ _ (by show ldW (storeA _ _ _).W t = _; rw [storeA_W, hw.1, if_neg (by unfold wtI; omega)]) (by simp)
    split
    · have hw := own_st h (Int.le_refl t) (by rw [hz]; omega) ((i : Int) + 1)
      refine key _ _ (fun j hj hji _ => ?_) (fun q => by simp only at q; split at q <;> omega)
      show ldW (swapA _ _ _).W t ≠ _
      rw [swapA_W, hw.1, if_pos rfl]
      omega
    split
    · rename_i h4
      obtain ⟨b, hb, hab, hT⟩ := hI.tell hi (svS hL { (sv S i) with pc := 5 }) h4 rfl
      have e : mNx t (sv S i).a = nxI t b := by rw [hab, mNx_i]
      rw [e]
      have hw := own_st h (own b hb).1.1 (own b hb).1.2 ((i : Int) + 1)
      exact same _ _ (by show ldW (storeA _ _ _).W t = _; rw [storeA_W, hw.1, if_neg (by unfold nxI; omega)]) (by simp)
    · exact same _ _ (by show ldW (loadA _ _).W t = _; rw [loadA_W]) (by simp only; split <;> simp)
  split
  · rename_i hout
    unfold mcsOut
    rw [mNx_i]
    split
    · rename_i h12
      have hw := own_st h (Int.le_refl t) (by rw [hz]; omega) 0
      have hcw := casA_W s t ((i : Int) + 1) 0
      have hir := inOwn h (Int.le_refl t) (by rw [hz]; omega)
      by_cases h0 : ldW s.W t = (i : Int) + 1
      · have hb : casB s t ((i : Int) + 1) = true := by unfold casB; rw [hir, h0]; simp
        rw [hb] at hcw ⊢
        rw [if_pos rfl] at hcw
        refine key _ _ (fun j hj hji _ => ?_) (fun q => by simp at q)
        show ldW (casA _ _ _ _).W t ≠ _
        rw [hcw, hw.1, if_pos rfl]
        omega
      · have hb : casB s t ((i : Int) + 1) = false := by unfold casB; rw [hir]; simp [h0]
        rw [hb] at hcw ⊢
        rw [if_neg (by decide)] at hcw
        exact same _ _ (by show ldW (casA _ _ _ _).W t = _; rw [hcw]) (fun _ => h0)
    split
    · rename_i h14
      obtain ⟨b, r, hr, hb, hab, hT⟩ := hI.hand hi (svS hL { (sv S i) with pc := 0 }) h14 rfl
      have e : mWt t (sv S i).a = wtI t b := by rw [hab, mWt_i]
      rw [e]
      have hw := own_st h (own b hb).2.1 (own b hb).2.2 0
      exact same _ _ (by show ldW (storeA _ _ _).W t = _; rw [storeA_W, hw.1, if_neg (by unfold wtI; omega)]) (by simp)
    · refine same _ _ (by show ldW (loadA _ _).W t = _; rw [loadA_W]) (fun q => ?_)
      simp only at q
      split at q
      · omega
      split at q
      · omega
      · exact hl' i hi (by omega)
  · exact same _ _ rfl (fun q => hl' i hi q)
/-- a step keeps it -/
theorem LvF.step (h : FInv k t m n s.W S) (hk : 1 ≤ k ∧ k ≤ 5) (hl : LvF k t m n (ldW s.W) (sv S)) {B : Int} (hW : WdB B s) (hB : 0 ≤ B) (hB2 : B ≤ 10000000000000) {i : Nat} (hi : i < n) (hc : pcK k (sv S i)) : LvF k t m n (ldW (stepK k t m s i (sv S i)).1.W) (sv (S.set i (stepK k t m s i (sv S i)).2)) := by
  have hk' : k = 1 ∨ k = 2 ∨ k = 3 ∨ k = 4 ∨ k = 5 := by omega
  rcases hk' with rfl | rfl | rfl | rfl | rfl
  · exact lv_tas h hl hi
  · exact lv_tick h hl hW hB hB2 hi
  · exact lv_part h hl hW hB hB2 hi
  · exact lv_mcs h hl hi hc
  · trivial
/-- an ask, a leave keep it -/
theorem LvF.upd {W : List Int} (h : FInv k t m n W S) (hk : 1 ≤ k ∧ k ≤ 5) (hl : LvF k t m n (ldW W) (sv S)) {i : Nat} (hi : i < n) {p : Sp} (hp : ((sv S i).pc = 0 ∧ p.pc = 1) ∨ ((sv S i).pc = 10 ∧ p.pc = 11 ∧ p.a = (sv S i).a)) : LvF k t m n (ldW W) (sv (S.set i p)) := by
  have hL : i < S.length := by rw [h.len]; exact hi
  have own : ∀ {v0 v1 : Int}, OwnK n (sv S) v0 v1 → OwnK n (sv (S.set i p)) v0 v1 := fun {v0 v1} q v g1 g2 => by
    obtain ⟨j, hj, hc, he⟩ := q v g1 g2
    refine ⟨j, hj, ?_, ?_⟩
    · rw [svS hL]; split
      · rename_i e; rw [e] at hc; omega
      · exact hc
    · rw [svS hL]; split
      · rename_i e; rw [e] at hc he; rcases hp with hp | hp
        · omega
        · rw [hp.2.2]; exact he
      · exact he
  have hk' : k = 1 ∨ k = 2 ∨ k = 3 ∨ k = 4 ∨ k = 5 := by omega
  rcases hk' with rfl | rfl | rfl | rfl | rfl
  · have hl' : ldW W t ≠ 0 → ∃ i, i < n ∧ ((sv S i).pc = 10 ∨ (sv S i).pc = 11) := hl
    show ldW W t ≠ 0 → ∃ j, j < n ∧ ((sv (S.set i p) j).pc = 10 ∨ (sv (S.set i p) j).pc = 11)
    intro h0
    obtain ⟨j, hj, hc⟩ := hl' h0
    clear hl hl'
    refine ⟨j, hj, ?_⟩
    rw [svS hL]
    split
    · rename_i e; rw [e] at hc; omega
    · exact hc
  · exact own hl
  · obtain ⟨v, hI⟩ : ∃ v, PartI t m n (ldW W) (sv S) v := h.i
    have hl' : OwnK n (sv S) v (ldW W t) := (show ∀ v, PartI t m n (ldW W) (sv S) v → OwnK n (sv S) v (ldW W t) from hl) v hI
    show ∀ v, PartI t m n (ldW W) _ v → OwnK n _ v (ldW W t)
    intro v' hv'
    rw [hv'.uni h.m1 hI]
    exact own hl'
  · have hl' : ∀ i, i < n → (sv S i).pc = 13 → ldW W t ≠ (i : Int) + 1 := hl
    show ∀ j, j < n → (sv (S.set i p) j).pc = 13 → ldW W t ≠ (j : Int) + 1
    intro j hj hc
    rw [svS hL] at hc
    split at hc
    · omega
    · exact hl' j hj hc
  · trivial
theorem LvF.congr {f f' : Int → Int} {σ : Nat → Sp} (hl : LvF k t m n f σ) (hk : 1 ≤ k ∧ k ≤ 5) (hm : 1 ≤ m) (hf : ∀ y, t ≤ y → y < t + szI k n m → f' y = f y) : LvF k t m n f' σ := by
  have hk' : k = 1 ∨ k = 2 ∨ k = 3 ∨ k = 4 ∨ k = 5 := by omega
  rcases hk' with rfl | rfl | rfl | rfl | rfl
  · have e0 := hf t (by omega) (by unfold szI; simp <;> omega)
    show f' t ≠ 0 → _
    rw [e0]; exact hl
  · have e0 := hf t (by omega) (by unfold szI; simp <;> omega)
    have e1 := hf (t + 1) (by omega) (by unfold szI; simp <;> omega)
    show OwnK n σ (f' (t + 1)) (f' t)
    rw [e0, e1]; exact hl
  · have e0 := hf t (by omega) (by unfold szI; simp <;> omega)
    have hz : szI 3 n m = 1 + m := rfl
    show ∀ v, PartI t m n f' σ v → OwnK n σ v (f' t)
    intro v hv
    rw [e0]
    have ep := pPl_own t hm v
    exact (show ∀ v, PartI t m n f σ v → OwnK n σ v (f t) from hl) v ⟨hv.v0, by rw [← e0]; exact hv.le, fun i hi hc => by rw [← e0]; exact hv.w i hi hc, fun i hi hc => by rw [← e0]; exact hv.hd i hi hc, hv.ne, fun k k0 k1 => by rw [← hf _ (by omega) (by rw [hz]; omega)]; exact hv.pl k k0 k1, by rw [← hf _ (by omega) (by rw [hz]; omega)]; exact hv.sv⟩
  · have e0 := hf t (by omega) (by unfold szI; simp <;> omega)
    show ∀ i, i < n → (σ i).pc = 13 → f' t ≠ (i : Int) + 1
    rw [e0]; exact hl
  · trivial
/-- of who is at 10 or on there is one -/
theorem fl_one10 {W : List Int} (h : FInv k t m n W S) (hk : 1 ≤ k ∧ k ≤ 5) {i j : Nat} (hi : i < n) (hj : j < n) (hci : pcK k (sv S i)) (hcj : pcK k (sv S j)) (h1 : 10 ≤ (sv S i).pc) (h2 : 10 ≤ (sv S j).pc) : i = j := by
  have hk' : k = 1 ∨ k = 2 ∨ k = 3 ∨ k = 4 ∨ k = 5 := by omega
  have s3 : ∀ {p : Sp}, (p.pc = 0 ∨ p.pc = 1 ∨ p.pc = 2 ∨ p.pc = 10 ∨ p.pc = 11) → 10 ≤ p.pc → p.pc = 10 ∨ p.pc = 11 := fun h1 h2 => by omega
  rcases hk' with rfl | rfl | rfl | rfl | rfl
  · have hI : TasI t n (ldW W) (sv S) := h.i
    have e1 := hI i hi (s3 hci h1)
    have e2 := hI j hj (s3 hcj h2)
    omega
  · have hI : TickI t n (ldW W) (sv S) := h.i
    have e1 := s3 hci h1
    have e2 := s3 hcj h2
    have a1 := hI.hd i hi e1
    have a2 := hI.hd j hj e2
    by_cases e : i = j
    · exact e
    · exact absurd (by omega) (hI.ne i j hi hj e (.inr e1) (.inr e2))
  · obtain ⟨v, hI⟩ : ∃ v, PartI t m n (ldW W) (sv S) v := h.i
    have e1 := s3 hci h1
    have e2 := s3 hcj h2
    have a1 := hI.hd i hi e1
    have a2 := hI.hd j hj e2
    by_cases e : i = j
    · exact e
    · exact absurd (by omega) (hI.ne i j hi hj e (.inr e1) (.inr e2))
  · obtain ⟨q, hI⟩ : ∃ q, McsI t n (ldW W) (sv S) q := h.i
    obtain ⟨r, e1⟩ := hI.head hi h1
    obtain ⟨r', e2⟩ := hI.head hj h2
    rw [e1] at e2
    injection e2
  · obtain ⟨q, e, hI⟩ : ∃ q e, ClhI t n (ldW W) (sv S) q e := h.i
    obtain ⟨r, e1⟩ := hI.head hi h1
    obtain ⟨r', e2⟩ := hI.head hj h2
    rw [e1] at e2
    injection e2
/-- where some slot is active, and none holds, some slot's step leads on -/
theorem fl_alive {W : List Int} (h : FInv k t m n W S) (hk : 1 ≤ k ∧ k ≤ 5) (hl : LvF k t m n (ldW W) (sv S)) (hc : ∀ i, i < n → pcK k (sv S i)) (hno : ∀ i, i < n → (sv S i).pc ≠ 10) {i : Nat} (hi : i < n) (ha : (sv S i).pc ≠ 0) : ∃ j, j < n ∧ (sv S j).pc ≠ 0 ∧ FWit k t m W j (sv S j) := by
  have hk' : k = 1 ∨ k = 2 ∨ k = 3 ∨ k = 4 ∨ k = 5 := by omega
  have hi10 := hno i hi
  have hci := hc i hi
  rcases hk' with rfl | rfl | rfl | rfl | rfl
  · have hl' : ldW W t ≠ 0 → ∃ i, i < n ∧ ((sv S i).pc = 10 ∨ (sv S i).pc = 11) := hl
    by_cases h0 : ldW W t = 0
    · have hci' : (sv S i).pc = 0 ∨ (sv S i).pc = 1 ∨ (sv S i).pc = 2 ∨ (sv S i).pc = 10 ∨ (sv S i).pc = 11 := hci
      clear hl hl'
      refine ⟨i, hi, ha, ?_⟩
      show (sv S i).pc = 11 ∨ (((sv S i).pc = 1 ∨ (sv S i).pc = 2) ∧ ldW W t = 0)
      omega
    · obtain ⟨j, hj, e⟩ := hl' h0
      have := hno j hj
      exact ⟨j, hj, by omega, .inl (by omega)⟩
  · have hl' : OwnK n (sv S) (ldW W (t + 1)) (ldW W t) := hl
    have hI : TickI t n (ldW W) (sv S) := h.i
    have hci' : (sv S i).pc = 0 ∨ (sv S i).pc = 1 ∨ (sv S i).pc = 2 ∨ (sv S i).pc = 10 ∨ (sv S i).pc = 11 := hci
    by_cases h2 : (sv S i).pc = 2
    · have hw := hI.w i hi h2
      obtain ⟨j, hj, e, ej⟩ := hl' (ldW W (t + 1)) (by omega) (by omega)
      have := hno j hj
      refine ⟨j, hj, by omega, ?_⟩
      show (sv S j).pc = 1 ∨ (sv S j).pc = 11 ∨ ((sv S j).pc = 2 ∧ ldW W (t + 1) = (sv S j).a)
      rcases e with e | e | e
      · exact .inr (.inr ⟨e, ej.symm⟩)
      · omega
      · exact .inr (.inl e)
    · refine ⟨i, hi, ha, ?_⟩
      show (sv S i).pc = 1 ∨ (sv S i).pc = 11 ∨ _
      omega
  · obtain ⟨v, hI⟩ : ∃ v, PartI t m n (ldW W) (sv S) v := h.i
    have hl' : OwnK n (sv S) v (ldW W t) := (show ∀ v, PartI t m n (ldW W) (sv S) v → OwnK n (sv S) v (ldW W t) from hl) v hI
    have hci' : (sv S i).pc = 0 ∨ (sv S i).pc = 1 ∨ (sv S i).pc = 2 ∨ (sv S i).pc = 10 ∨ (sv S i).pc = 11 := hci
    by_cases h2 : (sv S i).pc = 2
    · have hw := hI.w i hi h2
      obtain ⟨j, hj, e, ej⟩ := hl' v (by omega) (by omega)
      have := hno j hj
      refine ⟨j, hj, by omega, ?_⟩
      show (sv S j).pc = 1 ∨ (sv S j).pc = 11 ∨ ((sv S j).pc = 2 ∧ ldW W (pPl t m (sv S j).a) = (sv S j).a + 1)
      rcases e with e | e | e
      · refine .inr (.inr ⟨e, ?_⟩)
        rw [ej]; exact hI.sv
      · omega
      · exact .inr (.inl e)
    · refine ⟨i, hi, ha, ?_⟩
      show (sv S i).pc = 1 ∨ (sv S i).pc = 11 ∨ _
      omega
  · have hl' : ∀ i, i < n → (sv S i).pc = 13 → ldW W t ≠ (i : Int) + 1 := hl
    obtain ⟨q, hI⟩ : ∃ q, McsI t n (ldW W) (sv S) q := h.i
    have wit : ∀ j, j < n → (sv S j).pc ≠ 0 → ((sv S j).pc = 1 ∨ (sv S j).pc = 2 ∨ (sv S j).pc = 3 ∨ (sv S j).pc = 4 ∨ ((sv S j).pc = 5 ∧ ldW W (wtI t j) = 0) ∨ (sv S j).pc = 11 ∨ (sv S j).pc = 12 ∨ (sv S j).pc = 14 ∨ ((sv S j).pc = 13 ∧ ldW W (nxI t j) ≠ 0)) → ∃ j, j < n ∧ (sv S j).pc ≠ 0 ∧ FWit 4 t m W j (sv S j) := fun j hj h0 hw => by
      refine ⟨j, hj, h0, ?_⟩
      rw [← mWt_i, ← mNx_i] at hw
      exact hw
    have hci' : mcsPc (sv S i) := hci
    by_cases h3 : (sv S i).pc < 4
    · exact wit i hi ha (by unfold mcsPc at hci'; omega)
    · have hm := (hI.mem i hi).2 (by omega)
      have hd := hI.hd
      have hlk := hI.lk
      have htl := hI.tl
      have hlt := hI.lt
      cases q with
      | nil => simp at hm
      | cons a r =>
        have han := hlt a (by simp)
        have hca : mcsPc (sv S a) := hc a han
        have ha10 := hno a han
        unfold mcsPc at hca
        obtain ⟨d1, d2, d3, d4⟩ := hd
        by_cases h5 : (sv S a).pc = 5
        · exact wit a han (by omega) (.inr (.inr (.inr (.inr (.inl ⟨h5, d2 h5⟩)))))
        by_cases h13 : (sv S a).pc = 13
        · have ht := hl' a han h13
          cases r with
          | nil => exact absurd (by rw [htl]; rfl) ht
          | cons b r' =>
            have hbn := hlt b (by simp)
            have hb := (d4 b (by simp)).1
            by_cases hb4 : (sv S b).pc = 4
            · exact wit b hbn (by omega) (by omega)
            · have := hlk.1.2 hb4
              exact wit a han (by omega) (.inr (.inr (.inr (.inr (.inr (.inr (.inr (.inr ⟨h13, by omega⟩))))))))
        · clear d3; exact wit a han (by omega) (by omega)
  · obtain ⟨q, e, hI⟩ : ∃ q e, ClhI t n (ldW W) (sv S) q e := h.i
    have hpc : ∀ j, j < n → (sv S j).pc = 0 ∨ (sv S j).pc = 1 ∨ (sv S j).pc = 2 ∨ (sv S j).pc = 3 ∨ (sv S j).pc = 10 ∨ (sv S j).pc = 11 := fun j hj => hc j hj
    have wit : ∀ j, j < n → (sv S j).pc ≠ 0 → ((sv S j).pc = 1 ∨ (sv S j).pc = 2 ∨ (sv S j).pc = 11 ∨ ((sv S j).pc = 3 ∧ ldW W (t + (sv S j).b) = 0)) → ∃ j, j < n ∧ (sv S j).pc ≠ 0 ∧ FWit 5 t m W j (sv S j) := fun j hj h0 hw => ⟨j, hj, h0, hw⟩
    have hci' := hpc i hi
    by_cases h3 : (sv S i).pc = 3
    · have hm := (hI.mem i hi).2 (by omega)
      have hck := hI.ck
      have hlt := hI.lt
      have hmm := hI.mem
      cases q with
      | nil => simp at hm
      | cons a r =>
        have han := hlt a (by simp)
        have h1 := (hmm a han).1 (by simp)
        have h2 := hpc a han
        have h10 := hno a han
        by_cases ha3 : (sv S a).pc = 3
        · exact wit a han (by omega) (.inr (.inr (.inr ⟨ha3, by rw [hck.1]; exact hI.f0⟩)))
        · exact wit a han (by omega) (by omega)
    · exact wit i hi ha (by omega)
/-- who looks, and is not alone, sees one that waits -/
theorem lv_alone (h : FInv k t m n s.W S) (hk : 1 ≤ k ∧ k ≤ 5) (hl : LvF k t m n (ldW s.W) (sv S)) (hc : ∀ i, i < n → pcK k (sv S i)) {i : Nat} (hi : i < n) (h10 : (sv S i).pc = 10) (hal : (aloneK k t s i (sv S i)).2 = false) : ∃ j, j < n ∧ j ≠ i ∧ 0 < (sv S j).pc ∧ (sv S j).pc < 10 := by
  have hk' : k = 1 ∨ k = 2 ∨ k = 3 ∨ k = 4 ∨ k = 5 := by omega
  unfold aloneK at hal
  rw [if_pos h10] at hal
  rcases hk' with rfl | rfl | rfl | rfl | rfl
  · simp at hal
  · have hl' : OwnK n (sv S) (ldW s.W (t + 1)) (ldW s.W t) := hl
    have hI : TickI t n (ldW s.W) (sv S) := h.i
    simp at hal
    have hd := hI.hd i hi (.inl h10)
    obtain ⟨j, hj, e, ej⟩ := hl' ((sv S i).a + 1) (by omega) (by omega)
    refine ⟨j, hj, fun e2 => by rw [e2] at ej; omega, ?_⟩
    rcases e with e | e
    · omega
    · have := hI.hd j hj e; omega
  · obtain ⟨v, hI⟩ : ∃ v, PartI t m n (ldW s.W) (sv S) v := h.i
    have hl' : OwnK n (sv S) v (ldW s.W t) := (show ∀ v, PartI t m n (ldW s.W) (sv S) v → OwnK n (sv S) v (ldW s.W t) from hl) v hI
    simp at hal
    have hd := hI.hd i hi (.inl h10)
    obtain ⟨j, hj, e, ej⟩ := hl' ((sv S i).a + 1) (by omega) (by omega)
    refine ⟨j, hj, fun e2 => by rw [e2] at ej; omega, ?_⟩
    rcases e with e | e
    · omega
    · have := hI.hd j hj e; omega
  · obtain ⟨q, hI⟩ : ∃ q, McsI t n (ldW s.W) (sv S) q := h.i
    simp at hal
    rw [mNx_i] at hal
    obtain ⟨r, hr, hN⟩ := hI.next hi (by omega)
    obtain ⟨b, r', e1, e2, e3⟩ := hN hal
    have hnd := hI.nd
    rw [hr, e1] at hnd
    refine ⟨b, hI.lt b (by rw [hr, e1]; simp), fun e => ?_, by omega, by omega⟩
    rw [e] at hnd
    simp at hnd
  · obtain ⟨q, e, hI⟩ : ∃ q e, ClhI t n (ldW s.W) (sv S) q e := h.i
    simp at hal
    obtain ⟨r, hr⟩ := hI.head hi (by omega)
    have htl := hI.tl
    have hnd := hI.nd
    have hw3 := hI.w3
    have hlt := hI.lt
    rw [hr] at htl hnd hw3 hlt
    cases r with
    | nil => exact absurd htl hal
    | cons b r' =>
      have := hw3 b (by simp)
      refine ⟨b, hlt b (by simp), fun e => ?_, by omega, by omega⟩
      rw [e] at hnd
      simp at hnd
end
end Go.Proofs.YtmlcfmickonfbaaGreat
end
