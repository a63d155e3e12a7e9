/- Joined: Mx4, Mx5, Fk1, Fn1. -/
import Derived.Test.YtmlcfmickonfbaaGreatRows
import Derived.Deep.AppendLies
import Derived.Deep.RegionHeld3
import Derived.Laws.MakeOwn
import Derived.Deep.DeepCutAuto
import Derived.Test.YtmlcfmickonfbaaGreatMgReadersAll2
import Derived.Test.YtmlcfmickonfbaaGreatMgReadersAll7
section
set_option linter.unusedVariables false
set_option linter.unusedSimpArgs false
/- Layers 15 to 20, plain: of a flat lock of any kind one slot holds at most, whoever steps when; it writes its own words alone. No program in sight. -/
namespace Go.Proofs.YtmlcfmickonfbaaGreat
open Go

def szI (k n : Nat) (m : Int) : Int := if k = 1 then 1 else if k = 2 then 2 else if k = 3 then 1 + m else if k = 4 then 1 + 2 * (n : Int) else (n : Int) + 2
def InvF (k : Nat) (t m : Int) (n : Nat) (f : Int → Int) (σ : Nat → Sp) : Prop :=
  if k = 1 then TasI t n f σ else if k = 2 then TickI t n f σ else if k = 3 then ∃ v, PartI t m n f σ v else if k = 4 then ∃ q, McsI t n f σ q else ∃ q e, ClhI t n f σ q e
structure FInv (k : Nat) (t m : Int) (n : Nat) (W : List Int) (S : List Sp) : Prop where
  len : S.length = n
  m1 : 1 ≤ m
  t1 : 1 ≤ t
  t2 : t + szI k n m ≤ (W.length : Int) + 1
  i : InvF k t m n (ldW W) (sv S)
section
variable {t m : Int} {n k : Nat} {f f' : Int → Int} {σ : Nat → Sp}
theorem pPl_own (t : Int) {m : Int} (hm : 1 ≤ m) (v : Int) : t < pPl t m v ∧ pPl t m v < t + 1 + m := by
  have h1 := Int.emod_nonneg v (show m ≠ 0 by omega)
  have h2 := Int.emod_lt_of_pos v (show 0 < m by omega)
  unfold pPl; omega
theorem InvF.congr (h : InvF k t m n f σ) (hm : 1 ≤ m) (hf : ∀ y, t ≤ y → y < t + szI k n m → f' y = f y) : InvF k t m n f' σ := by
  unfold InvF at h ⊢
  unfold szI at hf
  by_cases h1 : k = 1
  · simp only [h1, reduceIte] at h hf ⊢
    intro i hi hc
    rw [hf t (by omega) (by omega)]; exact h i hi hc
  by_cases h2 : k = 2
  · simp only [h2, reduceIte, show ¬ (2 = 1) by decide] at h hf ⊢
    have e0 := hf t (by omega) (by omega)
    have e1 := hf (t + 1) (by omega) (by omega)
    exact ⟨by rw [e0, e1]; exact h.le, fun i hi hc => by rw [e0, e1]; exact h.w i hi hc, fun i hi hc => by rw [e0, e1]; exact h.hd i hi hc, h.ne⟩
  by_cases h3 : k = 3
  · simp only [h3, reduceIte, show ¬ (3 = 1) by decide, show ¬ (3 = 2) by decide] at h hf ⊢
    obtain ⟨v, h⟩ := h
    have e0 := hf t (by omega) (by omega)
    have ep := pPl_own t hm v
    exact ⟨v, h.v0, by rw [e0]; exact h.le, fun i hi hc => by rw [e0]; exact h.w i hi hc, fun i hi hc => by rw [e0]; exact h.hd i hi hc, h.ne, fun k k0 k1 => by rw [hf _ (by omega) (by omega)]; exact h.pl k k0 k1, by rw [hf _ (by omega) (by omega)]; exact h.sv⟩
  by_cases h4 : k = 4
  · simp only [h4, reduceIte, show ¬ (4 = 1) by decide, show ¬ (4 = 2) by decide, show ¬ (4 = 3) by decide] at h hf ⊢
    obtain ⟨q, h⟩ := h
    have en : ∀ j, j < n → f' (nxI t j) = f (nxI t j) ∧ f' (wtI t j) = f (wtI t j) := fun j hj => ⟨hf _ (by unfold nxI; omega) (by unfold nxI; omega), hf _ (by unfold wtI; omega) (by unfold wtI; omega)⟩
    exact ⟨q, h.nd, h.lt, h.mem, by rw [hf t (by omega) (by omega)]; exact h.tl, h.hd.same (fun j hj => (en j (h.lt j hj)).2) (fun _ _ => rfl), h.lk.same (fun j hj => (en j (h.lt j hj)).1) (fun _ _ => rfl), fun i hi hc => by rw [(en i hi).1]; exact h.n0 i hi hc, fun i hi hc => by rw [(en i hi).2]; exact h.w1 i hi hc⟩
  · simp only [h1, h2, h3, h4, reduceIte] at h hf ⊢
    obtain ⟨q, e, h⟩ := h
    exact ⟨q, e, h.nd, h.lt, h.mem, h.e0, h.a0, h.ne, h.ea, by rw [hf t (by omega) (by omega)]; exact h.tl, h.ck, by rw [hf _ (by have := h.e0; omega) (by have := h.e0; omega)]; exact h.f0, fun i hi hc => by rw [hf _ (by have := h.a0 i hi; omega) (by have := h.a0 i hi; omega)]; exact h.f1 i hi hc, h.w3⟩
theorem FInv.frame {W W' : List Int} {S : List Sp} (h : FInv k t m n W S) (hl : W'.length = W.length) (hf : ∀ y, t ≤ y → y < t + szI k n m → ldW W' y = ldW W y) : FInv k t m n W' S :=
  ⟨h.len, h.m1, h.t1, by rw [hl]; exact h.t2, h.i.congr h.m1 hf⟩
theorem FInv.one {W : List Int} {S : List Sp} (h : FInv k t m n W S) (hk : 1 ≤ k ∧ k ≤ 5) {i j : Nat} (hi : i < n) (hj : j < n) (h1 : (sv S i).pc = 10) (h2 : (sv S j).pc = 10) : i = j := by
  have hk' : k = 1 ∨ k = 2 ∨ k = 3 ∨ k = 4 ∨ k = 5 := by omega
  rcases hk' with rfl | rfl | rfl | rfl | rfl
  · exact TasI.one (show TasI t n (ldW W) (sv S) from h.i) hi hj h1 h2
  · exact TickI.one (show TickI t n (ldW W) (sv S) from h.i) hi hj h1 h2
  · obtain ⟨v, hI⟩ : ∃ v, PartI t m n (ldW W) (sv S) v := h.i
    exact hI.one hi hj h1 h2
  · obtain ⟨q, hI⟩ : ∃ q, McsI t n (ldW W) (sv S) q := h.i
    exact hI.one hi hj h1 h2
  · obtain ⟨q, e, hI⟩ : ∃ q e, ClhI t n (ldW W) (sv S) q e := h.i
    exact hI.one hi hj h1 h2
theorem svS {S : List Sp} {i : Nat} (hi : i < S.length) (p : Sp) (j : Nat) : sv (S.set i p) j = if j = i then p else sv S j := by
  rw [sv_set]
  by_cases e : i = j
  · subst e; rw [if_pos ⟨rfl, hi⟩, if_pos rfl]
  · rw [if_neg (fun h => e h.1), if_neg (fun h => e h.symm)]
theorem sv_id {W : List Int} {S : List Sp} (h : FInv k t m n W S) {i : Nat} (hi : i < n) : sv (S.set i (sv S i)) = sv S := by
  funext j
  rw [svS (by rw [h.len]; exact hi)]
  split
  · rename_i e3; rw [e3]
  · rfl
theorem FInv.ask {W : List Int} {S : List Sp} (h : FInv k t m n W S) (hk : 1 ≤ k ∧ k ≤ 5) {i : Nat} (hi : i < n) : FInv k t m n W (S.set i (askK k (sv S i))) := by
  refine ⟨by rw [List.length_set]; exact h.len, h.m1, h.t1, h.t2, ?_⟩
  by_cases h0 : (sv S i).pc = 0
  · have hs := svS (S := S) (i := i) (by rw [h.len]; exact hi) (askK k (sv S i))
    have hp : askK k (sv S i) = if k = 1 then { (sv S i) with pc := 1, a := 1 } else { (sv S i) with pc := 1 } := by unfold askK; rw [if_pos h0]
    have hk' : k = 1 ∨ k = 2 ∨ k = 3 ∨ k = 4 ∨ k = 5 := by omega
    rcases hk' with rfl | rfl | rfl | rfl | rfl
    · have hI : TasI t n (ldW W) (sv S) := h.i
      exact TasI.off hI hs (by rw [hp]; simp)
    · have hI : TickI t n (ldW W) (sv S) := h.i
      exact TickI.off hI hs (by rw [hp]; rfl) (.inl ⟨h0, by rw [hp]; rfl⟩)
    · obtain ⟨v, hI⟩ : ∃ v, PartI t m n (ldW W) (sv S) v := h.i
      exact ⟨v, hI.off hs (by rw [hp]; rfl) (.inl ⟨h0, by rw [hp]; rfl⟩)⟩
    · obtain ⟨q, hI⟩ : ∃ q, McsI t n (ldW W) (sv S) q := h.i
      exact ⟨q, hI.out hi hs (by omega) (by rw [hp]; show (1 : Int) < 4; decide) (fun _ _ _ => rfl) (fun hc => by rw [hp] at hc; simp at hc) (fun hc => by rw [hp] at hc; simp at hc)⟩
    · obtain ⟨q, e, hI⟩ : ∃ q e, ClhI t n (ldW W) (sv S) q e := h.i
      exact ⟨q, e, hI.out hi hs (by omega) (by rw [hp]; show (1 : Int) < 3; decide) (by rw [hp]; rfl) (fun _ _ => rfl) (fun hc => by rw [hp] at hc; simp at hc)⟩
  · have e : askK k (sv S i) = sv S i := by unfold askK; rw [if_neg h0]
    rw [e, sv_id h hi]; exact h.i
theorem FInv.leave {W : List Int} {S : List Sp} (h : FInv k t m n W S) (hk : 1 ≤ k ∧ k ≤ 5) {i : Nat} (hi : i < n) : FInv k t m n W (S.set i (leaveK (sv S i))) := by
  refine ⟨by rw [List.length_set]; exact h.len, h.m1, h.t1, h.t2, ?_⟩
  by_cases h0 : (sv S i).pc = 10
  · have hs := svS (S := S) (i := i) (by rw [h.len]; exact hi) (leaveK (sv S i))
    have hp : leaveK (sv S i) = { (sv S i) with pc := 11 } := by unfold leaveK; rw [if_pos h0]
    have hk' : k = 1 ∨ k = 2 ∨ k = 3 ∨ k = 4 ∨ k = 5 := by omega
    rcases hk' with rfl | rfl | rfl | rfl | rfl
    · have hI : TasI t n (ldW W) (sv S) := h.i
      exact TasI.off hI hs (by rw [hp]; intro _; exact .inl h0)
    · have hI : TickI t n (ldW W) (sv S) := h.i
      exact TickI.off hI hs (by rw [hp]) (.inr (.inl ⟨h0, by rw [hp]⟩))
    · obtain ⟨v, hI⟩ : ∃ v, PartI t m n (ldW W) (sv S) v := h.i
      exact ⟨v, hI.off hs (by rw [hp]) (.inr (.inl ⟨h0, by rw [hp]⟩))⟩
    · obtain ⟨q, hI⟩ : ∃ q, McsI t n (ldW W) (sv S) q := h.i
      obtain ⟨r, hr⟩ := hI.head hi (by omega)
      exact ⟨q, hI.hdgo hi hs hr (by rw [hp]; show (10 : Int) ≤ 11; decide) (fun hc => by rw [hp] at hc; simp at hc)⟩
    · obtain ⟨q, e, hI⟩ : ∃ q e, ClhI t n (ldW W) (sv S) q e := h.i
      obtain ⟨r, hr⟩ := hI.head hi (by omega)
      exact ⟨q, e, hI.hdgo hi hs hr (by rw [hp]; show (3 : Int) ≤ 11; decide) (by rw [hp]) (by rw [hp])⟩
  · have e : leaveK (sv S i) = sv S i := by unfold leaveK; rw [if_neg h0]
    rw [e, sv_id h hi]; exact h.i
/-- what a step comes to -/
def StepG (k : Nat) (t m : Int) (n : Nat) (W W' : List Int) (S : List Sp) (i : Nat) (p : Sp) : Prop := InvF k t m n (ldW W') (sv (S.set i p)) ∧ ∀ y, ¬ (t ≤ y ∧ y < t + szI k n m) → ldW W' y = ldW W y
theorem inOwn {W : List Int} {S : List Sp} (h : FInv k t m n W S) {x : Int} (h1 : t ≤ x) (h2 : x < t + szI k n m) : inR W x = true := inR_true.2 (by have := h.t1; have := h.t2; omega)
theorem own_st {W : List Int} {S : List Sp} (h : FInv k t m n W S) {x : Int} (h1 : t ≤ x) (h2 : x < t + szI k n m) (v : Int) : (∀ y, ldW (stW W x v) y = if y = x then v else ldW W y) ∧ ∀ y, ¬ (t ≤ y ∧ y < t + szI k n m) → ldW (stW W x v) y = ldW W y := by
  have e := fun y => ldW_st (inOwn h h1 h2) v y
  exact ⟨e, fun y hy => by rw [e, if_neg (by rintro rfl; exact hy ⟨h1, h2⟩)]⟩
end
section
variable {t m : Int} {n : Nat} {s : Ar} {S : List Sp}
theorem sv_self {i : Nat} (hi : i < S.length) {k : Nat} {f : Int → Int} (h : InvF k t m n f (sv S)) : InvF k t m n f (sv (S.set i (sv S i))) := by
  have e2 : sv (S.set i (sv S i)) = sv S := by
    funext j
    rw [svS hi]
    split
    · rename_i e3; rw [e3]
    · rfl
  rw [e2]; exact h
theorem g_tas (h : FInv 1 t m n s.W S) {i : Nat} (hi : i < n) : StepG 1 t m n s.W (tasK t m s i (sv S i)).1.W S i (tasK t m s i (sv S i)).2 := by
  have hl : i < S.length := by rw [h.len]; exact hi
  have hI : TasI t n (ldW s.W) (sv S) := h.i
  have ho : t < t + szI 1 n m := by unfold szI; rw [if_pos rfl]; omega
  have hin := inOwn h (Int.le_refl t) ho
  unfold tasK
  split
  · rename_i hpc
    have hw := own_st h (Int.le_refl t) ho ((i : Int) + 1)
    have hcw := casA_W s t 0 ((i : Int) + 1)
    by_cases h0 : ldW s.W t = 0
    · have hb : casB s t 0 = true := by unfold casB; rw [hin, h0]; rfl
      rw [hb] at hcw ⊢
      rw [if_pos rfl] at hcw ⊢
      refine ⟨?_, by show ∀ y, _ → ldW (casA _ _ _ _).W y = _; rw [hcw]; exact hw.2⟩
      show TasI t n (ldW (casA s t 0 ((i : Int) + 1)).W) _
      rw [hcw]
      exact hI.get (svS hl _) hw.1 h0
    · have hb : casB s t 0 = false := by unfold casB; rw [hin]; simp [h0]
      rw [hb] at hcw ⊢
      rw [if_neg (by decide)] at hcw ⊢
      refine ⟨?_, by show ∀ y, _ → ldW (casA _ _ _ _).W y = _; rw [hcw]; exact fun _ _ => rfl⟩
      show TasI t n (ldW (casA s t 0 ((i : Int) + 1)).W) _
      rw [hcw]
      exact hI.off (svS hl _) (by simp)
  split
  · refine ⟨?_, fun _ _ => rfl⟩
    exact TasI.off hI (svS hl _) (by simp only; split <;> simp)
  split
  · rename_i h11
    have hw := own_st h (Int.le_refl t) ho 0
    refine ⟨?_, by show ∀ y, _ → ldW (storeA _ _ _).W y = _; rw [storeA_W]; exact hw.2⟩
    show TasI t n (ldW (storeA s t 0).W) _
    rw [storeA_W]
    exact hI.put hi (svS hl _) hw.1 h11 rfl
  · exact ⟨sv_self hl h.i, fun _ _ => rfl⟩
theorem g_tick (h : FInv 2 t m n s.W S) {B : Int} (hW : WdB B s) (hB : 0 ≤ B) (hB2 : B ≤ 10000000000000) {i : Nat} (hi : i < n) : StepG 2 t m n s.W (tickK t s (sv S i)).1.W S i (tickK t s (sv S i)).2 := by
  have hl : i < S.length := by rw [h.len]; exact hi
  have hI : TickI t n (ldW s.W) (sv S) := h.i
  have hz : szI 2 n m = 2 := rfl
  unfold tickK
  split
  · have hw := own_st h (Int.le_refl t) (by rw [hz]; omega) (ldW s.W t + 1)
    have hld := hW.ld hB t
    refine ⟨?_, by show ∀ y, _ → ldW (addA _ _ _).W y = _; rw [addA_W, IntWalk.i64_in _ (by omega)]; exact hw.2⟩
    show TickI t n (ldW (addA s t 1).W) _
    rw [addA_W, IntWalk.i64_in _ (by omega)]
    exact hI.take (svS hl _) rfl rfl hw.1
  split
  · rename_i h2
    refine ⟨?_, by show ∀ y, _ → ldW (loadA _ _).W y = _; rw [loadA_W]; exact fun _ _ => rfl⟩
    show TickI t n (ldW (loadA s (t + 1)).W) _
    rw [loadA_W]
    by_cases he : ldW s.W (t + 1) = (sv S i).a
    · exact hI.enter hi (svS hl _) h2 (by simp [he]) rfl he
    · exact hI.off (svS hl _) rfl (.inr (.inr (by simp [he, h2])))
  split
  · rename_i h11
    have hw := own_st h (show t ≤ t + 1 by omega) (by rw [hz]; omega) ((sv S i).a + 1)
    refine ⟨?_, by show ∀ y, _ → ldW (storeA _ _ _).W y = _; rw [storeA_W]; exact hw.2⟩
    show TickI t n (ldW (storeA s (t + 1) _).W) _
    rw [storeA_W]
    exact hI.put hi (svS hl _) h11 rfl hw.1
  · exact ⟨sv_self hl h.i, fun _ _ => rfl⟩
theorem g_part (h : FInv 3 t m n s.W S) {B : Int} (hW : WdB B s) (hB : 0 ≤ B) (hB2 : B ≤ 10000000000000) {i : Nat} (hi : i < n) : StepG 3 t m n s.W (partK t m s (sv S i)).1.W S i (partK t m s (sv S i)).2 := by
  have hl : i < S.length := by rw [h.len]; exact hi
  obtain ⟨v, hI⟩ : ∃ v, PartI t m n (ldW s.W) (sv S) v := h.i
  have hm := h.m1
  have hz : szI 3 n m = 1 + m := rfl
  unfold partK
  split
  · have hw := own_st h (Int.le_refl t) (by rw [hz]; omega) (ldW s.W t + 1)
    have hld := hW.ld hB t
    refine ⟨?_, by show ∀ y, _ → ldW (addA _ _ _).W y = _; rw [addA_W, IntWalk.i64_in _ (by omega)]; exact hw.2⟩
    show ∃ v, PartI t m n (ldW (addA s t 1).W) _ v
    rw [addA_W, IntWalk.i64_in _ (by omega)]
    exact ⟨v, hI.take hm (svS hl _) rfl rfl hw.1⟩
  split
  · rename_i h2
    refine ⟨?_, by show ∀ y, _ → ldW (loadA _ _).W y = _; rw [loadA_W]; exact fun _ _ => rfl⟩
    show ∃ v, PartI t m n (ldW (loadA s _).W) _ v
    rw [loadA_W]
    by_cases he : ldW s.W (pPl t m (sv S i).a) = (sv S i).a + 1
    · exact ⟨v, hI.enter hm hi (svS hl _) h2 (by simp [he]) rfl he⟩
    · exact ⟨v, hI.off (svS hl _) rfl (.inr (.inr (by simp [he, h2])))⟩
  split
  · rename_i h11
    have hp := pPl_own t hm ((sv S i).a + 1)
    have hw := own_st h (show t ≤ pPl t m ((sv S i).a + 1) by omega) (by rw [hz]; omega) ((sv S i).a + 2)
    refine ⟨?_, by show ∀ y, _ → ldW (storeA _ _ _).W y = _; rw [storeA_W]; exact hw.2⟩
    show ∃ v, PartI t m n (ldW (storeA s _ _).W) _ v
    rw [storeA_W]
    exact ⟨v + 1, hI.put hm hi (svS hl _) h11 rfl hw.1⟩
  · exact ⟨sv_self hl h.i, fun _ _ => rfl⟩
theorem g_clh (h : FInv 5 t m n s.W S) {i : Nat} (hi : i < n) : StepG 5 t m n s.W (clhK t s (sv S i)).1.W S i (clhK t s (sv S i)).2 := by
  have hl : i < S.length := by rw [h.len]; exact hi
  obtain ⟨q, e, hI⟩ : ∃ q e, ClhI t n (ldW s.W) (sv S) q e := h.i
  have hz : szI 5 n m = (n : Int) + 2 := rfl
  have ha := hI.a0 i hi
  unfold clhK
  split
  · rename_i h1
    have hw := own_st h (show t ≤ t + (sv S i).a by omega) (by rw [hz]; omega) 1
    refine ⟨?_, by show ∀ y, _ → ldW (storeA _ _ _).W y = _; rw [storeA_W]; exact hw.2⟩
    show ∃ q e, ClhI t n (ldW (storeA s _ _).W) _ q e
    rw [storeA_W]
    exact ⟨q, e, hI.out hi (svS hl _) (by omega) (by show (2 : Int) < 3; decide) rfl (fun y hy => by rw [hw.1, if_neg hy]) (fun _ => by rw [hw.1, if_pos rfl])⟩
  split
  · rename_i h2
    have hw := own_st h (Int.le_refl t) (by rw [hz]; omega) (sv S i).a
    refine ⟨?_, by show ∀ y, _ → ldW (swapA _ _ _).W y = _; rw [swapA_W]; exact hw.2⟩
    show ∃ q e, ClhI t n (ldW (swapA s _ _).W) _ q e
    rw [swapA_W]
    exact ⟨_, e, hI.swap hi (svS hl _) h2 rfl rfl rfl hw.1⟩
  split
  · rename_i h3
    refine ⟨?_, by show ∀ y, _ → ldW (loadA _ _).W y = _; rw [loadA_W]; exact fun _ _ => rfl⟩
    show ∃ q e, ClhI t n (ldW (loadA s _).W) _ q e
    rw [loadA_W]
    by_cases he : ldW s.W (t + (sv S i).b) = 0
    · exact ⟨q, e, hI.enter hi (svS hl _) h3 he (by simp [he]) rfl rfl⟩
    · have : ({ (sv S i) with pc := if ldW s.W (t + (sv S i).b) = 0 then 10 else 3 } : Sp) = sv S i := by
        rw [if_neg he, ← h3]
      rw [this]
      exact sv_self (k := 5) (m := m) hl h.i
  split
  · rename_i h11
    have hw := own_st h (show t ≤ t + (sv S i).a by omega) (by rw [hz]; omega) 0
    refine ⟨?_, by show ∀ y, _ → ldW (storeA _ _ _).W y = _; rw [storeA_W]; exact hw.2⟩
    show ∃ q e, ClhI t n (ldW (storeA s _ _).W) _ q e
    rw [storeA_W]
    obtain ⟨r, _, hr⟩ := hI.put hi (svS hl { (sv S i) with a := (sv S i).b, pc := 0 }) h11 rfl rfl hw.1
    exact ⟨r, _, hr⟩
  · exact ⟨sv_self hl h.i, fun _ _ => rfl⟩
theorem g_mcs (h : FInv 4 t m n s.W S) {i : Nat} (hi : i < n) (hc : mcsPc (sv S i)) : StepG 4 t m n s.W (mcsK t s i (sv S i)).1.W S i (mcsK t s i (sv S i)).2 := by
  have hl : i < S.length := by rw [h.len]; exact hi
  obtain ⟨q, hI⟩ : ∃ q, McsI t n (ldW s.W) (sv S) q := h.i
  have hz : szI 4 n m = 1 + 2 * (n : Int) := rfl
  have own : ∀ j, j < n → (t ≤ nxI t j ∧ nxI t j < t + szI 4 n m) ∧ (t ≤ wtI t j ∧ wtI t j < t + szI 4 n m) := fun j hj => by rw [hz]; unfold nxI wtI; omega
  unfold mcsPc at hc
  unfold mcsK
  split
  · rename_i hin
    unfold mcsIn
    rw [mNx_i, mWt_i]
    split
    · rename_i h1
      have hw := own_st h (own i hi).1.1 (own i hi).1.2 0
      refine ⟨?_, by show ∀ y, _ → ldW (storeA _ _ _).W y = _; rw [storeA_W]; exact hw.2⟩
      show ∃ q, McsI t n (ldW (storeA s _ _).W) _ q
      rw [storeA_W]
      exact ⟨q, hI.out hi (svS hl _) (by omega) (by show (2 : Int) < 4; decide) (fun y h1 _ => by rw [hw.1, if_neg h1]) (fun _ => by rw [hw.1, if_pos rfl]) (fun hc => by simp at hc)⟩
    split
    · rename_i h2
      have hw := own_st h (own i hi).2.1 (own i hi).2.2 1
      refine ⟨?_, by show ∀ y, _ → ldW (storeA _ _ _).W y = _; rw [storeA_W]; exact hw.2⟩
      show ∃ q, McsI t n (ldW (storeA s _ _).W) _ q
      rw [storeA_W]
      exact ⟨q, hI.out hi (svS hl _) (by omega) (by show (3 : Int) < 4; decide) (fun y _ h1 => by rw [hw.1, if_neg h1]) (fun _ => by rw [hw.1, if_neg (by unfold nxI wtI; omega)]; exact hI.n0 i hi (.inl h2)) (fun _ => by rw [hw.1, if_pos rfl])⟩
    split
    · rename_i h3
      have hw := own_st h (Int.le_refl t) (by rw [hz]; omega) ((i : Int) + 1)
      refine ⟨?_, by show ∀ y, _ → ldW (swapA _ _ _).W y = _; rw [swapA_W]; exact hw.2⟩
      show ∃ q, McsI t n (ldW (swapA s _ _).W) _ q
      rw [swapA_W]
      exact ⟨_, hI.swap hi (svS hl _) h3 rfl rfl hw.1⟩
    split
    · rename_i h4
      obtain ⟨b, hb, hab, hT⟩ := hI.tell hi (svS hl { (sv S i) with pc := 5 }) h4 rfl
      have e : mNx t (sv S i).a = nxI t b := by rw [hab, mNx_i]
      rw [e]
      have hw := own_st h (own b hb).1.1 (own b hb).1.2 ((i : Int) + 1)
      refine ⟨?_, by show ∀ y, _ → ldW (storeA _ _ _).W y = _; rw [storeA_W]; exact hw.2⟩
      show ∃ q, McsI t n (ldW (storeA s _ _).W) _ q
      rw [storeA_W]
      exact ⟨q, hT hw.1⟩
    · have h5 : (sv S i).pc = 5 := by omega
      refine ⟨?_, by show ∀ y, _ → ldW (loadA _ _).W y = _; rw [loadA_W]; exact fun _ _ => rfl⟩
      show ∃ q, McsI t n (ldW (loadA s _).W) _ q
      rw [loadA_W]
      by_cases he : ldW s.W (wtI t i) = 0
      · exact ⟨q, hI.enter hi (svS hl _) h5 he (by simp [he])⟩
      · have : ({ (sv S i) with pc := if ldW s.W (wtI t i) = 0 then 10 else 5 } : Sp) = sv S i := by
          rw [if_neg he, ← h5]
        rw [this]
        exact sv_self (k := 4) (m := m) hl h.i
  split
  · rename_i hout
    unfold mcsOut
    rw [mNx_i]
    split
    · rename_i h12
      have hw := own_st h (Int.le_refl t) (by rw [hz]; omega) 0
      have hcw := casA_W s t ((i : Int) + 1) 0
      have hir := inOwn h (Int.le_refl t) (by rw [hz]; omega)
      by_cases h0 : ldW s.W t = (i : Int) + 1
      · have hb : casB s t ((i : Int) + 1) = true := by unfold casB; rw [hir, h0]; simp
        rw [hb] at hcw ⊢
        rw [if_pos rfl] at hcw ⊢
        refine ⟨?_, by show ∀ y, _ → ldW (casA _ _ _ _).W y = _; rw [hcw]; exact hw.2⟩
        show ∃ q, McsI t n (ldW (casA s t _ _).W) _ q
        rw [hcw]
        exact ⟨[], hI.empty hi (svS hl _) (by omega) h0 rfl hw.1⟩
      · have hb : casB s t ((i : Int) + 1) = false := by unfold casB; rw [hir]; simp [h0]
        rw [hb] at hcw ⊢
        rw [if_neg (by decide)] at hcw ⊢
        refine ⟨?_, by show ∀ y, _ → ldW (casA _ _ _ _).W y = _; rw [hcw]; exact fun _ _ => rfl⟩
        show ∃ q, McsI t n (ldW (casA s t _ _).W) _ q
        rw [hcw]
        obtain ⟨r, hr⟩ := hI.head hi (by omega)
        exact ⟨q, hI.hdgo hi (svS hl _) hr (by show (10 : Int) ≤ 13; decide) (fun hc => by simp at hc)⟩
    split
    · rename_i h14
      obtain ⟨b, r, hr, hb, hab, hT⟩ := hI.hand hi (svS hl { (sv S i) with pc := 0 }) h14 rfl
      have e : mWt t (sv S i).a = wtI t b := by rw [hab, mWt_i]
      rw [e]
      have hw := own_st h (own b hb).2.1 (own b hb).2.2 0
      refine ⟨?_, by show ∀ y, _ → ldW (storeA _ _ _).W y = _; rw [storeA_W]; exact hw.2⟩
      show ∃ q, McsI t n (ldW (storeA s _ _).W) _ q
      rw [storeA_W]
      exact ⟨_, hT hw.1⟩
    · refine ⟨?_, by show ∀ y, _ → ldW (loadA _ _).W y = _; rw [loadA_W]; exact fun _ _ => rfl⟩
      show ∃ q, McsI t n (ldW (loadA s _).W) _ q
      rw [loadA_W]
      obtain ⟨r, hr, hN⟩ := hI.next hi (by omega)
      refine ⟨q, hI.hdgo hi (svS hl _) hr ?_ (fun hc => ?_)⟩
      · show (10 : Int) ≤ if _ then _ else _
        split
        · decide
        split <;> decide
      · by_cases hv : ldW s.W (nxI t i) = 0
        · simp only [hv, ne_eq, not_true_eq_false, if_false] at hc
          split at hc <;> omega
        · obtain ⟨b, r', e1, e2, e3⟩ := hN hv
          exact ⟨b, r', e1, e2, e3⟩
  · exact ⟨sv_self hl h.i, fun _ _ => rfl⟩
/-- a step of a slot -/
theorem FInv.step {k : Nat} (h : FInv k t m n s.W S) (hk : 1 ≤ k ∧ k ≤ 5) {B : Int} (hW : WdB B s) (hB : 0 ≤ B) (hB2 : B ≤ 10000000000000) {i : Nat} (hi : i < n) (hc : pcK k (sv S i)) :
    FInv k t m n (stepK k t m s i (sv S i)).1.W (S.set i (stepK k t m s i (sv S i)).2) ∧ ∀ y, ¬ (t ≤ y ∧ y < t + szI k n m) → ldW (stepK k t m s i (sv S i)).1.W y = ldW s.W y := by
  have hl := (near_stepK k t m s i (sv S i)).2
  have key : StepG k t m n s.W (stepK k t m s i (sv S i)).1.W S i (stepK k t m s i (sv S i)).2 := by
    have hk' : k = 1 ∨ k = 2 ∨ k = 3 ∨ k = 4 ∨ k = 5 := by omega
    rcases hk' with rfl | rfl | rfl | rfl | rfl
    · exact g_tas h hi
    · exact g_tick h hW hB hB2 hi
    · exact g_part h hW hB hB2 hi
    · exact g_mcs h hi hc
    · exact g_clh h hi
  exact ⟨⟨by rw [List.length_set]; exact h.len, h.m1, h.t1, by rw [hl]; exact h.t2, key.1⟩, key.2⟩
end
end Go.Proofs.YtmlcfmickonfbaaGreat
end
section
set_option linter.unusedVariables false
set_option linter.unusedSimpArgs false
/- Layer 24 (cohort), plain: one thread holds at most, whoever steps when, whatever the two kinds are. No program in sight. -/
namespace Go.Proofs.YtmlcfmickonfbaaGreat
open Go

def busyP (p : Sp) : Prop := p.pc = 3 ∨ p.pc = 4 ∨ (10 ≤ p.pc ∧ p.pc ≤ 15)
/-- how a thread, its node's global slot and the count stand to each other -/
def StP (p g : Sp) (v : Int) : Prop :=
  (p.pc = 3 → (0 < g.pc ∧ g.pc < 10) ∧ ¬ 0 < v) ∧ (p.pc = 4 → g.pc = 10 ∧ ¬ 0 < v) ∧ (10 ≤ p.pc ∧ p.pc ≤ 14 → g.pc = 10) ∧ (p.pc = 13 → 1 ≤ p.a) ∧ (p.pc = 15 → 10 < g.pc ∧ ¬ 0 < v)
def FrP (g : Sp) (v : Int) : Prop := g.pc = if 0 < v then 10 else 0
/-- where words lie -/
structure CoLy (c : CoC) (n N : Nat) (ml : Nat → Nat) : Prop where
  k : (1 ≤ c.kg ∧ c.kg ≤ 5) ∧ 1 ≤ c.kl ∧ c.kl ≤ 5
  inj : Inj c n
  nd : ∀ i, i < n → c.node i < N ∧ c.slot i < ml (c.node i)
  cw : ∀ a, a < N → c.cw a = c.tl a + szI c.kl (ml a) c.m
  gl : ∀ a, a < N → c.tg + szI c.kg N c.m ≤ c.tl a
  sz : ∀ a, a < N → 0 ≤ szI c.kl (ml a) c.m
  ap : ∀ a b, a < N → b < N → a ≠ b → c.cw a < c.tl b ∨ c.cw b < c.tl a
structure CoM (c : CoC) (n N : Nat) (ml : Nat → Nat) (st : Co) : Prop where
  fG : FInv c.kg c.tg c.m N st.s.W st.G
  fL : ∀ a, a < N → FInv c.kl (c.tl a) c.m (ml a) st.s.W (st.L.getD a [])
  lL : st.L.length = N
  lW : ∀ a, a < N → 1 ≤ c.cw a ∧ c.cw a ≤ st.s.W.length
  v : CoV c n st
  sj : ∀ j, j < n → StP (sv st.T j) (sv st.G (c.node j)) (ldW st.s.W (c.cw (c.node j)))
  fr : ∀ a, a < N → (∀ j, j < n → c.node j = a → ¬ busyP (sv st.T j)) → FrP (sv st.G a) (ldW st.s.W (c.cw a))
section
variable {c : CoC} {n N : Nat} {ml : Nat → Nat} {st st' : Co}
theorem stP_idle {p g : Sp} {v : Int} (h : ¬ busyP p) : StP p g v := by
  unfold busyP at h
  refine ⟨?_, ?_, ?_, ?_, ?_⟩ <;> intro hc <;> omega
/-- a slot of a node's lock holds: one thread has it -/
theorem CoM.uniq (h : CoM c n N ml st) (y : CoLy c n N ml) {i j : Nat} (hi : i < n) (hj : j < n) (hn : c.node i = c.node j) (h1 : (lsp st.L (c.node i) (c.slot i)).pc = 10) (h2 : busyP (sv st.T j)) : i = j := by
  have hk := h.v.k j hj
  have h3 : (lsp st.L (c.node j) (c.slot j)).pc = 10 := by unfold linkP at hk; unfold busyP at h2; omega
  have ha := (y.nd i hi).1
  have e := (h.fL _ ha).one y.k.2 (i := c.slot i) (j := c.slot j) (y.nd i hi).2 (by rw [hn]; exact (y.nd j hj).2) h1 (by rw [hn]; exact h3)
  exact y.inj i j hi hj hn e
/-- who holds holds alone -/
theorem CoM.one (h : CoM c n N ml st) (y : CoLy c n N ml) {i j : Nat} (hi : i < n) (hj : j < n) (h1 : 10 ≤ (sv st.T i).pc ∧ (sv st.T i).pc ≤ 14) (h2 : 10 ≤ (sv st.T j).pc ∧ (sv st.T j).pc ≤ 14) : i = j := by
  have g1 := (h.sj i hi).2.2.1 h1
  have g2 := (h.sj j hj).2.2.1 h2
  have hn := h.fG.one y.k.1 (y.nd i hi).1 (y.nd j hj).1 g1 g2
  have hk := h.v.k i hi
  exact h.uniq y hi hj hn (by unfold linkP at hk; omega) (by unfold busyP; omega)
/-- an act of a thread that neither was busy nor is, and leaves the global lock and the counts alone -/
theorem CoM.updA (h : CoM c n N ml st) {i : Nat} (hi : i < n) {p' : Sp} (hb : ¬ busyP (sv st.T i)) (hb' : ¬ busyP p') (hT : st'.T = st.T.set i p') (hG : st'.G = st.G) (hc : ∀ a, a < N → ldW st'.s.W (c.cw a) = ldW st.s.W (c.cw a))
    (hN : ∀ j, j < n → c.node j < N) (hl : st'.s.W.length = st.s.W.length) (fG : FInv c.kg c.tg c.m N st'.s.W st'.G) (fL : ∀ a, a < N → FInv c.kl (c.tl a) c.m (ml a) st'.s.W (st'.L.getD a [])) (lL : st'.L.length = N) (v : CoV c n st') : CoM c n N ml st' := by
  have hiT : i < st.T.length := by have := h.v.lT; omega
  have hs := svS hiT p'
  refine ⟨fG, fL, lL, fun a ha => by rw [hl]; exact h.lW a ha, v, fun j hj => ?_, fun a ha hf => ?_⟩
  · rw [hT, hs, hG, hc _ (hN j hj)]
    split
    · exact stP_idle hb'
    · exact h.sj j hj
  · rw [hG, hc a ha]
    refine h.fr a ha (fun j hj hja => ?_)
    have := hf j hj hja
    rw [hT, hs] at this
    split at this
    · rename_i e; rw [e]; exact hb
    · exact this
/-- an act of who holds its node's lock -/
theorem CoM.updB (h : CoM c n N ml st) (y : CoLy c n N ml) {i : Nat} (hi : i < n) {p' : Sp} (h10 : (lsp st.L (c.node i) (c.slot i)).pc = 10) (hT : st'.T = st.T.set i p') (hG : ∀ a, a ≠ c.node i → sv st'.G a = sv st.G a) (hc : ∀ a, a < N → a ≠ c.node i → ldW st'.s.W (c.cw a) = ldW st.s.W (c.cw a))
    (hS : StP p' (sv st'.G (c.node i)) (ldW st'.s.W (c.cw (c.node i)))) (hF : ¬ busyP p' → FrP (sv st'.G (c.node i)) (ldW st'.s.W (c.cw (c.node i))))
    (hl : st'.s.W.length = st.s.W.length) (fG : FInv c.kg c.tg c.m N st'.s.W st'.G) (fL : ∀ a, a < N → FInv c.kl (c.tl a) c.m (ml a) st'.s.W (st'.L.getD a [])) (lL : st'.L.length = N) (v : CoV c n st') : CoM c n N ml st' := by
  have hiT : i < st.T.length := by have := h.v.lT; omega
  have hs := svS hiT p'
  refine ⟨fG, fL, lL, fun a ha => by rw [hl]; exact h.lW a ha, v, fun j hj => ?_, fun a ha hf => ?_⟩
  · rw [hT, hs]
    split
    · rename_i e; rw [e]; exact hS
    · rename_i e
      by_cases hn : c.node i = c.node j
      · exact stP_idle (fun hb => e (h.uniq y hi hj hn h10 hb).symm)
      · rw [hG _ (fun e => hn e.symm), hc _ (y.nd j hj).1 (fun e => hn e.symm)]; exact h.sj j hj
  · by_cases e : a = c.node i
    · rw [e]
      refine hF ?_
      have := hf i hi e.symm
      rw [hT, hs, if_pos rfl] at this
      exact this
    · rw [hG a e, hc a ha e]
      refine h.fr a ha (fun j hj hja => ?_)
      have := hf j hj hja
      rw [hT, hs] at this
      split at this
      · rename_i e2; rw [e2] at hja; exact absurd hja.symm e
      · exact this
theorem lset_getD (L : List (List Sp)) (a s : Nat) (p : Sp) (ha : a < L.length) (b : Nat) : (lset L a s p).getD b [] = if b = a then (L.getD a []).set s p else L.getD b [] := by
  unfold lset
  rw [List.getD_eq_getElem?_getD, List.getElem?_set]
  by_cases e : a = b
  · subst e; rw [if_pos rfl, if_pos ha, if_pos rfl]; rfl
  · rw [if_neg e, if_neg (fun h => e h.symm), ← List.getD_eq_getElem?_getD]
theorem setL_len (c : CoC) (st : Co) (i : Nat) (p : Sp) : (setL c st i p).length = st.L.length := (lset_len _ _ _ _ 0).2
/-- the counts and the other locks, where a node's lock has written its own words -/
theorem CoM.frL (h : CoM c n N ml st) (y : CoLy c n N ml) {a : Nat} (ha : a < N) {W' : List Int} (hl : W'.length = st.s.W.length) (hf : ∀ x, ¬ (c.tl a ≤ x ∧ x < c.tl a + szI c.kl (ml a) c.m) → ldW W' x = ldW st.s.W x) :
    FInv c.kg c.tg c.m N W' st.G ∧ (∀ b, b < N → b ≠ a → FInv c.kl (c.tl b) c.m (ml b) W' (st.L.getD b [])) ∧ ∀ b, b < N → ldW W' (c.cw b) = ldW st.s.W (c.cw b) := by
  have g1 := y.gl a ha
  have c1 := y.cw a ha
  refine ⟨h.fG.frame hl (fun x h1 h2 => hf x (by omega)), fun b hb hn => (h.fL b hb).frame hl (fun x h1 h2 => hf x ?_), fun b hb => hf _ ?_⟩
  · have := y.ap a b ha hb (fun e => hn e.symm)
    have c2 := y.cw b hb
    omega
  · by_cases e : b = a
    · subst e; omega
    · have := y.ap a b ha hb (fun e2 => e e2.symm)
      have c2 := y.cw b hb
      have s2 := y.sz b hb
      omega
/-- where the global lock has -/
theorem CoM.frG (h : CoM c n N ml st) (y : CoLy c n N ml) {W' : List Int} (hl : W'.length = st.s.W.length) (hf : ∀ x, ¬ (c.tg ≤ x ∧ x < c.tg + szI c.kg N c.m) → ldW W' x = ldW st.s.W x) :
    (∀ b, b < N → FInv c.kl (c.tl b) c.m (ml b) W' (st.L.getD b [])) ∧ ∀ b, b < N → ldW W' (c.cw b) = ldW st.s.W (c.cw b) := by
  refine ⟨fun b hb => (h.fL b hb).frame hl (fun x h1 h2 => hf x (by have := y.gl b hb; omega)), fun b hb => hf _ (by have := y.gl b hb; have := y.cw b hb; have := y.sz b hb; omega)⟩
/-- a count is written -/
theorem CoM.frC (h : CoM c n N ml st) (y : CoLy c n N ml) {a : Nat} (ha : a < N) (u : Int) :
    FInv c.kg c.tg c.m N (stW st.s.W (c.cw a) u) st.G ∧ (∀ b, b < N → FInv c.kl (c.tl b) c.m (ml b) (stW st.s.W (c.cw a) u) (st.L.getD b [])) ∧ (∀ b, b < N → b ≠ a → ldW (stW st.s.W (c.cw a) u) (c.cw b) = ldW st.s.W (c.cw b)) ∧ ldW (stW st.s.W (c.cw a) u) (c.cw a) = u := by
  have hw := ldW_st (inR_true.2 (h.lW a ha)) u
  have g1 := y.gl a ha
  have c1 := y.cw a ha
  have s1 := y.sz a ha
  refine ⟨h.fG.frame (stW_len _ _ _) (fun x h1 h2 => by rw [hw, if_neg (by omega)]), fun b hb => (h.fL b hb).frame (stW_len _ _ _) (fun x h1 h2 => by
    rw [hw, if_neg]
    by_cases e : b = a
    · subst e; omega
    · have := y.ap a b ha hb (fun e2 => e e2.symm)
      have := y.cw b hb
      omega), fun b hb hn => by
    rw [hw, if_neg]
    have := y.ap a b ha hb (fun e2 => hn e2.symm)
    have := y.cw b hb
    have := y.sz b hb
    omega, by rw [hw, if_pos rfl]⟩
theorem FrP.of {g : Sp} {v : Int} (h : FrP g v) : (0 < v → g.pc = 10) ∧ (¬ 0 < v → g.pc = 0) := by
  unfold FrP at h
  exact ⟨fun hv => by rw [h, if_pos hv], fun hv => by rw [h, if_neg hv]⟩
/-- the local lock where one leaves it or asks -/
theorem CoM.setLL (h : CoM c n N ml st) {i : Nat} (ha : c.node i < N) {W' : List Int} (fL : ∀ b, b < N → FInv c.kl (c.tl b) c.m (ml b) W' (st.L.getD b [])) {p : Sp} (hp : FInv c.kl (c.tl (c.node i)) c.m (ml (c.node i)) W' ((st.L.getD (c.node i) []).set (c.slot i) p)) :
    ∀ b, b < N → FInv c.kl (c.tl b) c.m (ml b) W' ((setL c st i p).getD b []) := fun b hb => by
  unfold setL
  rw [lset_getD _ _ _ _ (by rw [h.lL]; exact ha)]
  split
  · rename_i e; rw [e]; exact hp
  · exact fL b hb
theorem ls_sv (L : List (List Sp)) (a s : Nat) : lsp L a s = sv (L.getD a []) s := rfl
theorem CoM.ask (h : CoM c n N ml st) (y : CoLy c n N ml) {i : Nat} (hi : i < n) : CoM c n N ml (coAsk c st i) := by
  have hv := coAsk_v h.v y.inj hi
  unfold coAsk at hv ⊢
  split
  · rename_i h0
    rw [if_pos h0] at hv
    have ha := y.nd i hi
    exact h.updA hi (p' := { (sv st.T i) with pc := 1 }) (by unfold busyP; omega) (by unfold busyP; simp) rfl rfl (fun _ _ => rfl) (fun j hj => (y.nd j hj).1) rfl h.fG
      (h.setLL ha.1 h.fL (by rw [ls_sv]; exact (h.fL _ ha.1).ask y.k.2 ha.2)) (by show (setL c st i _).length = N; rw [setL_len, h.lL]) hv
  · exact h
theorem CoM.leave (h : CoM c n N ml st) (y : CoLy c n N ml) {i : Nat} (hi : i < n) : CoM c n N ml (coLeave st i) := by
  have hv := coLeave_v h.v y.inj hi
  unfold coLeave at hv ⊢
  split
  · rename_i h0
    rw [if_pos h0] at hv
    have hk := h.v.k i hi
    have hs := (h.sj i hi).2.2.1 (by omega)
    exact h.updB y hi (p' := { (sv st.T i) with pc := 11 }) (by unfold linkP at hk; omega) rfl (fun _ _ => rfl) (fun _ _ _ => rfl) ⟨fun e => by simp at e, fun e => by simp at e, fun _ => hs, fun e => by simp at e, fun e => by simp at e⟩ (fun hb => absurd (show busyP { (sv st.T i) with pc := 11 } from .inr (.inr ⟨by show (10 : Int) ≤ 11; decide, by show (11 : Int) ≤ 15; decide⟩)) hb) rfl h.fG h.fL h.lL hv
  · exact h
set_option maxHeartbeats 1000000 in
theorem CoM.step (h : CoM c n N ml st) (y : CoLy c n N ml) {B : Int} (hB : CoB c B st) (hB0 : 1 ≤ B) (hB1 : B ≤ 10000000000000) {i : Nat} (hi : i < n) : CoM c n N ml (coStep c st i) := by
  have hv := coStep_v h.v y.inj y.k hi
  have ha := y.nd i hi
  have hlk := h.v.k i hi
  have hq := h.v.lpc hi
  have hg := h.v.gpc hi
  have sL := stepK_pc (t := c.tl (c.node i)) (m := c.m) (s := st.s) (i := (c.slot i : Int)) y.k.2 hq
  have sG := stepK_pc (t := c.tg) (m := c.m) (s := st.s) (i := (c.node i : Int)) y.k.1 hg
  have hiT : i < st.T.length := by have := h.v.lT; omega
  have hGl : c.node i < st.G.length := by rw [h.fG.len]; exact ha.1
  have gne : ∀ q a, a ≠ c.node i → sv (st.G.set (c.node i) q) a = sv st.G a := fun q a e => by rw [svS hGl, if_neg e]
  have geq : ∀ q, sv (st.G.set (c.node i) q) (c.node i) = q := fun q => by rw [svS hGl, if_pos rfl]
  have hst := h.sj i hi
  have hfr : ¬ busyP (sv st.T i) → (lsp st.L (c.node i) (c.slot i)).pc = 10 → FrP (sv st.G (c.node i)) (ldW st.s.W (c.cw (c.node i))) := fun hb h10 => by
    refine h.fr _ ha.1 (fun j hj hn hbj => ?_)
    have e := h.uniq y hi hj hn.symm h10 hbj
    rw [← e] at hbj
    exact hb hbj
  unfold coStep at hv ⊢
  split
  · exact h
  rename_i hne
  rw [if_neg hne] at hv
  obtain ⟨p, hp⟩ : ∃ p, p = sv st.T i := ⟨_, rfl⟩
  rw [← hp] at hlk hne hv hst hfr ⊢
  have hc : p.pc = 1 ∨ p.pc = 2 ∨ p.pc = 3 ∨ p.pc = 4 ∨ p.pc = 11 ∨ p.pc = 12 ∨ p.pc = 13 ∨ p.pc = 14 ∨ p.pc = 15 ∨ p.pc = 16 := by unfold linkP at hlk; omega
  have hbp : ¬ busyP p → ¬ busyP (sv st.T i) := by rw [hp]; exact id
  -- a step of the local lock
  have LS := (h.fL _ ha.1).step y.k.2 hB.w (by omega) hB1 ha.2 hq
  have LF := h.frL y ha.1 (near_stepK _ _ _ _ _ _).2 LS.2
  -- of the global one
  have GS := h.fG.step y.k.1 hB.w (by omega) hB1 ha.1 hg
  have GF := h.frG y (near_stepK _ _ _ _ _ _).2 GS.2
  obtain ⟨pc, u, b, z⟩ := p
  simp only at hc
  have hL10 : pc ≠ 0 → pc ≠ 1 → pc ≠ 16 → (lsp st.L (c.node i) (c.slot i)).pc = 10 := fun a0 a1 a2 => by unfold linkP at hlk; simp only at hlk; omega
  have nl := fun b hb => (h.fL b hb)
  have fLs : ∀ b, b < N → FInv c.kl (c.tl b) c.m (ml b) (stL c st i).1.W ((setL c st i (stL c st i).2).getD b []) := fun b hb => by
    unfold setL
    rw [lset_getD _ _ _ _ (by rw [h.lL]; exact ha.1)]
    split
    · rename_i e; rw [e]; exact LS.1
    · rename_i e; exact LF.2.1 b hb e
  have lSL : ∀ q, (setL c st i q).length = N := fun q => by rw [setL_len, h.lL]
  rcases hc with rfl | rfl | rfl | rfl | rfl | rfl | rfl | rfl | rfl | rfl
  · rw [mv1] at hv ⊢
    refine h.updA (p' := if camL c st i then ⟨2, u, b, z⟩ else ⟨1, u, b, z⟩) hi (hbp (by unfold busyP; simp)) ?_ rfl rfl LF.2.2 (fun j hj => (y.nd j hj).1) (near_stepK _ _ _ _ _ _).2 LF.1 fLs (lSL _) hv
    unfold busyP
    split <;> simp
  · have h10 := hL10 (by decide) (by decide) (by decide)
    have hF := (hfr (by unfold busyP; simp) h10).of
    rw [mv2] at hv ⊢
    split
    · rename_i hpos
      rw [if_pos hpos] at hv
      refine h.updB y (p' := ⟨10, ldW st.s.W (c.cw (c.node i)), b, z⟩) hi h10 rfl (fun _ _ => rfl) (fun a _ _ => by show ldW (loadA _ _).W _ = _; rw [loadA_W]) ?_ (fun hb => absurd (show busyP _ from .inr (.inr ⟨by show (10 : Int) ≤ 10; decide, by show (10 : Int) ≤ 15; decide⟩)) hb) (by show (loadA _ _).W.length = _; rw [loadA_W]) (by show FInv _ _ _ _ (loadA _ _).W _; rw [loadA_W]; exact h.fG) (fun b hb => by show FInv _ _ _ _ (loadA _ _).W _; rw [loadA_W]; exact h.fL b hb) h.lL hv
      exact ⟨fun e => by simp at e, fun e => by simp at e, fun _ => hF.1 hpos, fun e => by simp at e, fun e => by simp at e⟩
    · rename_i hpos
      rw [if_neg hpos] at hv
      have g0 := hF.2 hpos
      refine h.updB y (p' := ⟨3, ldW st.s.W (c.cw (c.node i)), b, z⟩) hi h10 rfl (fun a e => gne _ a e) (fun a _ _ => by show ldW (loadA _ _).W _ = _; rw [loadA_W]) ?_ (fun hb => absurd (show busyP _ from .inl rfl) hb) (by show (loadA _ _).W.length = _; rw [loadA_W]) (by show FInv _ _ _ _ (loadA _ _).W _; rw [loadA_W]; exact h.fG.ask y.k.1 ha.1) (fun b hb => by show FInv _ _ _ _ (loadA _ _).W _; rw [loadA_W]; exact h.fL b hb) h.lL hv
      refine ⟨fun _ => ⟨?_, ?_⟩, fun e => by simp at e, fun e => by simp at e, fun e => by simp at e, fun e => by simp at e⟩
      · show 0 < (sv (st.G.set (c.node i) (askK c.kg (sv st.G (c.node i)))) (c.node i)).pc ∧ (sv (st.G.set (c.node i) (askK c.kg (sv st.G (c.node i)))) (c.node i)).pc < 10
        rw [geq, askK_pc g0]; decide
      · show ¬ 0 < ldW (loadA _ _).W _
        rw [loadA_W]; exact hpos
  · have h10 := hL10 (by decide) (by decide) (by decide)
    have hs3 := hst.1 rfl
    have s2 := sG.2.1 hs3.1.1 hs3.1.2
    have ec : camG c st i = decide ((stG c st i).2.pc = 10) := came_in hs3.1.1 hs3.1.2 s2.1
    rw [mv3] at hv ⊢
    refine h.updB y (p' := if camG c st i then ⟨4, u, b, z⟩ else ⟨3, u, b, z⟩) hi h10 rfl (fun a e => gne _ a e) (fun a ha' _ => GF.2 a ha') ?_ ?_ (near_stepK _ _ _ _ _ _).2 GS.1 GF.1 h.lL hv
    · show StP _ (sv (st.G.set (c.node i) (stG c st i).2) (c.node i)) (ldW (stG c st i).1.W (c.cw (c.node i)))
      rw [geq, show ldW (stG c st i).1.W (c.cw (c.node i)) = _ from GF.2 _ ha.1]
      split
      · rename_i e
        rw [ec] at e
        have e' : (stG c st i).2.pc = 10 := by simpa using e
        exact ⟨fun e => by simp at e, fun _ => ⟨e', hs3.2⟩, fun e => by simp at e, fun e => by simp at e, fun e => by simp at e⟩
      · rename_i e
        rw [ec] at e
        have e' : ¬ (stG c st i).2.pc = 10 := by simpa using e
        refine ⟨fun _ => ⟨⟨s2.1, ?_⟩, hs3.2⟩, fun e => by simp at e, fun e => by simp at e, fun e => by simp at e, fun e => by simp at e⟩
        have := s2.2
        show (stG c st i).2.pc < 10
        unfold stG at *
        omega
    · intro hb
      exfalso; apply hb
      unfold busyP
      split <;> simp
  · have h10 := hL10 (by decide) (by decide) (by decide)
    have hs4 := hst.2.1 rfl
    have CF := h.frC y ha.1 1
    rw [mv4] at hv ⊢
    refine h.updB y (p' := ⟨10, 1, b, z⟩) hi h10 rfl (fun _ _ => rfl) (fun a ha' e => by show ldW (storeA _ _ _).W _ = _; rw [storeA_W]; exact CF.2.2.1 a ha' e) ?_ (fun hb => absurd (show busyP _ from .inr (.inr ⟨by show (10 : Int) ≤ 10; decide, by show (10 : Int) ≤ 15; decide⟩)) hb) (by show (storeA _ _ _).W.length = _; rw [storeA_W, stW_len]) (by show FInv _ _ _ _ (storeA _ _ _).W _; rw [storeA_W]; exact CF.1) (fun b hb => by show FInv _ _ _ _ (storeA _ _ _).W _; rw [storeA_W]; exact CF.2.1 b hb) h.lL hv
    exact ⟨fun e => by simp at e, fun e => by simp at e, fun _ => hs4.1, fun e => by simp at e, fun e => by simp at e⟩
  · have h10 := hL10 (by decide) (by decide) (by decide)
    have hs := hst.2.2.1 (by simp)
    rw [mv11] at hv ⊢
    refine h.updB y (p' := ⟨if c.bud < ldW st.s.W (c.cw (c.node i)) then 14 else 12, ldW st.s.W (c.cw (c.node i)), b, z⟩) hi h10 rfl (fun _ _ => rfl) (fun a _ _ => by show ldW (loadA _ _).W _ = _; rw [loadA_W]) ?_ ?_ (by show (loadA _ _).W.length = _; rw [loadA_W]) (by show FInv _ _ _ _ (loadA _ _).W _; rw [loadA_W]; exact h.fG) (fun b hb => by show FInv _ _ _ _ (loadA _ _).W _; rw [loadA_W]; exact h.fL b hb) h.lL hv
    · refine ⟨fun e => ?_, fun e => ?_, fun _ => hs, fun e => ?_, fun e => ?_⟩ <;> (simp only at e; split at e <;> omega)
    · intro hb; exfalso; apply hb
      unfold busyP
      simp only
      split <;> simp
  · have h10 := hL10 (by decide) (by decide) (by decide)
    have hs := hst.2.2.1 (by simp)
    rw [mv12] at hv ⊢
    have hal : (aloneK c.kl (c.tl (c.node i)) st.s (c.slot i) (lsp st.L (c.node i) (c.slot i))).1.W = st.s.W := by
      unfold aloneK
      (repeat' split) <;> first | rfl | exact loadA_W _ _
    refine h.updB y (p' := ⟨if passB u c.bud (aloneK c.kl (c.tl (c.node i)) st.s (c.slot i) (lsp st.L (c.node i) (c.slot i))).2 then 13 else 14, u, b, z⟩) hi h10 rfl (fun _ _ => rfl) (fun a _ _ => by show ldW (aloneK _ _ _ _ _).1.W _ = _; rw [hal]) ?_ ?_ (by show (aloneK _ _ _ _ _).1.W.length = _; rw [hal]) (by show FInv _ _ _ _ (aloneK _ _ _ _ _).1.W _; rw [hal]; exact h.fG) (fun b hb => by show FInv _ _ _ _ (aloneK _ _ _ _ _).1.W _; rw [hal]; exact h.fL b hb) h.lL hv
    · refine ⟨fun e => ?_, fun e => ?_, fun _ => hs, fun e => ?_, fun e => ?_⟩
      · simp only at e; split at e <;> omega
      · simp only at e; split at e <;> omega
      · simp only at e
        split at e
        · rename_i hpass
          unfold passB at hpass
          simp only [Bool.and_eq_true, decide_eq_true_eq] at hpass
          exact hpass.1.1
        · omega
      · simp only at e; split at e <;> omega
    · intro hb; exfalso; apply hb
      unfold busyP
      simp only
      split <;> simp
  · have h10 := hL10 (by decide) (by decide) (by decide)
    have hs := hst.2.2.1 (by simp)
    have hu := hst.2.2.2.1 rfl
    have CF := h.frC y ha.1 (u + 1)
    rw [mv13] at hv ⊢
    refine h.updB y (p' := ⟨16, u, b, z⟩) hi h10 rfl (fun _ _ => rfl) (fun a ha' e => by show ldW (storeA _ _ _).W _ = _; rw [storeA_W]; exact CF.2.2.1 a ha' e) (stP_idle (by unfold busyP; simp)) ?_ (by show (storeA _ _ _).W.length = _; rw [storeA_W, stW_len]) (by show FInv _ _ _ _ (storeA _ _ _).W _; rw [storeA_W]; exact CF.1) ?_ (lSL _) hv
    · intro _
      show FrP _ (ldW (storeA _ _ _).W _)
      rw [storeA_W, CF.2.2.2]
      unfold FrP
      rw [if_pos (by simp only at hu; omega)]; exact hs
    · show ∀ b, b < N → FInv _ _ _ _ (storeA _ _ _).W _
      rw [storeA_W]
      exact h.setLL ha.1 CF.2.1 (by rw [ls_sv]; exact (CF.2.1 _ ha.1).leave y.k.2 ha.2)
  · have h10 := hL10 (by decide) (by decide) (by decide)
    have hs := hst.2.2.1 (by simp)
    have CF := h.frC y ha.1 0
    rw [mv14] at hv ⊢
    refine h.updB y (p' := ⟨15, u, b, z⟩) hi h10 rfl (fun a e => gne _ a e) (fun a ha' e => by show ldW (storeA _ _ _).W _ = _; rw [storeA_W]; exact CF.2.2.1 a ha' e) ?_ (fun hb => absurd (show busyP _ from .inr (.inr ⟨by show (10 : Int) ≤ 15; decide, by show (15 : Int) ≤ 15; decide⟩)) hb) (by show (storeA _ _ _).W.length = _; rw [storeA_W, stW_len]) (by show FInv _ _ _ _ (storeA _ _ _).W _; rw [storeA_W]; exact CF.1.leave y.k.1 ha.1) (fun b hb => by show FInv _ _ _ _ (storeA _ _ _).W _; rw [storeA_W]; exact CF.2.1 b hb) h.lL hv
    refine ⟨fun e => by simp at e, fun e => by simp at e, fun e => by simp at e, fun e => by simp at e, fun _ => ⟨?_, ?_⟩⟩
    · show 10 < (sv (st.G.set (c.node i) (leaveK (sv st.G (c.node i)))) (c.node i)).pc
      rw [geq, leaveK_pc hs]; decide
    · show ¬ 0 < ldW (storeA _ _ _).W _
      rw [storeA_W, CF.2.2.2]; decide
  · have h10 := hL10 (by decide) (by decide) (by decide)
    have hs := hst.2.2.2.2 rfl
    have s2 := sG.2.2 hs.1
    have ec : camG c st i = decide ((stG c st i).2.pc = 0) := came_out hs.1 s2
    rw [mv15] at hv ⊢
    split
    · rename_i e
      rw [if_pos e] at hv
      rw [ec] at e
      have e' : (stG c st i).2.pc = 0 := by simpa using e
      refine h.updB y (p' := ⟨16, u, b, z⟩) hi h10 rfl (fun a e => gne _ a e) (fun a ha' _ => GF.2 a ha') (stP_idle (by unfold busyP; simp)) ?_ (near_stepK _ _ _ _ _ _).2 GS.1 (h.setLL ha.1 GF.1 (by rw [ls_sv]; exact (GF.1 _ ha.1).leave y.k.2 ha.2)) (lSL _) hv
      intro _
      show FrP (sv (st.G.set (c.node i) (stG c st i).2) (c.node i)) (ldW (stG c st i).1.W (c.cw (c.node i)))
      rw [geq, show ldW (stG c st i).1.W (c.cw (c.node i)) = _ from GF.2 _ ha.1]
      unfold FrP
      rw [if_neg hs.2]; exact e'
    · rename_i e
      rw [if_neg e] at hv
      rw [ec] at e
      have e' : ¬ (stG c st i).2.pc = 0 := by simpa using e
      refine h.updB y (p' := ⟨15, u, b, z⟩) hi h10 rfl (fun a e => gne _ a e) (fun a ha' _ => GF.2 a ha') ?_ (fun hb => absurd (show busyP _ from .inr (.inr ⟨by show (10 : Int) ≤ 15; decide, by show (15 : Int) ≤ 15; decide⟩)) hb) (near_stepK _ _ _ _ _ _).2 GS.1 GF.1 h.lL hv
      refine ⟨fun e => by simp at e, fun e => by simp at e, fun e => by simp at e, fun e => by simp at e, fun _ => ⟨?_, ?_⟩⟩
      · show 10 < (sv (st.G.set (c.node i) (stG c st i).2) (c.node i)).pc
        rw [geq]
        unfold stG at *
        omega
      · show ¬ 0 < ldW (stG c st i).1.W (c.cw (c.node i))
        rw [show ldW (stG c st i).1.W (c.cw (c.node i)) = _ from GF.2 _ ha.1]; exact hs.2
  · rw [mv16] at hv ⊢
    refine h.updA (p' := if camL c st i then ⟨0, u, b, z⟩ else ⟨16, u, b, z⟩) hi (hbp (by unfold busyP; simp)) ?_ rfl rfl LF.2.2 (fun j hj => (y.nd j hj).1) (near_stepK _ _ _ _ _ _).2 LF.1 fLs (lSL _) hv
    unfold busyP
    split <;> simp
end
end Go.Proofs.YtmlcfmickonfbaaGreat
end
section
set_option linter.unusedVariables false
set_option linter.unusedSimpArgs false
/- Layers 15 to 20: a new flat lock of any kind: it comes to be, and the arena has some words more. (written by wip/gen_fk.py) -/
namespace Go.Proofs.YtmlcfmickonfbaaGreat
open Go.RowKit

def takeS (s : Ar) (n : Nat) : Ar := { s with W := s.W ++ List.replicate n 0 }
theorem takeY {w : World} {a g : Nat} {s : Ar} (h : ArIs w a g s) (n : Nat) (hn : s.W.length + n ≤ s.room) :
    Calls Tryz.prog 26 #[.pointer (some ⟨a, 0, none⟩), .int .i64 n] w fun e w' => e = .returned (.tuple #[.int .i64 ((s.W.length : Int) + 1), .int .i64 0]) ∧ ArIs w' a g (takeS s n) ∧ Turns [a] w w' := by
  refine (take_any h n).mono ?_
  have e : takeA s n = (takeS s n, (s.W.length : Int) + 1, (0 : Int)) := by
    unfold takeA
    rw [if_neg (by omega), if_neg (by omega), Int.toNat_natCast]; rfl
  rw [e]
  rintro en w' ⟨h1, h2, h3⟩
  exact ⟨h1, h2, h3⟩
theorem cells_newF (w : World) (xs : List Value) (t : TypeId) : ∀ j u, xs[j]? = some u → (w.alloc (.cells xs.toArray t)).cell? ((⟨w.heap.size, 0, none⟩ : Addr).add j) = some u := by
  intro j u hj
  have k := Blk.new w t xs.toArray
  have c := k.cell j
  have e : (⟨w.heap.size, 0, none⟩ : Addr).add j = ⟨w.heap.size, j, none⟩ := by
    simp [Addr.add]
    exact fun h => h.symm
  rw [e, c]
  simpa using hj
theorem Tryz.infoSpF : (Tryz.prog.info? 38).map (fun i => (i.zero, i.size, i.bytes)) = some (some (.agg #[.int .i64 0, .int .i64 0, .int .i64 0, .int .i64 0]), 4, 32) := by kernel_rfl
theorem placeF {w : World} {l : Nat} {va vs : Value} (nx : Nat) (m : Nat) (hm : 1 ≤ m) (hx : nx ≤ 100000) (h : Blk w l 160 #[va, .int .i64 nx, .int .i64 m, vs]) :
    Calls Tryz.prog 99 #[.pointer (some ⟨l, 0, none⟩), .int .i64 0] w fun e w' => e = .returned (.int .i64 ((nx : Int) + 1)) ∧ Below w.heap.size w w' := by
  have c1 : w.cell? ⟨l, 1, none⟩ = some (.int .i64 nx) := h.cell 1
  have c2 : w.cell? ⟨l, 2, none⟩ = some (.int .i64 m) := h.cell 2
  have t1 : ¬ (m : Int) = 0 := by omega
  have t2 : ((m : Int) == 0) = false := by simpa using t1
  have x1 : IntKind.i64.wrap ((nx : Int) + 1) = (nx : Int) + 1 := IntWalk.i64_in _ (by omega)
  clear h
  go_enter Tryz.func99, Tryz.ntmps99
  go_wp2_with fail
  go_quiet (fail)
  go_wp2
  go_ret
  exact ⟨rfl, below_drewN (Below.refl _ _) _⟩
theorem mayF (w : World) (n : Nat) (h1 : 1 ≤ n) (h2 : n ≤ 32) : Calls Tryz.prog 98 #[.int .i64 n] w fun e w' => e = .returned (.bool true) ∧ w = w' := by
  have t1 : (1 : Int) ≤ n := by omega
  have t2 : (n : Int) ≤ 32 := by omega
  go_enter Tryz.func98, Tryz.ntmps98
  go_wp2
  go_ret
  exact ⟨rfl, rfl⟩
end Go.Proofs.YtmlcfmickonfbaaGreat
end
section
set_option linter.unusedVariables false
set_option linter.unusedSimpArgs false
/- Layers 15 to 18: a new flat lock (tas, ticket, mcs), exactly. (written by wip/gen_fn.py) -/
namespace Go.Proofs.YtmlcfmickonfbaaGreat
open Go.RowKit

theorem fmade_const4 (u : Value) (n : Nat) : (madeCells #[u, u, u, u] n).toList = List.replicate n u := by
  unfold madeCells
  rw [Array.toList_map, Array.toList_range]
  refine List.ext_getElem? fun i => ?_
  rw [List.getElem?_map, List.getElem?_replicate]
  by_cases h : i < n
  · rw [List.getElem?_range h, if_pos h]
    have : i % 4 = 0 ∨ i % 4 = 1 ∨ i % 4 = 2 ∨ i % 4 = 3 := by omega
    rcases this with e | e | e | e <;> simp [e]
  · rw [if_neg h]; simp; omega
theorem fflat_zero (n : Nat) : (List.replicate n Sp.zero).flatMap encP4 = List.replicate (n * 4) (.int .i64 0) := by
  induction n with
  | zero => rfl
  | succ n ih => rw [List.replicate_succ, List.flatMap_cons, ih, show (n + 1) * 4 = 4 + n * 4 by omega, ← List.replicate_append_replicate]; rfl
/-- spots that were made -/
theorem spr_made {w : World} {base q n : Nat} (h : w.ownsRow base 38 4 (.slice (some ⟨q, 0, none⟩) n n) n (madeCells #[Value.int .i64 0, .int .i64 0, .int .i64 0, .int .i64 0] (n * 4)).toList) : SpR w q (List.replicate n Sp.zero) := by
  have := own_blk h
  refine ⟨[], ?_⟩
  rw [List.append_nil, fflat_zero]
  have e : (madeCells #[Value.int .i64 0, .int .i64 0, .int .i64 0, .int .i64 0] (n * 4)).toList = List.replicate (n * 4) (.int .i64 0) := fmade_const4 _ _
  rw [e] at this
  exact this
/-- how many words a lock takes; the arena after it came to be; its spots -/
def szK (k n m : Nat) : Nat := if k = 1 then 1 else if k = 2 then 2 else if k = 3 then 1 + m else if k = 4 then 1 + 2 * n else n + 2
def newAr_ (k : Nat) (s : Ar) (n m : Nat) : Ar :=
  if k = 3 then storeA (takeS s (szK k n m)) ((s.W.length : Int) + 2) 1 else if k = 5 then storeA (takeS s (szK k n m)) ((s.W.length : Int) + 1) ((n : Int) + 1) else takeS s (szK k n m)
def newSpK (k n : Nat) : List Sp := if k = 5 then (List.range n).map fun (i : Nat) => (⟨0, (i : Int) + 1, 0, 0⟩ : Sp) else List.replicate n Sp.zero
/-- a new lock, exactly -/
def NewX (w : World) (a g k : Nat) (s : Ar) (n m : Nat) (e : Ending) (w' : World) : Prop :=
  ∃ x : Fx, e = .returned (.tuple #[.pointer (some ⟨x.l, 0, none⟩), .int .i64 0]) ∧ KIs w' a g k x (newAr_ k s n m) (newSpK k n) ∧ (w.heap.size ≤ x.l ∧ w.heap.size ≤ x.q ∧ x.n = n ∧ x.m = m ∧ x.t = s.W.length + 1 ∧ x.k = k) ∧ Turns [a, g] w w'
set_option maxRecDepth 100000 in
set_option maxHeartbeats 1000000 in
theorem ticketNewX {w : World} {a g : Nat} {s : Ar} (h : ArIs w a g s) (n : Nat) (h1 : 1 ≤ n) (h2 : n ≤ 32) (m : Nat) (hm1 : 1 ≤ m) (hm2 : m ≤ 4) (hr : s.W.length + (2) ≤ s.room) :
    Calls Tryz.prog 73 #[.pointer (some ⟨a, 0, none⟩), .int .i64 n] w (NewX w a g 2 s n m) := by
  obtain ⟨i0, hi, hz0, hz1, hz2⟩ := info_parts Tryz.infoSpF
  have HT := Lib.hid (takeY h (2) hr)
  have t1 : ¬ (n : Int) < 1 := by omega
  have t2 : ¬ 32 < (n : Int) := by omega
  have HR := Lib.hid (And.intro hr h.room)
  have HG := Lib.hid (And.intro h.blk.lt h.wds.lt)
  clear h hr
  go_enter Tryz.func73, Tryz.ntmps73
  go_wp2_with fail
  refine HT.out.mono ?_
  rintro en w1 ⟨rfl, k1, t1'⟩
  have H1 := Lib.hid (And.intro k1 t1')
  clear k1 t1' HT
  go_wp2_with (refine wpList_make_full _ rfl _ _ 57 rfl w1.heap.size 38 i0 (.agg #[.int .i64 0, .int .i64 0, .int .i64 0, .int .i64 0]) 4 Tryz.underlying57 hi hz0 hz1 .i64 .i64 n n n rfl rfl rfl rfl ?b2 ?b3 (Nat.le_refl _) ?_)
  case b2 => rw [hz2]; omega
  case b3 => unfold maxLen; omega
  intro w2 hown hg
  have t2' : Turns [] w1 w2 := Turns.of_below ((Below.refl w1.heap.size w1).grown hg (Nat.le_refl _) (fun j hj => by cases hj))
  have H2 := Lib.hid t2'
  have HS := Lib.hid (spr_made hown)
  clear hown hg t2'
  go_wp2
  go_ret2
  have k2 := H1.out.1.turns H2.out (by simp) (by simp)
  have s1 := H1.out.2.size
  have s2 := H2.out.size
  have hq := HS.out.lt
  have hgg := HG.out
  have hrr := HR.out
  have tA : Turns [] w2 (w2.alloc (.cells (lkC 2 a ⟨0, w2.heap.size, w1.heap.size, 2, s.W.length + 1, m, n, n⟩) (lkT 2))) := (Turns.refl _ _).alloc _
  have hb := Blk.new w2 (lkT 2) (lkC 2 a ⟨0, w2.heap.size, w1.heap.size, 2, s.W.length + 1, m, n, n⟩)
  refine ⟨⟨0, w2.heap.size, w1.heap.size, 2, s.W.length + 1, m, n, n⟩, rfl, ?_, ⟨by show w.heap.size ≤ w2.heap.size; omega, by show w.heap.size ≤ w1.heap.size; omega, rfl, rfl, rfl, rfl⟩, ((H1.out.2.mono (by simp)).trans (H2.out.mono (by simp))).alloc _⟩
  exact ⟨k2.turns tA (by simp) (by simp), hb, HS.out.turns tA (by simp), by show (List.replicate n Sp.zero).length = n; simp, by show w2.heap.size ≠ a; omega, by show w2.heap.size ≠ g; omega, by show w2.heap.size ≠ w1.heap.size; omega, by show w1.heap.size ≠ a; omega, by show w1.heap.size ≠ g; omega, h2, by show 1 ≤ s.W.length + 1; omega, by show s.W.length + 1 ≤ 5000; omega, hm1, hm2, Nat.le_refl _⟩
set_option maxRecDepth 100000 in
set_option maxHeartbeats 1000000 in
theorem mcsNewX {w : World} {a g : Nat} {s : Ar} (h : ArIs w a g s) (n : Nat) (h1 : 1 ≤ n) (h2 : n ≤ 32) (m : Nat) (hm1 : 1 ≤ m) (hm2 : m ≤ 4) (hr : s.W.length + (1 + 2 * n) ≤ s.room) :
    Calls Tryz.prog 75 #[.pointer (some ⟨a, 0, none⟩), .int .i64 n] w (NewX w a g 4 s n m) := by
  obtain ⟨i0, hi, hz0, hz1, hz2⟩ := info_parts Tryz.infoSpF
  have HT := Lib.hid (takeY h (1 + 2 * n) hr)
  have t1 : ¬ (n : Int) < 1 := by omega
  have t2 : ¬ 32 < (n : Int) := by omega
  have HR := Lib.hid (And.intro hr h.room)
  have HG := Lib.hid (And.intro h.blk.lt h.wds.lt)
  have x1 : IntKind.i64.wrap (2 * (n : Int)) = 2 * (n : Int) := IntWalk.i64_in _ (by omega)
  have x2 : IntKind.i64.wrap (1 + 2 * (n : Int)) = ((1 + 2 * n : Nat) : Int) := by rw [IntWalk.i64_in _ (by omega)]; omega
  clear h hr
  go_enter Tryz.func75, Tryz.ntmps75
  go_wp2_with fail
  refine HT.out.mono ?_
  rintro en w1 ⟨rfl, k1, t1'⟩
  have H1 := Lib.hid (And.intro k1 t1')
  clear k1 t1' HT
  go_wp2_with (refine wpList_make_full _ rfl _ _ 57 rfl w1.heap.size 38 i0 (.agg #[.int .i64 0, .int .i64 0, .int .i64 0, .int .i64 0]) 4 Tryz.underlying57 hi hz0 hz1 .i64 .i64 n n n rfl rfl rfl rfl ?b2 ?b3 (Nat.le_refl _) ?_)
  case b2 => rw [hz2]; omega
  case b3 => unfold maxLen; omega
  intro w2 hown hg
  have t2' : Turns [] w1 w2 := Turns.of_below ((Below.refl w1.heap.size w1).grown hg (Nat.le_refl _) (fun j hj => by cases hj))
  have H2 := Lib.hid t2'
  have HS := Lib.hid (spr_made hown)
  clear hown hg t2'
  go_wp2
  go_ret2
  have k2 := H1.out.1.turns H2.out (by simp) (by simp)
  have s1 := H1.out.2.size
  have s2 := H2.out.size
  have hq := HS.out.lt
  have hgg := HG.out
  have hrr := HR.out
  have tA : Turns [] w2 (w2.alloc (.cells (lkC 4 a ⟨0, w2.heap.size, w1.heap.size, 4, s.W.length + 1, m, n, n⟩) (lkT 4))) := (Turns.refl _ _).alloc _
  have hb := Blk.new w2 (lkT 4) (lkC 4 a ⟨0, w2.heap.size, w1.heap.size, 4, s.W.length + 1, m, n, n⟩)
  refine ⟨⟨0, w2.heap.size, w1.heap.size, 4, s.W.length + 1, m, n, n⟩, rfl, ?_, ⟨by show w.heap.size ≤ w2.heap.size; omega, by show w.heap.size ≤ w1.heap.size; omega, rfl, rfl, rfl, rfl⟩, ((H1.out.2.mono (by simp)).trans (H2.out.mono (by simp))).alloc _⟩
  exact ⟨k2.turns tA (by simp) (by simp), hb, HS.out.turns tA (by simp), by show (List.replicate n Sp.zero).length = n; simp, by show w2.heap.size ≠ a; omega, by show w2.heap.size ≠ g; omega, by show w2.heap.size ≠ w1.heap.size; omega, by show w1.heap.size ≠ a; omega, by show w1.heap.size ≠ g; omega, h2, by show 1 ≤ s.W.length + 1; omega, by show s.W.length + 1 ≤ 5000; omega, hm1, hm2, Nat.le_refl _⟩
set_option maxRecDepth 100000 in
set_option maxHeartbeats 1000000 in
theorem tasNewX {w : World} {a g : Nat} {s : Ar} (h : ArIs w a g s) (n : Nat) (h1 : 1 ≤ n) (h2 : n ≤ 32) (m : Nat) (hm1 : 1 ≤ m) (hm2 : m ≤ 4) (hr : s.W.length + (1) ≤ s.room) :
    Calls Tryz.prog 72 #[.pointer (some ⟨a, 0, none⟩), .int .i64 n, .int .i64 m] w (NewX w a g 1 s n m) := by
  obtain ⟨i0, hi, hz0, hz1, hz2⟩ := info_parts Tryz.infoSpF
  have HT := Lib.hid (takeY h (1) hr)
  have t1 : ¬ (n : Int) < 1 := by omega
  have t2 : ¬ 32 < (n : Int) := by omega
  have HR := Lib.hid (And.intro hr h.room)
  have HG := Lib.hid (And.intro h.blk.lt h.wds.lt)
  have t3 : ¬ (m : Int) < 1 := by omega
  have t4 : ¬ 1024 < (m : Int) := by omega
  clear h hr
  go_enter Tryz.func72, Tryz.ntmps72
  go_wp2_with fail
  refine HT.out.mono ?_
  rintro en w1 ⟨rfl, k1, t1'⟩
  have H1 := Lib.hid (And.intro k1 t1')
  clear k1 t1' HT
  go_wp2_with (refine wpList_make_full _ rfl _ _ 57 rfl w1.heap.size 38 i0 (.agg #[.int .i64 0, .int .i64 0, .int .i64 0, .int .i64 0]) 4 Tryz.underlying57 hi hz0 hz1 .i64 .i64 n n n rfl rfl rfl rfl ?b2 ?b3 (Nat.le_refl _) ?_)
  case b2 => rw [hz2]; omega
  case b3 => unfold maxLen; omega
  intro w2 hown hg
  have t2' : Turns [] w1 w2 := Turns.of_below ((Below.refl w1.heap.size w1).grown hg (Nat.le_refl _) (fun j hj => by cases hj))
  have H2 := Lib.hid t2'
  have HS := Lib.hid (spr_made hown)
  clear hown hg t2'
  go_wp2
  go_ret2
  have k2 := H1.out.1.turns H2.out (by simp) (by simp)
  have s1 := H1.out.2.size
  have s2 := H2.out.size
  have hq := HS.out.lt
  have hgg := HG.out
  have hrr := HR.out
  have tA : Turns [] w2 (w2.alloc (.cells (lkC 1 a ⟨0, w2.heap.size, w1.heap.size, 1, s.W.length + 1, m, n, n⟩) (lkT 1))) := (Turns.refl _ _).alloc _
  have hb := Blk.new w2 (lkT 1) (lkC 1 a ⟨0, w2.heap.size, w1.heap.size, 1, s.W.length + 1, m, n, n⟩)
  refine ⟨⟨0, w2.heap.size, w1.heap.size, 1, s.W.length + 1, m, n, n⟩, rfl, ?_, ⟨by show w.heap.size ≤ w2.heap.size; omega, by show w.heap.size ≤ w1.heap.size; omega, rfl, rfl, rfl, rfl⟩, ((H1.out.2.mono (by simp)).trans (H2.out.mono (by simp))).alloc _⟩
  exact ⟨k2.turns tA (by simp) (by simp), hb, HS.out.turns tA (by simp), by show (List.replicate n Sp.zero).length = n; simp, by show w2.heap.size ≠ a; omega, by show w2.heap.size ≠ g; omega, by show w2.heap.size ≠ w1.heap.size; omega, by show w1.heap.size ≠ a; omega, by show w1.heap.size ≠ g; omega, h2, by show 1 ≤ s.W.length + 1; omega, by show s.W.length + 1 ≤ 5000; omega, hm1, hm2, Nat.le_refl _⟩
end Go.Proofs.YtmlcfmickonfbaaGreat
end
