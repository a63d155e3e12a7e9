/- Joined: Cn10, Cn11, Cn12, Ar2C, Ar2S, Ar3, Ar4. -/
import Derived.Deep.QuietTactic
import Derived.BigQuiet
import Derived.Test.YtkdaiomjbkpedaaGreatMgCnaU2
import Derived.Test.YtkdaiomjbkpedaaGreatMgCnaU6
section
/- Layer 31 (cna): in turn, all come to rest. No program in sight. -/
namespace Go.Proofs.YtkdaiomjbkpedaaGreat
open Go

def wgC (w : Wk) (p : Sp) : Nat :=
  if p.pc = 1 then 25 else if p.pc = 2 then 24 else if p.pc = 3 then 23 else if p.pc = 4 then 22 else if p.pc = 5 then 21 else if p.pc = 6 then 21
  else if p.pc = 10 then 20 else if p.pc = 11 then 19 else if p.pc = 12 then 18 else if p.pc = 13 then 16 else if p.pc = 14 then 17 else if p.pc = 15 then 16 else if p.pc = 16 then 15
  else if p.pc = 17 then 14 else if p.pc = 18 then 7 + (7 - w.passed).toNat else if p.pc = 19 then 6 else if p.pc = 20 then 5 else if p.pc = 21 then 4 else if p.pc = 22 then 3 else if p.pc = 23 then 2
  else if p.pc = 25 then 4 else if p.pc = 26 then 3 else if p.pc = 27 then 2 else if p.pc = 29 then 2 else if p.pc = 24 then 1 else if p.pc = 28 then 1 else if p.pc = 30 then 1 else 0
theorem wsum_set2 {f g : Sp → Nat} {S : List Sp} {i : Nat} {p' : Sp} (hi : i < S.length) (h : ∀ j, j ≠ i → j < S.length → g (sv S j) = f (sv S j)) : wsum g (S.set i p') + f (sv S i) = wsum f S + g p' := by
  induction S generalizing i with
  | nil => simp at hi
  | cons a S ih =>
    cases i with
    | zero =>
      have e : wsum g S = wsum f S := by
        have : S.map g = S.map f := by
          apply List.map_congr_left
          intro x hx
          obtain ⟨j, hj, rfl⟩ := List.getElem_of_mem hx
          have := h (j + 1) (by omega) (by simpa using hj)
          have e2 : sv (a :: S) (j + 1) = S[j] := by
            show S.getD j Sp.zero = _
            rw [List.getD_eq_getElem?_getD, List.getElem?_eq_getElem hj]; rfl
          rw [e2] at this; exact this
        unfold wsum; rw [this]
      simp only [wsum, List.set_cons_zero, List.map_cons, List.sum_cons] at e ⊢
      rw [show sv (a :: S) 0 = a from rfl]
      omega
    | succ i =>
      have := ih (i := i) (by simpa using hi) fun j hj hj2 => h (j + 1) (by omega) (by simpa using hj2)
      have e : sv (a :: S) (i + 1) = sv S i := rfl
      have e0 : g a = f a := h 0 (by omega) (by simp)
      rw [e]
      simp only [wsum, List.set_cons_succ, List.map_cons, List.sum_cons] at this ⊢
      omega
/-- one that moves when it is its turn to step -/
def MovC (W : List Int) (S : List Sp) (c : Cfg) (u : Nat) : Prop := (sv S u).pc = 1 ∨ (sv S u).pc = 2 ∨ (sv S u).pc = 3 ∨ (sv S u).pc = 4 ∨ ∃ A R, c = some (u, A, R) ∧ ((sv S u).pc = 16 → cnx W u ≠ 0)
section
variable {n N i : Nat} {bud : Int} {node : Nat → Int} {s : Cn} {c : Cfg}
theorem wg_of {w : Wk} {p : Sp} {x : Int} {v : Nat} (h : p.pc = x) (e : wgC w { p with pc := x } = v) : wgC w p = v := by
  rw [← e, ← h]
theorem wgC_top (w : Wk) (p : Sp) (h : 0 ≤ w.passed) : wgC w p ≤ 25 := by
  unfold wgC
  repeat' apply ite_le
  all_goals omega
where
  ite_le {q : Prop} [Decidable q] {a b K : Nat} (h1 : a ≤ K) (h2 : b ≤ K) : (if q then a else b) ≤ K := by split <;> assumption
theorem wgC_zero {w : Wk} {p : Sp} (h : (0 ≤ p.pc ∧ p.pc ≤ 6) ∨ (10 ≤ p.pc ∧ p.pc ≤ 30)) (hz : wgC w p = 0) : p.pc = 0 := by
  unfold wgC at hz
  have e : p.pc = 0 ∨ p.pc = 1 ∨ p.pc = 2 ∨ p.pc = 3 ∨ p.pc = 4 ∨ p.pc = 5 ∨ p.pc = 6 ∨ p.pc = 10 ∨ p.pc = 11 ∨ p.pc = 12 ∨ p.pc = 13 ∨ p.pc = 14 ∨ p.pc = 15 ∨ p.pc = 16 ∨ p.pc = 17 ∨ p.pc = 18 ∨ p.pc = 19 ∨ p.pc = 20 ∨ p.pc = 21 ∨ p.pc = 22 ∨ p.pc = 23 ∨ p.pc = 24 ∨ p.pc = 25 ∨ p.pc = 26 ∨ p.pc = 27 ∨ p.pc = 28 ∨ p.pc = 29 ∨ p.pc = 30 := by omega
  rcases e with e | e | e | e | e | e | e | e | e | e | e | e | e | e | e | e | e | e | e | e | e | e | e | e | e | e | e | e
  · exact e
  all_goals (simp [e] at hz)
  all_goals omega
/-- a step: no more weight, and less, if it is not a look in vain -/
theorem wdec (k : CIv n bud node s.ar.W s.wk s.S c) (hn : n ≤ 6) (hi : i < n) (h0 : (sv s.S i).pc ≠ 0) (h10 : (sv s.S i).pc ≠ 10) :
    wgC (stepCp n node bud s i (sv s.S i)).2.1 (stepCp n node bud s i (sv s.S i)).2.2 ≤ wgC s.wk (sv s.S i) ∧ (MovC s.ar.W s.S c i → wgC (stepCp n node bud s i (sv s.S i)).2.1 (stepCp n node bud s i (sv s.S i)).2.2 < wgC s.wk (sv s.S i)) ∧
      ((sv s.S i).pc ≤ 16 → (stepCp n node bud s i (sv s.S i)).2.1 = s.wk) := by
  have hwl := k.wl
  have e : (sv s.S i).pc = 1 ∨ (sv s.S i).pc = 2 ∨ (sv s.S i).pc = 3 ∨ (sv s.S i).pc = 4 ∨ (sv s.S i).pc = 5 ∨ (sv s.S i).pc = 6 ∨ (sv s.S i).pc = 11 ∨ (sv s.S i).pc = 12 ∨ (sv s.S i).pc = 13 ∨ (sv s.S i).pc = 14 ∨ (sv s.S i).pc = 15 ∨ (sv s.S i).pc = 16 ∨ (sv s.S i).pc = 17 ∨ (sv s.S i).pc = 18 ∨ (sv s.S i).pc = 19 ∨ (sv s.S i).pc = 20 ∨ (sv s.S i).pc = 21 ∨ (sv s.S i).pc = 22 ∨ (sv s.S i).pc = 23 ∨ (sv s.S i).pc = 24 ∨ (sv s.S i).pc = 25 ∨ (sv s.S i).pc = 26 ∨ (sv s.S i).pc = 27 ∨ (sv s.S i).pc = 28 ∨ (sv s.S i).pc = 29 ∨ (sv s.S i).pc = 30 := by have := k.pcs hi; omega
  rcases e with e | e | e | e | e | e | e | e | e | e | e | e | e | e | e | e | e | e | e | e | e | e | e | e | e | e
  · rw [stp1 e, wg_of e rfl]; exact ⟨Nat.le_of_ble_eq_true rfl, fun _ => Nat.le_of_ble_eq_true rfl, fun _ => rfl⟩
  · rw [stp2 e, wg_of e rfl]; exact ⟨Nat.le_of_ble_eq_true rfl, fun _ => Nat.le_of_ble_eq_true rfl, fun _ => rfl⟩
  · rw [stp3 e, wg_of (v := 23) e rfl]
    by_cases c1 : ldW s.ar.W 1 = 0
    · rw [if_pos c1]; exact ⟨Nat.le_of_ble_eq_true rfl, fun _ => Nat.le_of_ble_eq_true rfl, fun _ => rfl⟩
    · rw [if_neg c1]; exact ⟨Nat.le_of_ble_eq_true rfl, fun _ => Nat.le_of_ble_eq_true rfl, fun _ => rfl⟩
  · rw [stp4 e, wg_of (v := 22) e rfl]; exact ⟨Nat.le_of_ble_eq_true rfl, fun _ => Nat.le_of_ble_eq_true rfl, fun _ => rfl⟩
  · rw [stp5 e, wg_of (v := 21) e rfl, ldc_sp hwl hi]
    by_cases c1 : csp s.ar.W i = 0
    · simp only [c1, ne_eq, not_true, if_false]
      refine ⟨Nat.le_of_ble_eq_true rfl, fun hm => ?_, fun _ => by trivial⟩
      rcases hm with h | h | h | h | ⟨A, R, rfl, _⟩
      · omega
      · omega
      · omega
      · omega
      · have := k.2.own (.inl e)
        rw [c1] at this
        exact absurd this.symm (vA_ne A)
    · rw [if_pos c1]; exact ⟨Nat.le_of_ble_eq_true rfl, fun _ => Nat.le_of_ble_eq_true rfl, fun _ => rfl⟩
  · rw [stp6 e, wg_of (v := 21) e rfl]; exact ⟨Nat.le_of_ble_eq_true rfl, fun _ => Nat.le_of_ble_eq_true rfl, fun _ => rfl⟩
  · rw [stp11 e, wg_of (v := 19) e rfl]; exact ⟨Nat.le_of_ble_eq_true rfl, fun _ => Nat.le_of_ble_eq_true rfl, fun _ => rfl⟩
  · rw [stp12 e, wg_of (v := 18) e rfl]
    by_cases c1 : ldW s.ar.W (cN (num i)) = 0
    · by_cases c2 : 0 < (sv s.S i).b
      · simp only [c1, ne_eq, not_true, if_false, c2, if_true]; exact ⟨Nat.le_of_ble_eq_true rfl, fun _ => Nat.le_of_ble_eq_true rfl, fun _ => by trivial⟩
      · simp only [c1, ne_eq, not_true, if_false, c2]; exact ⟨Nat.le_of_ble_eq_true rfl, fun _ => Nat.le_of_ble_eq_true rfl, fun _ => by trivial⟩
    · rw [if_pos c1]; exact ⟨Nat.le_of_ble_eq_true rfl, fun _ => Nat.le_of_ble_eq_true rfl, fun _ => rfl⟩
  · rw [stp13 e, wg_of (v := 16) e rfl]
    cases casB s.ar 1 (num i)
    · exact ⟨Nat.le_of_ble_eq_true rfl, fun _ => Nat.le_of_ble_eq_true rfl, fun _ => rfl⟩
    · exact ⟨Nat.le_of_ble_eq_true rfl, fun _ => Nat.le_of_ble_eq_true rfl, fun _ => rfl⟩
  · rw [stp14 e, wg_of (v := 17) e rfl]; exact ⟨Nat.le_of_ble_eq_true rfl, fun _ => Nat.le_of_ble_eq_true rfl, fun _ => rfl⟩
  · rw [stp15 e, wg_of (v := 16) e rfl]
    cases casB s.ar 1 (num i)
    · exact ⟨Nat.le_of_ble_eq_true rfl, fun _ => Nat.le_of_ble_eq_true rfl, fun _ => rfl⟩
    · exact ⟨Nat.le_of_ble_eq_true rfl, fun _ => Nat.le_of_ble_eq_true rfl, fun _ => rfl⟩
  · rw [stp16 e, wg_of (v := 15) e rfl, ldc_nx hwl hi]
    by_cases c1 : cnx s.ar.W i = 0
    · simp only [c1, ne_eq, not_true, if_false]
      refine ⟨Nat.le_of_ble_eq_true rfl, fun hm => ?_, fun _ => by trivial⟩
      rcases hm with h | h | h | h | ⟨A, R, _, h⟩
      · omega
      · omega
      · omega
      · omega
      · exact absurd c1 (h e)
    · rw [if_pos c1]; exact ⟨Nat.le_of_ble_eq_true rfl, fun _ => Nat.le_of_ble_eq_true rfl, fun _ => rfl⟩
  · rw [stp17 e, wg_of (v := 14) e rfl]
    by_cases c1 : bud ≤ ldW s.ar.W 2
    · rw [if_pos c1]
      unfold frontC
      by_cases c2 : 0 < (sv s.S i).b
      · simp only [c2, if_true]; exact ⟨Nat.le_of_ble_eq_true rfl, fun _ => Nat.le_of_ble_eq_true rfl, fun h => by omega⟩
      · simp only [c2, if_false]; exact ⟨Nat.le_of_ble_eq_true rfl, fun _ => Nat.le_of_ble_eq_true rfl, fun h => by omega⟩
    · rw [if_neg c1]
      obtain ⟨w', hw'⟩ : ∃ w', w' = beginW n node s.wk (sv s.S i).a (node i) := ⟨_, rfl⟩
      rw [← hw']
      cases hy : w'.way
      · exact ⟨Nat.le_of_ble_eq_true rfl, fun _ => Nat.le_of_ble_eq_true rfl, fun h => by omega⟩
      · have hp1 : w'.passed = 1 := by
          rw [hw'] at hy ⊢
          unfold beginW takeW at hy ⊢
          split at hy
          · simp at hy
          · split at hy
            · simp at hy
            · rename_i h1 h2
              rw [if_neg h1, if_neg h2]; rfl
        have : wgC w' { sv s.S i with c := ldW s.ar.W 2, pc := 18 } = 13 := by
          show 7 + (7 - w'.passed).toNat = 13
          rw [hp1]; rfl
        simp only [if_true]
        rw [this]
        exact ⟨Nat.le_of_ble_eq_true rfl, fun _ => Nat.le_of_ble_eq_true rfl, fun h => by omega⟩
  · obtain ⟨A, R, rfl⟩ := k.isHead hi (by omega)
    obtain ⟨b, kk⟩ := k
    obtain ⟨hway, _, _, P, R', hR, hP, hpas, _, _⟩ := kk.walk e
    have hlen := len_lt b
    have hlR : R.length = P.length + R'.length := by rw [hR]; simp
    have hP1 : 0 < P.length := List.length_pos_iff.2 hP
    rw [stp18 e hway]
    have hw0 : wgC s.wk (sv s.S i) = 7 + (7 - s.wk.passed).toNat := wg_of e rfl
    obtain ⟨x, hx⟩ : ∃ x, x = ldW s.ar.W (cN s.wk.last) := ⟨_, rfl⟩
    rw [← hx, hw0, hpas]
    cases hy : (takeW n node s.wk x).way
    · simp only [Bool.false_eq_true, if_false]
      by_cases c1 : (takeW n node s.wk x).found ≠ 0
      · rw [if_pos c1]
        have : wgC (takeW n node s.wk x) { sv s.S i with pc := 19 } = 6 := rfl
        rw [this]
        exact ⟨by omega, fun _ => by omega, fun h => by omega⟩
      · rw [if_neg c1]
        unfold frontC
        by_cases c2 : 0 < (sv s.S i).b
        · simp only [c2, if_true]
          have : wgC (takeW n node s.wk x) { sv s.S i with pc := 25 } = 4 := rfl
          rw [this]
          exact ⟨by omega, fun _ => by omega, fun h => by omega⟩
        · simp only [c2, if_false]
          have : wgC (takeW n node s.wk x) { sv s.S i with pc := 29 } = 2 := rfl
          rw [this]
          exact ⟨by omega, fun _ => by omega, fun h => by omega⟩
    · simp only [if_true]
      have hp1 : (takeW n node s.wk x).passed = s.wk.passed + 1 := by
        unfold takeW at hy ⊢
        split at hy
        · simp at hy
        · split at hy
          · simp at hy
          · rename_i h1 h2
            rw [if_neg h1, if_neg h2]
      have : wgC (takeW n node s.wk x) { sv s.S i with pc := 18 } = 7 + (7 - (takeW n node s.wk x).passed).toNat := rfl
      rw [this, hp1, hpas]
      exact ⟨by omega, fun _ => by omega, fun h => by omega⟩
  · rw [stp19 e, wg_of (v := 6) e rfl]
    by_cases c2 : 0 < (sv s.S i).b
    · rw [if_pos c2]; exact ⟨Nat.le_of_ble_eq_true rfl, fun _ => Nat.le_of_ble_eq_true rfl, fun h => by omega⟩
    · rw [if_neg c2]; exact ⟨Nat.le_of_ble_eq_true rfl, fun _ => Nat.le_of_ble_eq_true rfl, fun h => by omega⟩
  · rw [stp20 e, wg_of (v := 5) e rfl]; exact ⟨Nat.le_of_ble_eq_true rfl, fun _ => Nat.le_of_ble_eq_true rfl, fun h => by omega⟩
  · rw [stp21 e, wg_of (v := 4) e rfl]; exact ⟨Nat.le_of_ble_eq_true rfl, fun _ => Nat.le_of_ble_eq_true rfl, fun h => by omega⟩
  · rw [stp22 e, wg_of (v := 3) e rfl]; exact ⟨Nat.le_of_ble_eq_true rfl, fun _ => Nat.le_of_ble_eq_true rfl, fun h => by omega⟩
  · rw [stp23 e, wg_of (v := 2) e rfl]; exact ⟨Nat.le_of_ble_eq_true rfl, fun _ => Nat.le_of_ble_eq_true rfl, fun h => by omega⟩
  · rw [stp24 e, wg_of (v := 1) e rfl]; exact ⟨Nat.le_of_ble_eq_true rfl, fun _ => Nat.le_of_ble_eq_true rfl, fun h => by omega⟩
  · rw [stp25 e, wg_of (v := 4) e rfl]; exact ⟨Nat.le_of_ble_eq_true rfl, fun _ => Nat.le_of_ble_eq_true rfl, fun h => by omega⟩
  · rw [stp26 e, wg_of (v := 3) e rfl]; exact ⟨Nat.le_of_ble_eq_true rfl, fun _ => Nat.le_of_ble_eq_true rfl, fun h => by omega⟩
  · rw [stp27 e, wg_of (v := 2) e rfl]; exact ⟨Nat.le_of_ble_eq_true rfl, fun _ => Nat.le_of_ble_eq_true rfl, fun h => by omega⟩
  · rw [stp28 e, wg_of (v := 1) e rfl]; exact ⟨Nat.le_of_ble_eq_true rfl, fun _ => Nat.le_of_ble_eq_true rfl, fun h => by omega⟩
  · rw [stp29 e, wg_of (v := 2) e rfl]; exact ⟨Nat.le_of_ble_eq_true rfl, fun _ => Nat.le_of_ble_eq_true rfl, fun h => by omega⟩
  · rw [stp30 e, wg_of (v := 1) e rfl]; exact ⟨Nat.le_of_ble_eq_true rfl, fun _ => Nat.le_of_ble_eq_true rfl, fun h => by omega⟩
theorem COk.someMov (k : COk n bud node s N c) : (∀ t, t < n → (sv s.S t).pc = 0) ∨ ∃ u, u < n ∧ MovC s.ar.W s.S c u := by
  rcases Classical.em (∀ t, t < n → (sv s.S t).pc = 0) with e | e
  · exact .inl e
  · refine .inr ?_
    obtain ⟨t, ht⟩ := Classical.not_forall.1 e
    obtain ⟨htn, hp⟩ := Classical.not_imp.1 ht
    have kk := k.iv
    cases c with
    | none =>
      have := (CFr.out kk t htn).1
      refine ⟨t, htn, ?_⟩
      unfold MovC
      omega
    | some x =>
      obtain ⟨h, A, R⟩ := x
      obtain ⟨b, kk⟩ := kk
      by_cases c1 : (sv s.S h).pc = 16 ∧ cnx s.ar.W h = 0
      · have hR := kk.some_ (by omega)
        cases R with
        | nil => exact absurd rfl hR
        | cons f l =>
          refine ⟨f, b.lt f (List.mem_append_right _ (by simp)), ?_⟩
          rcases kk.front (by omega) f rfl with h1 | h1
          · exact .inr (.inr (.inr (.inl h1.1)))
          · exact absurd (c1.2.symm.trans h1.2).symm (num_ne f)
      · exact ⟨h, b.hn, .inr (.inr (.inr (.inr ⟨A, R, rfl, fun h1 h2 => c1 ⟨h1, h2⟩⟩)))⟩
/-- a step and a leave of i: no weight more, less if i moves; whoever else moves still does -/
theorem COk.turn (k : COk n bud node s N c) (hbud : 0 ≤ bud) (hb3 : bud ≤ 1000) (hn : n ≤ 6) (hi : i < n) (s1 s2 : Cn) (e1 : s1 = (stepC n node bud s i).1) (e2 : s2 = (beginC s1 i 10 11).1) :
    ∃ c', COk n bud node s2 (N + 1) c' ∧ wsum (wgC s2.wk) s2.S ≤ wsum (wgC s.wk) s.S ∧ (MovC s.ar.W s.S c i → wsum (wgC s2.wk) s2.S < wsum (wgC s.wk) s.S) ∧ (∀ u, u < n → u ≠ i → MovC s.ar.W s.S c u → MovC s2.ar.W s2.S c' u) := by
  obtain ⟨c', k1, hs, _⟩ := k.stepI hbud hb3 (by omega) i
  rw [← e1] at k1 hs
  have hl : i < s.S.length := by rw [k.iv.sl]; exact hi
  have hl1 : i < s1.S.length := by rw [k1.iv.sl]; exact hi
  -- the leave
  have w2 : COk n bud node s2 (N + 1) c' ∧ wsum (wgC s2.wk) s2.S ≤ wsum (wgC s1.wk) s1.S ∧ ((sv s1.S i).pc = 10 → wsum (wgC s2.wk) s2.S < wsum (wgC s1.wk) s1.S) ∧ (∀ u, u ≠ i → sv s2.S u = sv s1.S u) ∧ s2.ar = s1.ar := by
    unfold beginC at e2
    by_cases hb : okI s1.S i ∧ (getS s1.S i).pc = 10
    · rw [if_pos hb] at e2
      have h10 : (sv s1.S i).pc = 10 := by rw [← getS_nat hl1]; exact hb.2
      rw [getS_nat hl1] at e2
      simp only [Int.toNat_natCast] at e2
      have := wsum_set (f := wgC s1.wk) (p' := { sv s1.S i with pc := 11 }) hl1
      have f1 : wgC s1.wk (sv s1.S i) = 20 := wg_of h10 rfl
      have f2 : wgC s1.wk ({ sv s1.S i with pc := 11 } : Sp) = 19 := rfl
      rw [e2]
      exact ⟨(k1.leave hi h10).1, by show wsum (wgC s1.wk) (s1.S.set i { sv s1.S i with pc := 11 }) ≤ _; omega, fun _ => by show wsum (wgC s1.wk) (s1.S.set i { sv s1.S i with pc := 11 }) < _; omega, fun u hu => sv_ne hu, rfl⟩
    · rw [if_neg hb] at e2
      subst e2
      refine ⟨k1, Nat.le_refl _, fun h => absurd ⟨⟨by omega, by omega⟩, ?_⟩ hb, fun _ _ => rfl, rfl⟩
      rw [getS_nat hl1]; exact h
  obtain ⟨k2, w2a, w2b, w2c, w2d⟩ := w2
  rcases hs with ⟨rfl, rfl, hg⟩ | ⟨j, hj, hij, h0, h10, hS, st⟩
  · refine ⟨c', k2, w2a, fun hm => w2b ?_, fun u _ hu hm => ?_⟩
    · have hz : (sv s1.S i).pc = 0 ∨ (sv s1.S i).pc = 10 := by
        by_cases h0 : (sv s1.S i).pc = 0
        · exact .inl h0
        · refine .inr (Classical.byContradiction fun h10 => hg ⟨⟨by omega, by omega⟩, ?_, ?_⟩)
          · rw [getS_nat hl]; exact h0
          · rw [getS_nat hl]; exact h10
      rcases hm with h | h | h | h | ⟨A, R, rfl, _⟩
      · omega
      · omega
      · omega
      · omega
      · have := k1.iv.2.pcs; omega
    · unfold MovC; rw [w2c u hu, w2d]; exact hm
  · obtain rfl : i = j := by omega
    obtain ⟨x1, x2, x3⟩ := wdec k.iv hn hi h0 h10
    have hsum := wsum_set2 (f := wgC s.wk) (g := wgC s1.wk) (p' := (stepCp n node bud s i (sv s.S i)).2.2) hl fun j hj hjl => by
      by_cases h16 : (sv s.S i).pc ≤ 16
      · rw [hS]; show wgC (stepCp n node bud s i (sv s.S i)).2.1 _ = _; rw [x3 h16]
      · obtain ⟨A, R, hc⟩ := k.iv.isHead hi (by omega)
        have hjn : j < n := by rw [← k.iv.sl]; exact hjl
        have : (sv s.S j).pc ≤ 5 := by
          apply Classical.byContradiction
          intro hgt
          obtain ⟨A', R', hc'⟩ := k.iv.isHead hjn (by omega)
          rw [hc] at hc'
          injection hc' with hc'
          injection hc' with hc' _
          exact hj hc'.symm
        have e18 : ∀ w : Wk, wgC w (sv s.S j) = wgC s.wk (sv s.S j) := fun w => by
          unfold wgC
          rw [if_neg (show ¬ (sv s.S j).pc = 18 by omega), if_neg (show ¬ (sv s.S j).pc = 18 by omega)]
        exact e18 _
    have hS1 : s1.S = s.S.set i (stepCp n node bud s i (sv s.S i)).2.2 := by rw [hS]
    have hwk1 : s1.wk = (stepCp n node bud s i (sv s.S i)).2.1 := by rw [hS]
    rw [← hS1, hwk1] at hsum
    rw [hwk1] at w2a w2b
    refine ⟨c', k2, by omega, fun hm => by have := x2 hm; omega, fun u hun hu hm => ?_⟩
    have hu1 : sv s1.S u = sv s.S u := by rw [hS1]; exact sv_ne hu
    unfold MovC
    rw [w2c u hu, hu1, w2d]
    rcases hm with h | h | h | h | ⟨A, R, hc, h16⟩
    · exact .inl h
    · exact .inr (.inl h)
    · exact .inr (.inr (.inl h))
    · exact .inr (.inr (.inr (.inl h)))
    · obtain ⟨⟨R', hc'⟩, hnx⟩ := st.other u A R hc (Ne.symm hu)
      exact .inr (.inr (.inr (.inr ⟨A, R', hc', fun h => hnx (h16 h)⟩)))
/-- within a round -/
def RdC (n : Nat) (s : Cn) (c : Cfg) (M i : Nat) : Prop := (wsum (wgC s.wk) s.S = 0) ∨ wsum (wgC s.wk) s.S < M ∨ (wsum (wgC s.wk) s.S ≤ M ∧ ∃ u, i ≤ u ∧ u < n ∧ MovC s.ar.W s.S c u)
theorem COk.rd0 (k : COk n bud node s N c) : RdC n s c (wsum (wgC s.wk) s.S) 0 := by
  rcases k.someMov with h0 | ⟨u, hu, hm⟩
  · refine .inl ?_
    have := wsum_le (f := wgC s.wk) (S := s.S) 0 fun j hj => by
      have := h0 j (by rw [← k.iv.sl]; exact hj)
      rw [wg_of this rfl]
      exact Nat.le_refl _
    simpa using this
  · exact .inr (.inr ⟨Nat.le_refl _, u, Nat.zero_le _, hu, hm⟩)
theorem COk.rdNext (k : COk n bud node s N c) (hbud : 0 ≤ bud) (hb3 : bud ≤ 1000) (hn : n ≤ 6) (hi : i < n) {M : Nat} (hr : RdC n s c M i) (s1 s2 : Cn) (e1 : s1 = (stepC n node bud s i).1) (e2 : s2 = (beginC s1 i 10 11).1) :
    ∃ c', COk n bud node s2 (N + 1) c' ∧ RdC n s2 c' M (i + 1) := by
  obtain ⟨c', k', w1, w2, w3⟩ := k.turn hbud hb3 hn hi s1 s2 e1 e2
  refine ⟨c', k', ?_⟩
  rcases hr with h0 | h0 | ⟨h0, u, hu, hun, hm⟩
  · exact .inl (by omega)
  · exact .inr (.inl (by omega))
  · by_cases e : u = i
    · subst e
      have := w2 hm
      exact .inr (.inl (by omega))
    · exact .inr (.inr ⟨by omega, u, by omega, hun, w3 u hun e hm⟩)
theorem RdC.last {M : Nat} (h : RdC n s c M n) : wsum (wgC s.wk) s.S = 0 ∨ wsum (wgC s.wk) s.S < M := by
  rcases h with h0 | h0 | ⟨_, u, hu, hun, _⟩
  · exact .inl h0
  · exact .inr h0
  · omega
theorem COk.rest (k : COk n bud node s N c) (hz : wsum (wgC s.wk) s.S = 0) (hi : i < n) : (sv s.S i).pc = 0 := by
  refine wgC_zero (w := s.wk) (k.iv.pcs hi) ?_
  have := wsum_mem (f := wgC s.wk) (S := s.S) (i := i) (by rw [k.iv.sl]; exact hi)
  omega
theorem COk.wtop (k : COk n bud node s N c) : wsum (wgC s.wk) s.S ≤ n * 25 := by
  have := wsum_le (f := wgC s.wk) (S := s.S) 25 fun j _ => wgC_top _ _ k.bd.k.1.1
  rw [k.iv.sl] at this
  exact this
end
end Go.Proofs.YtkdaiomjbkpedaaGreat
end
section
/- Layer 31 (cna): the machine at its start. No program in sight. -/
namespace Go.Proofs.YtkdaiomjbkpedaaGreat
open Go

section
variable {n : Nat} {bud : Int} {node : Nat → Int}
theorem getD_repC {α : Type} (a : α) (n i : Nat) : (List.replicate n a).getD i a = a := by
  rw [List.getD_eq_getElem?_getD, List.getElem?_replicate]
  split <;> rfl
theorem sv_repC (n i : Nat) : sv (List.replicate n Sp.zero) i = Sp.zero := getD_repC _ _ _
theorem COk.start (s : Ar) (wk : Wk) (hb : 0 ≤ bud) (hs : s.ops = 0) (hW : s.W = List.replicate (2 + 3 * n) 0) (h1 : wk.passed = 0) (h2 : wk.last = 0) (h3 : wk.found = 0) :
    COk n bud node ⟨s, wk, List.replicate n Sp.zero⟩ 0 none := by
  have d : ∀ k, s.W.getD k 0 = 0 := fun k => by rw [hW]; exact getD_repC _ _ _
  have z : ∀ t, sv (List.replicate n Sp.zero) t = Sp.zero := fun t => sv_repC n t
  refine ⟨?_, ⟨?_, ?_, ?_⟩, by show s.ops ≤ 0; omega⟩
  · show CFr n bud s.W (List.replicate n Sp.zero)
    refine ⟨by rw [hW]; simp, by simp, fun t _ => ?_, d 0, ?_, ?_⟩
    · rw [z t]
      refine ⟨⟨by decide, by decide⟩, fun h => ?_, fun h => ?_⟩
      · exact absurd h (by decide)
      · exact absurd h (by decide)
    · show 0 ≤ s.W.getD 1 0
      rw [d]; exact Int.le_refl _
    · show s.W.getD 1 0 ≤ bud
      rw [d]; exact hb
  · intro k
    show -1 ≤ s.W.getD k 0 ∧ s.W.getD k 0 ≤ 2000
    rw [d]; omega
  · intro t
    show (-1 ≤ (sv (List.replicate n Sp.zero) t).a ∧ _) ∧ (-1 ≤ (sv (List.replicate n Sp.zero) t).b ∧ _) ∧ (-1 ≤ (sv (List.replicate n Sp.zero) t).c ∧ _)
    have e := z t
    simp only [e]
    refine ⟨⟨?_, ?_⟩, ⟨?_, ?_⟩, ⟨?_, ?_⟩⟩ <;> decide
  · show (0 ≤ wk.passed ∧ wk.passed ≤ n) ∧ (-1 ≤ wk.last ∧ wk.last ≤ 2000) ∧ (-1 ≤ wk.found ∧ wk.found ≤ 2000)
    rw [h1, h2, h3]; omega
end
end Go.Proofs.YtkdaiomjbkpedaaGreat
end
section
/- Layer 31 (cna): any act of the law's helper; what it does to the line and to who was passed. No program in sight. -/
namespace Go.Proofs.YtkdaiomjbkpedaaGreat
open Go

def actC (n : Nat) (node : Nat → Int) (bud : Int) (h : Cn) (k i : Int) : Cn × Bool :=
  if k = 0 then stepC n node bud h i else if k = 1 then beginC h i 0 1 else if k = 2 then beginC h i 10 11 else (h, false)
/-- what an act of i did: nothing, or a turn of its spot under which whoever counts the passes is told no more -/
def ActC (n : Nat) (bud : Int) (s s' : Cn) (c c' : Cfg) (I : Int) : Prop :=
  (s' = s ∧ c' = c) ∨ ∃ (j : Nat) (p' : Sp), j < n ∧ I = j ∧ s'.S = s.S.set j p' ∧ (p'.pc = 10 → (sv s.S j).pc = 5 ∨ (sv s.S j).pc = 6) ∧
    ∀ P, CPInv n bud (cct s.ar.W) (effL s.S c) (effE s.S c) P →
      CPInv n bud (cct s'.ar.W) (effL s'.S c') (effE s'.S c') (cP2 P (sv s.S j).pc p'.pc j fun a => (sv s'.S a).pc) ∧
      ((sv s.S j).pc < 10 → p'.pc = 10 → ∀ k, k < n → k ≠ j → 3 < (sv s'.S k).pc → (sv s'.S k).pc < 10 → cP2 P (sv s.S j).pc p'.pc j (fun a => (sv s'.S a).pc) k ≤ n - 1 + n * bud)
section
variable {n N : Nat} {bud : Int} {node : Nat → Int} {s : Cn} {c : Cfg}
theorem cP2_same {P : Nat → Int} {was now : Int} {u : Nat} {pcs : Nat → Int} (h1 : ¬ (was = 3 ∧ now ≠ 3)) (h2 : ¬ (was < 10 ∧ now = 10)) : cP2 P was now u pcs = P := by
  funext a
  unfold cP2 cP1
  rw [if_neg (fun h => h2 h.1), if_neg (fun h => h1 h.1)]
theorem ite_ne10 {c : Prop} [Decidable c] {x y : Ar × Sp} (hx : x.2.pc ≠ 10) (hy : y.2.pc ≠ 10) : (if c then x else y).2.pc ≠ 10 := by
  split
  · exact hx
  · exact hy
theorem stepCp_enter (s : Cn) (i : Nat) (p : Sp) (hp : (0 ≤ p.pc ∧ p.pc ≤ 6) ∨ (10 ≤ p.pc ∧ p.pc ≤ 30)) (h0 : p.pc ≠ 0) (h10 : p.pc ≠ 10) (h : (stepCp n node bud s i p).2.2.pc = 10) : p.pc = 5 ∨ p.pc = 6 := by
  apply Classical.byContradiction
  intro hn
  have hc : p.pc = 1 ∨ p.pc = 2 ∨ p.pc = 3 ∨ p.pc = 4 ∨ (10 < p.pc ∧ p.pc ≤ 30) := by omega
  rcases hc with e | e | e | e | e
  · rw [stp1 e] at h; exact absurd h (by show ¬ (2 : Int) = 10; decide)
  · rw [stp2 e] at h; exact absurd h (by show ¬ (3 : Int) = 10; decide)
  · rw [stp3 e] at h
    have h' : (if ldW s.ar.W 1 = 0 then (6 : Int) else 4) = 10 := h
    split at h' <;> omega
  · rw [stp4 e] at h; exact absurd h (by show ¬ (5 : Int) = 10; decide)
  · have : (stepCp n node bud s i p).2.2.pc ≠ 10 := by
      have hall : p.pc = 11 ∨ p.pc = 12 ∨ p.pc = 13 ∨ p.pc = 14 ∨ p.pc = 15 ∨ p.pc = 16 ∨ p.pc = 17 ∨ p.pc = 18 ∨ (19 ≤ p.pc ∧ p.pc ≤ 30) := by omega
      rcases hall with e | e | e | e | e | e | e | e | e
      · rw [stp11 e]; show (12 : Int) ≠ 10; decide
      · rw [stp12 e]
        show (if ldW s.ar.W (cN (num i)) ≠ 0 then (17 : Int) else if 0 < p.b then 14 else 13) ≠ 10
        split
        · decide
        · split <;> decide
      · rw [stp13 e]
        show (if casB s.ar 1 (num i) then (0 : Int) else 16) ≠ 10
        split <;> decide
      · rw [stp14 e]; show (15 : Int) ≠ 10; decide
      · rw [stp15 e]
        show (if casB s.ar 1 (num i) then (28 : Int) else 16) ≠ 10
        split <;> decide
      · rw [stp16 e]
        show (if ldW s.ar.W (cN (num i)) ≠ 0 then (17 : Int) else 16) ≠ 10
        split <;> decide
      · have hl : stepCp n node bud s i p = looksC n node bud s.ar s.wk i p := by unfold stepCp; rw [if_neg (by omega), if_neg (by omega), if_pos (by omega)]
        rw [hl]
        unfold looksC
        rw [if_neg (by omega)]
        split
        · show (if 0 < p.b then (25 : Int) else 29) ≠ 10
          split <;> decide
        · show (if (beginW n node s.wk p.a (node i)).way then (18 : Int) else 23) ≠ 10
          split <;> decide
      · have hl : stepCp n node bud s i p = looksC n node bud s.ar s.wk i p := by unfold stepCp; rw [if_neg (by omega), if_neg (by omega), if_pos (by omega)]
        rw [hl]
        unfold looksC
        rw [if_pos e]
        split
        · show (if (takeW n node s.wk (ldW s.ar.W (cN s.wk.last))).way then ({ p with pc := 18 } : Sp) else if (takeW n node s.wk (ldW s.ar.W (cN s.wk.last))).found ≠ 0 then { p with pc := 19 } else frontC p).pc ≠ 10
          split
          · show (18 : Int) ≠ 10; decide
          · split
            · show (19 : Int) ≠ 10; decide
            · show (if 0 < p.b then (25 : Int) else 29) ≠ 10
              split <;> decide
        · show (18 : Int) ≠ 10; decide
      · have hl : stepCp n node bud s i p = ((asideC s.ar s.wk p).1, s.wk, (asideC s.ar s.wk p).2) := by unfold stepCp; rw [if_neg (by omega), if_neg (by omega), if_neg (by omega)]
        rw [hl]
        show (asideC s.ar s.wk p).2.pc ≠ 10
        unfold asideC
        refine ite_ne10 ?_ (ite_ne10 ?_ (ite_ne10 ?_ (ite_ne10 ?_ (ite_ne10 ?_ (ite_ne10 ?_ (ite_ne10 ?_ (ite_ne10 ?_ (ite_ne10 ?_ (ite_ne10 ?_ (ite_ne10 ?_ ?_))))))))))
        · show (if 0 < p.b then ({ p with pc := 20 } : Sp) else { p with b := p.a, pc := 22 }).pc ≠ 10
          split
          · show (20 : Int) ≠ 10; decide
          · show (22 : Int) ≠ 10; decide
        · show (21 : Int) ≠ 10; decide
        · show (26 : Int) ≠ 10; decide
        · show (22 : Int) ≠ 10; decide
        · show (27 : Int) ≠ 10; decide
        · show (23 : Int) ≠ 10; decide
        · show (24 : Int) ≠ 10; decide
        · show (0 : Int) ≠ 10; decide
        · show (28 : Int) ≠ 10; decide
        · show (30 : Int) ≠ 10; decide
        · show (0 : Int) ≠ 10; decide
        · show (0 : Int) ≠ 10; decide
    exact this h
theorem COk.act (k : COk n bud node s N c) (hbud : 0 ≤ bud) (hb3 : bud ≤ 1000) (hn : n ≤ 1000) (kd I : Int) :
    ∃ c', COk n bud node (actC n node bud s kd I).1 (N + 1) c' ∧ ActC n bud s (actC n node bud s kd I).1 c c' I ∧ (actC n node bud s kd I).1.ar.ops ≤ s.ar.ops + 1 ∧ (kd ≠ 0 → (actC n node bud s kd I).1.ar.ops = s.ar.ops) := by
  unfold actC
  by_cases k0 : kd = 0
  · rw [if_pos k0]
    obtain ⟨c', k1, hs, ho⟩ := k.stepI hbud hb3 hn I
    refine ⟨c', k1, ?_, ho, fun h => absurd k0 h⟩
    rcases hs with ⟨e1, e2, _⟩ | ⟨j, hj, hI, h0, h10, hS, st⟩
    · exact .inl ⟨e1, e2⟩
    · refine .inr ⟨j, _, hj, hI, by rw [hS], fun h => ?_, fun P hP => CPInv.step st hbud k1.iv.ct hP⟩
      exact stepCp_enter s j _ (k.iv.pcs hj) h0 h10 h
  · rw [if_neg k0]
    have beg : ∀ a b : Int, (a = 0 ∧ b = 1) ∨ (a = 10 ∧ b = 11) → ∃ c', COk n bud node (beginC s I a b).1 (N + 1) c' ∧ ActC n bud s (beginC s I a b).1 c c' I ∧ (beginC s I a b).1.ar.ops = s.ar.ops := fun a b hab => by
      unfold beginC
      by_cases hc : okI s.S I ∧ (getS s.S I).pc = a
      · rw [if_pos hc]
        obtain ⟨⟨h0, h1⟩, hp⟩ := hc
        obtain ⟨j, rfl⟩ := Int.eq_ofNat_of_zero_le h0
        have hj : j < s.S.length := by omega
        have hjn : j < n := by rw [← k.iv.sl]; exact hj
        rw [getS_nat hj] at hp ⊢
        simp only [Int.toNat_natCast]
        have fin : ∀ (p' : Sp) (hb : p'.pc = b) (k2 : COk n bud node ⟨s.ar, s.wk, s.S.set j p'⟩ N c) (q1 : effL (s.S.set j p') c = effL s.S c) (q2 : effE (s.S.set j p') c = effE s.S c),
            ∃ c', COk n bud node ⟨s.ar, s.wk, s.S.set j p'⟩ (N + 1) c' ∧ ActC n bud s ⟨s.ar, s.wk, s.S.set j p'⟩ c c' (j : Int) ∧ s.ar.ops = s.ar.ops := fun p' hb k2 q1 q2 => by
          refine ⟨c, k2.le (by omega), .inr ⟨j, _, hjn, rfl, rfl, fun h => ?_, fun P hP => ⟨?_, fun h1 h2 => ?_⟩⟩, rfl⟩
          · omega
          · show CPInv n bud (cct s.ar.W) (effL (s.S.set j p') c) (effE (s.S.set j p') c) _
            rw [q1, q2, cP2_same (by omega) (by omega)]
            exact hP
          · omega
        rcases hab with ⟨rfl, rfl⟩ | ⟨rfl, rfl⟩
        · obtain ⟨k2, q1, q2, _⟩ := k.ask hjn hp
          simpa using fin _ rfl k2 q1 q2
        · obtain ⟨k2, q1, q2⟩ := k.leave hjn hp
          simpa using fin _ rfl k2 q1 q2
      · rw [if_neg hc]
        exact ⟨c, k.le (by omega), .inl ⟨rfl, rfl⟩, rfl⟩
    by_cases k1 : kd = 1
    · rw [if_pos k1]
      obtain ⟨c', h1, h2, h3⟩ := beg 0 1 (.inl ⟨rfl, rfl⟩)
      exact ⟨c', h1, h2, by omega, fun _ => h3⟩
    · rw [if_neg k1]
      by_cases k2 : kd = 2
      · rw [if_pos k2]
        obtain ⟨c', h1, h2, h3⟩ := beg 10 11 (.inr ⟨rfl, rfl⟩)
        exact ⟨c', h1, h2, by omega, fun _ => h3⟩
      · rw [if_neg k2]
        exact ⟨c, k.le (by omega), .inl ⟨rfl, rfl⟩, by show s.ar.ops ≤ s.ar.ops + 1; omega, fun _ => rfl⟩
end
/- the row of who was passed how often -/
def CF (n : Nat) (L : List Int) (P : Nat → Int) : Prop := L.length = n ∧ ∀ k, k < n → L.getD k 0 = P k
section
variable {n : Nat} {L : List Int} {P P' : Nat → Int}
theorem CF.congr (h : CF n L P) (e : ∀ k, k < n → P k = P' k) : CF n L P' := ⟨h.1, fun k hk => (h.2 k hk).trans (e k hk)⟩
theorem CF.set (h : CF n L P) {u : Nat} (hu : u < n) (x : Int) : CF n (L.set u x) (fun k => if k = u then x else P k) := by
  refine ⟨by simp [h.1], fun k hk => ?_⟩
  rw [getD_set]
  show _ = if k = u then x else P k
  by_cases e : k = u
  · subst e; rw [if_pos ⟨rfl, by rw [h.1]; exact hk⟩, if_pos rfl]
  · rw [if_neg (fun h => e h.1.symm), if_neg e]; exact h.2 k hk
/-- the row is done up to m -/
def CM (P : Nat → Int) (u : Nat) (pcs : Nat → Int) (m : Nat) : Nat → Int := fun k => if k < m ∧ k ≠ u ∧ 3 < pcs k ∧ pcs k < 10 then P k + 1 else P k
theorem CF.m0 {u : Nat} {pcs : Nat → Int} (h : CF n L P) : CF n L (CM P u pcs 0) := h.congr fun k _ => by unfold CM; rw [if_neg (fun h => absurd h.1 (Nat.not_lt_zero _))]
theorem CF.m1 {u m : Nat} {pcs : Nat → Int} (h : CF n L (CM P u pcs m)) (hm : m < n) (hc : m ≠ u ∧ 3 < pcs m ∧ pcs m < 10) : CF n (L.set m (P m + 1)) (CM P u pcs (m + 1)) := (h.set hm (P m + 1)).congr fun k _ => by
  unfold CM
  by_cases e : k = m
  · subst e; rw [if_pos rfl, if_pos ⟨Nat.lt_succ_self _, hc⟩]
  · rw [if_neg e]
    by_cases c : k < m ∧ k ≠ u ∧ 3 < pcs k ∧ pcs k < 10
    · rw [if_pos c, if_pos ⟨by omega, c.2⟩]
    · rw [if_neg c, if_neg (fun h => c ⟨by omega, h.2⟩)]
theorem CF.m2 {u m : Nat} {pcs : Nat → Int} (h : CF n L (CM P u pcs m)) (hc : ¬ (m ≠ u ∧ 3 < pcs m ∧ pcs m < 10)) : CF n L (CM P u pcs (m + 1)) := h.congr fun k _ => by
  unfold CM
  by_cases e : k = m
  · subst e; rw [if_neg (fun h => absurd h.1 (Nat.lt_irrefl _)), if_neg (fun h => hc h.2)]
  · by_cases c : k < m ∧ k ≠ u ∧ 3 < pcs k ∧ pcs k < 10
    · rw [if_pos c, if_pos ⟨by omega, c.2⟩]
    · rw [if_neg c, if_neg (fun h => c ⟨by omega, h.2⟩)]
theorem CM.at_ {u m : Nat} {pcs : Nat → Int} : CM P u pcs m m = P m := by unfold CM; rw [if_neg (fun h => absurd h.1 (Nat.lt_irrefl _))]
theorem CF.done {u : Nat} {pcs : Nat → Int} {was now : Int} (h : CF n L (CM (cP1 P was now u) u pcs n)) (hw : was < 10 ∧ now = 10) : CF n L (cP2 P was now u pcs) := h.congr fun k hk => by
  unfold CM cP2
  by_cases c : k ≠ u ∧ 3 < pcs k ∧ pcs k < 10
  · rw [if_pos ⟨hk, c⟩, if_pos ⟨hw, c⟩]
  · rw [if_neg (fun h => c h.2), if_neg (fun h => c h.2)]
theorem CF.none_ {u : Nat} {pcs : Nat → Int} {was now : Int} (h : CF n L (cP1 P was now u)) (hw : ¬ (was < 10 ∧ now = 10)) : CF n L (cP2 P was now u pcs) := h.congr fun k _ => by
  unfold cP2; rw [if_neg (fun h => hw h.1)]
theorem CF.p1 {u : Nat} {was now : Int} (h : CF n L P) (hu : u < n) (hw : was = 3 ∧ now ≠ 3) : CF n (L.set u 0) (cP1 P was now u) := (h.set hu 0).congr fun k _ => by
  unfold cP1
  by_cases e : k = u
  · rw [if_pos e, if_pos ⟨hw, e⟩]
  · rw [if_neg e, if_neg (fun h => e h.2)]
theorem CF.p0 {u : Nat} {was now : Int} (h : CF n L P) (hw : ¬ (was = 3 ∧ now ≠ 3)) : CF n L (cP1 P was now u) := h.congr fun k _ => by
  unfold cP1; rw [if_neg (fun h => hw h.1)]
end
end Go.Proofs.YtkdaiomjbkpedaaGreat
end
section
/- Layer 1: what Cas does. -/
namespace Go.Proofs.YtkdaiomjbkpedaaGreat
open Go.RowKit

theorem acas_hit (w : World) (b o : Nat) (x y : Int) (hc : w.cell? ⟨b, o, none⟩ = some (.int .i64 x)) (hz : w.frozen? ⟨b, o, none⟩ = false) :
    Calls Tryz.prog 129 #[.pointer (some ⟨b, o, none⟩), .int .i64 x, .int .i64 y] w fun e w' => e = .returned (.bool true) ∧ w' = w.setCell ⟨b, o, none⟩ (.int .i64 y) := by
  have hl := run_call_cas_hit (P := Tryz.prog) Tryz.func152 (by kernel_rfl) (by kernel_rfl) (by kernel_rfl) .i64 (by kernel_rfl) (y := y) hc hz
  go_enter Tryz.func129, Tryz.ntmps129
  go_wp2
  go_ret
  exact ⟨rfl, rfl⟩
theorem acas_miss (w : World) (b o : Nat) (x old y : Int) (hc : w.cell? ⟨b, o, none⟩ = some (.int .i64 x)) (hz : w.frozen? ⟨b, o, none⟩ = false) (hne : ¬ x = old) :
    Calls Tryz.prog 129 #[.pointer (some ⟨b, o, none⟩), .int .i64 old, .int .i64 y] w fun e w' => e = .returned (.bool false) ∧ w = w' := by
  have hl := run_call_cas_miss (P := Tryz.prog) Tryz.func152 (by kernel_rfl) (by kernel_rfl) (by kernel_rfl) .i64 (by kernel_rfl) (o := old) (y := y) hc hz hne
  clear hne
  go_enter Tryz.func129, Tryz.ntmps129
  go_wp2
  go_ret
  exact ⟨rfl, rfl⟩

theorem cas_any {w : World} {a g : Nat} {s : Ar} (h : ArIs w a g s) (x old v : Int) (ho : s.ops + 1 ≤ 1000000000000) :
    Calls Tryz.prog 95 #[.pointer (some ⟨a, 0, none⟩), .int .i64 x, .int .i64 old, .int .i64 v] w (OpDone w a g (casA s x old v) (.bool (casB s x old))) := by
  have H := Lib.hid h
  cases hx : inR s.W x
  · have e : OpDone w a g (casA s x old v) (.bool (casB s x old)) (.returned (.bool false)) w := ⟨by unfold casB; rw [hx]; rfl, by
      have hb : casB s x old = false := by unfold casB; rw [hx]; rfl
      unfold casA; rw [hb, noteA_out s 4 x false hx]; exact h, Turns.refl _ _⟩
    have HX := Lib.hid hx
    clear h hx
    go_enter Tryz.func95, Tryz.ntmps95
    go_wp2_with fail
    refine (word_out H.out x HX.out).mono ?_
    rintro en w1 ⟨rfl, rfl⟩
    go_wp2
    go_ret
    exact e
  · have HX := Lib.hid hx
    have h12 := inR_true.1 hx
    have hil : x.toNat - 1 < s.W.length := by omega
    have hc := h.word (i := x.toNat - 1) hil
    rw [← ldW_in hx] at hc
    by_cases heq : ldW s.W x = old
    · have hb : casB s x old = true := by unfold casB; rw [hx, heq]; simp
      have hp := h.put hx v
      have HP := Lib.hid (And.intro hp hb)
      rw [heq] at hc
      have HC := Lib.hid hc
      clear h hx hc hp heq hb
      go_enter Tryz.func95, Tryz.ntmps95
      go_wp2_with fail
      refine (word_in H.out x HX.out).mono ?_
      rintro en w1 ⟨rfl, rfl⟩
      go_wp2_with fail
      refine (acas_hit _ _ _ _ _ HC.out.1 HC.out.2).mono ?_
      rintro en w2 ⟨rfl, rfl⟩
      have h2 := HP.out.1.1
      have t2 := HP.out.1.2
      generalize (w.setCell ⟨g, x.toNat - 1, none⟩ (.int .i64 v)) = w2 at h2 t2 ⊢
      have H2 := Lib.hid (And.intro h2 t2)
      clear h2 t2
      go_wp2_with fail
      refine (note_any H2.out.1 4 x true (by unfold inR wrA; rw [stW_len]; exact HX.out) ho).mono ?_
      rintro en w3 ⟨rfl, h3, t3⟩
      have H3 := Lib.hid (And.intro h3 t3)
      clear h3 t3
      go_wp2
      go_ret
      refine ⟨by rw [HP.out.2]; rfl, ?_, H2.out.2.trans (turns_ag H3.out.2)⟩
      have e : casA s x old v = noteA (wrA s x v) 4 x true := by
        unfold casA; rw [HP.out.2, if_pos rfl]
        unfold noteA
        rw [if_pos HX.out, if_pos (by unfold inR wrA; rw [stW_len]; exact HX.out)]
        rfl
      rw [e]; exact H3.out.1
    · have hb : casB s x old = false := by unfold casB; rw [hx]; simpa using heq
      have HC := Lib.hid (And.intro hc (And.intro heq hb))
      clear h hx hc heq hb
      go_enter Tryz.func95, Tryz.ntmps95
      go_wp2_with fail
      refine (word_in H.out x HX.out).mono ?_
      rintro en w1 ⟨rfl, rfl⟩
      go_wp2_with fail
      refine (acas_miss _ _ _ _ _ _ HC.out.1.1 HC.out.1.2 HC.out.2.1).mono ?_
      rintro en w2 ⟨rfl, rfl⟩
      go_wp2_with fail
      refine (note_any H.out 4 x false HX.out ho).mono ?_
      rintro en w3 ⟨rfl, h3, t3⟩
      have H3 := Lib.hid (And.intro h3 t3)
      clear h3 t3
      go_wp2
      go_ret
      refine ⟨by rw [HC.out.2.2]; rfl, ?_, turns_ag H3.out.2⟩
      unfold casA
      rw [HC.out.2.2]
      exact H3.out.1
end Go.Proofs.YtkdaiomjbkpedaaGreat
end
section
/- Layer 1: what Store does. -/
namespace Go.Proofs.YtkdaiomjbkpedaaGreat
open Go.RowKit

theorem astore (w : World) (b o : Nat) (x y : Int) (hc : w.cell? ⟨b, o, none⟩ = some (.int .i64 x)) (hz : w.frozen? ⟨b, o, none⟩ = false) :
    Calls Tryz.prog 127 #[.pointer (some ⟨b, o, none⟩), .int .i64 y] w fun e w' => e = .returned (.tuple #[]) ∧ w' = w.setCell ⟨b, o, none⟩ (.int .i64 y) := by
  have hl := run_call_store (P := Tryz.prog) Tryz.func150 (by kernel_rfl) (by kernel_rfl) (by kernel_rfl) (by kernel_rfl) (k := .i64) (y := y) hc hz
  go_enter Tryz.func127, Tryz.ntmps127
  go_wp2
  go_end0
  exact ⟨rfl, rfl⟩
theorem store_any {w : World} {a g : Nat} {s : Ar} (h : ArIs w a g s) (x v : Int) (ho : s.ops + 1 ≤ 1000000000000) :
    Calls Tryz.prog 90 #[.pointer (some ⟨a, 0, none⟩), .int .i64 x, .int .i64 v] w (OpDone w a g (storeA s x v) (.tuple #[])) := by
  have H := Lib.hid h
  cases hx : inR s.W x
  · have e : OpDone w a g (storeA s x v) (.tuple #[]) (.returned (.tuple #[])) w := ⟨rfl, by unfold storeA; rw [noteA_out s _ _ _ hx, wrA_out s _ _ hx]; exact h, Turns.refl _ _⟩
    have HX := Lib.hid hx
    clear h hx
    go_enter Tryz.func90, Tryz.ntmps90
    go_wp2_with fail
    refine (word_out H.out x HX.out).mono ?_
    rintro en w1 ⟨rfl, rfl⟩
    go_wp2
    go_end0
    exact e
  · have HX := Lib.hid hx
    have h12 := inR_true.1 hx
    have hil : x.toNat - 1 < s.W.length := by omega
    clear h hx
    go_enter Tryz.func90, Tryz.ntmps90
    go_wp2_with fail
    refine (word_in H.out x HX.out).mono ?_
    rintro en w1 ⟨rfl, rfl⟩
    go_wp2_with fail
    refine (note_any H.out 2 x true HX.out ho).mono ?_
    rintro en w1 ⟨rfl, h1, t1⟩
    have hc := h1.word (i := x.toNat - 1) (by rw [noteA_W]; exact hil)
    have hp := h1.put (x := x) (by rw [noteA_W]; exact HX.out) v
    have H1 := Lib.hid (And.intro hp t1)
    have HC := Lib.hid hc
    clear h1 t1 hp hc
    go_wp2_with fail
    refine (astore _ _ _ _ _ HC.out.1 HC.out.2).mono ?_
    rintro en w2 ⟨rfl, rfl⟩
    go_wp2
    go_end0
    exact ⟨rfl, H1.out.1.1, (turns_ag H1.out.2).trans H1.out.1.2⟩
end Go.Proofs.YtkdaiomjbkpedaaGreat
end
section
/- Layer 1: a new arena, and taking words. -/
namespace Go.Proofs.YtkdaiomjbkpedaaGreat
open Go.RowKit

theorem Tryz.infoAt : (Tryz.prog.info? 116).map (fun i => (i.zero, i.size, i.bytes)) = some (some (.agg #[.int .i64 0]), 1, 8) := by kernel_rfl
theorem made_const1 (u : Value) (n : Nat) : (madeCells #[u] n).toList = List.replicate n u := by
  unfold madeCells
  rw [Array.toList_map, Array.toList_range]
  refine List.ext_getElem? fun i => ?_
  rw [List.getElem?_map, List.getElem?_replicate]
  by_cases h : i < n
  · rw [List.getElem?_range h, if_pos h]; simp [Nat.mod_one]
  · rw [if_neg h]; simp; omega
theorem own_blk {w : World} {base : Nat} {e : TypeId} {sz g n : Nat} {xs : List Value} (h : w.ownsRow base e sz (.slice (some ⟨g, 0, none⟩) n n) n xs) : Blk w g e xs.toArray := by
  rcases h.2 with ⟨h', _⟩ | ⟨g', cap', cur, h', hb, hg, hnc, hcm, hcs, ht⟩
  · simp at h'
  · simp only [Value.slice.injEq, Option.some.injEq, Addr.mk.injEq, and_true, true_and] at h'
    obtain ⟨rfl, rfl⟩ := h'
    have e1 : cur = xs.toArray := by
      rw [← ht]
      apply Array.ext'
      rw [List.take_of_length_le (by rw [Array.length_toList, hcs]; exact Nat.le_refl _)]
    unfold Blk
    rw [hg, e1]
def clampA (room : Int) : Nat := if room < 0 then 0 else if 4096 < room then 4096 else room.toNat
def newAr (room : Int) : Ar := ⟨[], clampA room, 0, 0, 0, false⟩
def NewA (w : World) (room : Int) (e : Ending) (w' : World) : Prop := ∃ a g, e = .returned (.pointer (some ⟨a, 0, none⟩)) ∧ ArIs w' a g (newAr room) ∧ w.heap.size ≤ a ∧ w.heap.size ≤ g ∧ Below w.heap.size w w'
set_option maxRecDepth 100000 in
set_option maxHeartbeats 1000000 in
theorem newA_any (w : World) (room : Int) : Calls Tryz.prog 37 #[.int .i64 room] w (NewA w room) := by
  obtain ⟨i0, hi, hz0, hz1, hz2⟩ := info_parts Tryz.infoAt
  obtain ⟨n, hn⟩ : ∃ n, n = clampA room := ⟨_, rfl⟩
  have hc : n ≤ 4096 := by rw [hn]; unfold clampA; split <;> (try split) <;> omega
  have HN := Lib.hid hn
  have key : ∀ (w1 : World), w1.ownsRow w.heap.size 116 1 (.slice (some ⟨w.heap.size, 0, none⟩) n n) n (madeCells #[.int .i64 0] n).toList → w.grownBy w1 none →
      ArIs (w1.alloc (.cells #[.slice (some ⟨w.heap.size, 0, none⟩) n n, .int .i64 0, .int .i64 0, .int .i64 0, .int .i64 0, .bool false] 79)) w1.heap.size w.heap.size (newAr room) ∧ w.heap.size ≤ w1.heap.size ∧ Below w.heap.size w (w1.alloc (.cells #[.slice (some ⟨w.heap.size, 0, none⟩) n n, .int .i64 0, .int .i64 0, .int .i64 0, .int .i64 0, .bool false] 79)) := by
    intro w1 hown hg
    rw [made_const1] at hown
    have hb := own_blk hown
    have hlt := hb.lt
    refine ⟨⟨?_, ?_, by omega, by simp [newAr], by simp [newAr]; omega, by simp [newAr]⟩, by omega, ((Below.refl w.heap.size w).grown hg (Nat.le_refl _) (fun j hj => by cases hj)).alloc (by omega) _⟩
    · have := Blk.new w1 79 (arCells w.heap.size (newAr room))
      unfold arCells newAr at this ⊢
      rw [← HN.out] at this ⊢
      simpa using this
    · have e : (wdL (newAr room)).toArray = (List.replicate n (Value.int .i64 0)).toArray := by unfold wdL newAr; simp [← HN.out]
      rw [e]
      exact hb.alloc _
  have KEY := Lib.hid key
  clear key
  rcases (show 4096 < room ∨ (room ≤ 4096 ∧ 0 < room) ∨ room ≤ 0 by omega) with h | ⟨h, h'⟩ | h
  · have E : Hid ((4096 : Int) = (n : Int)) := Lib.hid (by rw [hn]; unfold clampA; rw [if_neg (by omega), if_pos h]; rfl)
    clear hn
    go_enter Tryz.func37, Tryz.ntmps37
    go_wp2_with (refine wpList_make_full _ rfl (.tmp 5) (.tmp 5) 75 rfl w.heap.size 116 i0 (.agg #[.int .i64 0]) 1 Tryz.underlying75 hi hz0 hz1 .i64 .i64 4096 4096 n rfl rfl E.out E.out ?b2 ?b3 (Nat.le_refl _) ?_)
    case b2 => rw [hz2]; omega
    case b3 => unfold maxLen; omega
    intro w1 hown hg
    obtain ⟨k1, k2, k3⟩ := KEY.out w1 hown hg
    clear hown hg
    go_wp2
    go_ret
    exact ⟨_, _, rfl, k1, k2, Nat.le_refl _, k3⟩
  · have E : Hid (room = (n : Int)) := Lib.hid (by rw [hn]; unfold clampA; rw [if_neg (by omega), if_neg (by omega)]; omega)
    clear hn
    go_enter Tryz.func37, Tryz.ntmps37
    go_wp2_with (refine wpList_make_full _ rfl (.tmp 5) (.tmp 5) 75 rfl w.heap.size 116 i0 (.agg #[.int .i64 0]) 1 Tryz.underlying75 hi hz0 hz1 .i64 .i64 room room n rfl rfl E.out E.out ?b2 ?b3 (Nat.le_refl _) ?_)
    case b2 => rw [hz2]; omega
    case b3 => unfold maxLen; omega
    intro w1 hown hg
    obtain ⟨k1, k2, k3⟩ := KEY.out w1 hown hg
    clear hown hg
    go_wp2
    go_ret
    exact ⟨_, _, rfl, k1, k2, Nat.le_refl _, k3⟩
  · have E : Hid ((0 : Int) = (n : Int)) := Lib.hid (by rw [hn]; unfold clampA; split <;> (try split) <;> omega)
    have h4 : room ≤ 4096 := by omega
    clear hn
    go_enter Tryz.func37, Tryz.ntmps37
    go_wp2_with (refine wpList_make_full _ rfl (.tmp 5) (.tmp 5) 75 rfl w.heap.size 116 i0 (.agg #[.int .i64 0]) 1 Tryz.underlying75 hi hz0 hz1 .i64 .i64 0 0 n rfl rfl E.out E.out ?b2 ?b3 (Nat.le_refl _) ?_)
    case b2 => rw [hz2]; omega
    case b3 => unfold maxLen; omega
    intro w1 hown hg
    obtain ⟨k1, k2, k3⟩ := KEY.out w1 hown hg
    clear hown hg
    go_wp2
    go_ret
    exact ⟨_, _, rfl, k1, k2, Nat.le_refl _, k3⟩

def takeA (s : Ar) (n : Int) : Ar × Int × Int :=
  if n < 0 then (s, (0 : Int), (1 : Int)) else if (s.room : Int) - s.W.length < n then (s, (0 : Int), (3 : Int)) else ({ s with W := s.W ++ List.replicate n.toNat 0 }, (s.W.length : Int) + 1, (0 : Int))
def TakeOk (w : World) (a g : Nat) (x : Ar × Int × Int) (e : Ending) (w' : World) : Prop := e = .returned (.tuple #[.int .i64 x.2.1, .int .i64 x.2.2]) ∧ ArIs w' a g x.1 ∧ Turns [a] w w'
set_option maxRecDepth 100000 in
set_option maxHeartbeats 1000000 in
theorem take_any {w : World} {a g : Nat} {s : Ar} (h : ArIs w a g s) (n : Int) :
    Calls Tryz.prog 71 #[.pointer (some ⟨a, 0, none⟩), .int .i64 n] w (TakeOk w a g (takeA s n)) := by
  have H := Lib.hid h
  have c0 := h.c0
  have c1 := h.c1
  have f1 := h.blk.free 1
  have hle := h.le
  have hro := h.room
  have hlt := h.blk.lt
  clear h
  by_cases h0 : n < 0
  · have e : takeA s n = (s, (0 : Int), (1 : Int)) := by unfold takeA; rw [if_pos h0]
    have HE := Lib.hid e
    clear e
    go_enter Tryz.func71, Tryz.ntmps71
    go_wp2
    go_ret2
    rw [HE.out]
    exact ⟨rfl, H.out, Turns.refl _ _⟩
  · by_cases h1 : (s.room : Int) - s.W.length < n
    · have e : takeA s n = (s, (0 : Int), (3 : Int)) := by unfold takeA; rw [if_neg h0, if_pos h1]
      have HE := Lib.hid e
      have x1 : IntKind.i64.wrap ((s.room : Int) - s.W.length) = (s.room : Int) - s.W.length := IntWalk.i64_in _ (by omega)
      clear e
      go_enter Tryz.func71, Tryz.ntmps71
      go_wp2
      go_quiet (fail)
      go_wp2
      go_ret2
      rw [HE.out]
      exact ⟨rfl, H.out.turns (S := []) ((Turns.refl _ _).drewN _) (by simp) (by simp), (Turns.refl _ _).drewN _⟩
    · have e : takeA s n = ({ s with W := s.W ++ List.replicate n.toNat 0 }, (s.W.length : Int) + 1, (0 : Int)) := by unfold takeA; rw [if_neg h0, if_neg h1]
      have HE := Lib.hid e
      have x1 : IntKind.i64.wrap ((s.room : Int) - s.W.length) = (s.room : Int) - s.W.length := IntWalk.i64_in _ (by omega)
      have h2 : n ≤ 4096 := by omega
      clear e
      go_enter Tryz.func71, Tryz.ntmps71
      go_wp2
      go_quiet (fail)
      clear x1
      go_wp2
      go_ret2
      rw [HE.out]
      obtain ⟨m, rfl⟩ := Int.eq_ofNat_of_zero_le (show 0 ≤ n by omega)
      have hb := (H.out.blk.drewN nq).set_ 1 (.int .i64 (s.W.length + m))
      have hw := (H.out.wds.drewN nq).far (p := ⟨a, 1, none⟩) H.out.ne.symm (.int .i64 (s.W.length + m))
      refine ⟨rfl, ⟨?_, ?_, H.out.ne, by simp; omega, hro, H.out.ops⟩, ((Turns.refl _ _).drewN _).setCell (.inl (by simp)) _⟩
      · have e : arCells g ({ s with W := s.W ++ List.replicate ((m : Int).toNat) 0 }) = (arCells g s).setIfInBounds 1 (.int .i64 (s.W.length + m)) := by
          unfold arCells; simp
        rw [e]; exact hb
      · have e : wdL { s with W := s.W ++ List.replicate ((m : Int).toNat) 0 } = wdL s := by
          unfold wdL
          congr 1
          rw [List.append_assoc, List.append_cancel_left_eq, List.replicate_append_replicate]
          congr 1
          simp; omega
        rw [e]; exact hw
end Go.Proofs.YtkdaiomjbkpedaaGreat
end
section
/- Layer 1: Add. -/
namespace Go.Proofs.YtkdaiomjbkpedaaGreat
open Go.RowKit

theorem aadd (w : World) (b o : Nat) (x y : Int) (hc : w.cell? ⟨b, o, none⟩ = some (.int .i64 x)) (hz : w.frozen? ⟨b, o, none⟩ = false) :
    Calls Tryz.prog 132 #[.pointer (some ⟨b, o, none⟩), .int .i64 y] w fun e w' => e = .returned (.int .i64 (IntKind.i64.wrap (x + y))) ∧ w' = w.setCell ⟨b, o, none⟩ (.int .i64 (IntKind.i64.wrap (x + y))) := by
  obtain ⟨s, hs⟩ : ∃ s, s = IntKind.i64.wrap (x + y) := ⟨_, rfl⟩
  rw [← hs]
  have hl := run_call_add (P := Tryz.prog) Tryz.func154 (by kernel_rfl) (by kernel_rfl) (by kernel_rfl) .i64 (by kernel_rfl) (y := y) (s := s) hc hz (by rw [hs]; rfl)
  clear hs
  go_enter Tryz.func132, Tryz.ntmps132
  go_wp2
  go_ret
  exact ⟨rfl, rfl⟩
theorem add_any {w : World} {a g : Nat} {s : Ar} (h : ArIs w a g s) (x d : Int) (ho : s.ops + 1 ≤ 1000000000000) :
    Calls Tryz.prog 102 #[.pointer (some ⟨a, 0, none⟩), .int .i64 x, .int .i64 d] w (OpDone w a g (addA s x d) (.int .i64 (if inR s.W x then IntKind.i64.wrap (ldW s.W x + d) else 0))) := by
  have H := Lib.hid h
  cases hx : inR s.W x
  · have e : OpDone w a g (addA s x d) (.int .i64 (if false = true then IntKind.i64.wrap (ldW s.W x + d) else 0)) (.returned (.int .i64 0)) w := ⟨rfl, by unfold addA; rw [noteA_out s _ _ _ hx, wrA_out s _ _ hx]; exact h, Turns.refl _ _⟩
    have HX := Lib.hid hx
    clear h hx
    go_enter Tryz.func102, Tryz.ntmps102
    go_wp2_with fail
    refine (word_out H.out x HX.out).mono ?_
    rintro en w1 ⟨rfl, rfl⟩
    go_wp2
    go_ret
    exact e
  · have HX := Lib.hid hx
    have HE := Lib.hid (ldW_in hx)
    have h12 := inR_true.1 hx
    have hil : x.toNat - 1 < s.W.length := by omega
    clear h hx
    go_enter Tryz.func102, Tryz.ntmps102
    go_wp2_with fail
    refine (word_in H.out x HX.out).mono ?_
    rintro en w1 ⟨rfl, rfl⟩
    go_wp2_with fail
    refine (note_any H.out 5 x true HX.out ho).mono ?_
    rintro en w1 ⟨rfl, h1, t1⟩
    have hc := h1.word (i := x.toNat - 1) (by rw [noteA_W]; exact hil)
    rw [noteA_W, ← HE.out] at hc
    have hp := h1.put (x := x) (by rw [noteA_W]; exact HX.out) (IntKind.i64.wrap (ldW s.W x + d))
    have H1 := Lib.hid (And.intro hp t1)
    have HC := Lib.hid hc
    clear h1 t1 hp hc
    go_wp2_with fail
    refine (aadd _ _ _ _ _ HC.out.1 HC.out.2).mono ?_
    rintro en w2 ⟨rfl, rfl⟩
    obtain ⟨r, hr⟩ : ∃ r, r = IntKind.i64.wrap (ldW s.W x + d) := ⟨_, rfl⟩
    have hr2 : -9223372036854775808 ≤ r ∧ r ≤ 9223372036854775807 := by rw [hr, IntKind.wrap_i64]; omega
    obtain ⟨hr3, hr4⟩ := hr2
    rw [← hr]
    have HR := Lib.hid hr
    clear hr
    go_wp2
    go_ret
    exact ⟨by rw [HR.out]; rfl, by rw [HR.out]; exact H1.out.1.1, by rw [HR.out]; exact (turns_ag H1.out.2).trans H1.out.1.2⟩
end Go.Proofs.YtkdaiomjbkpedaaGreat
end
