/- Layer 26: a rung is a queue: any act; who holds. Plain data. -/
import Derived.Test.YthgpjiebeinamaaRgO3
namespace Go.Proofs.Ythgpjiebeinamaa
open Go.RowKit

structure OneInv (n : Nat) (r : Rg) (Q D H : List Nat) : Prop where
  q : QInv n r.ar.W r.S Q
  d : D = H ++ pend r.S Q
theorem getS_sv {S : List Sp} {i : Nat} (hi : i < S.length) : getS S i = sv S i := by
  unfold getS sv
  rw [if_pos ⟨by omega, by omega⟩, Int.toNat_natCast]
theorem actRg_ops0 (r : Rg) (t k i v : Int) (hk : k ≠ 0) : (actRg r t k i v).1.ar = r.ar := by
  unfold actRg
  rw [if_neg hk]
  split
  · exact beginRg_ar _ _ _ _
  · split
    · exact withRg_ar _ _ _ _
    · split
      · exact withRg_ar _ _ _ _
      · rfl
theorem act_one {n : Nat} {r : Rg} {Q D H : List Nat} (h : OneInv n r Q D H) (hn : n ≤ 32) (kd ii vv : Int) :
    ∃ Q', OneInv n (actRg r 1 kd ii vv).1 Q' (if kd = 0 ∧ (getS r.S ii).pc = 3 then D ++ [ii.toNat] else D) (if (getS r.S ii).pc < 10 ∧ (getS (actRg r 1 kd ii vv).1.S ii).pc = 10 then H ++ [ii.toNat] else H) := by
  have same : ∀ r', r' = r → ((getS r.S ii).pc ≠ 3 ∨ kd ≠ 0) → ∃ Q', OneInv n r' Q' (if kd = 0 ∧ (getS r.S ii).pc = 3 then D ++ [ii.toNat] else D) (if (getS r.S ii).pc < 10 ∧ (getS r'.S ii).pc = 10 then H ++ [ii.toNat] else H) := by
    rintro r' rfl hc
    refine ⟨Q, h.q, ?_⟩
    rw [if_neg (by rintro ⟨a, b⟩; rcases hc with hc | hc; exact hc b; exact hc a), if_neg (by rintro ⟨a, b⟩; omega)]
    exact h.d
  by_cases k0 : kd = 0
  · have ea : actRg r 1 kd ii vv = stepRg r 1 ii := by unfold actRg; rw [if_pos k0]
    rw [ea]
    by_cases hc : okI r.S ii ∧ (getS r.S ii).pc ≠ 0 ∧ (getS r.S ii).pc ≠ 10
    · obtain ⟨hi, c0, c10⟩ := hc
      obtain ⟨m, rfl⟩ := Int.eq_ofNat_of_zero_le hi.1
      have hm : m < r.S.length := by have := hi.2; omega
      have hmn : m < n := by rw [← h.q.sl]; exact hm
      have hg := getS_sv hm
      rw [hg] at c0 c10
      obtain ⟨Q', hq, hd⟩ := stepQ (ar := r.ar) h.q hn hmn c0 c10
      have es : (stepRg r 1 m).1 = ⟨(stepP r.ar 1 ((m : Int) + 1) (sv r.S m)).1, r.S.set m (stepP r.ar 1 ((m : Int) + 1) (sv r.S m)).2⟩ := by
        unfold stepRg
        rw [if_pos ⟨hi, by rw [hg]; exact c0, by rw [hg]; exact c10⟩, hg]
        simp
      rw [es]
      refine ⟨Q', hq, ?_⟩
      have hl2 : m < (r.S.set m (stepP r.ar 1 ((m : Int) + 1) (sv r.S m)).2).length := by simpa using hm
      rw [hg, getS_sv hl2, sv_self _ hm, Int.toNat_natCast]
      have := hd D H h.d
      simp only [k0, true_and]
      exact this
    · have es : stepRg r 1 ii = (r, false) := by unfold stepRg; rw [if_neg hc]
      rw [es]
      refine same r rfl (.inl fun e3 => ?_)
      by_cases hi : okI r.S ii
      · exact hc ⟨hi, by rw [e3]; decide, by rw [e3]; decide⟩
      · rw [getS_out hi] at e3; revert e3; decide
  · by_cases k1 : kd = 1
    · have ea : actRg r 1 kd ii vv = beginRg r ii 0 1 := by unfold actRg; rw [if_neg k0, if_pos k1]
      rw [ea]
      by_cases hc : okI r.S ii ∧ (getS r.S ii).pc = 0
      · obtain ⟨hi, c0⟩ := hc
        obtain ⟨m, rfl⟩ := Int.eq_ofNat_of_zero_le hi.1
        have hm : m < r.S.length := by have := hi.2; omega
        have hmn : m < n := by rw [← h.q.sl]; exact hm
        have hg := getS_sv hm
        have eb : (beginRg r m 0 1).1 = ⟨r.ar, r.S.set m { sv r.S m with pc := 1 }⟩ := by
          unfold beginRg; rw [if_pos ⟨hi, c0⟩, hg]; simp
        rw [eb]
        rw [hg] at c0
        have hQ : m ∉ Q := h.q.notq (by rw [c0]; decide)
        obtain ⟨g1, g2⟩ := h.q.outside (p' := { sv r.S m with pc := 1 }) hmn hQ h.q.wl rfl (fun _ _ => rfl) (fun _ _ => rfl) ⟨⟨by show (0 : Int) ≤ 1; decide, by show (1 : Int) ≤ 3; decide⟩, fun e => absurd e (by show ¬ (2 : Int) ≤ 1; decide), fun e => absurd e (by show ¬ (1 : Int) = 3; decide)⟩
        refine ⟨Q, g1, ?_⟩
        have hl2 : m < (r.S.set m { sv r.S m with pc := 1 }).length := by simpa using hm
        rw [if_neg (fun e => k0 e.1), getS_sv hl2, sv_self _ hm, if_neg (fun e => absurd e.2 (by show ¬ (1 : Int) = 10; decide)), g2]
        exact h.d
      · have eb : beginRg r ii 0 1 = (r, false) := by unfold beginRg; rw [if_neg hc]
        rw [eb]
        exact same r rfl (.inr k0)
    · have wth : ∀ u : Int, (u = 11 ∨ u = 15) → actRg r 1 kd ii vv = withRg r ii u vv → ∃ Q', OneInv n (actRg r 1 kd ii vv).1 Q' (if kd = 0 ∧ (getS r.S ii).pc = 3 then D ++ [ii.toNat] else D) (if (getS r.S ii).pc < 10 ∧ (getS (actRg r 1 kd ii vv).1.S ii).pc = 10 then H ++ [ii.toNat] else H) := by
        intro u hu ea
        rw [ea]
        by_cases hc : okI r.S ii ∧ (getS r.S ii).pc = 10
        · obtain ⟨hi, c0⟩ := hc
          obtain ⟨m, rfl⟩ := Int.eq_ofNat_of_zero_le hi.1
          have hm : m < r.S.length := by have := hi.2; omega
          have hmn : m < n := by rw [← h.q.sl]; exact hm
          have hg := getS_sv hm
          have eb : (withRg r m u vv).1 = ⟨r.ar, r.S.set m { sv r.S m with pc := u, c := vv }⟩ := by
            unfold withRg; rw [if_pos ⟨hi, c0⟩, hg]; simp
          rw [eb]
          rw [hg] at c0
          have hQ : m ∈ Q := by
            by_cases hq : m ∈ Q
            · exact hq
            · have := (h.q.out m hmn hq).1.2; omega
          have hd0 : Q[0]? = some m := by
            rcases h.q.inq hQ with ⟨h0, _⟩ | ⟨_, _, _, _, _, hp⟩
            · exact h0
            · omega
          have g1 := h.q.headOnly (p' := { sv r.S m with pc := u, c := vv }) hd0 h.q.wl rfl (fun _ => rfl) (fun _ _ => rfl) ⟨.inr (.inr ⟨by show (10 : Int) ≤ u; omega, by show u ≤ 16; omega⟩), fun (e : u = 14) => by omega, fun (e : u = 16) => by omega⟩
          have g2 := pend_keep (p' := { sv r.S m with pc := u, c := vv }) h.q.sl hd0 hmn (by show 10 ≤ u ↔ 10 ≤ (sv r.S m).pc; omega)
          refine ⟨Q, g1, ?_⟩
          rw [if_neg (fun e => k0 e.1), if_neg (fun e => by have := e.1; rw [hg] at this; omega)]
          show D = H ++ pend (r.S.set m _) Q
          rw [g2]
          exact h.d
        · have eb : withRg r ii u vv = (r, false) := by unfold withRg; rw [if_neg hc]
          rw [eb]
          exact same r rfl (.inr k0)
      by_cases k2 : kd = 2
      · exact wth 11 (.inl rfl) (by unfold actRg; rw [if_neg k0, if_neg k1, if_pos k2])
      · by_cases k3 : kd = 3
        · exact wth 15 (.inr rfl) (by unfold actRg; rw [if_neg k0, if_neg k1, if_neg k2, if_pos k3])
        · have ea : actRg r 1 kd ii vv = (r, false) := by unfold actRg; rw [if_neg k0, if_neg k1, if_neg k2, if_neg k3]
          rw [ea]
          exact same r rfl (.inr k0)
/-- does a slot hold, or hand on? -/
def holdB (p : Sp) : Bool := decide (p.pc = 10 ∨ p.pc = 15 ∨ p.pc = 16)
def holdN (S : List Sp) (k : Nat) : Nat := (List.range k).countP fun j => holdB (sv S j)
theorem holdN_succ (S : List Sp) (k : Nat) : holdN S (k + 1) = holdN S k + if holdB (sv S k) then 1 else 0 := by unfold holdN; rw [List.range_succ, List.countP_append]; simp [List.countP_cons]
theorem hold_head {n : Nat} {W : List Int} {S : List Sp} {Q : List Nat} (h : QInv n W S Q) {j : Nat} (hj : j < n) (hb : holdB (sv S j) = true) : Q[0]? = some j := by
  simp only [holdB, decide_eq_true_eq] at hb
  by_cases hq : j ∈ Q
  · rcases h.inq hq with ⟨h0, _⟩ | ⟨_, _, _, _, _, hp⟩
    · exact h0
    · omega
  · have := (h.out j hj hq).1.2; omega
theorem hold_le {n : Nat} {W : List Int} {S : List Sp} {Q : List Nat} (h : QInv n W S Q) : ∀ k, k ≤ n → holdN S k ≤ 1 ∧ (1 ≤ holdN S k → ∃ j, j < k ∧ Q[0]? = some j)
  | 0, _ => ⟨by simp [holdN], fun h => by simp [holdN] at h⟩
  | k + 1, hk => by
    obtain ⟨h1, h2⟩ := hold_le h k (by omega)
    rw [holdN_succ]
    by_cases hb : holdB (sv S k) = true
    · have hd := hold_head h (by omega) hb
      rw [if_pos hb]
      have h0 : holdN S k = 0 := by
        rcases Nat.eq_zero_or_pos (holdN S k) with h0 | h0
        · exact h0
        · obtain ⟨j, hj, hjq⟩ := h2 h0
          rw [hd] at hjq
          injection hjq with e
          omega
      exact ⟨by omega, fun _ => ⟨k, by omega, hd⟩⟩
    · rw [if_neg hb]
      exact ⟨by omega, fun h => by obtain ⟨j, hj, hq⟩ := h2 (by omega); exact ⟨j, by omega, hq⟩⟩
theorem one_prefix {n : Nat} {r : Rg} {Q D H : List Nat} (h : OneInv n r Q D H) : H.length ≤ D.length ∧ D.take H.length = H := by
  rw [h.d]
  exact ⟨by simp, by simp⟩
end Go.Proofs.Ythgpjiebeinamaa
