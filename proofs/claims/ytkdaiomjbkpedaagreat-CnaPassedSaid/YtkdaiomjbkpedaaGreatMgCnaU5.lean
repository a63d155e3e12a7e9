/- Joined: Hc5, Cn5, Cn6, Cn7. -/
import Derived.Test.YtkdaiomjbkpedaaGreatMgCnaU4
section
/- Layer 29 (hclh): any act; one holder; who is passed. No program in sight. -/
namespace Go.Proofs.YtkdaiomjbkpedaaGreat
open Go

/-- what an act of i comes to -/
structure StA (n : Nat) (node : Nat → Nat) (p p' : Sp) (i : Nat) (Q Q' : List Nat) : Prop where
  row : p.pc = 1 → p'.pc = 5 → ∃ (t : Nat) (d : Int), t < n ∧ node t = node i ∧ 0 ≤ d ∧ p'.a = tokH t d
  stay : p.pc ≠ 4 → p.pc ≠ 11 → Q' = Q
  splice : p.pc = 4 → (∃ r, Q' = Q ++ i :: r) ∧ (p'.pc = 10 → Q = [])
  gone : p.pc = 11 → Q.head? = some i ∧ Q' = Q.tail
  enter : p'.pc = 10 → p.pc ≠ 10 → p.pc = 4 ∨ (p.pc = 5 ∧ Q.head? = some i)
  next : p'.pc = p.pc ∨ (p.pc = 1 ∧ (p'.pc = 2 ∨ p'.pc = 3 ∨ p'.pc = 5)) ∨ (p.pc = 2 ∧ p'.pc = 3) ∨ (p.pc = 3 ∧ p'.pc = 4) ∨ (p.pc = 4 ∧ (p'.pc = 5 ∨ p'.pc = 10)) ∨ (p.pc = 5 ∧ p'.pc = 10) ∨ (p.pc = 11 ∧ p'.pc = 0) ∨ (p.pc = 0 ∧ p'.pc = 1) ∨ (p.pc = 10 ∧ p'.pc = 11)
def ActR (n : Nat) (node : Nat → Nat) (S S' : List Sp) (I : Int) (Q Q' : List Nat) : Prop :=
  (S' = S ∧ Q' = Q) ∨ ∃ (j : Nat) (p' : Sp), j < n ∧ I = j ∧ S' = S.set j p' ∧ StA n node (sv S j) p' j Q Q'
def actH (nd n : Nat) (dl : Int) (node : Nat → Nat) (h : Hc) (k i : Int) : Hc × Bool :=
  if k = 0 then stepH nd n dl node h i else if k = 1 then beginH h i 0 1 else if k = 2 then beginH h i 10 11 else (h, false)
section
variable {nd n N i : Nat} {dl : Int} {node : Nat → Nat} {h : Hc} {G : Nat → List Nat}
theorem getS_nat {S : List Sp} {j : Nat} (h : j < S.length) : getS S (j : Int) = sv S j := by
  unfold getS; rw [if_pos (by omega)]; rfl
theorem HOk.le (k : HOk nd n dl node h N G) {M : Nat} (hM : N ≤ M) : HOk nd n dl node h M G := ⟨k.iv, by have := k.ops; omega, fun t => by have := k.dn t; omega, k.bb⟩
theorem HOk.stepI (k : HOk nd n dl node h N G) (hN : N < 1000000) (I : Int) : ∃ G', HOk nd n dl node (stepH nd n dl node h I).1 (N + 1) G' ∧ (((stepH nd n dl node h I).1 = h ∧ G' = G ∧ ¬ (okI h.S I ∧ goesH (getS h.S I) = true)) ∨ ∃ (j : Nat) (p' : Sp), j < n ∧ I = j ∧ (stepH nd n dl node h I).1.S = h.S.set j p' ∧ StH n node (sv h.S j) p' j (G 0) (G' 0)) ∧ (stepH nd n dl node h I).1.ar.ops ≤ h.ar.ops + 1 := by
  unfold stepH
  by_cases c : okI h.S I ∧ goesH (getS h.S I) = true
  · rw [if_pos c]
    obtain ⟨⟨h0, h1⟩, hg⟩ := c
    obtain ⟨j, rfl⟩ := Int.eq_ofNat_of_zero_le h0
    have hj : j < h.S.length := by omega
    have hjn : j < n := by rw [← k.iv.sl]; exact hj
    rw [getS_nat hj] at hg ⊢
    simp only [Int.toNat_natCast]
    obtain ⟨G', k', s'⟩ := k.step hN hjn hg _ rfl
    refine ⟨G', k', .inr ⟨j, _, hjn, rfl, rfl, s'⟩, ?_⟩
    unfold stepHp
    repeat' split
    all_goals first
      | exact swapA_ops _ _ _
      | exact isA_ops _ _ _ _
      | exact addA_ops _ _ _
      | exact Nat.le_succ _
  · rw [if_neg c]
    exact ⟨G, k.le (by omega), .inl ⟨rfl, rfl, c⟩, Nat.le_succ _⟩
theorem HOk.beginI (k : HOk nd n dl node h N G) (I f u : Int) (hfu : (f = 0 ∧ u = 1) ∨ (f = 10 ∧ u = 11)) : HOk nd n dl node (beginH h I f u).1 N G ∧ (((beginH h I f u).1 = h ∧ ¬ (okI h.S I ∧ (getS h.S I).pc = f)) ∨ ∃ (j : Nat), j < n ∧ I = j ∧ (sv h.S j).pc = f ∧ (beginH h I f u).1.S = h.S.set j { sv h.S j with pc := u }) ∧ (beginH h I f u).1.ar = h.ar := by
  unfold beginH
  by_cases c : okI h.S I ∧ (getS h.S I).pc = f
  · rw [if_pos c]
    obtain ⟨⟨h0, h1⟩, hg⟩ := c
    obtain ⟨j, rfl⟩ := Int.eq_ofNat_of_zero_le h0
    have hj : j < h.S.length := by omega
    have hjn : j < n := by rw [← k.iv.sl]; exact hj
    rw [getS_nat hj] at hg ⊢
    simp only [Int.toNat_natCast]
    refine ⟨⟨?_, k.ops, k.dn, k.bset hjn (by show u = 2 → _; omega)⟩, .inr ⟨j, hjn, rfl, hg, rfl⟩, by trivial⟩
    rcases hfu with ⟨rfl, rfl⟩ | ⟨rfl, rfl⟩
    · exact k.iv.ask hjn hg rfl
    · exact k.iv.atFrontP hjn (k.iv.atFront hjn (.inl hg)) (.inr rfl)
  · rw [if_neg c]
    exact ⟨k, .inl ⟨rfl, c⟩, rfl⟩
theorem HOk.act (k : HOk nd n dl node h N G) (hN : N < 1000000) (K I : Int) : ∃ G', HOk nd n dl node (actH nd n dl node h K I).1 (N + 1) G' ∧ ActR n node h.S (actH nd n dl node h K I).1.S I (G 0) (G' 0) ∧ (actH nd n dl node h K I).1.ar.ops ≤ h.ar.ops + 1 ∧ (K ≠ 0 → (actH nd n dl node h K I).1.ar.ops = h.ar.ops) := by
  unfold actH
  by_cases c0 : K = 0
  · rw [if_pos c0]
    obtain ⟨G', k', hs, ho⟩ := k.stepI hN I
    refine ⟨G', k', ?_, ho, fun h => absurd c0 h⟩
    rcases hs with ⟨h1, h2, _⟩ | ⟨j, p', h1, h2, h3, s⟩
    · exact .inl ⟨by rw [h1], by rw [h2]⟩
    · refine .inr ⟨j, p', h1, h2, h3, s.row, s.stay, s.splice, s.gone, s.enter, ?_⟩
      rcases s.next with h | h | h | h | h | h | h
      · exact .inl h
      · exact .inr (.inl h)
      · exact .inr (.inr (.inl h))
      · exact .inr (.inr (.inr (.inl h)))
      · exact .inr (.inr (.inr (.inr (.inl h))))
      · exact .inr (.inr (.inr (.inr (.inr (.inl h)))))
      · exact .inr (.inr (.inr (.inr (.inr (.inr (.inl h))))))
  · rw [if_neg c0]
    have fin : ∀ f u : Int, (f = 0 ∧ u = 1) ∨ (f = 10 ∧ u = 11) → ∃ G', HOk nd n dl node (beginH h I f u).1 (N + 1) G' ∧ ActR n node h.S (beginH h I f u).1.S I (G 0) (G' 0) ∧ (beginH h I f u).1.ar.ops ≤ h.ar.ops + 1 ∧ (K ≠ 0 → (beginH h I f u).1.ar.ops = h.ar.ops) := fun f u hfu => by
      obtain ⟨k', hs, ha⟩ := k.beginI I f u hfu
      refine ⟨G, k'.le (by omega), ?_, by rw [ha]; exact Nat.le_succ _, fun _ => by rw [ha]⟩
      rcases hs with ⟨h1, _⟩ | ⟨j, h1, h2, h3, h4⟩
      · exact .inl ⟨by rw [h1], rfl⟩
      · refine .inr ⟨j, _, h1, h2, h4, ⟨fun h => ?_, fun _ _ => rfl, fun h => ?_, fun h => ?_, fun h => ?_, ?_⟩⟩
        · omega
        · omega
        · omega
        · intro _; exfalso; have : u = 10 := h; omega
        · rcases hfu with ⟨rfl, rfl⟩ | ⟨rfl, rfl⟩
          · exact .inr (.inr (.inr (.inr (.inr (.inr (.inr (.inl ⟨h3, rfl⟩)))))))
          · exact .inr (.inr (.inr (.inr (.inr (.inr (.inr (.inr ⟨h3, rfl⟩)))))))
    by_cases c1 : K = 1
    · rw [if_pos c1]; exact fin 0 1 (.inl ⟨rfl, rfl⟩)
    · rw [if_neg c1]
      by_cases c2 : K = 2
      · rw [if_pos c2]; exact fin 10 11 (.inr ⟨rfl, rfl⟩)
      · rw [if_neg c2]; exact ⟨G, k.le (by omega), .inl ⟨rfl, rfl⟩, Nat.le_succ _, fun _ => rfl⟩
/-- one holder at most -/
theorem HOk.hold1 (k : HOk nd n dl node h N G) {a b : Nat} (ha : a < n) (hb : b < n) (h1 : (sv h.S a).pc = 10) (h2 : (sv h.S b).pc = 10) : a = b := by
  have e1 := k.iv.atFront ha (.inl h1)
  have e2 := k.iv.atFront hb (.inl h2)
  rw [e1] at e2
  injection e2
end
def Ahead (Q : List Nat) (k u : Nat) : Prop := Q.idxOf k < Q.idxOf u
section
variable {Q r : List Nat} {k u x : Nat}
theorem ahead_append (hu : u ∈ Q) (h : Ahead (Q ++ r) k u) : Ahead Q k u := by
  unfold Ahead at *
  rw [List.idxOf_append, List.idxOf_append, if_pos hu] at h
  split at h
  · exact h
  · have := List.idxOf_lt_length_iff.2 hu
    omega
theorem ahead_mem (hu : u ∈ Q) (h : Ahead Q k u) : k ∈ Q := by
  unfold Ahead at h
  have := List.idxOf_lt_length_iff.2 hu
  exact List.idxOf_lt_length_iff.1 (by omega)
theorem ahead_cons (hx : x ∉ Q) (hu : u ∈ Q) (h : Ahead Q k u) : Ahead (x :: Q) k u := by
  have hk := ahead_mem hu h
  have e1 : x ≠ k := fun e => hx (e ▸ hk)
  have e2 : x ≠ u := fun e => hx (e ▸ hu)
  have f1 : (x == k) = false := by simpa using e1
  have f2 : (x == u) = false := by simpa using e2
  unfold Ahead at *
  rw [List.idxOf_cons, List.idxOf_cons, f1, f2]
  simp only [cond_false]
  omega
theorem ahead_head (hh : Q.head? = some x) (hu : u ≠ x) : Ahead Q x u := by
  cases Q with
  | nil => simp at hh
  | cons a l =>
    simp at hh
    subst hh
    have f2 : (a == u) = false := by simpa using Ne.symm hu
    unfold Ahead
    rw [List.idxOf_cons_self, List.idxOf_cons, f2]
    simp only [cond_false]
    omega
theorem ahead_irr : ¬ Ahead Q k k := Nat.lt_irrefl _
end
def PInv (n : Nat) (S : List Sp) (Q : List Nat) (P : Nat → Nat → Int) : Prop :=
  ∀ u, u < n → ∀ k, k < n → 0 ≤ P u k → u ∈ Q ∧ (sv S u).pc = 5 ∧ P u k ≤ 1 ∧ (Ahead Q k u → (sv S k).pc = 5 → P u k = 0)
def P1 (P : Nat → Nat → Int) (was now : Int) (u : Nat) : Nat → Nat → Int := fun a b => if (was = 4 ∧ now = 5) ∧ a = u then 0 else P a b
def P2 (P : Nat → Nat → Int) (was now : Int) (u : Nat) : Nat → Nat → Int := fun a b => if was < 10 ∧ now = 10 then if a = u then -1 else if b = u ∧ 0 ≤ P1 P was now u a b then P1 P was now u a b + 1 else P1 P was now u a b else P1 P was now u a b
section
variable {nd n N : Nat} {dl : Int} {node : Nat → Nat} {h h' : Hc} {G G' : Nat → List Nat} {P : Nat → Nat → Int}
theorem PInv.act (k : HOk nd n dl node h N G) (k' : HOk nd n dl node h' (N + 1) G') {j : Nat} {p' : Sp} (hj : j < n) (hS : h'.S = h.S.set j p') (s : StA n node (sv h.S j) p' j (G 0) (G' 0)) (hP : PInv n h.S (G 0) P) :
    PInv n h'.S (G' 0) (P2 P (sv h.S j).pc p'.pc j) ∧ ((sv h.S j).pc < 10 → p'.pc = 10 → ∀ a, a < n → a ≠ j → 0 ≤ P1 P (sv h.S j).pc p'.pc j a j → P1 P (sv h.S j).pc p'.pc j a j = 0) := by
  have hjj : sv h'.S j = p' := by rw [hS]; exact sv_eq (by rw [k.iv.sl]; exact hj)
  have hne : ∀ t, t ≠ j → sv h'.S t = sv h.S t := fun t e => by rw [hS]; exact sv_ne e
  have hnod' := k'.iv.nod 0
  by_cases c4 : (sv h.S j).pc = 4
  · obtain ⟨⟨r, hr⟩, he⟩ := s.splice c4
    have hjQ : j ∉ G 0 := fun hm => by
      rcases k.iv.inG hm with h1 | ⟨_, ⟨_, h1⟩ | ⟨h1, _⟩⟩
      · have := h1.2; omega
      · rcases h1 with h1 | h1 | h1
        · have := h1.1; omega
        · omega
        · omega
      · omega
    have hj5 : (sv h.S j).pc ≠ 5 := by omega
    by_cases c10 : p'.pc = 10
    · have hQ := he c10
      have hneg : ∀ a, a < n → ∀ b, b < n → ¬ 0 ≤ P a b := fun a ha b hb hab => by
        have := (hP a ha b hb hab).1
        rw [hQ] at this; simp at this
      refine ⟨fun u hu b hb hub => ?_, fun _ _ a ha _ hab => ?_⟩
      · have e1 : ∀ a b, P1 P (sv h.S j).pc p'.pc j a b = P a b := fun a b => by unfold P1; rw [if_neg (by omega)]
        unfold P2 at hub
        rw [if_pos ⟨by omega, c10⟩] at hub
        simp only [e1] at hub
        split at hub
        · omega
        · rw [if_neg (fun h => hneg u hu b hb h.2)] at hub
          exact absurd hub (hneg u hu b hb)
      · unfold P1 at hab
        rw [if_neg (by omega)] at hab
        exact absurd hab (hneg a ha j hj)
    · have h5 : p'.pc = 5 := by
        have h7 : ¬ p'.pc = 4 := fun h7 => by
          have := k'.iv.at234 hj (by rw [hjj]; exact .inr (.inr h7))
          have hm : j ∈ G' 0 := by rw [hr]; simp
          have := k'.iv.dj _ _ _ hm (mem_of_head this)
          omega
        rcases s.next with h | h | h | h | h | h | h | h | h <;> omega
      refine ⟨fun u hu b hb hub => ?_, fun _ h => absurd h c10⟩
      have e2 : P2 P (sv h.S j).pc p'.pc j u b = if u = j then 0 else P u b := by
        unfold P2 P1
        rw [if_neg (by omega)]
        by_cases e : u = j
        · rw [if_pos ⟨⟨c4, h5⟩, e⟩, if_pos e]
        · rw [if_neg (fun h => e h.2), if_neg e]
      rw [e2] at hub ⊢
      by_cases e : u = j
      · rw [if_pos e, e, hjj]
        exact ⟨by rw [hr]; simp, h5, by omega, fun _ _ => rfl⟩
      · rw [if_neg e] at hub ⊢
        obtain ⟨h1, h2, h3, h6⟩ := hP u hu b hb hub
        rw [hne u e]
        refine ⟨by rw [hr]; exact List.mem_append_left _ h1, h2, h3, fun ha hb5 => ?_⟩
        rw [hr] at ha
        have ha' := ahead_append h1 ha
        have e3 : b ≠ j := fun e3 => hjQ (e3 ▸ ahead_mem h1 ha')
        rw [hne b e3] at hb5
        exact h6 ha' hb5
  · have e1 : ∀ a b, P1 P (sv h.S j).pc p'.pc j a b = P a b := fun a b => by unfold P1; rw [if_neg (fun h => c4 h.1.1)]
    by_cases c11 : (sv h.S j).pc = 11
    · obtain ⟨hf, hQ⟩ := s.gone c11
      have hnx : ¬ p'.pc = 10 := by have := s.next; omega
      refine ⟨fun u hu b hb hub => ?_, fun h => by omega⟩
      have e2 : P2 P (sv h.S j).pc p'.pc j u b = P u b := by unfold P2; rw [if_neg (fun h => hnx h.2), e1]
      rw [e2] at hub ⊢
      obtain ⟨h1, h2, h3, h6⟩ := hP u hu b hb hub
      have e : u ≠ j := fun e => by rw [e, c11] at h2; omega
      have hjT : j ∉ (G 0).tail := head_not_tail (k.iv.nod 0) hf
      have huT : u ∈ (G 0).tail := by
        rcases mem_ht h1 with h7 | h7
        · rw [hf] at h7; injection h7 with h7; exact absurd h7.symm e
        · exact h7
      rw [hne u e, hQ]
      refine ⟨huT, h2, h3, fun ha hb5 => ?_⟩
      have hbT := ahead_mem huT ha
      have e3 : b ≠ j := fun e3 => hjT (e3 ▸ hbT)
      rw [hne b e3] at hb5
      refine h6 ?_ hb5
      cases hg : G 0 with
      | nil => rw [hg] at hf; simp at hf
      | cons a l =>
        rw [hg] at hf hjT huT ha
        simp at hf
        subst hf
        exact ahead_cons hjT huT ha
    · have hQ := s.stay c4 c11
      by_cases c10 : (sv h.S j).pc < 10 ∧ p'.pc = 10
      · have hf : (G 0).head? = some j := by
          rcases s.enter c10.2 (by omega) with h1 | h1
          · exact absurd h1 c4
          · exact h1.2
        have h5 : (sv h.S j).pc = 5 := by
          rcases s.enter c10.2 (by omega) with h1 | h1
          · exact absurd h1 c4
          · exact h1.1
        have hz : ∀ a, a < n → a ≠ j → 0 ≤ P a j → P a j = 0 := fun a ha e hab => (hP a ha j hj hab).2.2.2 (ahead_head hf e) h5
        refine ⟨fun u hu b hb hub => ?_, fun _ _ a ha e hab => by rw [e1] at hab ⊢; exact hz a ha e hab⟩
        by_cases e : u = j
        · unfold P2 at hub
          rw [if_pos c10, if_pos e] at hub
          omega
        · have e2 : P2 P (sv h.S j).pc p'.pc j u b = if b = j ∧ 0 ≤ P u b then P u b + 1 else P u b := by
            unfold P2; rw [if_pos c10, if_neg e, e1]
          rw [e2] at hub ⊢
          rw [hne u e, hQ]
          by_cases e3 : b = j ∧ 0 ≤ P u b
          · rw [if_pos e3] at hub ⊢
            obtain ⟨rfl, h0⟩ := e3
            obtain ⟨h1, h2, h3, h6⟩ := hP u hu b hb h0
            have := hz u hu e h0
            refine ⟨h1, h2, by omega, fun _ hb5 => ?_⟩
            rw [hjj, c10.2] at hb5
            omega
          · rw [if_neg e3] at hub ⊢
            obtain ⟨h1, h2, h3, h6⟩ := hP u hu b hb hub
            refine ⟨h1, h2, h3, fun ha hb5 => ?_⟩
            have e4 : b ≠ j := fun e4 => e3 ⟨e4, hub⟩
            rw [hne b e4] at hb5
            exact h6 ha hb5
      · refine ⟨fun u hu b hb hub => ?_, fun h1 h2 => absurd ⟨h1, h2⟩ c10⟩
        have e2 : P2 P (sv h.S j).pc p'.pc j u b = P u b := by unfold P2; rw [if_neg c10, e1]
        rw [e2] at hub ⊢
        obtain ⟨h1, h2, h3, h6⟩ := hP u hu b hb hub
        rw [hQ]
        have hp5 : ∀ t, (sv h'.S t).pc = 5 → t ∈ G 0 → (sv h.S t).pc = 5 := fun t h7 ht => by
          by_cases e : t = j
          · subst e
            rw [hjj] at h7
            have := k.iv.inG ht
            have := s.next
            omega
          · rw [hne t e] at h7; exact h7
        refine ⟨h1, ?_, h3, fun ha hb5 => h6 ha (hp5 b hb5 (ahead_mem h1 ha))⟩
        by_cases e : u = j
        · subst e
          rw [hjj]
          have := s.next
          have : ¬ p'.pc = 10 := fun h => c10 ⟨by omega, h⟩
          omega
        · rw [hne u e]; exact h2
end
end Go.Proofs.YtkdaiomjbkpedaaGreat
end
section
/- Layer 31 (cna): any step. No program in sight. -/
namespace Go.Proofs.YtkdaiomjbkpedaaGreat
open Go

abbrev Cfg := Option (Nat × List Nat × List Nat)
def CIv (n : Nat) (bud : Int) (node : Nat → Int) (W : List Int) (w : Wk) (S : List Sp) : Cfg → Prop
  | none => CFr n bud W S
  | some (h, A, R) => CBs n W S h A R ∧ CPh n bud node W w S h A R (sv S h)
def givesC (x : Int) : Bool := x == 24 || x == 28 || x == 30
/-- who waits for the lock, and was not yet given it, in order -/
def effL (S : List Sp) : Cfg → List Nat
  | none => []
  | some (h, A, R) => if givesC (sv S h).pc then A ++ R.tail else A ++ R
/-- is there one to enter who was given the lock? -/
def effE (S : List Sp) : Cfg → Int
  | none => 0
  | some (h, _, _) => if givesC (sv S h).pc ∨ (sv S h).pc = 5 ∨ (sv S h).pc = 6 then 1 else 0
def Psi (bud ct : Int) (L : List Nat) (e : Int) (k : Nat) : Int := (L.idxOf k : Int) * (bud + 1) + (bud - ct) + e
def entC (p p' : Sp) : Bool := decide (p.pc < 10) && decide (p'.pc = 10)
structure StC (n : Nat) (bud : Int) (W W' : List Int) (S S' : List Sp) (c c' : Cfg) (i : Nat) (p p' : Sp) : Prop where
  door : p.pc = 3 → (p'.pc = 4 ∨ p'.pc = 6) ∧ ((effL S' c').idxOf i + 2 ≤ n ∨ i ∉ effL S' c') ∧ ∀ k, k ∈ effL S' c' → k = i ∨ (k ∈ effL S c ∧ Psi bud (cct W') (effL S' c') (effE S' c') k ≤ Psi bud (cct W) (effL S c) (effE S c) k)
  line : p.pc ≠ 3 → ∀ k, k ∈ effL S' c' → k ∈ effL S c ∧ Psi bud (cct W') (effL S' c') (effE S' c') k + (if entC p p' then 1 else 0) ≤ Psi bud (cct W) (effL S c) (effE S c) k
  all_ : entC p p' = true → ∀ k, k < n → k ≠ i → 3 < (sv S' k).pc → (sv S' k).pc < 10 → k ∈ effL S' c'
  other : ∀ h A R, c = some (h, A, R) → i ≠ h → (∃ R', c' = some (h, A, R')) ∧ (cnx W h ≠ 0 → cnx W' h ≠ 0)
section
variable {n : Nat} {bud : Int} {node : Nat → Int} {W W' : List Int} {w w' : Wk} {S : List Sp} {c : Cfg} {i h : Nat} {A R : List Nat} {p' : Sp}
structure WSet (n : Nat) (W W' : List Int) (fn fs fl : Nat → Int) (t c : Int) : Prop where
  len : W'.length = W.length
  nx : ∀ u, cnx W' u = fn u
  sp : ∀ u, csp W' u = fs u
  la : ∀ u, cla W' u = fl u
  tl : ctl W' = t
  ct : cct W' = c
def fset (f : Nat → Int) (t : Nat) (v : Int) : Nat → Int := fun u => if u = t then v else f u
theorem fset_eq (f : Nat → Int) (t : Nat) (v : Int) : fset f t v t = v := by unfold fset; rw [if_pos rfl]
theorem fset_ne (f : Nat → Int) {t u : Nat} (v : Int) (h : u ≠ t) : fset f t v u = f u := by unfold fset; rw [if_neg h]
theorem wsetN (hw : W.length = 2 + 3 * n) {t : Nat} (ht : t < n) (v : Int) : WSet n W (W.set (3 * t + 2) v) (fset (cnx W) t v) (csp W) (cla W) (ctl W) (cct W) :=
  ⟨by simp, fun u => by
    by_cases e : u = t
    · subst e; rw [fset_eq]; exact getD_set_eq _ _ _ (by omega)
    · rw [fset_ne _ _ e]; exact getD_set_ne _ _ _ (by omega), fun u => getD_set_ne _ _ _ (by omega), fun u => getD_set_ne _ _ _ (by omega), getD_set_ne _ _ _ (by omega), getD_set_ne _ _ _ (by omega)⟩
theorem wsetS (hw : W.length = 2 + 3 * n) {t : Nat} (ht : t < n) (v : Int) : WSet n W (W.set (3 * t + 3) v) (cnx W) (fset (csp W) t v) (cla W) (ctl W) (cct W) :=
  ⟨by simp, fun u => getD_set_ne _ _ _ (by omega), fun u => by
    by_cases e : u = t
    · subst e; rw [fset_eq]; exact getD_set_eq _ _ _ (by omega)
    · rw [fset_ne _ _ e]; exact getD_set_ne _ _ _ (by omega), fun u => getD_set_ne _ _ _ (by omega), getD_set_ne _ _ _ (by omega), getD_set_ne _ _ _ (by omega)⟩
theorem wsetL (hw : W.length = 2 + 3 * n) {t : Nat} (ht : t < n) (v : Int) : WSet n W (W.set (3 * t + 4) v) (cnx W) (csp W) (fset (cla W) t v) (ctl W) (cct W) :=
  ⟨by simp, fun u => getD_set_ne _ _ _ (by omega), fun u => getD_set_ne _ _ _ (by omega), fun u => by
    by_cases e : u = t
    · subst e; rw [fset_eq]; exact getD_set_eq _ _ _ (by omega)
    · rw [fset_ne _ _ e]; exact getD_set_ne _ _ _ (by omega), getD_set_ne _ _ _ (by omega), getD_set_ne _ _ _ (by omega)⟩
theorem wsetT (hw : W.length = 2 + 3 * n) (v : Int) : WSet n W (W.set 0 v) (cnx W) (csp W) (cla W) v (cct W) :=
  ⟨by simp, fun u => getD_set_ne _ _ _ (by omega), fun u => getD_set_ne _ _ _ (by omega), fun u => getD_set_ne _ _ _ (by omega), getD_set_eq _ _ _ (by omega), getD_set_ne _ _ _ (by omega)⟩
theorem wsetC (hw : W.length = 2 + 3 * n) (v : Int) : WSet n W (W.set 1 v) (cnx W) (csp W) (cla W) (ctl W) v :=
  ⟨by simp, fun u => getD_set_ne _ _ _ (by omega), fun u => getD_set_ne _ _ _ (by omega), fun u => getD_set_ne _ _ _ (by omega), getD_set_ne _ _ _ (by omega), getD_set_eq _ _ _ (by omega)⟩
/- the line behind a step -/
theorem idx_append_le {L r : List Nat} {k : Nat} (h : k ∈ L) : (L ++ r).idxOf k = L.idxOf k := by rw [List.idxOf_append, if_pos h]
theorem idx_mid {A R : List Nat} {f k : Nat} (hne : k ≠ f) : (A ++ R).idxOf k ≤ (A ++ f :: R).idxOf k ∧ (k ∉ A → (A ++ R).idxOf k + 1 = (A ++ f :: R).idxOf k) := by
  have f1 : (f == k) = false := by simpa using Ne.symm hne
  rw [List.idxOf_append, List.idxOf_append, List.idxOf_cons, f1]
  by_cases h : k ∈ A
  · rw [if_pos h, if_pos h]; exact ⟨Nat.le_refl _, fun h' => absurd h h'⟩
  · rw [if_neg h, if_neg h]; simp only [cond_false]; exact ⟨by omega, fun _ => by omega⟩
/-- the line is as it was, and nobody enters -/
theorem stc_same (hp : p'.pc ≠ 10 ∨ ¬ (sv S i).pc < 10) (h3 : (sv S i).pc ≠ 3) {c c' : Cfg} {S' : List Sp} {p p'' : Sp} (e1 : p = sv S i) (e2 : p'' = p') (hL : effL S' c' = effL S c) (hP : effE S' c' - cct W' ≤ effE S c - cct W)
    (ho : ∀ h A R, c = some (h, A, R) → i ≠ h → (∃ R', c' = some (h, A, R')) ∧ (cnx W h ≠ 0 → cnx W' h ≠ 0)) : StC n bud W W' S S' c c' i p p'' := by
  subst e1 e2
  have hent : entC (sv S i) p'' = false := by
    unfold entC
    rcases hp with h | h
    · rw [decide_eq_false h, Bool.and_false]
    · rw [decide_eq_false h, Bool.false_and]
  refine ⟨fun h => absurd h h3, fun _ k hk => ⟨hL ▸ hk, ?_⟩, fun h => (by rw [hent] at h; cases h), ho⟩
  rw [hent, hL]
  unfold Psi
  simp only [Bool.false_eq_true, if_false]
  omega
theorem psi_le {ct ct' e e' : Int} {L L' : List Nat} {k : Nat} (hb : 0 ≤ bud) (hi : L'.idxOf k ≤ L.idxOf k) (he : e' - ct' ≤ e - ct) : Psi bud ct' L' e' k ≤ Psi bud ct L e k := by
  unfold Psi
  have : (L'.idxOf k : Int) * (bud + 1) ≤ (L.idxOf k : Int) * (bud + 1) := Int.mul_le_mul_of_nonneg_right (by omega) (by omega)
  omega
theorem psi_lt {ct ct' e e' : Int} {L L' : List Nat} {k : Nat} (hi : L'.idxOf k + 1 = L.idxOf k) (he : e' - ct' ≤ e - ct + bud + 1) : Psi bud ct' L' e' k ≤ Psi bud ct L e k := by
  unfold Psi
  have : (L.idxOf k : Int) * (bud + 1) = (L'.idxOf k : Int) * (bud + 1) + (bud + 1) := by
    rw [← hi, show ((L'.idxOf k + 1 : Nat) : Int) = (L'.idxOf k : Int) + 1 by omega, Int.add_mul, Int.one_mul]
  omega
theorem CBs.lenL (b : CBs n W S h A R) : (A ++ R).length + 1 ≤ n := by
  have hnd : (h :: (A ++ R)).Nodup := List.nodup_cons.2 ⟨b.nh, b.nd⟩
  have := nodup_len n (h :: (A ++ R)) hnd fun x hx => by
    rcases List.mem_cons.1 hx with rfl | hx
    · exact b.hn
    · exact b.lt x hx
  rw [List.length_cons] at this
  omega
/-- all who wait, are in the line -/
theorem CBs.inLine (b : CBs n W S h A R) {k : Nat} (hk : k < n) (hne : k ≠ h) (h3 : 3 < (sv S k).pc) : k ∈ A ++ R := by
  apply Classical.byContradiction
  intro hm
  have := (b.out k hk hne hm).1
  omega
end
end Go.Proofs.YtkdaiomjbkpedaaGreat
end
section
/- Layer 31 (cna): any step of one who is not the first one. No program in sight. -/
namespace Go.Proofs.YtkdaiomjbkpedaaGreat
open Go

section
variable {n : Nat} {bud : Int} {node : Nat → Int} {s : Cn} {c : Cfg} {i h : Nat} {A R : List Nat} {p : Sp}
theorem stp1 (e : p.pc = 1) : stepCp n node bud s i p = (storeA s.ar (cN (num i)) 0, s.wk, { p with pc := 2 }) := by simp [stepCp, inC, e, num]
theorem stp2 (e : p.pc = 2) : stepCp n node bud s i p = (storeA s.ar (cS (num i)) 0, s.wk, { p with pc := 3 }) := by simp [stepCp, inC, e, num]
theorem stp3 (e : p.pc = 3) : stepCp n node bud s i p = (swapA s.ar 1 (num i), s.wk, { p with a := ldW s.ar.W 1, pc := if ldW s.ar.W 1 = 0 then 6 else 4 }) := by simp [stepCp, inC, e, num]
theorem stp4 (e : p.pc = 4) : stepCp n node bud s i p = (storeA s.ar (cN p.a) (num i), s.wk, { p with pc := 5 }) := by simp [stepCp, inC, e, num]
theorem stp5 (e : p.pc = 5) : stepCp n node bud s i p = (loadA s.ar (cS (num i)), s.wk, { p with a := ldW s.ar.W (cS (num i)), pc := if ldW s.ar.W (cS (num i)) ≠ 0 then 10 else 5 }) := by
  simp [stepCp, inC, e, num]
  by_cases hc : ldW s.ar.W (cS ((i : Int) + 1)) = 0 <;> simp [hc]
theorem stp6 (e : p.pc = 6) : stepCp n node bud s i p = (storeA s.ar (cS (num i)) (-1), s.wk, { p with pc := 10 }) := by simp [stepCp, inC, e, num]
/-- the outcome of a step -/
def Out (n : Nat) (bud : Int) (node : Nat → Int) (s : Cn) (c : Cfg) (i : Nat) (x : Ar × Wk × Sp) : Prop :=
  ∃ c', CIv n bud node x.1.W x.2.1 (s.S.set i x.2.2) c' ∧ StC n bud s.ar.W x.1.W s.S (s.S.set i x.2.2) c c' i (sv s.S i) x.2.2
theorem keepsH {W W' : List Int} {h i : Nat} {A R R' : List Nat} (hk : cnx W h ≠ 0 → cnx W' h ≠ 0) : ∀ h2 A2 R2, (some (h, A, R) : Cfg) = some (h2, A2, R2) → i ≠ h2 → (∃ R3, (some (h, A, R') : Cfg) = some (h2, A2, R3)) ∧ (cnx W h2 ≠ 0 → cnx W' h2 ≠ 0) := fun h2 A2 R2 e _ => by
  injection e with e
  injection e with e1 e2
  injection e2 with e2 e3
  subst e1 e2
  exact ⟨⟨R', rfl⟩, hk⟩
theorem effL_out {p' : Sp} (hne : i ≠ h) : effL (s.S.set i p') (some (h, A, R)) = effL s.S (some (h, A, R)) ∧ effE (s.S.set i p') (some (h, A, R)) = effE s.S (some (h, A, R)) := by
  have e : sv (s.S.set i p') h = sv s.S h := sv_ne (Ne.symm hne)
  unfold effL effE
  simp only [e]
  exact ⟨trivial, trivial⟩
theorem CFr.step (b : CFr n bud s.ar.W s.S) (hi : i < n) (h0 : (sv s.S i).pc ≠ 0) : Out n bud node s none i (stepCp n node bud s i (sv s.S i)) := by
  have ho := b.out i hi
  have e : (sv s.S i).pc = 1 ∨ (sv s.S i).pc = 2 ∨ (sv s.S i).pc = 3 := by omega
  unfold Out
  rcases e with e | e | e
  · rw [stp1 e]
    have hW : (storeA s.ar (cN (num i)) 0).W = s.ar.W.set (3 * i + 2) 0 := by rw [storeA_W, stc_nx b.wl hi]
    have ws := wsetN b.wl hi 0
    rw [← hW] at ws
    refine ⟨none, b.outs hi ws.len (fun u hu => by rw [ws.nx, fset_ne _ _ hu]) (fun u _ => ws.sp u) ws.ct ws.tl ⟨⟨by show (0 : Int) ≤ 2; decide, by show (2 : Int) ≤ 3; decide⟩, fun _ => by rw [ws.nx, fset_eq], fun h => absurd h (by show ¬ (2 : Int) = 3; decide)⟩, stc_same (p' := { sv s.S i with pc := 2 }) (.inl (by show ¬ (2 : Int) = 10; decide)) (by omega) rfl rfl rfl (by rw [ws.ct]; exact Int.le_refl _) (fun _ _ _ h => by cases h)⟩
  · rw [stp2 e]
    have hW : (storeA s.ar (cS (num i)) 0).W = s.ar.W.set (3 * i + 3) 0 := by rw [storeA_W, stc_sp b.wl hi]
    have ws := wsetS b.wl hi 0
    rw [← hW] at ws
    refine ⟨none, b.outs hi ws.len (fun u _ => ws.nx u) (fun u hu => by rw [ws.sp, fset_ne _ _ hu]) ws.ct ws.tl ⟨⟨by show (0 : Int) ≤ 3; decide, by show (3 : Int) ≤ 3; decide⟩, fun _ => by rw [ws.nx]; exact ho.2.1 (by omega), fun _ => by rw [ws.sp, fset_eq]⟩, stc_same (p' := { sv s.S i with pc := 3 }) (.inl (by show ¬ (3 : Int) = 10; decide)) (by omega) rfl rfl rfl (by rw [ws.ct]; exact Int.le_refl _) (fun _ _ _ h => by cases h)⟩
  · rw [stp3 e, ldc_tl b.wl, b.tl]
    have hW : (swapA s.ar 1 (num i)).W = s.ar.W.set 0 (num i) := by rw [swapA_W, stc_tl b.wl]
    have ws := wsetT b.wl (num i)
    rw [← hW] at ws
    have hf := b.first (p' := { sv s.S i with a := 0, pc := 6 }) (node := node) (w := s.wk) hi e ws.len ws.nx ws.sp ws.ct ws.tl rfl
    have hii : sv (s.S.set i { sv s.S i with a := 0, pc := 6 }) i = { sv s.S i with a := 0, pc := 6 } := sv_eq (by rw [b.sl]; exact hi)
    refine ⟨some (i, [], []), ⟨hf.1, by rw [if_pos rfl, hii]; exact hf.2⟩, ?_⟩
    have hL : effL (s.S.set i { sv s.S i with a := 0, pc := 6 }) (some (i, [], [])) = [] := by
      simp only [effL]; split <;> rfl
    rw [if_pos rfl]
    refine ⟨fun _ => ⟨.inr rfl, .inr (by rw [hL]; simp), fun k hk => by rw [hL] at hk; simp at hk⟩, fun h => absurd e h, fun h => ?_, fun _ _ _ h => by cases h⟩
    unfold entC at h
    rw [decide_eq_false (show ¬ (6 : Int) = 10 by decide), Bool.and_false] at h
    cases h
theorem CBs.stepOut (b : CBs n s.ar.W s.S h A R) (k : CPh n bud node s.ar.W s.wk s.S h A R (sv s.S h)) (hbud : 0 ≤ bud) (hi : i < n) (hne : i ≠ h) (hni : i ∉ A ++ R) (h0 : (sv s.S i).pc ≠ 0) : Out n bud node s (some (h, A, R)) i (stepCp n node bud s i (sv s.S i)) := by
  have ho := b.out i hi hne hni
  have e : (sv s.S i).pc = 1 ∨ (sv s.S i).pc = 2 ∨ (sv s.S i).pc = 3 := by omega
  have hh : ∀ p', sv (s.S.set i p') h = sv s.S h := fun p' => sv_ne (Ne.symm hne)
  unfold Out
  rcases e with e | e | e
  · rw [stp1 e]
    have hW : (storeA s.ar (cN (num i)) 0).W = s.ar.W.set (3 * i + 2) 0 := by rw [storeA_W, stc_nx b.wl hi]
    have ws := wsetN b.wl hi 0
    rw [← hW] at ws
    have hN : ∀ u, u ≠ i → cnx (storeA s.ar (cN (num i)) 0).W u = cnx s.ar.W u := fun u hu => by rw [ws.nx, fset_ne _ _ hu]
    obtain ⟨q1, q2⟩ := effL_out (s := s) (A := A) (R := R) (p' := { sv s.S i with pc := 2 }) hne
    refine ⟨some (h, A, R), ⟨b.outs hi hne hni ws.len hN (fun u _ => ws.sp u) ws.tl ⟨⟨by show (0 : Int) ≤ 2; decide, by show (2 : Int) ≤ 3; decide⟩, fun _ => by rw [ws.nx, fset_eq], fun h => absurd h (by show ¬ (2 : Int) = 3; decide)⟩, by rw [hh]; exact k.outs hne hni hN (fun u _ => ws.sp u) ws.la ws.ct⟩,
      stc_same (p' := { sv s.S i with pc := 2 }) (.inl (by show ¬ (2 : Int) = 10; decide)) (by omega) rfl rfl q1 (by rw [ws.ct, q2]; exact Int.le_refl _) (keepsH fun u => by rw [hN h (Ne.symm hne)]; exact u)⟩
  · rw [stp2 e]
    have hW : (storeA s.ar (cS (num i)) 0).W = s.ar.W.set (3 * i + 3) 0 := by rw [storeA_W, stc_sp b.wl hi]
    have ws := wsetS b.wl hi 0
    rw [← hW] at ws
    have hS : ∀ u, u ≠ i → csp (storeA s.ar (cS (num i)) 0).W u = csp s.ar.W u := fun u hu => by rw [ws.sp, fset_ne _ _ hu]
    obtain ⟨q1, q2⟩ := effL_out (s := s) (A := A) (R := R) (p' := { sv s.S i with pc := 3 }) hne
    refine ⟨some (h, A, R), ⟨b.outs hi hne hni ws.len (fun u _ => ws.nx u) hS ws.tl ⟨⟨by show (0 : Int) ≤ 3; decide, by show (3 : Int) ≤ 3; decide⟩, fun _ => by rw [ws.nx]; exact ho.2.1 (by omega), fun _ => by rw [ws.sp, fset_eq]⟩, by rw [hh]; exact k.outs hne hni (fun u _ => ws.nx u) hS ws.la ws.ct⟩,
      stc_same (p' := { sv s.S i with pc := 3 }) (.inl (by show ¬ (3 : Int) = 10; decide)) (by omega) rfl rfl q1 (by rw [ws.ct, q2]; exact Int.le_refl _) (keepsH fun u => by rw [ws.nx]; exact u)⟩
  · have hne0 : ctl s.ar.W ≠ 0 := by rw [b.tl]; exact num_ne _
    rw [stp3 e, ldc_tl b.wl, if_neg hne0]
    have hW : (swapA s.ar 1 (num i)).W = s.ar.W.set 0 (num i) := by rw [swapA_W, stc_tl b.wl]
    have ws := wsetT b.wl (num i)
    rw [← hW] at ws
    obtain ⟨p', hp'⟩ : ∃ p' : Sp, p' = { sv s.S i with a := ctl s.ar.W, pc := 4 } := ⟨_, rfl⟩
    rw [← hp']
    have hpc : p'.pc = 4 := by rw [hp']
    obtain ⟨hb, hlk⟩ := b.joins (p' := p') hi hne hni e ws.len ws.nx ws.sp ws.tl hpc (by rw [hp'])
    refine ⟨some (h, A, R ++ [i]), ⟨hb, by rw [hh]; exact k.joins hni ws.nx ws.sp ws.la ws.ct hlk⟩, ?_⟩
    have hmi : ∀ Q : List Nat, (∀ t, t ∈ Q → t ∈ A ++ R) → i ∉ Q := fun Q hQ hm => hni (hQ i hm)
    have hL : effL (s.S.set i p') (some (h, A, R ++ [i])) = effL s.S (some (h, A, R)) ++ [i] := by
      simp only [effL, hh]
      split
      · rename_i hg
        have hR : R ≠ [] := k.some_ (by
          unfold givesC at hg
          simp at hg
          omega)
        cases R with
        | nil => exact absurd rfl hR
        | cons a l => simp
      · simp
    have hE : effE (s.S.set i p') (some (h, A, R ++ [i])) = effE s.S (some (h, A, R)) := by simp only [effE, hh]
    have hsub : ∀ t, t ∈ effL s.S (some (h, A, R)) → t ∈ A ++ R := fun t ht => by
      simp only [effL] at ht
      split at ht
      · rcases List.mem_append.1 ht with h1 | h1
        · exact List.mem_append_left _ h1
        · exact List.mem_append_right _ (List.mem_of_mem_tail h1)
      · exact ht
    have hlen : (effL s.S (some (h, A, R))).length ≤ (A ++ R).length := by
      simp only [effL]
      split
      · simp
      · exact Nat.le_refl _
    have hiL := hmi _ hsub
    refine ⟨fun _ => ⟨.inl hpc, .inl ?_, fun k hk => ?_⟩, fun h => absurd e h, fun h => ?_, keepsH fun u => by rw [ws.nx]; exact u⟩
    · rw [hL, List.idxOf_append, if_neg hiL]
      have := hb.lenL
      have h1 : (A ++ (R ++ [i])).length = (A ++ R).length + 1 := by simp; omega
      have h2 : [i].idxOf i = 0 := by simp
      rw [h2]
      omega
    · rw [hL] at hk
      rcases List.mem_append.1 hk with h1 | h1
      · refine .inr ⟨h1, ?_⟩
        rw [hL, hE, ws.ct]
        exact psi_le hbud (by rw [idx_append_le h1]; exact Nat.le_refl _) (Int.le_refl _)
      · exact .inl (List.mem_singleton.1 h1)
    · unfold entC at h
      rw [decide_eq_false (show ¬ p'.pc = 10 by omega), Bool.and_false] at h
      cases h
theorem CBs.stepWait (b : CBs n s.ar.W s.S h A R) (k : CPh n bud node s.ar.W s.wk s.S h A R (sv s.S h)) (hi : i ∈ A ++ R) : Out n bud node s (some (h, A, R)) i (stepCp n node bud s i (sv s.S i)) := by
  have hw := b.wait i hi
  have hne := b.waits hi
  have hh : ∀ p', sv (s.S.set i p') h = sv s.S h := fun p' => sv_ne (Ne.symm hne)
  have hin := b.lt i hi
  unfold Out
  rcases hw.2 with e | e
  · obtain ⟨q, hq, ha, ht⟩ := b.tells k (p' := { sv s.S i with pc := 5 }) hi e rfl
    rw [stp4 e, show cN (sv s.S i).a = cN (num q) by rw [ha]]
    have hW : (storeA s.ar (cN (num q)) (num i)).W = s.ar.W.set (3 * q + 2) (num i) := by rw [storeA_W, stc_nx b.wl hq]
    have ws := wsetN b.wl hq (num i)
    rw [← hW] at ws
    obtain ⟨q1, q2⟩ := effL_out (s := s) (A := A) (R := R) (p' := { sv s.S i with pc := 5 }) hne
    obtain ⟨t1, t2⟩ := ht _ ws.len (by rw [ws.nx, fset_eq]) (fun u hu => by rw [ws.nx, fset_ne _ _ hu]) ws.sp ws.la ws.tl ws.ct
    exact ⟨some (h, A, R), ⟨t1, by rw [hh]; exact t2⟩, stc_same (p' := { sv s.S i with pc := 5 }) (.inl (by show ¬ (5 : Int) = 10; decide)) (by omega) rfl rfl q1 (by rw [ws.ct, q2]; exact Int.le_refl _) (keepsH fun u => by
      rw [ws.nx]
      by_cases e2 : h = q
      · rw [e2, fset_eq]; exact num_ne i
      · rw [fset_ne _ _ e2]; exact u)⟩
  · rw [stp5 e, ldc_sp b.wl hin, hw.1]
    simp only [ne_eq, not_true, if_false]
    obtain ⟨t1, t2⟩ := b.looks k (p' := { sv s.S i with a := 0, pc := 5 }) hi e rfl
    obtain ⟨q1, q2⟩ := effL_out (s := s) (A := A) (R := R) (p' := { sv s.S i with a := 0, pc := 5 }) hne
    refine ⟨some (h, A, R), ⟨by rw [loadA_W]; exact t1, by rw [hh, loadA_W]; exact t2⟩, stc_same (p' := { sv s.S i with a := 0, pc := 5 }) (.inl (by show ¬ (5 : Int) = 10; decide)) (by omega) rfl rfl q1 (by rw [loadA_W, q2]; exact Int.le_refl _) (keepsH fun u => by rw [loadA_W]; exact u)⟩
end
end Go.Proofs.YtkdaiomjbkpedaaGreat
end
section
/- Layer 31 (cna): any step of the first one. No program in sight. -/
namespace Go.Proofs.YtkdaiomjbkpedaaGreat
open Go

section
variable {n : Nat} {bud : Int} {node : Nat → Int} {s : Cn} {c : Cfg} {i h : Nat} {A R A' R' : List Nat} {p : Sp}
theorem stp11 (e : p.pc = 11) : stepCp n node bud s i p = (loadA s.ar (cS (num i)), s.wk, { p with b := ldW s.ar.W (cS (num i)), pc := 12 }) := by simp [stepCp, endsC, e, num]
theorem stp12 (e : p.pc = 12) : stepCp n node bud s i p = (loadA s.ar (cN (num i)), s.wk, { p with a := ldW s.ar.W (cN (num i)), pc := if ldW s.ar.W (cN (num i)) ≠ 0 then 17 else if 0 < p.b then 14 else 13 }) := by
  by_cases hc : ldW s.ar.W (cN ((i : Int) + 1)) = 0 <;> simp [stepCp, endsC, e, num, hc]
theorem stp13 (e : p.pc = 13) : stepCp n node bud s i p = (casA s.ar 1 (num i) 0, s.wk, { p with pc := if casB s.ar 1 (num i) then 0 else 16 }) := by
  cases hc : casB s.ar 1 ((i : Int) + 1) <;> simp [stepCp, endsC, e, num, hc]
theorem stp14 (e : p.pc = 14) : stepCp n node bud s i p = (loadA s.ar (cL p.b), s.wk, { p with c := ldW s.ar.W (cL p.b), pc := 15 }) := by simp [stepCp, endsC, e]
theorem stp15 (e : p.pc = 15) : stepCp n node bud s i p = (casA s.ar 1 (num i) p.c, s.wk, { p with pc := if casB s.ar 1 (num i) then 28 else 16 }) := by
  cases hc : casB s.ar 1 ((i : Int) + 1) <;> simp [stepCp, endsC, e, num, hc]
theorem stp16 (e : p.pc = 16) : stepCp n node bud s i p = (loadA s.ar (cN (num i)), s.wk, { p with a := ldW s.ar.W (cN (num i)), pc := if ldW s.ar.W (cN (num i)) ≠ 0 then 17 else 16 }) := by
  by_cases hc : ldW s.ar.W (cN ((i : Int) + 1)) = 0 <;> simp [stepCp, endsC, e, num, hc]
theorem stp17 (e : p.pc = 17) : stepCp n node bud s i p = if bud ≤ ldW s.ar.W 2 then (loadA s.ar 2, s.wk, frontC { p with c := ldW s.ar.W 2 }) else (loadA s.ar 2, beginW n node s.wk p.a (node i), { p with c := ldW s.ar.W 2, pc := if (beginW n node s.wk p.a (node i)).way then 18 else 23 }) := by simp [stepCp, looksC, e]
theorem stp18 (e : p.pc = 18) (hw : s.wk.way = true) : stepCp n node bud s i p = (loadA s.ar (cN s.wk.last), takeW n node s.wk (ldW s.ar.W (cN s.wk.last)),
        if (takeW n node s.wk (ldW s.ar.W (cN s.wk.last))).way then { p with pc := 18 } else if (takeW n node s.wk (ldW s.ar.W (cN s.wk.last))).found ≠ 0 then { p with pc := 19 } else frontC p) := by simp [stepCp, looksC, e, hw]
theorem stp19 (e : p.pc = 19) : stepCp n node bud s i p = (storeA s.ar (cN s.wk.last) 0, s.wk, if 0 < p.b then { p with pc := 20 } else { p with b := p.a, pc := 22 }) := by simp [stepCp, asideC, e]
theorem stp20 (e : p.pc = 20) : stepCp n node bud s i p = (loadA s.ar (cL p.b), s.wk, { p with c := ldW s.ar.W (cL p.b), pc := 21 }) := by simp [stepCp, asideC, e]
theorem stp21 (e : p.pc = 21) : stepCp n node bud s i p = (storeA s.ar (cN p.c) p.a, s.wk, { p with pc := 22 }) := by simp [stepCp, asideC, e]
theorem stp22 (e : p.pc = 22) : stepCp n node bud s i p = (storeA s.ar (cL p.b) s.wk.last, s.wk, { p with a := s.wk.found, pc := 23 }) := by simp [stepCp, asideC, e]
theorem stp23 (e : p.pc = 23) : stepCp n node bud s i p = (addA s.ar 2 1, s.wk, { p with pc := 24 }) := by simp [stepCp, asideC, e]
theorem stp24 (e : p.pc = 24) : stepCp n node bud s i p = (storeA s.ar (cS p.a) p.b, s.wk, { p with pc := 0 }) := by simp [stepCp, asideC, e]
theorem stp25 (e : p.pc = 25) : stepCp n node bud s i p = (loadA s.ar (cL p.b), s.wk, { p with c := ldW s.ar.W (cL p.b), pc := 26 }) := by simp [stepCp, asideC, e]
theorem stp26 (e : p.pc = 26) : stepCp n node bud s i p = (storeA s.ar (cN p.c) p.a, s.wk, { p with pc := 27 }) := by simp [stepCp, asideC, e]
theorem stp27 (e : p.pc = 27) : stepCp n node bud s i p = (storeA s.ar 2 0, s.wk, { p with pc := 28 }) := by simp [stepCp, asideC, e]
theorem stp28 (e : p.pc = 28) : stepCp n node bud s i p = (storeA s.ar (cS p.b) (-1), s.wk, { p with pc := 0 }) := by simp [stepCp, asideC, e]
theorem stp29 (e : p.pc = 29) : stepCp n node bud s i p = (storeA s.ar 2 0, s.wk, { p with pc := 30 }) := by simp [stepCp, asideC, e]
theorem stp30 (e : p.pc = 30) : stepCp n node bud s i p = (storeA s.ar (cS p.a) (-1), s.wk, { p with pc := 0 }) := by simp [stepCp, asideC, e]
theorem sameH {W W' : List Int} {h : Nat} {A R : List Nat} {c' : Cfg} : ∀ h2 A2 R2, (some (h, A, R) : Cfg) = some (h2, A2, R2) → h ≠ h2 → (∃ R3, c' = some (h2, A2, R3)) ∧ (cnx W h2 ≠ 0 → cnx W' h2 ≠ 0) := fun h2 A2 R2 e hne => by
  injection e with e
  injection e with e1 _
  exact absurd e1 hne
theorem effL_h {p' : Sp} (hh : sv (s.S.set i p') h = p') : effL (s.S.set i p') (some (h, A, R)) = if givesC p'.pc then A ++ R.tail else A ++ R := by simp only [effL, hh]
theorem effE_h {p' : Sp} (hh : sv (s.S.set i p') h = p') : effE (s.S.set i p') (some (h, A, R)) = if givesC p'.pc ∨ p'.pc = 5 ∨ p'.pc = 6 then 1 else 0 := by simp only [effE, hh]
/-- the first one goes on, and the line is as it was -/
theorem goOn (b : CBs n s.ar.W s.S h A R) {ar' : Ar} {w' : Wk} {p' : Sp} (hb : CBs n ar'.W (s.S.set h p') h A' R') (k : CPh n bud node ar'.W w' (s.S.set h p') h A' R' p') (h5 : 10 ≤ (sv s.S h).pc) (hg : givesC (sv s.S h).pc = false) (hg' : givesC p'.pc = false) (hp : 10 ≤ p'.pc) (hAR : A' ++ R' = A ++ R) (hC : cct s.ar.W ≤ cct ar'.W) :
    Out n bud node s (some (h, A, R)) h (ar', w', p') := by
  have hh : sv (s.S.set h p') h = p' := sv_eq (by rw [b.sl]; exact b.hn)
  refine ⟨some (h, A', R'), ⟨hb, by show CPh n bud node ar'.W w' _ h A' R' (sv (s.S.set h p') h); rw [hh]; exact k⟩, stc_same (p' := p') (.inr (by omega)) (by omega) rfl rfl ?_ ?_ sameH⟩
  · show effL (s.S.set h p') _ = _
    rw [effL_h hh, hg']
    simp only [effL, hg, Bool.false_eq_true, if_false]
    exact hAR
  · show effE (s.S.set h p') _ - cct ar'.W ≤ _
    rw [effE_h hh, hg']
    simp only [effE, hg, Bool.false_eq_true, false_or]
    rw [if_neg (by omega), if_neg (by omega)]
    omega
/-- the first one enters -/
theorem enters (b : CBs n s.ar.W s.S h A R) {ar' : Ar} {w' : Wk} {p' : Sp} (hb : CBs n ar'.W (s.S.set h p') h A R) (k : CPh n bud node ar'.W w' (s.S.set h p') h A R p') (h5 : (sv s.S h).pc = 5 ∨ (sv s.S h).pc = 6) (hp : p'.pc = 10) (hC : cct ar'.W = cct s.ar.W) :
    Out n bud node s (some (h, A, R)) h (ar', w', p') := by
  have hh : sv (s.S.set h p') h = p' := sv_eq (by rw [b.sl]; exact b.hn)
  have hg' : givesC p'.pc = false := by rw [hp]; rfl
  have hg : givesC (sv s.S h).pc = false := by rcases h5 with e | e <;> rw [e] <;> rfl
  have hL' : effL (s.S.set h p') (some (h, A, R)) = A ++ R := by rw [effL_h hh, hg']; rfl
  have hL : effL s.S (some (h, A, R)) = A ++ R := by simp only [effL, hg, Bool.false_eq_true, if_false]
  have hE' : effE (s.S.set h p') (some (h, A, R)) = 0 := by rw [effE_h hh, hg', if_neg]; rw [hp]; decide
  have hE : effE s.S (some (h, A, R)) = 1 := by simp only [effE]; rw [if_pos (.inr h5)]
  refine ⟨some (h, A, R), ⟨hb, by show CPh n bud node ar'.W w' _ h A R (sv (s.S.set h p') h); rw [hh]; exact k⟩, fun h => by omega, fun _ k hk => ?_, fun _ k hk hne h3 _ => ?_, sameH⟩
  · have hk' : k ∈ A ++ R := by rw [← hL']; exact hk
    refine ⟨by rw [hL]; exact hk', ?_⟩
    show Psi bud (cct ar'.W) (effL (s.S.set h p') _) (effE (s.S.set h p') _) k + _ ≤ _
    rw [hL', hL, hE', hE, hC]
    unfold Psi
    split <;> omega
  · show k ∈ effL (s.S.set h p') _
    rw [hL']
    have e : sv (s.S.set h p') k = sv s.S k := sv_ne hne
    have h3' : 3 < (sv (s.S.set h p') k).pc := h3
    rw [e] at h3'
    exact b.inLine hk hne h3'
theorem CBs.tailHead (b : CBs n s.ar.W s.S h A R) {k : Nat} (hk : k ∈ R.tail) : (A ++ R.tail).idxOf k + 1 = (A ++ R).idxOf k ∧ k ∈ A ++ R := by
  have hnd := List.nodup_append.1 b.nd
  cases R with
  | nil => simp at hk
  | cons f l =>
    have hk' : k ∈ l := hk
    have h1 : k ≠ f := fun e => (List.nodup_cons.1 hnd.2.1).1 (e ▸ hk')
    exact ⟨(idx_mid h1).2 fun hA => hnd.2.2 k hA k (List.mem_cons_of_mem _ hk') rfl, List.mem_append_right _ (List.mem_cons_of_mem _ hk')⟩
/-- the first one is just about to give the lock away (28, 30) -/
theorem gives (b : CBs n s.ar.W s.S h A R) {ar' : Ar} {w' : Wk} {p' : Sp} (hb : CBs n ar'.W (s.S.set h p') h [] R') (k : CPh n bud node ar'.W w' (s.S.set h p') h [] R' p') (h5 : 10 ≤ (sv s.S h).pc) (hg : givesC (sv s.S h).pc = false) (hg' : givesC p'.pc = true) (hAR : R' = A ++ R) (hC0 : 0 ≤ cct ar'.W) (hC : cct s.ar.W ≤ bud) :
    Out n bud node s (some (h, A, R)) h (ar', w', p') := by
  have hh : sv (s.S.set h p') h = p' := sv_eq (by rw [b.sl]; exact b.hn)
  have hL' : effL (s.S.set h p') (some (h, [], R')) = R'.tail := by rw [effL_h hh, hg']; rfl
  have hL : effL s.S (some (h, A, R)) = R' := by simp only [effL, hg, Bool.false_eq_true, if_false]; exact hAR.symm
  have hE' : effE (s.S.set h p') (some (h, [], R')) = 1 := by rw [effE_h hh, if_pos (.inl hg')]
  have hE : effE s.S (some (h, A, R)) = 0 := by
    simp only [effE]
    rw [if_neg]
    rintro (h1 | h1 | h1)
    · rw [hg] at h1; cases h1
    · omega
    · omega
  have hent : entC (sv s.S h) p' = false := by unfold entC; rw [decide_eq_false (by omega), Bool.false_and]
  refine ⟨some (h, [], R'), ⟨hb, by show CPh n bud node ar'.W w' _ h [] R' (sv (s.S.set h p') h); rw [hh]; exact k⟩, fun h3 => by omega, fun _ u hk => ?_, fun hx => ?_, sameH⟩
  · have hk' : u ∈ R'.tail := by rw [← hL']; exact hk
    have hi : R'.tail.idxOf u + 1 = R'.idxOf u := by
      have hnd : R'.Nodup := by simpa using hb.nd
      cases R' with
      | nil => simp at hk'
      | cons f l =>
        have h1 : u ≠ f := nei (List.nodup_cons.1 hnd).1 hk'
        exact (idx_mid (A := []) h1).2 (by simp)
    refine ⟨by rw [hL]; exact List.mem_of_mem_tail hk', ?_⟩
    show Psi bud (cct ar'.W) (effL (s.S.set h p') _) (effE (s.S.set h p') _) u + (if entC (sv s.S h) p' then 1 else 0) ≤ _
    rw [hent, hL', hL, hE', hE]
    simp only [Bool.false_eq_true, if_false]
    have := psi_lt (bud := bud) (ct := cct s.ar.W) (ct' := cct ar'.W) (e := 0) (e' := 1) hi (by omega)
    omega
  · have : entC (sv s.S h) p' = true := hx
    rw [hent] at this; cases this
/-- the lock is given -/
theorem gave (b : CBs n s.ar.W s.S h A R) {ar' : Ar} {w' : Wk} {p' : Sp} {f : Nat} {R1 : List Nat} (hR : R = f :: R1) (h5 : (sv s.S f).pc = 5) (hb : CBs n ar'.W (s.S.set h p') f A R1) (k : CPh n bud node ar'.W w' (s.S.set h p') f A R1 (sv (s.S.set h p') f)) (hg : givesC (sv s.S h).pc = true) (hp : p'.pc = 0) (hC : cct ar'.W = cct s.ar.W) :
    Out n bud node s (some (h, A, R)) h (ar', w', p') := by
  subst hR
  have hf : f ≠ h := b.waits (List.mem_append_right _ (by simp))
  have hsf : sv (s.S.set h p') f = sv s.S f := sv_ne hf
  have h10 : 10 ≤ (sv s.S h).pc := by
    unfold givesC at hg
    simp at hg
    omega
  refine ⟨some (f, A, R1), ⟨hb, k⟩, stc_same (p' := p') (.inl (by omega)) (by omega) rfl rfl ?_ ?_ sameH⟩
  · show effL (s.S.set h p') (some (f, A, R1)) = _
    simp only [effL, hsf, h5, hg, if_true, List.tail_cons]
    rfl
  · show effE (s.S.set h p') (some (f, A, R1)) - cct ar'.W ≤ _
    simp only [effE, hsf, h5, hg, hC]
    exact Int.le_refl _
theorem casA_hit {ar : Ar} {x o v : Int} (hc : casB ar x o = true) : (casA ar x o v).W = stW ar.W x v := by rw [casA_W, if_pos hc]
theorem casA_miss {ar : Ar} {x o v : Int} (hc : casB ar x o = false) : (casA ar x o v).W = ar.W := by rw [casA_W, if_neg (by rw [hc]; decide)]
theorem CBs.casTail (b : CBs n s.ar.W s.S h A R) : casB s.ar 1 (num h) = true ↔ R = [] := by
  unfold casB
  rw [ldc_tl b.wl, ← b.tailIs, show inR s.ar.W 1 = true from inR_true.2 ⟨by omega, by rw [b.wl]; omega⟩]
  simp
theorem cct_eq {W W' : List Int} (h : W' = W) : cct W' = cct W := by rw [h]
end
end Go.Proofs.YtkdaiomjbkpedaaGreat
end
