/- Joined: Hc6, Hc7, Top7, Top8, Hl6, Hw10, Hw11. -/
import Derived.Test.YtkdaiomjbkpedaaGreatRows
import Derived.Test.YtkdaiomjbkpedaaGreatMgHmcsU8
import Derived.Test.YtkdaiomjbkpedaaGreatMgHmcsU11
import Derived.Test.YtkdaiomjbkpedaaGreatMgHmcsU14
section
/- Layer 29 (hclh): in turn, all come to rest. No program in sight. -/
namespace Go.Proofs.YtkdaiomjbkpedaaGreat
open Go

def wgt (p : Sp) : Nat := if p.pc = 1 then 9 else if p.pc = 2 then 5 + p.b.toNat else if p.pc = 3 then 5 else if p.pc = 4 then 4 else if p.pc = 5 then 3 else if p.pc = 10 then 2 else if p.pc = 11 then 1 else 0
def wsum (f : Sp → Nat) (S : List Sp) : Nat := (S.map f).sum
section
variable {f : Sp → Nat} {S : List Sp} {i : Nat} {p' : Sp}
theorem wsum_set (hi : i < S.length) : wsum f (S.set i p') + f (sv S i) = wsum f S + f p' := by
  induction S generalizing i with
  | nil => simp at hi
  | cons a S ih =>
    cases i with
    | zero => simp [wsum, sv]; omega
    | succ i =>
      have := ih (i := i) (by simpa using hi)
      have e : sv (a :: S) (i + 1) = sv S i := rfl
      rw [e]
      simp only [wsum, List.set_cons_succ, List.map_cons, List.sum_cons] at this ⊢
      omega
theorem wsum_le (B : Nat) (h : ∀ j, j < S.length → f (sv S j) ≤ B) : wsum f S ≤ S.length * B := by
  induction S with
  | nil => simp [wsum]
  | cons a S ih =>
    have h0 : f a ≤ B := h 0 (by simp)
    have := ih fun j hj => h (j + 1) (by simpa using hj)
    simp only [wsum, List.map_cons, List.sum_cons, List.length_cons] at this ⊢
    rw [Nat.succ_mul]; omega
theorem wsum_mem (hi : i < S.length) : f (sv S i) ≤ wsum f S := by
  induction S generalizing i with
  | nil => simp at hi
  | cons a S ih =>
    cases i with
    | zero => simp [wsum, sv]
    | succ i =>
      have := ih (i := i) (by simpa using hi)
      have e : sv (a :: S) (i + 1) = sv S i := rfl
      rw [e]
      simp only [wsum, List.map_cons, List.sum_cons] at this ⊢
      omega
end
/-- one that moves when it is its turn to step -/
def Mov (S : List Sp) (Q : List Nat) (u : Nat) : Prop := (sv S u).pc = 1 ∨ (sv S u).pc = 2 ∨ (sv S u).pc = 3 ∨ (sv S u).pc = 4 ∨ (sv S u).pc = 10 ∨ (sv S u).pc = 11 ∨ ((sv S u).pc = 5 ∧ Q.head? = some u)
section
variable {nd n N i : Nat} {dl : Int} {node : Nat → Nat} {h : Hc} {G : Nat → List Nat}
theorem HOk.wle (k : HOk nd n dl node h N G) (hd : dl ≤ 3) (hi : i < n) : wgt (sv h.S i) ≤ 9 := by
  unfold wgt
  have := k.bb i hi
  repeat' split
  all_goals omega
theorem HOk.wz (k : HOk nd n dl node h N G) (hi : i < n) (hz : wgt (sv h.S i) = 0) : (sv h.S i).pc = 0 := by
  unfold wgt at hz
  have := k.pcs hi
  repeat' split at hz
  all_goals omega
theorem HOk.someMov (k : HOk nd n dl node h N G) : (∀ t, t < n → (sv h.S t).pc = 0) ∨ ∃ u, u < n ∧ Mov h.S (G 0) u := by
  rcases Classical.em (∀ t, t < n → (sv h.S t).pc = 0) with e | e
  · exact .inl e
  · refine .inr ?_
    obtain ⟨t, ht⟩ := Classical.not_forall.1 e
    obtain ⟨htn, hp⟩ := Classical.not_imp.1 ht
    rcases k.pcs htn with h0 | h0 | h0 | h0 | h0 | h0 | h0 | h0
    · exact absurd h0 hp
    · exact ⟨t, htn, .inl h0⟩
    · exact ⟨t, htn, .inr (.inl h0)⟩
    · exact ⟨t, htn, .inr (.inr (.inl h0))⟩
    · exact ⟨t, htn, .inr (.inr (.inr (.inl h0)))⟩
    · rcases k.iv.at5 htn h0 with ⟨j, p, h1, h2, _⟩ | ⟨h1, _⟩
      · cases j with
        | zero =>
          cases hg : G 0 with
          | nil => rw [hg] at h2; simp at h2
          | cons a l =>
            have hh : (G 0).head? = some a := by rw [hg]; rfl
            have han := k.iv.lt 0 a (mem_of_head hh)
            refine ⟨a, han, ?_⟩
            rcases k.iv.front a hh with ⟨h3, _⟩ | h3 | h3
            · exact .inr (.inr (.inr (.inr (.inr (.inr ⟨h3, rfl⟩)))))
            · exact .inr (.inr (.inr (.inr (.inl h3))))
            · exact .inr (.inr (.inr (.inr (.inr (.inl h3)))))
        | succ m =>
          have hne : G (m + 1) ≠ [] := by intro e; rw [e] at h2; simp at h2
          have hmn := k.iv.lt _ m (mem_of_head (k.iv.first m hne))
          refine ⟨m, hmn, ?_⟩
          rcases k.iv.mast m hne with ⟨⟨h3, _⟩ | h3, _⟩ | ⟨h3, _⟩
          · exact .inr (.inl h3)
          · exact .inr (.inr (.inl h3))
          · exact .inr (.inr (.inr (.inl h3)))
      · exact ⟨t, htn, .inr (.inr (.inr (.inr (.inr (.inr ⟨h0, h1⟩)))))⟩
    · exact ⟨t, htn, .inr (.inr (.inr (.inr (.inl h0))))⟩
    · exact ⟨t, htn, .inr (.inr (.inr (.inr (.inr (.inl h0)))))⟩
/-- a step and a leave of i: no weight more, less if i moves; whoever else moves still does -/
theorem HOk.turn (k : HOk nd n dl node h N G) (hN : N < 1000000) (hd : dl ≤ 3) (hi : i < n) (h1 h2 : Hc) (e1 : h1 = (stepH nd n dl node h i).1) (e2 : h2 = (beginH h1 i 10 11).1) :
    ∃ G', HOk nd n dl node h2 (N + 1) G' ∧ wsum wgt h2.S ≤ wsum wgt h.S ∧ (Mov h.S (G 0) i → wsum wgt h2.S < wsum wgt h.S) ∧ (∀ u, u < n → u ≠ i → Mov h.S (G 0) u → Mov h2.S (G' 0) u) := by
  obtain ⟨G', k1, hs, _⟩ := k.stepI hN i
  rw [← e1] at k1 hs
  obtain ⟨k2, hb, _⟩ := k1.beginI i 10 11 (.inr ⟨rfl, rfl⟩)
  rw [← e2] at k2 hb
  have hl : i < h.S.length := by rw [k.iv.sl]; exact hi
  have hl1 : i < h1.S.length := by rw [k1.iv.sl]; exact hi
  have w2 : wsum wgt h2.S ≤ wsum wgt h1.S ∧ ((sv h1.S i).pc = 10 → wsum wgt h2.S < wsum wgt h1.S) ∧ (∀ u, u ≠ i → sv h2.S u = sv h1.S u) := by
    rcases hb with ⟨rfl, hb⟩ | ⟨j, hj, hij, h3, h4⟩
    · refine ⟨Nat.le_refl _, fun h3 => absurd ?_ hb, fun _ _ => rfl⟩
      refine ⟨⟨by omega, by omega⟩, ?_⟩
      rw [getS_nat hl1]; exact h3
    · obtain rfl : i = j := by omega
      have := wsum_set (f := wgt) (p' := { sv h1.S i with pc := 11 }) hl1
      have f1 : wgt (sv h1.S i) = 2 := by unfold wgt; simp [h3]
      have f2 : wgt ({ sv h1.S i with pc := 11 } : Sp) = 1 := rfl
      rw [h4]
      refine ⟨by omega, fun _ => by omega, fun u hu => sv_ne hu⟩
  rcases hs with ⟨rfl, rfl, hg⟩ | ⟨j, p', hj, hij, hS, s⟩
  · refine ⟨G', k2, w2.1, fun hm => ?_, fun u _ hu hm => ?_⟩
    · refine w2.2.1 ?_
      have hg' : ¬ goesH (sv h1.S i) = true := fun h3 => hg ⟨⟨by omega, by omega⟩, by rw [getS_nat hl]; exact h3⟩
      rw [goes_iff] at hg'
      unfold Mov at hm
      omega
    · unfold Mov; rw [w2.2.2 u hu]; exact hm
  · obtain rfl : i = j := by omega
    have hii : sv h1.S i = p' := by rw [hS]; exact sv_eq hl
    have hwle : wgt p' ≤ wgt (sv h.S i) ∧ (Mov h.S (G 0) i → wgt p' < wgt (sv h.S i)) := by
      have hb1 := k1.bb i hi
      rw [hii] at hb1
      by_cases h5 : (sv h.S i).pc = 5
      · have f1 : wgt (sv h.S i) = 3 := by unfold wgt; simp [h5]
        rw [f1]
        have hp : p'.pc = 5 ∨ p'.pc = 10 := by have := s.next; omega
        rcases hp with hp | hp
        · have f2 : wgt p' = 3 := by unfold wgt; simp [hp]
          refine ⟨by omega, fun hm => ?_⟩
          have hh : (G 0).head? = some i := by
            rcases hm with h3 | h3 | h3 | h3 | h3 | h3 | h3
            · omega
            · omega
            · omega
            · omega
            · omega
            · omega
            · exact h3.2
          have := s.look h5 hh
          omega
        · have f2 : wgt p' = 2 := by unfold wgt; simp [hp]
          exact ⟨by omega, fun _ => by omega⟩
      · have hlt : wgt p' < wgt (sv h.S i) := by
          rcases s.next with h3 | h3 | h3 | h3 | h3 | h3 | h3
          · obtain ⟨h4, h6, h7⟩ := s.less h5 h3
            have f1 : wgt p' = 5 + p'.b.toNat := by unfold wgt; simp [h4]
            have f2 : wgt (sv h.S i) = 5 + (sv h.S i).b.toNat := by unfold wgt; rw [if_neg (by omega), if_pos (by omega)]
            omega
          · have f1 : wgt (sv h.S i) = 9 := by unfold wgt; simp [h3.1]
            rw [f1]
            unfold wgt
            repeat' split
            all_goals omega
          · have f1 : wgt p' = 5 := by unfold wgt; simp [h3.2]
            have f2 : wgt (sv h.S i) = 5 + (sv h.S i).b.toNat := by unfold wgt; simp [h3.1]
            have := k.iv.mast i (ne_of_head (k.iv.at234 hi (.inl h3.1)))
            omega
          · have f1 : wgt p' = 4 := by unfold wgt; simp [h3.2]
            have f2 : wgt (sv h.S i) = 5 := by unfold wgt; simp [h3.1]
            omega
          · have f2 : wgt (sv h.S i) = 4 := by unfold wgt; simp [h3.1]
            rcases h3.2 with h4 | h4
            · have f1 : wgt p' = 3 := by unfold wgt; simp [h4]
              omega
            · have f1 : wgt p' = 2 := by unfold wgt; simp [h4]
              omega
          · omega
          · have f1 : wgt p' = 0 := by unfold wgt; simp [h3.2]
            have f2 : wgt (sv h.S i) = 1 := by unfold wgt; simp [h3.1]
            omega
        exact ⟨by omega, fun _ => hlt⟩
    have hw := wsum_set (f := wgt) (p' := p') hl
    rw [← hS] at hw
    refine ⟨G', k2, by omega, fun hm => by have := hwle.2 hm; omega, fun u hun hu hm => ?_⟩
    have hu1 : sv h1.S u = sv h.S u := by rw [hS]; exact sv_ne hu
    unfold Mov
    rw [w2.2.2 u hu, hu1]
    have hm' := hm
    rcases hm with h3 | h3 | h3 | h3 | h3 | h3 | ⟨h3, h4⟩
    · exact .inl h3
    · exact .inr (.inl h3)
    · exact .inr (.inr (.inl h3))
    · exact .inr (.inr (.inr (.inl h3)))
    · exact .inr (.inr (.inr (.inr (.inl h3))))
    · exact .inr (.inr (.inr (.inr (.inr (.inl h3)))))
    · refine .inr (.inr (.inr (.inr (.inr (.inr ⟨h3, ?_⟩)))))
      by_cases c4 : (sv h.S i).pc = 4
      · obtain ⟨⟨r, hr⟩, _⟩ := s.splice c4
        rw [hr]
        cases hg : G 0 with
        | nil => rw [hg] at h4; simp at h4
        | cons a l => rw [hg] at h4; simpa using h4
      · by_cases c11 : (sv h.S i).pc = 11
        · have := (s.gone c11).1
          rw [h4] at this
          injection this with this
          exact absurd this hu
        · rw [s.stay c4 c11]; exact h4
/-- within a round: less than ahead of it, or somebody who moves is still to step, or all are at rest -/
def RdI (n : Nat) (S : List Sp) (Q : List Nat) (M i : Nat) : Prop := (wsum wgt S = 0) ∨ wsum wgt S < M ∨ (wsum wgt S ≤ M ∧ ∃ u, i ≤ u ∧ u < n ∧ Mov S Q u)
theorem HOk.rd0 (k : HOk nd n dl node h N G) : RdI n h.S (G 0) (wsum wgt h.S) 0 := by
  rcases k.someMov with h0 | ⟨u, hu, hm⟩
  · refine .inl ?_
    have := wsum_le (f := wgt) (S := h.S) 0 fun j hj => by
      have := h0 j (by rw [← k.iv.sl]; exact hj)
      unfold wgt; simp [this]
    simpa using this
  · exact .inr (.inr ⟨Nat.le_refl _, u, Nat.zero_le _, hu, hm⟩)
theorem HOk.rdNext (k : HOk nd n dl node h N G) (hN : N < 1000000) (hd : dl ≤ 3) (hi : i < n) {M : Nat} (hr : RdI n h.S (G 0) M i) (h1 h2 : Hc) (e1 : h1 = (stepH nd n dl node h i).1) (e2 : h2 = (beginH h1 i 10 11).1) :
    ∃ G', HOk nd n dl node h2 (N + 1) G' ∧ RdI n h2.S (G' 0) M (i + 1) := by
  obtain ⟨G', k', w1, w2, w3⟩ := k.turn hN hd hi h1 h2 e1 e2
  refine ⟨G', k', ?_⟩
  rcases hr with h0 | h0 | ⟨h0, u, hu, hun, hm⟩
  · exact .inl (by omega)
  · exact .inr (.inl (by omega))
  · by_cases e : u = i
    · subst e
      have := w2 hm
      exact .inr (.inl (by omega))
    · exact .inr (.inr ⟨by omega, u, by omega, hun, w3 u hun e hm⟩)
theorem RdI.last {S : List Sp} {Q : List Nat} {M : Nat} (h : RdI n S Q M n) : wsum wgt S = 0 ∨ wsum wgt S < M := by
  rcases h with h0 | h0 | ⟨_, u, hu, hun, _⟩
  · exact .inl h0
  · exact .inr h0
  · omega
theorem HOk.rest (k : HOk nd n dl node h N G) (hz : wsum wgt h.S = 0) (hi : i < n) : (sv h.S i).pc = 0 := by
  refine k.wz hi ?_
  have := wsum_mem (f := wgt) (S := h.S) (i := i) (by rw [k.iv.sl]; exact hi)
  omega
theorem HOk.wtop (k : HOk nd n dl node h N G) (hd : dl ≤ 3) : wsum wgt h.S ≤ n * 9 := by
  have := wsum_le (f := wgt) (S := h.S) 9 fun j hj => k.wle hd (by rw [← k.iv.sl]; exact hj)
  rw [k.iv.sl] at this
  exact this
end
end Go.Proofs.YtkdaiomjbkpedaaGreat
end
section
/- Layer 29 (hclh): the machine at its start; how many hold. No program in sight. -/
namespace Go.Proofs.YtkdaiomjbkpedaaGreat
open Go

theorem getD_rep {α : Type} (a : α) (n i : Nat) : (List.replicate n a).getD i a = a := by
  rw [List.getD_eq_getElem?_getD, List.getElem?_replicate]
  split <;> rfl
theorem sv_rep (n i : Nat) : sv (List.replicate n Sp.zero) i = Sp.zero := getD_rep _ _ _
section
variable {nd n N : Nat} {dl : Int} {node : Nat → Nat} {h : Hc} {G : Nat → List Nat}
theorem HOk.start (s : Ar) (hn : n ≤ 32) (hnn : ∀ t, t < n → node t < nd) (hs : s.ops = 0) (hW : s.W = List.replicate (1 + nd + n) 0) :
    HOk nd n dl node ⟨s, List.replicate 32 0, List.replicate n Sp.zero⟩ 0 fun _ => [] := by
  have z : ∀ t, (sv (List.replicate n Sp.zero) t).pc = 0 := fun t => by rw [sv_rep]; rfl
  have d : ∀ t, dv (List.replicate 32 0) t = 0 := fun t => getD_rep _ _ _
  refine ⟨⟨?_, ?_, ?_, hn, hnn, ?_, ?_, ?_, ?_, ?_, ?_, ?_, ?_, ?_, ?_, ?_, ?_, ?_, ?_⟩, by show s.ops ≤ 0; omega, fun t => by rw [d]; exact Int.le_refl _, fun t _ h2 => ?_⟩
  · rw [hW]; simp
  · simp
  · simpa using hn
  · intro t _
    show tnw nd s.W t = _
    rw [hW, d]; exact getD_rep _ _ _
  · intro t; show 0 ≤ dv (List.replicate 32 0) t; rw [d]; exact Int.le_refl _
  · intro _; exact List.nodup_nil
  · intro _ _ t h1; cases h1
  · intro _ t h1; cases h1
  · intro _; trivial
  · intro t _ _; exact .inl (z t)
  · intro m hm; exact absurd rfl hm
  · intro _ t h1; cases h1
  · intro m hm; exact absurd rfl hm
  · intro m _ hm; exact absurd rfl hm
  · intro v _; refine .inl ?_; rw [hW]; exact getD_rep _ _ _
  · intro t h1; cases h1
  · refine .inr ⟨rfl, .inl ?_⟩; rw [hW]; exact getD_rep _ _ _
  · have := z t
    have h2' : (sv (List.replicate n Sp.zero) t).pc = 2 := h2
    omega
def holdC (S : List Sp) (k : Nat) : Nat := (List.range k).countP fun j => decide ((sv S j).pc = 10)
theorem holdC_succ (S : List Sp) (k : Nat) : holdC S (k + 1) = holdC S k + if (sv S k).pc = 10 then 1 else 0 := by
  unfold holdC; rw [List.range_succ, List.countP_append]; simp [List.countP_cons]
/-- one at most holds, of those who are counted -/
theorem hold_one {S : List Sp} (hu : ∀ a b, a < n → b < n → (sv S a).pc = 10 → (sv S b).pc = 10 → a = b) : ∀ k, k ≤ n → holdC S k ≤ 1 ∧ (1 ≤ holdC S k → ∃ j, j < k ∧ (sv S j).pc = 10)
  | 0, _ => ⟨by simp [holdC], fun h => by simp [holdC] at h⟩
  | k + 1, hk => by
    obtain ⟨h1, h2⟩ := hold_one hu k (by omega)
    rw [holdC_succ]
    by_cases hb : (sv S k).pc = 10
    · rw [if_pos hb]
      have h0 : holdC S k = 0 := by
        rcases Nat.eq_zero_or_pos (holdC S k) with h0 | h0
        · exact h0
        · obtain ⟨j, hj, hjq⟩ := h2 h0
          have := hu j k (by omega) (by omega) hjq hb
          omega
      exact ⟨by omega, fun _ => ⟨k, by omega, hb⟩⟩
    · rw [if_neg hb]
      exact ⟨by omega, fun h => by obtain ⟨j, hj, hq⟩ := h2 (by omega); exact ⟨j, by omega, hq⟩⟩
theorem HOk.holds (k : HOk nd n dl node h N G) (m : Nat) (hm : m ≤ n) : holdC h.S m ≤ 1 := (hold_one (fun _ _ ha hb h1 h2 => k.hold1 ha hb h1 h2) m hm).1
end
end Go.Proofs.YtkdaiomjbkpedaaGreat
end
section
/- Layer 6, the document's: Has, leaf, deep, Few. -/
namespace Go.Proofs.YtkdaiomjbkpedaaGreat
open Go.RowKit

set_option maxHeartbeats 1000000 in
theorem has_any (w : World) (v : Value) (l : List Int) (x : Int) (h : RdL w v 1 encI l) :
    Calls Tryz.prog 122 #[v, .int .i64 x] w fun e w' => e = .returned (.bool (decide (x ∈ l))) ∧ w = w' := by
  obtain ⟨A, cap, rfl, l1, l2, hr⟩ := h
  have HR := Lib.hid hr
  clear hr
  go_enter Tryz.func122, Tryz.ntmps122
  go_wp2
  go_loop [5] (fun i => ∃ k : Nat, i = .int .i64 k ∧ k ≤ l.length ∧ x ∉ l.take k) (fun i => l.length - (intOf i).toNat)
  case atStart => exact ⟨0, rfl, by omega, by simp⟩
  case round =>
    obtain ⟨k, rfl, hk, hn⟩ := hrel
    by_cases hlt : k < l.length
    · obtain ⟨bl, off, rfl, hbl, hc⟩ := HR.out (by omega)
      obtain ⟨y, hy⟩ := getElem?_lt hlt
      have c0 := hc k y hy 0 _ rfl
      simp only [Nat.add_zero, Nat.mul_one] at c0
      have HY := Lib.hid (And.intro hy hn)
      clear hc hy hn
      cases hxy : (y == x)
      · have hne : Hid (x ∉ l.take (k + 1)) := Lib.hid (by
          rw [mem_take HY.out.1]
          rintro (h | h)
          · exact HY.out.2 h
          · rw [h] at hxy; simp at hxy)
        go_wp2
        go_round
        case rel => exact ⟨k + 1, by go_num, by omega, hne.out⟩
        case measure => simp [intOf]; omega
      · have hid : Hid (x ∈ l) := Lib.hid (by rw [← beq_iff_eq.1 hxy]; exact List.mem_of_getElem? HY.out.1)
        go_wp2
        go_ret
        exact ⟨ret_bool (decide_eq_true hid.out).symm, rfl⟩
    · obtain rfl : k = l.length := by omega
      rw [List.take_length] at hn
      have hid : Hid (x ∉ l) := Lib.hid hn
      clear hn
      go_wp2
      go_ret
      exact ⟨ret_bool (decide_eq_false hid.out).symm, rfl⟩
theorem rleaf_any (w : World) (v : Value) (P : List Int) (x : Int) (h : RdL w v 1 encI P) :
    Calls Tryz.prog 84 #[v, .int .i64 x] w fun e w' => e = .returned (.bool (leafB P x)) ∧ w = w' := by
  have HH := Lib.hid (has_any w v P x h)
  obtain ⟨A, cap, rfl, l1, l2, hr⟩ := h
  clear hr
  have HL := Lib.hid (show leafB P x = (decide (0 ≤ x) && decide (x < P.length) && !decide (x ∈ P)) from by
    unfold leafB
    by_cases h1 : 0 ≤ x <;> by_cases h2 : x < P.length <;> by_cases h3 : x ∈ P <;> simp [h1, h2, h3])
  go_enter Tryz.func84, Tryz.ntmps84
  cases h1 : decide (0 ≤ x)
  · rw [h1] at HL
    have h1' : ¬ 0 ≤ x := of_decide_eq_false h1
    go_wp2
    go_ret
    exact ⟨ret_bool HL.out.symm, rfl⟩
  · cases h2 : decide (x < P.length)
    · rw [h1, h2] at HL
      have h1' : 0 ≤ x := of_decide_eq_true h1
      have h2' : ¬ x < P.length := of_decide_eq_false h2
      go_wp2
      go_ret
      exact ⟨ret_bool HL.out.symm, rfl⟩
    · rw [h1, h2] at HL
      have h1' : 0 ≤ x := of_decide_eq_true h1
      have h2' : x < P.length := of_decide_eq_true h2
      cases h3 : decide (x ∈ P)
      · rw [h3] at HL HH
        clear h3
        go_wp2_with (go_at_call 122; refine HH.out.mono ?_; rintro e w' ⟨rfl, rfl⟩)
        go_ret
        exact ⟨ret_bool HL.out.symm, rfl⟩
      · rw [h3] at HL HH
        clear h3
        go_wp2_with (go_at_call 122; refine HH.out.mono ?_; rintro e w' ⟨rfl, rfl⟩)
        go_ret
        exact ⟨ret_bool HL.out.symm, rfl⟩
theorem dep_stop {P : List Int} {f : Nat} {v : Int} (h : ¬ (0 ≤ v ∧ v < P.length)) : dep P f v = 0 := by
  cases f with
  | zero => rfl
  | succ f => unfold dep; rw [if_neg h]
theorem dep_go {P : List Int} {f : Nat} {v p : Int} (h0 : 0 ≤ v) (hp : P[v.toNat]? = some p) : dep P (f + 1) v = dep P f p + 1 := by
  have := (List.getElem?_eq_some_iff.1 hp).1
  show (if 0 ≤ v ∧ v < P.length then dep P f (P.getD v.toNat 0) + 1 else 0) = _
  rw [if_pos (by omega), getD_of hp]
set_option maxHeartbeats 1000000 in
theorem rdeep_any (w : World) (v : Value) (P : List Int) (x : Int) (h : RdL w v 1 encI P) :
    Calls Tryz.prog 85 #[v, .int .i64 x] w fun e w' => e = .returned (.int .i64 ((depL P x : Nat) : Int)) ∧ w = w' := by
  obtain ⟨A, cap, rfl, l1, l2, hr⟩ := h
  have HR := Lib.hid hr
  clear hr
  go_enter Tryz.func85, Tryz.ntmps85
  go_wp2
  go_loop [1, 5, 6] (fun y m i => ∃ (k n : Nat) (z : Int), i = .int .i64 k ∧ m = .int .i64 n ∧ y = .int .i64 z ∧ k ≤ P.length ∧ n ≤ k ∧ n + dep P (P.length - k) z = depL P x) (fun _ _ i => P.length - (intOf i).toNat)
  case atStart => exact ⟨0, 0, x, rfl, rfl, rfl, by omega, by omega, by simp [depL]⟩
  case round =>
    obtain ⟨k, n, z, rfl, rfl, rfl, hk, hn, hd⟩ := hrel
    have HD := Lib.hid hd
    clear hd
    by_cases hlt : k < P.length
    · by_cases h0 : 0 ≤ z
      · by_cases h1 : z < P.length
        · obtain ⟨bl, off, rfl, hbl, hc⟩ := HR.out (by omega)
          obtain ⟨m, rfl⟩ := Int.eq_ofNat_of_zero_le h0
          obtain ⟨p, hp⟩ := getElem?_lt (show m < P.length by omega)
          have c0 := hc m p hp 0 _ rfl
          simp only [Nat.add_zero, Nat.mul_one] at c0
          have HN := Lib.hid (show n + 1 + dep P (P.length - (k + 1)) p = depL P x from by
            have := HD.out
            rw [show P.length - k = P.length - (k + 1) + 1 by omega, dep_go (by omega) (by simpa using hp)] at this
            omega)
          clear hc hp
          go_wp2
          go_round
          case rel => exact ⟨k + 1, n + 1, p, by go_num, by go_num, rfl, by omega, by omega, HN.out⟩
          case measure => simp [intOf]; omega
        · have HE := Lib.hid (show n = depL P x from by have := HD.out; rw [dep_stop (by omega)] at this; omega)
          go_wp2
          go_ret
          exact ⟨ret_int (by rw [HE.out]), rfl⟩
      · have HE := Lib.hid (show n = depL P x from by have := HD.out; rw [dep_stop (by omega)] at this; omega)
        go_wp2
        go_ret
        exact ⟨ret_int (by rw [HE.out]), rfl⟩
    · have HE := Lib.hid (show n = depL P x from by have := HD.out; rw [show P.length - k = 0 by omega] at this; exact this)
      go_wp2
      go_ret
      exact ⟨ret_int (by rw [HE.out]), rfl⟩
end Go.Proofs.YtkdaiomjbkpedaaGreat
end
section
/- Layer 6, the document's Check, Leaves, Depth. -/
namespace Go.Proofs.YtkdaiomjbkpedaaGreat
open Go.RowKit

set_option maxRecDepth 100000 in
set_option maxHeartbeats 4000000 in
theorem rcheck_any (w : World) (vP vT : Value) (P T : List Int) (hP : RdL w vP 1 encI P) (hT : RdL w vT 1 encI T) :
    Calls Tryz.prog 45 #[.agg #[vP, vT]] w fun e w' => e = .returned (.int .i64 (chkT P T)) ∧ Below w.heap.size w w' := by
  have hb0 : Below w.heap.size w (w.alloc (.cells #[vP, vT] 24)) := (Below.refl _ _).alloc (Nat.le_refl _) _
  have HB := Lib.hid hb0
  have HPb := Lib.hid (hP.alloc (.cells #[vP, vT] 24))
  have HTb := Lib.hid (hT.alloc (.cells #[vP, vT] 24))
  obtain ⟨AP, cP, rfl, lP1, lP2⟩ := rdl_form hP
  obtain ⟨AT, cT, rfl, lT1, lT2⟩ := rdl_form hT
  clear hP hT hb0
  have c0 : (w.alloc (.cells #[.slice AP P.length cP, .slice AT T.length cT] 24)).cell? ⟨w.heap.size, 0, none⟩ = some (.slice AP P.length cP) := by simp [World.cell?_alloc_new]
  have c1 : (w.alloc (.cells #[.slice AP P.length cP, .slice AT T.length cT] 24)).cell? ⟨w.heap.size, 1, none⟩ = some (.slice AT T.length cT) := by simp [World.cell?_alloc_new]
  go_enter Tryz.func45, Tryz.ntmps45
  go_upto_region 1 with fail
  generalize (w.alloc (.cells #[.slice AP P.length cP, .slice AT T.length cT] 24)) = wb at *
  by_cases a1 : P.length < 1
  · have HE := Lib.hid (chk_many (P := P) (T := T) (decide_eq_true (.inl a1)))
    go_wp2
    go_ret
    exact ⟨ret_int HE.out.symm, HB.out⟩
  by_cases a2 : 32 < P.length
  · have HE := Lib.hid (chk_many (P := P) (T := T) (decide_eq_true (.inr (.inl a2))))
    go_wp2
    go_ret
    exact ⟨ret_int HE.out.symm, HB.out⟩
  by_cases a3 : T.length < 1
  · have HE := Lib.hid (chk_many (P := P) (T := T) (decide_eq_true (.inr (.inr (.inl a3)))))
    go_wp2
    go_ret
    exact ⟨ret_int HE.out.symm, HB.out⟩
  by_cases a4 : 32 < T.length
  · have HE := Lib.hid (chk_many (P := P) (T := T) (decide_eq_true (.inr (.inr (.inr a4)))))
    go_wp2
    go_ret
    exact ⟨ret_int HE.out.symm, HB.out⟩
  have HM := Lib.hid (show manyB P T = false from decide_eq_false (by omega))
  have H0 := Lib.hid (rdl_int HPb.out (by omega))
  obtain ⟨p0, hp0⟩ := getElem?_lt (show 0 < P.length by omega)
  obtain ⟨b, off, hA, hb, hc⟩ := H0.out
  subst hA
  have q0 := hc 0 p0 hp0
  simp only [Nat.add_zero] at q0
  have HC := Lib.hid hc
  have HG0 := Lib.hid hp0
  clear hc hp0 H0
  go_upto_region 3 with fail
  by_cases hz : p0 = -1
  · subst hz
    have HT1 := Lib.hid (show (List.range 1).all (okP P) = true from by
      have := getD_of HG0.out
      show (okP P 0 && true) = true
      rw [Bool.and_true]
      exact decide_eq_true ⟨fun _ => this, fun h => absurd h (by omega)⟩)
    go_wp2
    go_loop [3] (fun i => ∃ k : Nat, i = .int .i64 k ∧ 1 ≤ k ∧ k ≤ P.length ∧ (List.range k).all (okP P) = true) (fun i => P.length - (intOf i).toNat)
    case atStart => exact ⟨1, rfl, by omega, by omega, HT1.out⟩
    case round =>
      obtain ⟨k, rfl, hk1, hk, ha⟩ := hrel
      by_cases hlt : k < P.length
      · obtain ⟨p, hp⟩ := getElem?_lt hlt
        have q1 := HC.out k p hp
        have HP := Lib.hid (And.intro (getD_of hp) ha)
        clear hp ha
        by_cases g0 : p < 0
        · have HN := Lib.hid (chk_tree HM.out (all_false hlt (decide_eq_false (by rw [HP.out.1]; omega))))
          go_wp2
          go_ret
          exact ⟨ret_int HN.out.symm, HB.out⟩
        · by_cases g1 : (k : Int) ≤ p
          · have HN := Lib.hid (chk_tree HM.out (all_false hlt (decide_eq_false (by rw [HP.out.1]; omega))))
            go_wp2
            go_ret
            exact ⟨ret_int HN.out.symm, HB.out⟩
          · have HN := Lib.hid (show (List.range (k + 1)).all (okP P) = true from by
              rw [range_all_succ, HP.out.2, Bool.true_and]
              exact decide_eq_true (by rw [HP.out.1]; omega))
            go_wp2
            go_round
            case rel => exact ⟨k + 1, by go_num, by omega, by omega, HN.out⟩
            case measure => simp [intOf]; omega
      · obtain rfl : k = P.length := by omega
        have HTR := Lib.hid (show treeB P = true from ha)
        clear ha
        go_wp2
        go_loop [4, 5] (fun f i => ∃ k : Nat, i = .int .i64 k ∧ k ≤ P.length ∧ f = .int .i64 (first P k : Nat) ∧ evL P (leavesTo P k) = true) (fun _ i => P.length - (intOf i).toNat)
        case atStart => exact ⟨0, rfl, by omega, rfl, rfl⟩
        case round =>
          obtain ⟨k, rfl, hk, rfl, hev⟩ := hrel
          by_cases hlt : k < P.length
          · have HL := Lib.hid (rleaf_any wb _ P k HPb.out)
            have HEV := Lib.hid hev
            clear hev
            cases hlf : leafB P k
            · have HN := Lib.hid (And.intro (first_skip hlf) (show leavesTo P (k + 1) = leavesTo P k from by rw [leavesTo_succ, hlf]; rfl))
              rw [hlf] at HL
              clear hlf
              go_wp2_with (go_at_call 84; refine HL.out.mono ?_; rintro e w' ⟨rfl, rfl⟩)
              go_round
              case rel => exact ⟨k + 1, by go_num, by omega, by rw [HN.out.1], by rw [HN.out.2]; exact HEV.out⟩
              case measure => simp [intOf]; omega
            · have hst := first_step hlt hlf
              rw [HEV.out, Bool.true_and] at hst
              have HD := Lib.hid (rdeep_any wb _ P k HPb.out)
              rw [hlf] at HL
              have hpos := depL_pos hlt
              obtain ⟨d, hd⟩ : ∃ d, d = depL P k := ⟨_, rfl⟩
              obtain ⟨f, hf⟩ : ∃ f, f = first P k := ⟨_, rfl⟩
              rw [← hd] at HD hst hpos
              rw [← hf] at hst ⊢
              have HST := Lib.hid (And.intro hst (And.intro hd hf))
              have hbd : evL P (leavesTo P (k + 1)) = false → chkT P T = 9 := fun h => chk_even HM.out HTR.out (even_bad (by omega) h)
              have HBD := Lib.hid hbd
              clear hst hd hf hbd hlf
              by_cases f0 : f = 0
              · subst f0
                by_cases g1 : 5 < d
                · have HN := Lib.hid (HBD.out (by rw [HST.out.1.2]; exact decide_eq_false (by omega)))
                  go_wp2_with (first | (go_at_call 84; refine HL.out.mono ?_; rintro e w' ⟨rfl, rfl⟩) | (go_at_call 85; refine HD.out.mono ?_; rintro e w' ⟨rfl, rfl⟩))
                  go_ret
                  exact ⟨ret_int HN.out.symm, HB.out⟩
                · have HF := Lib.hid (show first P (k + 1) = d from by rw [HST.out.1.1]; rfl)
                  have HN := Lib.hid (show evL P (leavesTo P (k + 1)) = true from by rw [HST.out.1.2]; exact decide_eq_true ⟨by rw [HF.out], by omega⟩)
                  go_wp2_with (first | (go_at_call 84; refine HL.out.mono ?_; rintro e w' ⟨rfl, rfl⟩) | (go_at_call 85; refine HD.out.mono ?_; rintro e w' ⟨rfl, rfl⟩))
                  go_round
                  case rel => exact ⟨k + 1, by go_num, by omega, by rw [HF.out], HN.out⟩
                  case measure => simp [intOf]; omega
              · have HF := Lib.hid (show first P (k + 1) = f from by rw [HST.out.1.1, if_neg f0])
                have e0 : (f == 0) = false := by simpa using f0
                have e0' : ((f : Int) == 0) = false := by rw [beq_eq_false_iff_ne]; omega
                by_cases g0 : d = f
                · subst g0
                  by_cases g1 : 5 < d
                  · have HN := Lib.hid (HBD.out (by rw [HST.out.1.2]; exact decide_eq_false (by omega)))
                    go_wp2_with (first | (go_at_call 84; refine HL.out.mono ?_; rintro e w' ⟨rfl, rfl⟩) | (go_at_call 85; refine HD.out.mono ?_; rintro e w' ⟨rfl, rfl⟩))
                    go_ret
                    exact ⟨ret_int HN.out.symm, HB.out⟩
                  · have HN := Lib.hid (show evL P (leavesTo P (k + 1)) = true from by rw [HST.out.1.2]; exact decide_eq_true ⟨by rw [HF.out], by omega⟩)
                    go_wp2_with (first | (go_at_call 84; refine HL.out.mono ?_; rintro e w' ⟨rfl, rfl⟩) | (go_at_call 85; refine HD.out.mono ?_; rintro e w' ⟨rfl, rfl⟩))
                    go_round
                    case rel => exact ⟨k + 1, by go_num, by omega, by rw [HF.out], HN.out⟩
                    case measure => simp [intOf]; omega
                · have HN := Lib.hid (HBD.out (by rw [HST.out.1.2]; exact decide_eq_false (by rw [HF.out]; omega)))
                  have e1 : (d != f) = true := by simpa using g0
                  have e1' : ((d : Int) != (f : Int)) = true := by rw [bne_iff_ne]; omega
                  go_wp2_with (first | (go_at_call 84; refine HL.out.mono ?_; rintro e w' ⟨rfl, rfl⟩) | (go_at_call 85; refine HD.out.mono ?_; rintro e w' ⟨rfl, rfl⟩))
                  go_ret
                  exact ⟨ret_int HN.out.symm, HB.out⟩
          · obtain rfl : k = P.length := by omega
            have HEV := Lib.hid (chk_thr (T := T) HM.out HTR.out hev)
            have HT0 := Lib.hid (rdl_int HTb.out (by omega))
            obtain ⟨bt, offt, hAt, hbt, hct⟩ := HT0.out
            subst hAt
            have HCT := Lib.hid hct
            clear hct hev HT0
            go_wp2
            go_loopw [7] (fun i wr => ∃ j : Nat, i = .int .i64 j ∧ j ≤ T.length ∧ (T.take j).all (leafB P) = true ∧ Qt wb wr) (fun i _ => T.length - (intOf i).toNat)
            case atStart => exact ⟨0, rfl, by omega, rfl, Qt.refl _⟩
            case round =>
              obtain ⟨j, rfl, hj, ha, hq⟩ := hrel
              obtain ⟨wq, rfl⟩ : ∃ wq : World, wq = wr := ⟨_, rfl⟩
              have d0 : wq.cell? ⟨w.heap.size, 0, none⟩ = some (.slice (some ⟨b, off, none⟩) P.length cP) := by obtain ⟨n, rfl⟩ := hq; exact c0
              have d1 : wq.cell? ⟨w.heap.size, 1, none⟩ = some (.slice (some ⟨bt, offt, none⟩) T.length cT) := by obtain ⟨n, rfl⟩ := hq; exact c1
              have HQ := Lib.hid hq
              by_cases hlt2 : j < T.length
              · obtain ⟨x, hx⟩ := getElem?_lt hlt2
                have q2 : wq.cell? ⟨bt, offt + j, none⟩ = some (.int .i64 x) := by obtain ⟨n, rfl⟩ := hq; exact HCT.out j x hx
                have HX := Lib.hid (And.intro hx ha)
                have HL := Lib.hid (fun n => (rleaf_any (wq.drewN n) _ P x ((HPb.out.qt HQ.out).drewN n)).mono fun _ _ h => And.intro h.1 h.2.symm)
                clear hx ha hq
                cases hlf : leafB P x
                · have HN := Lib.hid (show chkT P T = 4 from by
                    rw [HEV.out, if_neg]
                    intro h
                    unfold thrB at h
                    rw [List.all_eq_true] at h
                    rw [h x (List.mem_of_getElem? HX.out.1)] at hlf
                    cases hlf)
                  rw [hlf] at HL
                  clear hlf
                  go_wp2_with fail
                  go_quiet ((go_at_call 84; exact Calls.quiet_of_same (HL.out _)))
                  go_wp2
                  go_ret
                  exact ⟨ret_int HN.out.symm, below_drewN (HB.out.trans ((HQ.out.below _).mono HB.out.size)) _⟩
                · have HN := Lib.hid (show (T.take (j + 1)).all (leafB P) = true from by
                    rw [take_succ_of HX.out.1, List.all_append, HX.out.2]; simp [hlf])
                  rw [hlf] at HL
                  clear hlf
                  go_wp2_with fail
                  go_quiet ((go_at_call 84; exact Calls.quiet_of_same (HL.out _)))
                  go_wp2
                  go_roundw
                  case rel => exact ⟨j + 1, by go_num, by omega, HN.out, HQ.out.trans ⟨_, rfl⟩⟩
                  case measure => simp [intOf]; omega
              · obtain rfl : j = T.length := by omega
                rw [List.take_length] at ha
                have HN := Lib.hid (show chkT P T = 0 from by rw [HEV.out, if_pos (show thrB P T = true from ha)])
                clear ha hq
                go_wp2
                go_ret
                exact ⟨ret_int HN.out.symm, HB.out.trans ((HQ.out.below _).mono HB.out.size)⟩
  · have HN := Lib.hid (chk_tree (P := P) HM.out (all_false (k := 0) (by omega) (decide_eq_false (by rw [getD_of HG0.out]; omega))))
    have e1 : (p0 != -1) = true := by simpa using hz
    clear hz
    go_wp2
    go_ret
    exact ⟨ret_int HN.out.symm, HB.out⟩
end Go.Proofs.YtkdaiomjbkpedaaGreat
end
section
/- Layer 29 (hclh): a lock of one's own, call by call; what the law's helpers do. -/
namespace Go.Proofs.YtkdaiomjbkpedaaGreat
open Go.RowKit

theorem HOk.cond {nd n N : Nat} {dl : Int} {node : Nat → Nat} {h : Hc} {G : Nat → List Nat} (k : HOk nd n dl node h N G) (hN : N < 1000000) (hd : dl ≤ 3) : HCond h := by
  refine ⟨by have := k.ops; omega, fun j p hp => ?_⟩
  have hj : j < n := by rw [← k.iv.sl]; exact (List.getElem?_eq_some_iff.1 hp).1
  have e : sv h.S j = p := by unfold sv; rw [List.getD_eq_getElem?_getD, hp]; rfl
  subst e
  have hn := k.iv.n32
  refine ⟨⟨k.iv.d0 j, by have := k.dn j; omega⟩, fun h2 => ?_, fun h5 => ?_⟩
  · have h1 := k.bb j hj h2
    have h3 := k.iv.at234 hj (.inl h2)
    rcases k.iv.mast j (ne_of_head h3) with ⟨h4 | h4, _⟩ | ⟨h4, _⟩ <;> omega
  · rcases k.iv.at5 hj h5 with ⟨q, p, _, hp, ha⟩ | ⟨_, t, d, ht, h1, h2, ha⟩
    · rw [ha]
      have := k.iv.d0 p
      have := k.dn p
      have := k.iv.lt _ _ hp
      unfold tokH; omega
    · rw [ha]
      have := k.dn t
      unfold tokH; omega
def smallB (P T : List Int) (m : Int) : Bool := decide (chkT P T = 0 ∧ (T.length : Int) ≤ m)
set_option maxHeartbeats 1000000 in
theorem smallH (w : World) (vP vT : Value) (P T : List Int) (hP : RdL w vP 1 encI P) (hT : RdL w vT 1 encI T) (m : Int) :
    Calls Tryz.prog 13 #[.agg #[vP, vT], .int .i64 m] w fun e w' => e = .returned (.bool (smallB P T m)) ∧ Below w.heap.size w w' := by
  have HC := Lib.hid (rcheck_any (w.alloc (.cells #[vP, vT] 24)) vP vT P T (hP.alloc _) (hT.alloc _))
  have HB0 := Lib.hid ((Below.refl w.heap.size w).alloc (Nat.le_refl _) (.cells #[vP, vT] 24))
  obtain ⟨AP, cP, rfl, lP1, lP2⟩ := rdl_form hP
  obtain ⟨AT, cT, rfl, lT1, lT2⟩ := rdl_form hT
  have hX : (w.alloc (.cells #[.slice AP P.length cP, .slice AT T.length cT] 24)).cell? ⟨w.heap.size, 1, none⟩ = some (.slice AT T.length cT) := by simp [World.cell?_alloc_new]
  have hbx : w.heap.size < (w.alloc (.cells #[.slice AP P.length cP, .slice AT T.length cT] 24)).heap.size := by simp
  clear hP hT
  by_cases hc : chkT P T = 0
  · have t0 : (chkT P T == 0) = true := by simpa using hc
    have HS : Hid (smallB P T m = decide ((T.length : Int) ≤ m)) := Lib.hid (by unfold smallB; simp [hc])
    clear hc
    go_enter Tryz.func13, Tryz.ntmps13
    go_wp2_with fail
    refine HC.out.mono ?_
    rintro en w1 ⟨rfl, b1⟩
    have f1 := (b1.cell (p := ⟨w.heap.size, 1, none⟩) hbx).trans hX
    have HB1 := Lib.hid (HB0.out.trans (b1.mono HB0.out.size))
    clear b1 hX hbx
    go_wp2
    go_ret
    rw [HS.out]
    exact ⟨rfl, HB1.out⟩
  · have t0 : (chkT P T == 0) = false := by simpa using hc
    have HS : Hid (smallB P T m = false) := Lib.hid (by unfold smallB; simp [hc])
    clear hc hX hbx
    go_enter Tryz.func13, Tryz.ntmps13
    go_wp2_with fail
    refine HC.out.mono ?_
    rintro en w1 ⟨rfl, b1⟩
    have HB1 := Lib.hid (HB0.out.trans (b1.mono HB0.out.size))
    clear b1
    go_wp2
    go_ret
    rw [HS.out]
    exact ⟨rfl, HB1.out⟩
structure HSt (w0 w : World) (l a g q b u lo hi : Nat) (d : Int) (P T : List Int) (h : Hc) (N : Nat) (G : Nat → List Nat) : Prop where
  is : HcIs w l a g q b u lo hi d P T h
  ok : HOk (leavesL P).length T.length d (nodeN P T) h N G
  bel : Below w0.heap.size w0 w
  hl : ∀ x ∈ [l, a, g, q, u], w0.heap.size ≤ x
  d0 : 0 ≤ d ∧ d ≤ 3
section
variable {w0 w w' : World} {l a g q b u lo hi : Nat} {d : Int} {P T : List Int} {h h' : Hc} {N M : Nat} {G G' : Nat → List Nat}
theorem HSt.below (s : HSt w0 w l a g q b u lo hi d P T h N G) (k : Below w.heap.size w w') : HSt w0 w' l a g q b u lo hi d P T h N G :=
  ⟨s.is.below k, s.ok, s.bel.trans (k.mono s.bel.size), s.hl, s.d0⟩
theorem HSt.next (s : HSt w0 w l a g q b u lo hi d P T h N G) (k : Turns [a, g, q, u] w w') (hI : HcIs w' l a g q b u lo hi d P T h') (ho : HOk (leavesL P).length T.length d (nodeN P T) h' M G') : HSt w0 w' l a g q b u lo hi d P T h' M G' :=
  ⟨hI, ho, s.bel.trans (k.below (fun i hm => s.hl i (List.mem_cons_of_mem _ hm)) s.bel.size), s.hl, s.d0⟩
def actV2 (k i : Int) : Value := .agg #[.int .i64 k, .int .i64 i]
set_option maxHeartbeats 1000000 in
theorem doHl (s : HcIs w l a g q b u lo hi d P T h) (C : HCond h) (k i : Int) :
    Calls Tryz.prog 15 #[.pointer (some ⟨l, 0, none⟩), actV2 k i] w (HOp w l a g q b u lo hi d P T (actH (leavesL P).length T.length d (nodeN P T) h k i)) := by
  have hb : Below w.heap.size w (w.alloc (.cells #[.int .i64 k, .int .i64 i] 33)) := (Below.refl _ _).alloc (Nat.le_refl _) _
  have HW := Lib.hid (And.intro (s.below hb) hb)
  have HC := Lib.hid C
  clear s hb C
  unfold actV2
  obtain ⟨x, hx⟩ : ∃ x, x = actH (leavesL P).length T.length d (nodeN P T) h k i := ⟨_, rfl⟩
  rw [← hx]
  by_cases k0 : k = 0
  · have e : x = stepH (leavesL P).length T.length d (nodeN P T) h i := by rw [hx]; unfold actH; rw [if_pos k0]
    have HX := Lib.hid e
    clear e hx
    subst k0
    go_enter Tryz.func15, Tryz.ntmps15
    go_wp2_with fail
    refine (stepHl HW.out.1 i HC.out).mono ?_
    rw [← HX.out]
    rintro en w1 ⟨rfl, h1, t1⟩
    have H1 := Lib.hid (And.intro h1 ((Turns.of_below (S := [a, g, q, u]) HW.out.2).trans t1))
    clear h1 t1 HX
    obtain ⟨r', bb⟩ := x
    go_wp2
    go_ret
    exact ⟨rfl, H1.out.1, H1.out.2⟩
  · by_cases k1 : k = 1
    · have e : x = beginH h i 0 1 := by rw [hx]; unfold actH; rw [if_neg k0, if_pos k1]
      have HX := Lib.hid e
      clear e hx
      subst k1
      clear k0
      go_enter Tryz.func15, Tryz.ntmps15
      go_wp2_with fail
      refine (askHc HW.out.1 i).mono ?_
      rw [← HX.out]
      rintro en w1 ⟨rfl, h1, t1⟩
      have H1 := Lib.hid (And.intro h1 ((Turns.of_below (S := [a, g, q, u]) HW.out.2).trans t1))
      clear h1 t1 HX
      obtain ⟨r', bb⟩ := x
      go_wp2
      go_ret
      exact ⟨rfl, H1.out.1, H1.out.2⟩
    · by_cases k2 : k = 2
      · have e : x = beginH h i 10 11 := by rw [hx]; unfold actH; rw [if_neg k0, if_neg k1, if_pos k2]
        have HX := Lib.hid e
        clear e hx
        subst k2
        clear k0 k1
        go_enter Tryz.func15, Tryz.ntmps15
        go_wp2_with fail
        refine (leaveHc HW.out.1 i).mono ?_
        rw [← HX.out]
        rintro en w1 ⟨rfl, h1, t1⟩
        have H1 := Lib.hid (And.intro h1 ((Turns.of_below (S := [a, g, q, u]) HW.out.2).trans t1))
        clear h1 t1 HX
        obtain ⟨r', bb⟩ := x
        go_wp2
        go_ret
        exact ⟨rfl, H1.out.1, H1.out.2⟩
      · have e : x = (h, false) := by rw [hx]; unfold actH; rw [if_neg k0, if_neg k1, if_neg k2]
        have u0 : (k == 0) = false := by simpa using k0
        have u1 : (k == 1) = false := by simpa using k1
        have u2 : (k == 2) = false := by simpa using k2
        clear k0 k1 k2 hx
        subst e
        go_enter Tryz.func15, Tryz.ntmps15
        go_wp2
        go_ret
        exact ⟨rfl, HW.out.1, Turns.of_below HW.out.2⟩
/-- an act of a lock of one's own -/
theorem doSt (s : HSt w0 w l a g q b u lo hi d P T h N G) (hN : N < 1000000) (k i : Int) :
    Calls Tryz.prog 15 #[.pointer (some ⟨l, 0, none⟩), actV2 k i] w fun e w' => ∃ c h' G', h' = (actH (leavesL P).length T.length d (nodeN P T) h k i).1 ∧ e = .returned (.bool c) ∧ HSt w0 w' l a g q b u lo hi d P T h' (N + 1) G' ∧ ActR T.length (nodeN P T) h.S h'.S i (G 0) (G' 0) ∧ h'.ar.ops ≤ h.ar.ops + 1 ∧ (k ≠ 0 → h'.ar.ops = h.ar.ops) := by
  refine (doHl s.is (s.ok.cond hN s.d0.2) k i).mono ?_
  rintro e w' ⟨he, hi, t⟩
  obtain ⟨G', ho, hr, h1, h2⟩ := s.ok.act hN k i
  exact ⟨_, _, G', rfl, he, s.next t hi ho, hr, h1, h2⟩
end
/-- a topology that may not be, or has too many threads -/
def SmNo (w : World) (vP vT : Value) (m : Int) : Prop := ∀ W, Below w.heap.size w W → Calls Tryz.prog 13 #[.agg #[vP, vT], .int .i64 m] W fun e w' => e = .returned (.bool false) ∧ Below W.heap.size W w'
theorem SmNo.of {w : World} {vP vT : Value} {P T : List Int} {m : Int} (hP : RdL w vP 1 encI P) (hT : RdL w vT 1 encI T) (hs : smallB P T m = false) : SmNo w vP vT m := fun W b => by
  have := smallH W vP vT P T (hP.below b (Nat.le_refl _)) (hT.below b (Nat.le_refl _)) m
  rw [hs] at this
  exact this
theorem SmNo.below {w w' : World} {vP vT : Value} {m : Int} (h : SmNo w vP vT m) (b : Below w.heap.size w w') : SmNo w' vP vT m := fun W k => h W (b.trans (k.mono b.size))
set_option maxRecDepth 100000 in
theorem rcheck_raw (w : World) (AP AT : Option Addr) (nP cP nT cT : Nat) (h : 32 < nP ∨ 32 < nT) (h1 : nP ≤ 9223372036854775807) (h2 : nT ≤ 9223372036854775807) :
    Calls Tryz.prog 45 #[.agg #[.slice AP nP cP, .slice AT nT cT]] w fun e w' => e = .returned (.int .i64 8) ∧ Below w.heap.size w w' := by
  have HB := Lib.hid ((Below.refl w.heap.size w).alloc (Nat.le_refl _) (.cells #[.slice AP nP cP, .slice AT nT cT] 24))
  have c0 : (w.alloc (.cells #[.slice AP nP cP, .slice AT nT cT] 24)).cell? ⟨w.heap.size, 0, none⟩ = some (.slice AP nP cP) := by simp [World.cell?_alloc_new]
  have c1 : (w.alloc (.cells #[.slice AP nP cP, .slice AT nT cT] 24)).cell? ⟨w.heap.size, 1, none⟩ = some (.slice AT nT cT) := by simp [World.cell?_alloc_new]
  go_enter Tryz.func45, Tryz.ntmps45
  go_upto_region 1 with fail
  generalize (w.alloc (.cells #[.slice AP nP cP, .slice AT nT cT] 24)) = wb at *
  by_cases a1 : nP < 1
  · go_wp2
    go_ret
    exact ⟨rfl, HB.out⟩
  by_cases a2 : 32 < nP
  · go_wp2
    go_ret
    exact ⟨rfl, HB.out⟩
  have a4 : 32 < nT := by omega
  have a3 : ¬ nT < 1 := by omega
  clear h
  go_wp2
  go_ret
  exact ⟨rfl, HB.out⟩
theorem SmNo.raw (w : World) (AP AT : Option Addr) (nP cP nT cT : Nat) (m : Int) (h : 32 < nP ∨ 32 < nT) (h1 : nP ≤ 9223372036854775807) (h2 : nT ≤ 9223372036854775807) : SmNo w (.slice AP nP cP) (.slice AT nT cT) m := fun W _ => by
  have HC := Lib.hid (fun w => rcheck_raw w AP AT nP cP nT cT h h1 h2)
  have HB0 := Lib.hid ((Below.refl W.heap.size W).alloc (Nat.le_refl _) (.cells #[.slice AP nP cP, .slice AT nT cT] 24))
  clear h h1 h2
  go_enter Tryz.func13, Tryz.ntmps13
  go_wp2_with fail
  refine (HC.out _).mono ?_
  rintro en w1 ⟨rfl, b1⟩
  have HB1 := Lib.hid (HB0.out.trans (b1.mono HB0.out.size))
  clear b1
  go_wp2
  go_ret
  exact ⟨rfl, HB1.out⟩
theorem madeNo (w : World) (vP vT : Value) (n0 : Nat) (hs : SmNo w vP vT 8) :
    Calls Tryz.prog 12 #[.agg #[vP, vT], .int .u8 n0] w fun e w' => e = .returned (.tuple #[.pointer none, .pointer none, .bool false]) ∧ Below w.heap.size w w' := by
  have HB0 := Lib.hid ((Below.refl w.heap.size w).alloc (Nat.le_refl _) (.cells #[vP, vT] 24))
  have H := Lib.hid (hs _ HB0.out)
  clear hs
  go_enter Tryz.func12, Tryz.ntmps12
  go_wp2_with fail
  refine H.out.mono ?_
  rintro en w1 ⟨rfl, b1⟩
  have HB1 := Lib.hid (HB0.out.trans (b1.mono HB0.out.size))
  clear b1
  go_wp2
  go_ret3
  exact ⟨rfl, HB1.out⟩
set_option maxRecDepth 100000 in
set_option maxHeartbeats 1000000 in
theorem madeYes (w : World) (vP vT : Value) (P T : List Int) (hP : RdL w vP 1 encI P) (hT : RdL w vT 1 encI T) (n0 : Nat) (hn0 : n0 < 256) (hs : smallB P T 8 = true) :
    Calls Tryz.prog 12 #[.agg #[vP, vT], .int .u8 n0] w fun e w' => ∃ l a g q b u lo hi d h G, e = .returned (.tuple #[.pointer (some ⟨a, 0, none⟩), .pointer (some ⟨l, 0, none⟩), .bool true]) ∧ HSt w w' l a g q b u lo hi d P T h 0 G ∧ h.S = List.replicate T.length Sp.zero ∧ G = fun _ => [] := by
  have hck : chkT P T = 0 ∧ (T.length : Int) ≤ 8 := of_decide_eq_true hs
  have HS := smallH (w.alloc (.cells #[vP, vT] 24)) vP vT P T (hP.alloc _) (hT.alloc _) 8
  rw [hs] at HS
  have H := Lib.hid HS
  have HB0 := Lib.hid ((Below.refl w.heap.size w).alloc (Nat.le_refl _) (.cells #[vP, vT] 24))
  have HRD := Lib.hid (And.intro hP hT)
  have hX : (w.alloc (.cells #[vP, vT] 24)).cell? ⟨w.heap.size, 0, none⟩ = some vP ∧ (w.alloc (.cells #[vP, vT] 24)).cell? ⟨w.heap.size, 1, none⟩ = some vT := by simp [World.cell?_alloc_new]
  have HX := Lib.hid hX
  have hbx : w.heap.size < (w.alloc (.cells #[vP, vT] 24)).heap.size := by simp
  have hq0 : (0 : Int) ≤ (n0 : Int) % 4 ∧ (n0 : Int) % 4 < 4 := by omega
  have HCK := Lib.hid hck
  clear HS hs hP hT hX hck
  go_enter Tryz.func12, Tryz.ntmps12
  go_wp2_with fail
  refine H.out.mono ?_
  rintro en w1 ⟨rfl, b1⟩
  have HB1 := Lib.hid (And.intro (HB0.out.trans (b1.mono HB0.out.size)) b1)
  clear b1
  go_wp2_with fail
  refine (newA_any _ 4096).mono ?_
  rintro en w2 ⟨a, g, rfl, hA, ha, hg, hb⟩
  have f0 : w2.cell? ⟨w.heap.size, 0, none⟩ = some vP := (hb.cell (p := ⟨w.heap.size, 0, none⟩) (Nat.lt_of_lt_of_le hbx HB1.out.2.size)).trans ((HB1.out.2.cell (p := ⟨w.heap.size, 0, none⟩) hbx).trans HX.out.1)
  have f1 : w2.cell? ⟨w.heap.size, 1, none⟩ = some vT := (hb.cell (p := ⟨w.heap.size, 1, none⟩) (Nat.lt_of_lt_of_le hbx HB1.out.2.size)).trans ((HB1.out.2.cell (p := ⟨w.heap.size, 1, none⟩) hbx).trans HX.out.2)
  have HA := Lib.hid (And.intro hA (And.intro ha (And.intro hg (HB1.out.1.trans (hb.mono HB1.out.1.size)))))
  clear hA ha hg hb
  go_wp2_with fail
  have B2 := HA.out.2.2.2
  refine (newHc HA.out.1 rfl HA.out.1.ne vP vT P T (HRD.out.1.below B2 (Nat.le_refl _)) (HRD.out.2.below B2 (Nat.le_refl _)) HCK.out.1 ((n0 : Int) % 4) (by omega) (by omega) rfl).mono ?_
  rintro en w3 ⟨l, q, b, u, lo, hi, rfl, k3, hl, hq, hbb, hu, t3⟩
  have HK := Lib.hid (And.intro k3 (And.intro hl (And.intro hq (And.intro hu t3))))
  clear B2 k3 hl hq hbb hu t3 f0 f1
  go_wp2
  go_ret3
  have s1 := HB1.out.1.size
  have s2 := HA.out.2.2.2.size
  have s3 := HK.out.2.1
  have s4 := HK.out.2.2.1
  have s5 := HK.out.2.2.2.1
  have s6 := HA.out.2.1
  have s7 := HA.out.2.2.1
  have hlT := HCK.out.2
  refine ⟨l, a, g, q, b, u, lo, hi, _, _, _, rfl, ⟨HK.out.1, ?_, ?_, ?_, ?_⟩, rfl, rfl⟩
  · exact HOk.start _ (by omega) (fun t ht => (nodeN_at HK.out.1 ht).2) rfl rfl
  · exact HA.out.2.2.2.trans (HK.out.2.2.2.2.below (by simp; omega) s2)
  · simp; omega
  · omega
end Go.Proofs.YtkdaiomjbkpedaaGreat
end
section
/- Layer 27 (hmcs): a lock of one's own, call by call; what the law's helper does. -/
namespace Go.Proofs.YtkdaiomjbkpedaaGreat
open Go.RowKit

structure HmSt (w0 w : World) (B : Nat → Prop) (x : Hx) (T : HTr) (bud : Int) (s : Ar) (m : Hm) (N : Nat) : Prop where
  is : HmIs B w x T bud s m
  iv : ∃ Q O, HInv T bud m Q O
  bel : Below w0.heap.size w0 w
  hl : ∀ i ∈ mvL x T, w0.heap.size ≤ i
  b0 : 0 ≤ bud ∧ bud ≤ 3
  op : s.ops ≤ N
def actHm (T : HTr) (bud : Int) (m : Hm) (k i : Int) : Hm := if k = 0 then stepI T bud m i else if k = 1 then askI T m i else if k = 2 then leaveI T bud m i else m
section
variable {w0 w w' : World} {B : Nat → Prop} {x : Hx} {T : HTr} {bud : Int} {s s' : Ar} {m m' : Hm} {N M : Nat} {Q : Nat → List Nat} {O : Nat → Nat → Option Nat}
theorem HInv.act (h : HInv T bud m Q O) (hT : T.Ok) (hb : 0 ≤ bud) (k i : Int) : ∃ Q' O', HInv T bud (actHm T bud m k i) Q' O' := by
  have hi : ∀ j, okI m.S j → j.toNat < T.n := fun j hj => by
    have := (h.x 0).sl
    obtain ⟨h0, h1⟩ := hj
    omega
  unfold actHm
  split
  · unfold stepI
    split
    · rename_i hok
      exact h.step hT hb (hi _ hok)
    · exact ⟨Q, O, h⟩
  · split
    · unfold askI
      split
      · rename_i hok
        obtain ⟨O', h'⟩ := h.ask hT (hi _ hok)
        exact ⟨Q, O', h'⟩
      · exact ⟨Q, O, h⟩
    · split
      · unfold leaveI
        split
        · rename_i hok
          exact ⟨Q, O, h.leave hT (hi _ hok)⟩
        · exact ⟨Q, O, h⟩
      · exact ⟨Q, O, h⟩
theorem HmSt.below (h : HmSt w0 w B x T bud s m N) (k : Below w.heap.size w w') : HmSt w0 w' B x T bud s m N := ⟨h.is.below k, h.iv, h.bel.trans (k.mono h.bel.size), h.hl, h.b0, h.op⟩
theorem HmSt.next (h : HmSt w0 w B x T bud s m N) (k : Turns (mvL x T) w w') (hI : HmIs B w' x T bud s' m') (hv : ∃ Q O, HInv T bud m' Q O) (ho : s'.ops ≤ M) : HmSt w0 w' B x T bud s' m' M := ⟨hI, hv, h.bel.trans (k.below h.hl h.bel.size), h.hl, h.b0, ho⟩
set_option maxHeartbeats 1000000 in
theorem doHm (h : HmSt w0 w B x T bud s m N) (hT : T.Ok) (hN : N < 1000000) (k i : Int) :
    Calls Tryz.prog 27 #[.pointer (some ⟨x.l, 0, none⟩), actV2 k i] w fun e w' => ∃ r s', e = .returned (.bool r) ∧ HmSt w0 w' B x T bud s' (actHm T bud m k i) (N + 1) ∧ s'.ops ≤ s.ops + 1 ∧ (k ≠ 0 → s'.ops = s.ops) := by
  obtain ⟨Q, O, hI⟩ := h.iv
  have hop := h.op
  have hb : 0 ≤ bud ∧ bud ≤ 1000 := by have := h.b0; omega
  have hact := hI.act hT h.b0.1 k i
  have hd : Below w.heap.size w (w.alloc (.cells #[.int .i64 k, .int .i64 i] 33)) := (Below.refl _ _).alloc (Nat.le_refl _) _
  have HW := Lib.hid (h.below hd)
  have fin : ∀ (W : World) (r : Bool) (s' : Ar), HmIs B W x T bud s' (actHm T bud m k i) → Turns (mvL x T) (w.alloc (.cells #[.int .i64 k, .int .i64 i] 33)) W → s'.ops ≤ s.ops + 1 → (k ≠ 0 → s'.ops = s.ops) → ∃ r' s', (Ending.returned (.bool r)) = .returned (.bool r') ∧ HmSt w0 W B x T bud s' (actHm T bud m k i) (N + 1) ∧ s'.ops ≤ s.ops + 1 ∧ (k ≠ 0 → s'.ops = s.ops) := fun W r s' h1 h2 h3 h4 =>
    ⟨r, s', rfl, HW.out.next h2 h1 hact (by omega), h3, h4⟩
  have HF := Lib.hid fin
  clear fin h hd
  unfold actV2
  by_cases k0 : k = 0
  · have e : actHm T bud m k i = stepI T bud m i := by unfold actHm; rw [if_pos k0]
    rw [e] at HF
    rw [e]
    clear e hact
    subst k0
    go_enter Tryz.func27, Tryz.ntmps27
    go_wp2_with fail
    refine (stepHw HW.out.is hT hI hb (by omega) i).mono ?_
    rintro en w1 ⟨b, s', rfl, h1, h2, h3⟩
    have H1 := Lib.hid (HF.out w1 b s' h1 h3 h2 (fun h => absurd rfl h))
    clear h1 h2 h3
    go_wp2
    go_ret
    exact H1.out
  · by_cases k1 : k = 1
    · have e : actHm T bud m k i = askI T m i := by unfold actHm; rw [if_neg k0, if_pos k1]
      rw [e] at HF
      rw [e]
      clear e hact k0
      subst k1
      go_enter Tryz.func27, Tryz.ntmps27
      go_wp2_with fail
      refine (askHw HW.out.is hT i).mono ?_
      rintro en w1 ⟨rfl, h1, h3⟩
      obtain ⟨b, hbb⟩ : ∃ b, b = decide (okI m.S i ∧ (getS m.S i).pc = 0) := ⟨_, rfl⟩
      rw [← hbb]
      clear hbb
      have H1 := Lib.hid (HF.out w1 b s h1 h3 (by omega) (fun _ => rfl))
      clear h1 h3
      go_wp2
      go_ret
      exact H1.out
    · by_cases k2 : k = 2
      · have e : actHm T bud m k i = leaveI T bud m i := by unfold actHm; rw [if_neg k0, if_neg k1, if_pos k2]
        rw [e] at HF
        rw [e]
        clear e hact k0 k1
        subst k2
        go_enter Tryz.func27, Tryz.ntmps27
        go_wp2_with fail
        refine (leaveHw HW.out.is hT hI hb i).mono ?_
        rintro en w1 ⟨b, rfl, h1, h3⟩
        have H1 := Lib.hid (HF.out w1 b s h1 h3 (by omega) (fun _ => rfl))
        clear h1 h3
        go_wp2
        go_ret
        exact H1.out
      · have e : actHm T bud m k i = m := by unfold actHm; rw [if_neg k0, if_neg k1, if_neg k2]
        rw [e] at HF
        rw [e]
        have u0 : (k == 0) = false := by simpa using k0
        have u1 : (k == 1) = false := by simpa using k1
        have u2 : (k == 2) = false := by simpa using k2
        clear k0 k1 k2 hact e
        go_enter Tryz.func27, Tryz.ntmps27
        go_wp2
        go_ret
        exact HF.out _ false s HW.out.is (Turns.refl _ _) (by omega) (fun _ => rfl)
end
end Go.Proofs.YtkdaiomjbkpedaaGreat
end
section
/- Layer 27 (hmcs): the places below a place. -/
namespace Go.Proofs.YtkdaiomjbkpedaaGreat
open Go.RowKit

set_option maxRecDepth 100000 in
set_option maxHeartbeats 1000000 in
theorem belowHw (w : World) (vP vT : Value) (P : List Int) (h : RdL w vP 1 encI P) (h32 : P.length ≤ 1000) (p : Int) :
    Calls Tryz.prog 103 #[.agg #[vP, vT], .int .i64 p] w fun e w' => ∃ v', e = .returned v' ∧ w'.ownsRow w.heap.size 3 1 v' (chL P p).length ((chL P p).flatMap encI) ∧ Below w.heap.size w w' := by
  obtain ⟨i0, hi, hz0, hz1, hz2⟩ := info_parts Tryz.infoIn
  have HI := Lib.hid (And.intro hi (And.intro hz0 (And.intro hz1 hz2)))
  have hR := h.alloc (.cells #[vP, vT] 24)
  obtain ⟨A, cap, rfl, l1, l2, hr⟩ := hR
  have HR := Lib.hid hr
  have hs0 : (w.alloc (.cells #[.slice A P.length cap, vT] 24)).heap.size = w.heap.size + 1 := by simp
  have HB := Lib.hid ((Below.refl w.heap.size w).alloc (Nat.le_refl _) (.cells #[.slice A P.length cap, vT] 24))
  have b0 : (w.alloc (.cells #[.slice A P.length cap, vT] 24)).cell? ⟨w.heap.size, 0, none⟩ = some (.slice A P.length cap) := by simp [World.cell?_alloc_new]
  obtain ⟨w1, hw1⟩ : ∃ w1, w1 = w.alloc (.cells #[.slice A P.length cap, vT] 24) := ⟨_, rfl⟩
  clear hi hz0 hz1 hz2 h hr
  go_enter Tryz.func103, Tryz.ntmps103
  rw [← hw1] at HR HB b0 hs0
  have HZ := Lib.hid hs0
  clear hs0
  go_wp2
  rw [← hw1]
  clear hw1
  go_loopw [5, 11] (fun o i wr => ∃ k : Nat, i = .int .i64 k ∧ k ≤ P.length ∧ wr.ownsRow w1.heap.size 3 1 o (chTo P p k).length ((chTo P p k).flatMap encI) ∧ Below w1.heap.size w1 wr) (fun _ i _ => P.length - (intOf i).toNat)
  case atStart => exact ⟨0, rfl, by omega, World.ownsRow_nil _ _ _ _, Below.refl _ _⟩
  case round =>
    obtain ⟨k, rfl, hk, hown, hbel⟩ := hrel
    by_cases hlt : k < P.length
    · obtain ⟨q, hq⟩ := getElem?_lt hlt
      obtain ⟨bl, off, rfl, hbl, hc⟩ := HR.out (by omega)
      have c0 := (hbel.cell (p := ⟨bl, off + k * 1 + 0, none⟩) hbl).trans (hc k _ hq 0 _ rfl)
      simp only [Nat.add_zero, Nat.mul_one] at c0
      have hll := chTo_len P p k
      have hsz := hbel.size
      have HS := Lib.hid (chTo_succ P p hq)
      have HO := Lib.hid (And.intro hown hbel)
      obtain ⟨A9, c9, rfl⟩ := own_form hown
      clear hc hbel
      cases hm : (q == p)
      · have HM : Hid (¬ q = p) := Lib.hid (by simpa using hm)
        clear hown
        go_wp2
        go_roundw
        case rel => exact ⟨k + 1, by go_num, by omega, by rw [HS.out, if_neg HM.out]; exact HO.out.1, HO.out.2⟩
        case measure => simp [intOf]; omega
      · have HM : Hid (q = p) := Lib.hid (by simpa using hm)
        go_wp2_with (at_builtin; refine wpList_append_own _ rfl _ _ 22 rfl w1.heap.size 3 i0 (.int .i64 0) 1 8 Tryz.underlying22 HI.out.1 HI.out.2.1 HI.out.2.2.1 HI.out.2.2.2 rfl (by decide) _ _ _ rfl (hown.alloc _) ⟨wr.heap.size, 0, none⟩ 1 1 (encI k) rfl rfl (cell_one_new _ _ _) (one_enc _) ?c3 ?c4 ?c5 ?_)
        case c3 => unfold maxLen; omega
        case c4 => omega
        case c5 => simp; omega
        intro v' w' hown' hgrow hnil
        have HN := Lib.hid (And.intro hown' hgrow)
        clear hown' hgrow hnil hown
        go_wp2
        go_roundw
        case rel => exact ⟨k + 1, by go_num, by omega, by rw [HS.out, if_pos HM.out, flat_snoc, List.length_append]; exact HN.out.1, (HO.out.2.alloc hsz _).grown HN.out.2 (by simp; omega) (fun j hj => (HO.out.1.lt j hj).1)⟩
        case measure => simp [intOf]; omega
    · obtain rfl : k = P.length := by omega
      have HO := Lib.hid (And.intro hown hbel)
      clear hown hbel
      go_wp2
      go_ret
      exact ⟨_, rfl, own_lower HO.out.1 (by have := HZ.out; omega), HB.out.trans (HO.out.2.mono (by have := HZ.out; omega))⟩
end Go.Proofs.YtkdaiomjbkpedaaGreat
end
