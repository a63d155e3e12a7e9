/- Joined: RgO3, Hm1, Hm2. -/
import Derived.Test.YtkdaiomjbkpedaaGreatMgHmcsTenure11
section
/- Layer 26: a rung is a queue: any act. Plain data. -/
namespace Go.Proofs.YtkdaiomjbkpedaaGreat
open Go.RowKit

def StepQ (n : Nat) (S : List Sp) (Q : List Nat) (i : Nat) (x : Ar × Sp) : Prop :=
  ∃ Q', QInv n x.1.W (S.set i x.2) Q' ∧ ∀ D H : List Nat, D = H ++ pend S Q → (if (sv S i).pc = 3 then D ++ [i] else D) = (if (sv S i).pc < 10 ∧ x.2.pc = 10 then H ++ [i] else H) ++ pend (S.set i x.2) Q'
section
variable {n : Nat} {ar : Ar} {S : List Sp} {Q : List Nat} {i : Nat}
/-- nobody comes, nobody holds, and the queue is as it was -/
theorem stepQ_same {x : Ar × Sp} (hq : QInv n x.1.W (S.set i x.2) Q) (h3 : (sv S i).pc ≠ 3) (hh : ¬ ((sv S i).pc < 10 ∧ x.2.pc = 10)) (hp : pend (S.set i x.2) Q = pend S Q) : StepQ n S Q i x :=
  ⟨Q, hq, fun D H h => by rw [if_neg h3, if_neg hh, hp]; exact h⟩
theorem pend_cons (S : List Sp) (a : Nat) (t : List Nat) : pend S (a :: t) = if 10 ≤ (sv S a).pc then t else a :: t := rfl
theorem sv_self (S : List Sp) {i : Nat} (hi : i < S.length) (p : Sp) : sv (S.set i p) i = p := by rw [sv_set, if_pos ⟨rfl, hi⟩]
theorem headQ (h : Q[0]? = some i) : ∃ t, Q = i :: t := by
  cases Q with
  | nil => simp at h
  | cons a t => simp at h; subst h; exact ⟨t, rfl⟩
/-- the head is as far as before: below 10 as below 10, from 10 on as from 10 on -/
theorem pend_keep (hs : S.length = n) (hi : Q[0]? = some i) (hin : i < n) {p' : Sp} (h : 10 ≤ p'.pc ↔ 10 ≤ (sv S i).pc) : pend (S.set i p') Q = pend S Q := by
  obtain ⟨t, rfl⟩ := headQ hi
  rw [pend_cons, pend_cons, sv_self S (by rw [hs]; exact hin)]
  simp only [h]
theorem pend_behind (h : QInv n ar.W S Q) {k : Nat} (hi : Q[k + 1]? = some i) (p' : Sp) : pend (S.set i p') Q = pend S Q := by
  match Q, h, hi with
  | a :: t, h, hi =>
    have : a ≠ i := fun e => by
      subst e
      have := nodup_idx h.nd hi (show (a :: t)[0]? = some a from rfl)
      omega
    have e : sv (S.set i p') a = sv S a := by rw [sv_set, if_neg (fun e => this e.1.symm)]
    rw [pend_cons, pend_cons, e]
theorem QInv.second (h : QInv n ar.W S Q) (hd : Q[0]? = some i) (hne : nxv ar.W i ≠ 0) : ∃ s : Nat, Q[1]? = some s ∧ nxv ar.W i = (s : Int) + 1 ∧ (sv S s).pc = 5 := by
  obtain ⟨t, rfl⟩ := headQ hd
  cases t with
  | nil => exact absurd (h.last i rfl) hne
  | cons s t =>
    rcases (h.link 0 i s rfl rfl).2 with ⟨_, _, hz⟩ | ⟨h5, hx⟩
    · exact absurd hz hne
    · exact ⟨s, rfl, hx, h5⟩
theorem QInv.alone (h : QInv n ar.W S Q) (hd : Q[0]? = some i) (hl : tlv ar.W = (i : Int) + 1) : Q = [i] := by
  obtain ⟨t, rfl⟩ := headQ hd
  cases t with
  | nil => rfl
  | cons s t =>
    have ht := h.tail
    unfold lastW at ht
    cases hg : (i :: s :: t).getLast? with
    | none => simp at hg
    | some j =>
      rw [hg] at ht
      dsimp only at ht
      have hji : j = i := by omega
      subst hji
      rw [List.getLast?_eq_getElem?] at hg
      have := nodup_idx h.nd hg (show (j :: s :: t)[0]? = some j from rfl)
      simp at this
theorem stepQ (h : QInv n ar.W S Q) (hn : n ≤ 32) (hi : i < n) (h0 : (sv S i).pc ≠ 0) (h10 : (sv S i).pc ≠ 10) : StepQ n S Q i (stepP ar 1 ((i : Int) + 1) (sv S i)) := by
  have hw := h.wl
  have hsl : i < S.length := by rw [h.sl]; exact hi
  obtain ⟨p, hp⟩ : ∃ p, p = sv S i := ⟨_, rfl⟩
  rw [← hp]
  rw [← hp] at h0 h10
  have hsx : ∀ v, (ar.W.set (2 * i + 1) v).length = 2 * n + 1 := fun v => by simp [hw]
  by_cases hQ : i ∈ Q
  · rcases h.inq hQ with ⟨hd, hpc⟩ | ⟨k, a, ha, hk, hsg, hpc⟩
    · rw [← hp] at hpc
      obtain ⟨t, ht⟩ := headQ hd
      have hcase : p.pc = 5 ∨ p.pc = 6 ∨ p.pc = 11 ∨ p.pc = 12 ∨ p.pc = 13 ∨ p.pc = 14 ∨ p.pc = 15 ∨ p.pc = 16 := by omega
      have hhead := h.head i hd
      rw [← hp] at hhead
      rcases hcase with e | e | e | e | e | e | e | e
      · -- 5: the head is told a value
        have hx : stepP ar 1 ((i : Int) + 1) p = (loadA ar (stA 1 ((i : Int) + 1)), if 0 < sgv ar.W i then { p with a := sgv ar.W i, b := 0, pc := 10 } else if sgv ar.W i < 0 then { p with a := sgv ar.W i, pc := 6 } else { p with a := sgv ar.W i, pc := 5 }) := by
          unfold stepP inR26
          rw [if_pos (by rw [e]; decide), if_neg (by rw [e]; decide), if_neg (by rw [e]; decide), if_neg (by rw [e]; decide), if_neg (by rw [e]; decide), if_pos e, ld_st hw hi hn]
        rw [hx]
        by_cases hv : 0 < sgv ar.W i
        · rw [if_pos hv]
          refine ⟨Q, h.headOnly hd (by rw [loadA_W]; exact hw) (by rw [loadA_W]) (fun _ => by rw [loadA_W]) (fun _ _ => by rw [loadA_W]) ⟨.inr (.inr ⟨by show (10 : Int) ≤ 10; omega, by show (10 : Int) ≤ 16; omega⟩), fun e => absurd e (by show ¬ (10 : Int) = 14; decide), fun e => absurd e (by show ¬ (10 : Int) = 16; decide)⟩, fun D H hD => ?_⟩
          rw [← hp, if_neg (by rw [e]; decide), if_pos ⟨by rw [e]; decide, rfl⟩, hD, ht, pend_cons, pend_cons, ← hp, if_neg (by rw [e]; decide), sv_self S hsl, if_pos (by show (10 : Int) ≤ 10; omega)]
          simp
        · rw [if_neg hv]
          by_cases hv2 : sgv ar.W i < 0
          · rw [if_pos hv2]
            refine stepQ_same (h.headOnly hd (by rw [loadA_W]; exact hw) (by rw [loadA_W]) (fun _ => by rw [loadA_W]) (fun _ _ => by rw [loadA_W]) ⟨.inr (.inl rfl), fun e => absurd e (by show ¬ (6 : Int) = 14; decide), fun e => absurd e (by show ¬ (6 : Int) = 16; decide)⟩) (by rw [← hp, e]; decide) (fun h => absurd h.2 (by show ¬ (6 : Int) = 10; decide)) (pend_keep h.sl hd hi (by rw [← hp, e]; show (10 : Int) ≤ 6 ↔ (10 : Int) ≤ 5; decide))
          · rw [if_neg hv2]
            refine stepQ_same (h.headOnly hd (by rw [loadA_W]; exact hw) (by rw [loadA_W]) (fun _ => by rw [loadA_W]) (fun _ _ => by rw [loadA_W]) ⟨.inl rfl, fun e => absurd e (by show ¬ (5 : Int) = 14; decide), fun e => absurd e (by show ¬ (5 : Int) = 16; decide)⟩) (by rw [← hp, e]; decide) (fun h => absurd h.2 (by show ¬ (5 : Int) = 10; decide)) (pend_keep h.sl hd hi (by rw [← hp, e]))
      · -- 6: the head holds
        have hx : stepP ar 1 ((i : Int) + 1) p = (storeA ar (stA 1 ((i : Int) + 1)) 1, { p with a := 1, b := 1, pc := 10 }) := by
          unfold stepP inR26
          rw [if_pos (by rw [e]; decide), if_neg (by rw [e]; decide), if_neg (by rw [e]; decide), if_neg (by rw [e]; decide), if_neg (by rw [e]; decide), if_neg (by rw [e]; decide)]
        rw [hx]
        have hW : (storeA ar (stA 1 ((i : Int) + 1)) 1).W = ar.W.set (2 * i + 2) 1 := by rw [storeA_W, st_st hw hi hn]
        refine ⟨Q, h.headOnly hd (by rw [hW]; simp [hw]) (by rw [hW, tlv_set _ _ _ (by omega), if_neg (by omega)]) (fun j => by rw [hW, nxv_set _ _ _ _ (by omega), if_neg (by omega)]) (fun j hj => by rw [hW, sgv_set _ _ _ _ (by omega), if_neg (by omega)]) ⟨.inr (.inr ⟨by show (10 : Int) ≤ 10; omega, by show (10 : Int) ≤ 16; omega⟩), fun e => absurd e (by show ¬ (10 : Int) = 14; decide), fun e => absurd e (by show ¬ (10 : Int) = 16; decide)⟩, fun D H hD => ?_⟩
        rw [← hp, if_neg (by rw [e]; decide), if_pos ⟨by rw [e]; decide, rfl⟩, hD, ht, pend_cons, pend_cons, ← hp, if_neg (by rw [e]; decide), sv_self S hsl, if_pos (by show (10 : Int) ≤ 10; omega)]
        simp
      · -- 11: is anybody behind?
        have hx : stepP ar 1 ((i : Int) + 1) p = (loadA ar (nxA 1 ((i : Int) + 1)), { p with a := nxv ar.W i, pc := if nxv ar.W i ≠ 0 then 14 else 12 }) := by
          unfold stepP outR26
          rw [if_neg (by rw [e]; decide), if_neg (by rw [e]; decide), if_neg (by rw [e]; decide), if_neg (by rw [e]; decide), if_neg (by rw [e]; decide), ld_nx hw hi hn]
          simp [e]
        rw [hx]
        refine stepQ_same (h.headOnly hd (by rw [loadA_W]; exact hw) (by rw [loadA_W]) (fun _ => by rw [loadA_W]) (fun _ _ => by rw [loadA_W]) ⟨.inr (.inr ?_), fun e14 => ?_, fun e16 => ?_⟩) (by rw [← hp, e]; decide) (fun h => by have := h.1; rw [← hp, e] at this; revert this; decide) (pend_keep h.sl hd hi ?_)
        · dsimp only; split <;> decide
        · dsimp only at e14
          have hne : nxv ar.W i ≠ 0 := by
            intro hz
            rw [hz] at e14
            revert e14; decide
          obtain ⟨s, q1, q2, q3⟩ := h.second hd hne
          exact ⟨s, q1, q2, q3⟩
        · dsimp only at e16
          split at e16 <;> exact absurd e16 (by decide)
        · rw [← hp, e]
          dsimp only
          split <;> decide
      · -- 12: was it the last one?
        have hc : casB ar 1 ((i : Int) + 1) = decide (tlv ar.W = (i : Int) + 1) := by
          unfold casB
          rw [ld_tl hw]
          have : inR ar.W 1 = true := decide_eq_true (by omega)
          rw [this, Bool.true_and]
        have hx : stepP ar 1 ((i : Int) + 1) p = (casA ar 1 ((i : Int) + 1) 0, { p with pc := if casB ar 1 ((i : Int) + 1) then 0 else 13 }) := by
          unfold stepP outR26
          rw [if_neg (by rw [e]; decide), if_pos e]
        rw [hx]
        by_cases hl : tlv ar.W = (i : Int) + 1
        · have hcb : casB ar 1 ((i : Int) + 1) = true := by rw [hc]; exact decide_eq_true hl
          have hW : (casA ar 1 ((i : Int) + 1) 0).W = ar.W.set 0 0 := by
            unfold casA
            rw [hcb, if_pos rfl]
            show stW (noteA ar 4 1 true).W 1 0 = _
            rw [noteA_W, st_tl hw]
          have hQ1 : Q = [i] := h.alone hd hl
          subst hQ1
          rw [hcb]
          refine ⟨[], h.gone (by rw [hW]; simp [hw]) (by rw [hW, tlv_set _ _ _ (by omega), if_pos rfl]) (fun j => by rw [hW, nxv_set _ _ _ _ (by omega), if_neg (by omega)]) (fun j => by rw [hW, sgv_set _ _ _ _ (by omega), if_neg (by omega)]) rfl, fun D H hD => ?_⟩
          rw [← hp, if_neg (by rw [e]; decide), if_neg (fun h => by have := h.1; rw [e] at this; revert this; decide), hD, pend_cons, ← hp, if_pos (by rw [e]; decide)]
          rfl
        · have hcb : casB ar 1 ((i : Int) + 1) = false := by rw [hc]; exact decide_eq_false hl
          have hW : (casA ar 1 ((i : Int) + 1) 0).W = ar.W := by
            unfold casA
            rw [hcb]
            exact noteA_W _ _ _ _
          rw [hcb]
          exact stepQ_same (h.headOnly hd (by rw [hW]; exact hw) (by rw [hW]) (fun _ => by rw [hW]) (fun _ _ => by rw [hW]) ⟨.inr (.inr (by show (10 : Int) ≤ 13 ∧ (13 : Int) ≤ 16; decide)), fun e => absurd e (by show ¬ (13 : Int) = 14; decide), fun e => absurd e (by show ¬ (13 : Int) = 16; decide)⟩) (by rw [← hp, e]; decide) (fun h => by have := h.1; rw [← hp, e] at this; revert this; decide) (pend_keep h.sl hd hi (by rw [← hp, e]; show (10 : Int) ≤ 13 ↔ (10 : Int) ≤ 12; decide))
      · -- 13: is anybody behind?
        have hx : stepP ar 1 ((i : Int) + 1) p = (loadA ar (nxA 1 ((i : Int) + 1)), { p with a := nxv ar.W i, pc := if nxv ar.W i ≠ 0 then 14 else 13 }) := by
          unfold stepP outR26
          rw [if_neg (by rw [e]; decide), if_neg (by rw [e]; decide), if_neg (by rw [e]; decide), if_neg (by rw [e]; decide), if_neg (by rw [e]; decide), ld_nx hw hi hn]
          simp [e]
        rw [hx]
        refine stepQ_same (h.headOnly hd (by rw [loadA_W]; exact hw) (by rw [loadA_W]) (fun _ => by rw [loadA_W]) (fun _ _ => by rw [loadA_W]) ⟨.inr (.inr ?_), fun e14 => ?_, fun e16 => ?_⟩) (by rw [← hp, e]; decide) (fun h => by have := h.1; rw [← hp, e] at this; revert this; decide) (pend_keep h.sl hd hi ?_)
        · dsimp only; split <;> decide
        · dsimp only at e14
          have hne : nxv ar.W i ≠ 0 := by
            intro hz
            rw [hz] at e14
            revert e14; decide
          obtain ⟨s, q1, q2, q3⟩ := h.second hd hne
          exact ⟨s, q1, q2, q3⟩
        · dsimp only at e16
          split at e16 <;> exact absurd e16 (by decide)
        · rw [← hp, e]
          dsimp only
          split <;> decide
      · -- 14: the one behind is told, and the head goes
        obtain ⟨s, q1, q2, q3⟩ := hhead.2.1 e
        have hs : s < n := h.lt s (List.mem_of_getElem? q1)
        have hx : stepP ar 1 ((i : Int) + 1) p = (storeA ar (stA 1 ((s : Int) + 1)) p.c, { p with pc := 0 }) := by
          unfold stepP outR26
          rw [if_neg (by rw [e]; decide), if_neg (by rw [e]; decide), if_pos e, q2]
        rw [hx]
        have hW : (storeA ar (stA 1 ((s : Int) + 1)) p.c).W = ar.W.set (2 * s + 2) p.c := by rw [storeA_W, st_st hw hs hn]
        obtain ⟨g1, g2⟩ := h.pop (p' := { p with pc := 0 }) hd q1 q3 (W' := ar.W.set (2 * s + 2) p.c) (by simp [hw]) (by rw [tlv_set _ _ _ (by omega), if_neg (by omega)]) (fun j => by rw [nxv_set _ _ _ _ (by omega), if_neg (by omega)]) (fun j hj => by rw [sgv_set _ _ _ _ (by omega), if_neg (by omega)]) rfl
        refine ⟨Q.tail, by rw [hW]; exact g1, fun D H hD => ?_⟩
        rw [← hp, if_neg (by rw [e]; decide), if_neg (fun h => by have := h.1; rw [e] at this; revert this; decide), hD, g2, ht, pend_cons, ← hp, if_pos (by rw [e]; decide)]
        rfl
      · -- 15: is anybody behind, to be handed on to?
        have hx : stepP ar 1 ((i : Int) + 1) p = (loadA ar (nxA 1 ((i : Int) + 1)), { p with b := nxv ar.W i, pc := if nxv ar.W i = 0 then 10 else 16 }) := by
          unfold stepP outR26
          rw [if_neg (by rw [e]; decide), if_neg (by rw [e]; decide), if_neg (by rw [e]; decide), if_pos e, ld_nx hw hi hn]
        rw [hx]
        refine stepQ_same (h.headOnly hd (by rw [loadA_W]; exact hw) (by rw [loadA_W]) (fun _ => by rw [loadA_W]) (fun _ _ => by rw [loadA_W]) ⟨.inr (.inr ?_), fun e14 => ?_, fun e16 => ?_⟩) (by rw [← hp, e]; decide) (fun h => by have := h.1; rw [← hp, e] at this; revert this; decide) (pend_keep h.sl hd hi ?_)
        · dsimp only; split <;> decide
        · dsimp only at e14
          split at e14 <;> exact absurd e14 (by decide)
        · dsimp only at e16
          have hne : nxv ar.W i ≠ 0 := by
            intro hz
            rw [hz] at e16
            revert e16; decide
          exact h.second hd hne
        · rw [← hp, e]
          dsimp only
          split <;> decide
      · -- 16: the one behind is told, and the head goes
        obtain ⟨s, q1, q2, q3⟩ := hhead.2.2 e
        have hs : s < n := h.lt s (List.mem_of_getElem? q1)
        have hx : stepP ar 1 ((i : Int) + 1) p = (storeA ar (stA 1 ((s : Int) + 1)) p.c, { p with pc := 0 }) := by
          unfold stepP outR26
          rw [if_neg (by rw [e]; decide), if_neg (by rw [e]; decide), if_neg (by rw [e]; decide), if_neg (by rw [e]; decide), if_pos e, q2]
        rw [hx]
        have hW : (storeA ar (stA 1 ((s : Int) + 1)) p.c).W = ar.W.set (2 * s + 2) p.c := by rw [storeA_W, st_st hw hs hn]
        obtain ⟨g1, g2⟩ := h.pop (p' := { p with pc := 0 }) hd q1 q3 (W' := ar.W.set (2 * s + 2) p.c) (by simp [hw]) (by rw [tlv_set _ _ _ (by omega), if_neg (by omega)]) (fun j => by rw [nxv_set _ _ _ _ (by omega), if_neg (by omega)]) (fun j hj => by rw [sgv_set _ _ _ _ (by omega), if_neg (by omega)]) rfl
        refine ⟨Q.tail, by rw [hW]; exact g1, fun D H hD => ?_⟩
        rw [← hp, if_neg (by rw [e]; decide), if_neg (fun h => by have := h.1; rw [e] at this; revert this; decide), hD, g2, ht, pend_cons, ← hp, if_pos (by rw [e]; decide)]
        rfl
    · rw [← hp] at hpc
      have han : a < n := h.lt a (List.mem_of_getElem? ha)
      rcases hpc with ⟨e, ea, hz⟩ | ⟨e, hz⟩
      · have hx : stepP ar 1 ((i : Int) + 1) p = (storeA ar (nxA 1 ((a : Int) + 1)) ((i : Int) + 1), { p with pc := 5 }) := by
          unfold stepP inR26
          rw [if_pos (by rw [e]; decide), if_neg (by rw [e]; decide), if_neg (by rw [e]; decide), if_neg (by rw [e]; decide), if_pos e, ea]
        rw [hx]
        have hW : (storeA ar (nxA 1 ((a : Int) + 1)) ((i : Int) + 1)).W = ar.W.set (2 * a + 1) ((i : Int) + 1) := by rw [storeA_W, st_nx hw han hn]
        exact stepQ_same (h.behind ha hk (by rw [hW]; simp [hw]) (by rw [hW, tlv_set _ _ _ (by omega), if_neg (by omega)]) (fun j hj => by rw [hW, nxv_set _ _ _ _ (by omega), if_neg (by omega)]) (fun j => by rw [hW, sgv_set _ _ _ _ (by omega), if_neg (by omega)]) ⟨rfl, by rw [hW, nxv_set _ _ _ _ (by omega), if_pos rfl]⟩) (by rw [← hp, e]; decide) (fun h => absurd h.2 (by show ¬ (5 : Int) = 10; decide)) (pend_behind h hk _)
      · have hx : stepP ar 1 ((i : Int) + 1) p = (loadA ar (stA 1 ((i : Int) + 1)), { p with a := sgv ar.W i, pc := 5 }) := by
          unfold stepP inR26
          rw [if_pos (by rw [e]; decide), if_neg (by rw [e]; decide), if_neg (by rw [e]; decide), if_neg (by rw [e]; decide), if_neg (by rw [e]; decide), if_pos e, ld_st hw hi hn, hsg]
          rfl
        rw [hx]
        exact stepQ_same (h.behind ha hk (by rw [loadA_W]; exact hw) (by rw [loadA_W]) (fun _ _ => by rw [loadA_W]) (fun _ => by rw [loadA_W]) ⟨rfl, by rw [loadA_W]; exact hz⟩) (by rw [← hp, e]; decide) (fun h => absurd h.2 (by show ¬ (5 : Int) = 10; decide)) (pend_behind h hk _)
  · obtain ⟨hr, hr2, hr3⟩ := h.out i hi hQ
    rw [← hp] at hr hr2 hr3
    rcases (show p.pc = 1 ∨ p.pc = 2 ∨ p.pc = 3 by omega) with e | e | e
    · have hx : stepP ar 1 ((i : Int) + 1) p = (storeA ar (nxA 1 ((i : Int) + 1)) 0, { p with pc := 2 }) := by
        unfold stepP inR26
        rw [if_pos (by rw [e]; decide), if_pos e]
      rw [hx]
      have hW : (storeA ar (nxA 1 ((i : Int) + 1)) 0).W = ar.W.set (2 * i + 1) 0 := by rw [storeA_W, st_nx hw hi hn]
      obtain ⟨g1, g2⟩ := h.outside (p' := { p with pc := 2 }) hi hQ (W' := ar.W.set (2 * i + 1) 0) (by simp [hw]) (by rw [tlv_set _ _ _ (by omega), if_neg (by omega)]) (fun j hj => by rw [nxv_set _ _ _ _ (by omega), if_neg (by omega)]) (fun j hj => by rw [sgv_set _ _ _ _ (by omega), if_neg (by omega)]) ⟨⟨by show (0 : Int) ≤ 2; decide, by show (2 : Int) ≤ 3; decide⟩, fun _ => by rw [nxv_set _ _ _ _ (by omega), if_pos rfl], fun e => absurd e (by show ¬ (2 : Int) = 3; decide)⟩
      exact stepQ_same (by rw [hW]; exact g1) (by rw [← hp, e]; decide) (fun h => absurd h.2 (by show ¬ (2 : Int) = 10; decide)) g2
    · have hx : stepP ar 1 ((i : Int) + 1) p = (storeA ar (stA 1 ((i : Int) + 1)) 0, { p with pc := 3 }) := by
        unfold stepP inR26
        rw [if_pos (by rw [e]; decide), if_neg (by rw [e]; decide), if_pos e]
      rw [hx]
      have hW : (storeA ar (stA 1 ((i : Int) + 1)) 0).W = ar.W.set (2 * i + 2) 0 := by rw [storeA_W, st_st hw hi hn]
      obtain ⟨g1, g2⟩ := h.outside (p' := { p with pc := 3 }) hi hQ (W' := ar.W.set (2 * i + 2) 0) (by simp [hw]) (by rw [tlv_set _ _ _ (by omega), if_neg (by omega)]) (fun j hj => by rw [nxv_set _ _ _ _ (by omega), if_neg (by omega)]) (fun j hj => by rw [sgv_set _ _ _ _ (by omega), if_neg (by omega)]) ⟨⟨by show (0 : Int) ≤ 3; decide, by show (3 : Int) ≤ 3; decide⟩, fun _ => by rw [nxv_set _ _ _ _ (by omega), if_neg (by omega)]; exact hr2 (by omega), fun _ => by rw [sgv_set _ _ _ _ (by omega), if_pos rfl]⟩
      exact stepQ_same (by rw [hW]; exact g1) (by rw [← hp, e]; decide) (fun h => absurd h.2 (by show ¬ (3 : Int) = 10; decide)) g2
    · have hx : stepP ar 1 ((i : Int) + 1) p = (swapA ar 1 ((i : Int) + 1), { p with a := tlv ar.W, pc := if tlv ar.W = 0 then 6 else 4 }) := by
        unfold stepP inR26
        rw [if_pos (by rw [e]; decide), if_neg (by rw [e]; decide), if_neg (by rw [e]; decide), if_pos e, ld_tl hw]
      rw [hx]
      have hW : (swapA ar 1 ((i : Int) + 1)).W = ar.W.set 0 ((i : Int) + 1) := by rw [swapA_W, st_tl hw]
      obtain ⟨g1, g2⟩ := h.come (p' := { p with a := tlv ar.W, pc := if tlv ar.W = 0 then 6 else 4 }) hi (by rw [← hp]; exact e) (W' := ar.W.set 0 ((i : Int) + 1)) (by simp [hw]) (by rw [tlv_set _ _ _ (by omega), if_pos rfl]) (fun j => by rw [nxv_set _ _ _ _ (by omega), if_neg (by omega)]) (fun j => by rw [sgv_set _ _ _ _ (by omega), if_neg (by omega)]) ⟨rfl, rfl⟩
      refine ⟨Q ++ [i], by rw [hW]; exact g1, fun D H hD => ?_⟩
      rw [← hp, if_pos e, if_neg (fun h => by
        have := h.2
        dsimp only at this
        split at this <;> (revert this; decide)), hD, g2, List.append_assoc]
end
end Go.Proofs.YtkdaiomjbkpedaaGreat
end
section
/- Layers 26, 27 (rung, hmcs): what a step of a slot comes to, case by case; the words by windows. Plain data. -/
namespace Go.Proofs.YtkdaiomjbkpedaaGreat
open Go.RowKit

structure RInv (n : Nat) (W : List Int) (S : List Sp) (Q : List Nat) : Prop extends QInv n W S Q where
  hd5 : ∀ h, Q[0]? = some h → (sv S h).pc = 5 → sgv W h ≠ 0
  hd13 : ∀ h, Q[0]? = some h → (sv S h).pc = 13 → 2 ≤ Q.length
/-- what a step of slot i comes to: p ahead of it, p' behind it -/
inductive RCase (W W' : List Int) (S : List Sp) (Q Q' : List Nat) (i : Nat) (p p' : Sp) : Prop where
  | walk (h : (p.pc = 1 ∨ p.pc = 2) ∧ p'.pc = p.pc + 1 ∧ Q' = Q)
  | come (h : p.pc = 3 ∧ Q' = Q ++ [i] ∧ ((p'.pc = 6 ∧ Q = []) ∨ (p'.pc = 4 ∧ Q ≠ [])))
  | link (h : p.pc = 4 ∧ p'.pc = 5 ∧ Q' = Q ∧ Q[0]? ≠ some i)
  | spin (h : p.pc = 5 ∧ p'.pc = 5 ∧ sgv W i = 0 ∧ Q' = Q ∧ Q[0]? ≠ some i)
  | told (h : p.pc = 5 ∧ p'.pc = 10 ∧ 0 < sgv W i ∧ p'.a = sgv W i ∧ p'.b = 0 ∧ Q' = Q ∧ Q[0]? = some i)
  | sent (h : p.pc = 5 ∧ p'.pc = 6 ∧ sgv W i < 0 ∧ Q' = Q ∧ Q[0]? = some i)
  | hold (h : p.pc = 6 ∧ p'.pc = 10 ∧ p'.a = 1 ∧ p'.b = 1 ∧ Q' = Q ∧ Q[0]? = some i)
  | out (h : 11 ≤ p.pc ∧ p.pc ≤ 13 ∧ p'.c = p.c ∧ Q' = Q ∧ Q[0]? = some i ∧ ((p.pc < p'.pc ∧ p'.pc ≤ 14) ∨ (p.pc = 13 ∧ p'.pc = 13 ∧ nxv W i = 0)))
  | free (h : p.pc = 12 ∧ p'.pc = 0 ∧ Q = [i] ∧ Q' = [])
  | give (s : Nat) (r : List Nat) (h : (p.pc = 14 ∨ p.pc = 16) ∧ p'.pc = 0 ∧ Q = i :: s :: r ∧ Q' = s :: r ∧ (sv S s).pc = 5 ∧ sgv W' s = p.c)
  | look (h : p.pc = 15 ∧ (p'.pc = 10 ∨ p'.pc = 16) ∧ p'.a = p.a ∧ p'.c = p.c ∧ Q' = Q ∧ Q[0]? = some i)
structure ROut (n : Nat) (W W' : List Int) (S : List Sp) (Q Q' : List Nat) (i : Nat) (p p' : Sp) : Prop where
  inv : RInv n W' (S.set i p') Q'
  st : ∀ j, j ≠ i → (p.pc = 14 ∨ p.pc = 16 → Q'[0]? ≠ some j) → sgv W' j = sgv W j
  nx : ∀ j, j ≠ i → nxv W j ≠ 0 → nxv W' j ≠ 0
  case_ : RCase W W' S Q Q' i p p'
section
variable {n : Nat} {ar : Ar} {S : List Sp} {Q : List Nat} {i : Nat}
/-- the head stays the head, and is not told anew -/
theorem RInv.same {W W' : List Int} {p p' : Sp} (k : RInv n W S Q) (hp : sv S i = p) (hi : i < n) (h : QInv n W' (S.set i p') Q) (hs : ∀ j, j ≠ i → sgv W' j = sgv W j) (h5 : p'.pc = 5 → Q[0]? = some i → sgv W' i ≠ 0) (h13 : p'.pc = 13 → Q[0]? = some i → 2 ≤ Q.length) : RInv n W' (S.set i p') Q := by
  refine ⟨h, fun a ha h5' => ?_, fun a ha h13' => ?_⟩
  by_cases e : a = i
  · subst e
    rw [sv_self S (by rw [k.sl]; exact hi)] at h5'
    exact h5 h5' ha
  · rw [sv_set, if_neg (fun h => e h.1.symm)] at h5'
    rw [hs a e]
    exact k.hd5 a ha h5'
  · by_cases e : a = i
    · subst e
      rw [sv_self S (by rw [k.sl]; exact hi)] at h13'
      exact h13 h13' ha
    · rw [sv_set, if_neg (fun h => e h.1.symm)] at h13'
      exact k.hd13 a ha h13'
theorem rungStep (k : RInv n ar.W S Q) (hn : n ≤ 32) (hi : i < n) (h0 : (sv S i).pc ≠ 0) (h10 : (sv S i).pc ≠ 10) (hc : (sv S i).pc = 14 ∨ (sv S i).pc = 16 → (sv S i).c ≠ 0) :
    ∃ Q', ROut n ar.W (stepP ar 1 ((i : Int) + 1) (sv S i)).1.W S Q Q' i (sv S i) (stepP ar 1 ((i : Int) + 1) (sv S i)).2 := by
  have h := k.toQInv
  have hw := h.wl
  have hsl : i < S.length := by rw [h.sl]; exact hi
  obtain ⟨p, hp⟩ : ∃ p, p = sv S i := ⟨_, rfl⟩
  rw [← hp]
  rw [← hp] at h0 h10 hc
  have same : ∀ (W' : List Int) (p' : Sp), QInv n W' (S.set i p') Q → (∀ j, j ≠ i → sgv W' j = sgv ar.W j) → (p'.pc = 5 → Q[0]? = some i → sgv W' i ≠ 0) → RCase ar.W W' S Q Q i p p' → (p'.pc = 13 → Q[0]? = some i → 2 ≤ Q.length) → (∀ j, j ≠ i → nxv ar.W j ≠ 0 → nxv W' j ≠ 0) → ROut n ar.W W' S Q Q i p p' := fun W' p' h1 h2 h3 h4 h5 h6 =>
    ⟨k.same hp.symm hi h1 h2 h3 h5, fun j hj _ => h2 j hj, h6, h4⟩
  by_cases hQ : i ∈ Q
  · rcases h.inq hQ with ⟨hd, hpc⟩ | ⟨kk, a, ha, hk, hsg, hpc⟩
    · rw [← hp] at hpc
      obtain ⟨t, ht⟩ := headQ hd
      have hcase : p.pc = 5 ∨ p.pc = 6 ∨ p.pc = 11 ∨ p.pc = 12 ∨ p.pc = 13 ∨ p.pc = 14 ∨ p.pc = 15 ∨ p.pc = 16 := by omega
      have hhead := h.head i hd
      rw [← hp] at hhead
      have pop : ∀ s : Nat, Q[1]? = some s → (sv S s).pc = 5 → p.c ≠ 0 → s < n → (p.pc = 14 ∨ p.pc = 16) → ROut n ar.W (ar.W.set (2 * s + 2) p.c) S Q Q.tail i p { p with pc := 0 } := fun s q1 q3 hc0 hs hpp => by
        obtain ⟨g1, g2⟩ := h.pop (p' := { p with pc := 0 }) hd q1 q3 (W' := ar.W.set (2 * s + 2) p.c) (by simp [hw]) (by rw [tlv_set _ _ _ (by omega), if_neg (by omega)]) (fun j => by rw [nxv_set _ _ _ _ (by omega), if_neg (by omega)]) (fun j hj => by rw [sgv_set _ _ _ _ (by omega), if_neg (by omega)]) rfl
        obtain ⟨r, hr⟩ : ∃ r, Q = i :: s :: r := by
          rw [ht] at q1
          cases t with
          | nil => simp at q1
          | cons b r => simp at q1; subst q1; exact ⟨r, ht⟩
        have hsv : sgv (ar.W.set (2 * s + 2) p.c) s = p.c := by rw [sgv_set _ _ _ _ (by omega), if_pos rfl]
        refine ⟨⟨g1, fun b hb _ => ?_, fun b hb hb13 => ?_⟩, fun j hj hjj => ?_, fun j _ hj => by rw [nxv_set _ _ _ _ (by omega), if_neg (by omega)]; exact hj, .give s r ⟨hpp, rfl, hr, by rw [hr]; rfl, q3, hsv⟩⟩
        · rw [hr] at hb
          obtain rfl : s = b := by simpa using hb
          rw [hsv]; exact hc0
        · rw [hr] at hb
          obtain rfl : s = b := by simpa using hb
          have hsi : s ≠ i := fun e => by
            have hnd := h.nd
            rw [hr, e] at hnd
            simp at hnd
          rw [sv_set, if_neg (fun h => hsi h.1.symm)] at hb13
          omega
        · have : j ≠ s := fun e => hjj hpp (by rw [hr, e]; rfl)
          rw [sgv_set _ _ _ _ (by omega), if_neg (by omega)]
      rcases hcase with e | e | e | e | e | e | e | e
      · have hx : stepP ar 1 ((i : Int) + 1) p = (loadA ar (stA 1 ((i : Int) + 1)), if 0 < sgv ar.W i then { p with a := sgv ar.W i, b := 0, pc := 10 } else if sgv ar.W i < 0 then { p with a := sgv ar.W i, pc := 6 } else { p with a := sgv ar.W i, pc := 5 }) := by
          unfold stepP inR26
          rw [if_pos (by rw [e]; decide), if_neg (by rw [e]; decide), if_neg (by rw [e]; decide), if_neg (by rw [e]; decide), if_neg (by rw [e]; decide), if_pos e, ld_st hw hi hn]
        rw [hx, loadA_W]
        have hne := k.hd5 i hd (by rw [← hp]; exact e)
        refine ⟨Q, ?_⟩
        by_cases hv : 0 < sgv ar.W i
        · rw [if_pos hv]
          exact same _ _ (h.headOnly hd hw rfl (fun _ => rfl) (fun _ _ => rfl) ⟨.inr (.inr ⟨by show (10 : Int) ≤ 10; omega, by show (10 : Int) ≤ 16; omega⟩), fun e => absurd e (by show ¬ (10 : Int) = 14; decide), fun e => absurd e (by show ¬ (10 : Int) = 16; decide)⟩) (fun _ _ => rfl) (fun e => absurd e (by show ¬ (10 : Int) = 5; decide)) (.told ⟨e, rfl, hv, rfl, rfl, rfl, hd⟩) (fun e => by simp at e) (fun _ _ h => h)
        · rw [if_neg hv, if_pos (by omega)]
          exact same _ _ (h.headOnly hd hw rfl (fun _ => rfl) (fun _ _ => rfl) ⟨.inr (.inl rfl), fun e => absurd e (by show ¬ (6 : Int) = 14; decide), fun e => absurd e (by show ¬ (6 : Int) = 16; decide)⟩) (fun _ _ => rfl) (fun e => absurd e (by show ¬ (6 : Int) = 5; decide)) (.sent ⟨e, rfl, by omega, rfl, hd⟩) (fun e => by simp at e) (fun _ _ h => h)
      · have hx : stepP ar 1 ((i : Int) + 1) p = (storeA ar (stA 1 ((i : Int) + 1)) 1, { p with a := 1, b := 1, pc := 10 }) := by
          unfold stepP inR26
          rw [if_pos (by rw [e]; decide), if_neg (by rw [e]; decide), if_neg (by rw [e]; decide), if_neg (by rw [e]; decide), if_neg (by rw [e]; decide), if_neg (by rw [e]; decide)]
        rw [hx]
        have hW : (storeA ar (stA 1 ((i : Int) + 1)) 1).W = ar.W.set (2 * i + 2) 1 := by rw [storeA_W, st_st hw hi hn]
        rw [hW]
        have hsg : ∀ j, j ≠ i → sgv (ar.W.set (2 * i + 2) 1) j = sgv ar.W j := fun j hj => by rw [sgv_set _ _ _ _ (by omega), if_neg (by omega)]
        exact ⟨Q, same _ _ (h.headOnly hd (by simp [hw]) (by rw [tlv_set _ _ _ (by omega), if_neg (by omega)]) (fun j => by rw [nxv_set _ _ _ _ (by omega), if_neg (by omega)]) hsg ⟨.inr (.inr ⟨by show (10 : Int) ≤ 10; omega, by show (10 : Int) ≤ 16; omega⟩), fun e => absurd e (by show ¬ (10 : Int) = 14; decide), fun e => absurd e (by show ¬ (10 : Int) = 16; decide)⟩) hsg (fun e => absurd e (by show ¬ (10 : Int) = 5; decide)) (.hold ⟨e, rfl, rfl, rfl, rfl, hd⟩) (fun e => by simp at e) (fun j _ h => by rw [nxv_set _ _ _ _ (by omega), if_neg (by omega)]; exact h)⟩
      · have hx : stepP ar 1 ((i : Int) + 1) p = (loadA ar (nxA 1 ((i : Int) + 1)), { p with a := nxv ar.W i, pc := if nxv ar.W i ≠ 0 then 14 else 12 }) := by
          unfold stepP outR26
          rw [if_neg (by rw [e]; decide), if_neg (by rw [e]; decide), if_neg (by rw [e]; decide), if_neg (by rw [e]; decide), if_neg (by rw [e]; decide), ld_nx hw hi hn]
          simp [e]
        rw [hx, loadA_W]
        refine ⟨Q, ?_⟩
        by_cases hz : nxv ar.W i = 0
        · rw [if_neg (fun h => h hz)]
          exact same _ _ (h.headOnly hd hw rfl (fun _ => rfl) (fun _ _ => rfl) ⟨.inr (.inr ⟨by show (10 : Int) ≤ 12; omega, by show (12 : Int) ≤ 16; omega⟩), fun e => absurd e (by show ¬ (12 : Int) = 14; decide), fun e => absurd e (by show ¬ (12 : Int) = 16; decide)⟩) (fun _ _ => rfl) (fun e => absurd e (by show ¬ (12 : Int) = 5; decide)) (.out ⟨by omega, by omega, rfl, rfl, hd, .inl ⟨by show p.pc < 12; omega, by show (12 : Int) ≤ 14; decide⟩⟩) (fun e => by simp at e) (fun _ _ h => h)
        · rw [if_pos hz]
          exact same _ _ (h.headOnly hd hw rfl (fun _ => rfl) (fun _ _ => rfl) ⟨.inr (.inr ⟨by show (10 : Int) ≤ 14; omega, by show (14 : Int) ≤ 16; omega⟩), fun _ => h.second hd hz, fun e => absurd e (by show ¬ (14 : Int) = 16; decide)⟩) (fun _ _ => rfl) (fun e => absurd e (by show ¬ (14 : Int) = 5; decide)) (.out ⟨by omega, by omega, rfl, rfl, hd, .inl ⟨by show p.pc < 14; omega, by show (14 : Int) ≤ 14; decide⟩⟩) (fun e => by simp at e) (fun _ _ h => h)
      · have hcb0 : casB ar 1 ((i : Int) + 1) = decide (tlv ar.W = (i : Int) + 1) := by
          unfold casB
          rw [ld_tl hw]
          have : inR ar.W 1 = true := decide_eq_true (by omega)
          rw [this, Bool.true_and]
        have hx : stepP ar 1 ((i : Int) + 1) p = (casA ar 1 ((i : Int) + 1) 0, { p with pc := if casB ar 1 ((i : Int) + 1) then 0 else 13 }) := by
          unfold stepP outR26
          rw [if_neg (by rw [e]; decide), if_pos e]
        rw [hx]
        by_cases hl : tlv ar.W = (i : Int) + 1
        · have hcb : casB ar 1 ((i : Int) + 1) = true := by rw [hcb0]; exact decide_eq_true hl
          have hW : (casA ar 1 ((i : Int) + 1) 0).W = ar.W.set 0 0 := by
            unfold casA
            rw [hcb, if_pos rfl]
            show stW (noteA ar 4 1 true).W 1 0 = _
            rw [noteA_W, st_tl hw]
          have hQ1 : Q = [i] := h.alone hd hl
          rw [hcb, hW]
          subst hQ1
          have hsg : ∀ j, sgv (ar.W.set 0 0) j = sgv ar.W j := fun j => by rw [sgv_set _ _ _ _ (by omega), if_neg (by omega)]
          exact ⟨[], ⟨⟨h.gone (by simp [hw]) (by rw [tlv_set _ _ _ (by omega), if_pos rfl]) (fun j => by rw [nxv_set _ _ _ _ (by omega), if_neg (by omega)]) hsg rfl, fun a ha => by simp at ha, fun a ha => by simp at ha⟩, fun j _ _ => hsg j, fun j _ hj => by rw [nxv_set _ _ _ _ (by omega), if_neg (by omega)]; exact hj, .free ⟨e, rfl, rfl, rfl⟩⟩⟩
        · have hcb : casB ar 1 ((i : Int) + 1) = false := by rw [hcb0]; exact decide_eq_false hl
          have hW : (casA ar 1 ((i : Int) + 1) 0).W = ar.W := by
            unfold casA
            rw [hcb]
            exact noteA_W _ _ _ _
          rw [hcb, hW]
          exact ⟨Q, same _ _ (h.headOnly hd hw rfl (fun _ => rfl) (fun _ _ => rfl) ⟨.inr (.inr (by show (10 : Int) ≤ 13 ∧ (13 : Int) ≤ 16; decide)), fun e => absurd e (by show ¬ (13 : Int) = 14; decide), fun e => absurd e (by show ¬ (13 : Int) = 16; decide)⟩) (fun _ _ => rfl) (fun e => absurd e (by show ¬ (13 : Int) = 5; decide)) (.out ⟨by omega, by omega, rfl, rfl, hd, .inl ⟨by show p.pc < 13; omega, by show (13 : Int) ≤ 14; decide⟩⟩) (fun _ _ => by
            cases t with
            | nil => exact absurd (by rw [h.tail, ht]; rfl) hl
            | cons a l => rw [ht]; simp) (fun _ _ h => h)⟩
      · have hx : stepP ar 1 ((i : Int) + 1) p = (loadA ar (nxA 1 ((i : Int) + 1)), { p with a := nxv ar.W i, pc := if nxv ar.W i ≠ 0 then 14 else 13 }) := by
          unfold stepP outR26
          rw [if_neg (by rw [e]; decide), if_neg (by rw [e]; decide), if_neg (by rw [e]; decide), if_neg (by rw [e]; decide), if_neg (by rw [e]; decide), ld_nx hw hi hn]
          simp [e]
        rw [hx, loadA_W]
        refine ⟨Q, ?_⟩
        by_cases hz : nxv ar.W i = 0
        · rw [if_neg (fun h => h hz)]
          exact same _ _ (h.headOnly hd hw rfl (fun _ => rfl) (fun _ _ => rfl) ⟨.inr (.inr ⟨by show (10 : Int) ≤ 13; omega, by show (13 : Int) ≤ 16; omega⟩), fun e => absurd e (by show ¬ (13 : Int) = 14; decide), fun e => absurd e (by show ¬ (13 : Int) = 16; decide)⟩) (fun _ _ => rfl) (fun e => absurd e (by show ¬ (13 : Int) = 5; decide)) (.out ⟨by omega, by omega, rfl, rfl, hd, .inr ⟨e, rfl, hz⟩⟩) (fun _ hq => k.hd13 i hq (by rw [← hp]; exact e)) (fun _ _ h => h)
        · rw [if_pos hz]
          exact same _ _ (h.headOnly hd hw rfl (fun _ => rfl) (fun _ _ => rfl) ⟨.inr (.inr ⟨by show (10 : Int) ≤ 14; omega, by show (14 : Int) ≤ 16; omega⟩), fun _ => h.second hd hz, fun e => absurd e (by show ¬ (14 : Int) = 16; decide)⟩) (fun _ _ => rfl) (fun e => absurd e (by show ¬ (14 : Int) = 5; decide)) (.out ⟨by omega, by omega, rfl, rfl, hd, .inl ⟨by show p.pc < 14; omega, by show (14 : Int) ≤ 14; decide⟩⟩) (fun e => by simp at e) (fun _ _ h => h)
      · obtain ⟨s, q1, q2, q3⟩ := hhead.2.1 e
        have hs : s < n := h.lt s (List.mem_of_getElem? q1)
        have hx : stepP ar 1 ((i : Int) + 1) p = (storeA ar (stA 1 ((s : Int) + 1)) p.c, { p with pc := 0 }) := by
          unfold stepP outR26
          rw [if_neg (by rw [e]; decide), if_neg (by rw [e]; decide), if_pos e, q2]
        rw [hx]
        have hW : (storeA ar (stA 1 ((s : Int) + 1)) p.c).W = ar.W.set (2 * s + 2) p.c := by rw [storeA_W, st_st hw hs hn]
        rw [hW]
        exact ⟨Q.tail, pop s q1 q3 (hc (.inl e)) hs (.inl e)⟩
      · have hx : stepP ar 1 ((i : Int) + 1) p = (loadA ar (nxA 1 ((i : Int) + 1)), { p with b := nxv ar.W i, pc := if nxv ar.W i = 0 then 10 else 16 }) := by
          unfold stepP outR26
          rw [if_neg (by rw [e]; decide), if_neg (by rw [e]; decide), if_neg (by rw [e]; decide), if_pos e, ld_nx hw hi hn]
        rw [hx, loadA_W]
        refine ⟨Q, ?_⟩
        by_cases hz : nxv ar.W i = 0
        · rw [if_pos hz]
          exact same _ _ (h.headOnly hd hw rfl (fun _ => rfl) (fun _ _ => rfl) ⟨.inr (.inr ⟨by show (10 : Int) ≤ 10; omega, by show (10 : Int) ≤ 16; omega⟩), fun e => absurd e (by show ¬ (10 : Int) = 14; decide), fun e => absurd e (by show ¬ (10 : Int) = 16; decide)⟩) (fun _ _ => rfl) (fun e => absurd e (by show ¬ (10 : Int) = 5; decide)) (.look ⟨e, .inl rfl, rfl, rfl, rfl, hd⟩) (fun e => by simp at e) (fun _ _ h => h)
        · rw [if_neg hz]
          exact same _ _ (h.headOnly hd hw rfl (fun _ => rfl) (fun _ _ => rfl) ⟨.inr (.inr ⟨by show (10 : Int) ≤ 16; omega, by show (16 : Int) ≤ 16; omega⟩), fun e => absurd e (by show ¬ (16 : Int) = 14; decide), fun _ => h.second hd hz⟩) (fun _ _ => rfl) (fun e => absurd e (by show ¬ (16 : Int) = 5; decide)) (.look ⟨e, .inr rfl, rfl, rfl, rfl, hd⟩) (fun e => by simp at e) (fun _ _ h => h)
      · obtain ⟨s, q1, q2, q3⟩ := hhead.2.2 e
        have hs : s < n := h.lt s (List.mem_of_getElem? q1)
        have hx : stepP ar 1 ((i : Int) + 1) p = (storeA ar (stA 1 ((s : Int) + 1)) p.c, { p with pc := 0 }) := by
          unfold stepP outR26
          rw [if_neg (by rw [e]; decide), if_neg (by rw [e]; decide), if_neg (by rw [e]; decide), if_neg (by rw [e]; decide), if_pos e, q2]
        rw [hx]
        have hW : (storeA ar (stA 1 ((s : Int) + 1)) p.c).W = ar.W.set (2 * s + 2) p.c := by rw [storeA_W, st_st hw hs hn]
        rw [hW]
        exact ⟨Q.tail, pop s q1 q3 (hc (.inr e)) hs (.inr e)⟩
    · rw [← hp] at hpc
      have han : a < n := h.lt a (List.mem_of_getElem? ha)
      have hnh : Q[0]? ≠ some i := fun e => by have := nodup_idx h.nd hk e; omega
      rcases hpc with ⟨e, ea, hz⟩ | ⟨e, hz⟩
      · have hx : stepP ar 1 ((i : Int) + 1) p = (storeA ar (nxA 1 ((a : Int) + 1)) ((i : Int) + 1), { p with pc := 5 }) := by
          unfold stepP inR26
          rw [if_pos (by rw [e]; decide), if_neg (by rw [e]; decide), if_neg (by rw [e]; decide), if_neg (by rw [e]; decide), if_pos e, ea]
        rw [hx]
        have hW : (storeA ar (nxA 1 ((a : Int) + 1)) ((i : Int) + 1)).W = ar.W.set (2 * a + 1) ((i : Int) + 1) := by rw [storeA_W, st_nx hw han hn]
        rw [hW]
        have hsg2 : ∀ j, sgv (ar.W.set (2 * a + 1) ((i : Int) + 1)) j = sgv ar.W j := fun j => by rw [sgv_set _ _ _ _ (by omega), if_neg (by omega)]
        exact ⟨Q, same _ _ (h.behind ha hk (by simp [hw]) (by rw [tlv_set _ _ _ (by omega), if_neg (by omega)]) (fun j hj => by rw [nxv_set _ _ _ _ (by omega), if_neg (by omega)]) hsg2 ⟨rfl, by rw [nxv_set _ _ _ _ (by omega), if_pos rfl]⟩) (fun j _ => hsg2 j) (fun _ e => absurd e hnh) (.link ⟨e, rfl, rfl, hnh⟩) (fun e => by simp at e) (fun j _ hj => by
          by_cases ej : j = a
          · subst ej; rw [nxv_set _ _ _ _ (by omega), if_pos rfl]; omega
          · rw [nxv_set _ _ _ _ (by omega), if_neg (by omega)]; exact hj)⟩
      · have hx : stepP ar 1 ((i : Int) + 1) p = (loadA ar (stA 1 ((i : Int) + 1)), { p with a := sgv ar.W i, pc := 5 }) := by
          unfold stepP inR26
          rw [if_pos (by rw [e]; decide), if_neg (by rw [e]; decide), if_neg (by rw [e]; decide), if_neg (by rw [e]; decide), if_neg (by rw [e]; decide), if_pos e, ld_st hw hi hn, hsg]
          rfl
        rw [hx, loadA_W]
        exact ⟨Q, same _ _ (h.behind ha hk hw rfl (fun _ _ => rfl) (fun _ => rfl) ⟨rfl, hz⟩) (fun _ _ => rfl) (fun _ e => absurd e hnh) (.spin ⟨e, rfl, hsg, rfl, hnh⟩) (fun e => by simp at e) (fun _ _ h => h)⟩
  · obtain ⟨hr, hr2, hr3⟩ := h.out i hi hQ
    rw [← hp] at hr hr2 hr3
    have hnh : Q[0]? ≠ some i := fun e => hQ (List.mem_of_getElem? e)
    rcases (show p.pc = 1 ∨ p.pc = 2 ∨ p.pc = 3 by omega) with e | e | e
    · have hx : stepP ar 1 ((i : Int) + 1) p = (storeA ar (nxA 1 ((i : Int) + 1)) 0, { p with pc := 2 }) := by
        unfold stepP inR26
        rw [if_pos (by rw [e]; decide), if_pos e]
      rw [hx]
      have hW : (storeA ar (nxA 1 ((i : Int) + 1)) 0).W = ar.W.set (2 * i + 1) 0 := by rw [storeA_W, st_nx hw hi hn]
      rw [hW]
      have hsg2 : ∀ j, j ≠ i → sgv (ar.W.set (2 * i + 1) 0) j = sgv ar.W j := fun j _ => by rw [sgv_set _ _ _ _ (by omega), if_neg (by omega)]
      obtain ⟨g1, g2⟩ := h.outside (p' := { p with pc := 2 }) hi hQ (W' := ar.W.set (2 * i + 1) 0) (by simp [hw]) (by rw [tlv_set _ _ _ (by omega), if_neg (by omega)]) (fun j hj => by rw [nxv_set _ _ _ _ (by omega), if_neg (by omega)]) hsg2 ⟨⟨by show (0 : Int) ≤ 2; decide, by show (2 : Int) ≤ 3; decide⟩, fun _ => by rw [nxv_set _ _ _ _ (by omega), if_pos rfl], fun e => absurd e (by show ¬ (2 : Int) = 3; decide)⟩
      exact ⟨Q, same _ _ g1 hsg2 (fun _ e => absurd e hnh) (.walk ⟨.inl e, by show (2 : Int) = p.pc + 1; omega, rfl⟩) (fun e => by simp at e) (fun j hj h => by rw [nxv_set _ _ _ _ (by omega), if_neg (by omega)]; exact h)⟩
    · have hx : stepP ar 1 ((i : Int) + 1) p = (storeA ar (stA 1 ((i : Int) + 1)) 0, { p with pc := 3 }) := by
        unfold stepP inR26
        rw [if_pos (by rw [e]; decide), if_neg (by rw [e]; decide), if_pos e]
      rw [hx]
      have hW : (storeA ar (stA 1 ((i : Int) + 1)) 0).W = ar.W.set (2 * i + 2) 0 := by rw [storeA_W, st_st hw hi hn]
      rw [hW]
      have hsg2 : ∀ j, j ≠ i → sgv (ar.W.set (2 * i + 2) 0) j = sgv ar.W j := fun j hj => by rw [sgv_set _ _ _ _ (by omega), if_neg (by omega)]
      obtain ⟨g1, g2⟩ := h.outside (p' := { p with pc := 3 }) hi hQ (W' := ar.W.set (2 * i + 2) 0) (by simp [hw]) (by rw [tlv_set _ _ _ (by omega), if_neg (by omega)]) (fun j hj => by rw [nxv_set _ _ _ _ (by omega), if_neg (by omega)]) hsg2 ⟨⟨by show (0 : Int) ≤ 3; decide, by show (3 : Int) ≤ 3; decide⟩, fun _ => by rw [nxv_set _ _ _ _ (by omega), if_neg (by omega)]; exact hr2 (by omega), fun _ => by rw [sgv_set _ _ _ _ (by omega), if_pos rfl]⟩
      exact ⟨Q, same _ _ g1 hsg2 (fun _ e => absurd e hnh) (.walk ⟨.inr e, by show (3 : Int) = p.pc + 1; omega, rfl⟩) (fun e => by simp at e) (fun j hj h => by rw [nxv_set _ _ _ _ (by omega), if_neg (by omega)]; exact h)⟩
    · have hx : stepP ar 1 ((i : Int) + 1) p = (swapA ar 1 ((i : Int) + 1), { p with a := tlv ar.W, pc := if tlv ar.W = 0 then 6 else 4 }) := by
        unfold stepP inR26
        rw [if_pos (by rw [e]; decide), if_neg (by rw [e]; decide), if_neg (by rw [e]; decide), if_pos e, ld_tl hw]
      rw [hx]
      have hW : (swapA ar 1 ((i : Int) + 1)).W = ar.W.set 0 ((i : Int) + 1) := by rw [swapA_W, st_tl hw]
      rw [hW]
      have hsg2 : ∀ j, sgv (ar.W.set 0 ((i : Int) + 1)) j = sgv ar.W j := fun j => by rw [sgv_set _ _ _ _ (by omega), if_neg (by omega)]
      obtain ⟨g1, _⟩ := h.come (p' := { p with a := tlv ar.W, pc := if tlv ar.W = 0 then 6 else 4 }) hi (by rw [← hp]; exact e) (W' := ar.W.set 0 ((i : Int) + 1)) (by simp [hw]) (by rw [tlv_set _ _ _ (by omega), if_pos rfl]) (fun j => by rw [nxv_set _ _ _ _ (by omega), if_neg (by omega)]) hsg2 ⟨rfl, rfl⟩
      have hq0 : tlv ar.W = 0 ↔ Q = [] := by
        rw [h.tail]
        unfold lastW
        constructor
        · intro hh
          cases hg : Q.getLast? with
          | none => simpa using hg
          | some j => rw [hg] at hh; dsimp only at hh; omega
        · intro hh; rw [hh]; rfl
      refine ⟨Q ++ [i], ⟨g1, fun b hb hb5 => ?_, fun b hb hb13 => ?_⟩, fun j _ _ => hsg2 j, fun j _ hj => by rw [nxv_set _ _ _ _ (by omega), if_neg (by omega)]; exact hj, ?_⟩
      · by_cases eb : b = i
        · subst eb
          rw [sv_self S hsl] at hb5
          dsimp only at hb5
          split at hb5 <;> exact absurd hb5 (by decide)
        · rw [sv_set, if_neg (fun h => eb h.1.symm)] at hb5
          rw [hsg2]
          refine k.hd5 b ?_ hb5
          cases Q with
          | nil => simp at hb; exact absurd hb.symm eb
          | cons c r => simpa using hb
      · by_cases eb : b = i
        · subst eb
          rw [sv_self S hsl] at hb13
          dsimp only at hb13
          split at hb13 <;> exact absurd hb13 (by decide)
        · rw [sv_set, if_neg (fun h => eb h.1.symm)] at hb13
          have := k.hd13 b (by
            cases Q with
            | nil => simp at hb; exact absurd hb.symm eb
            | cons c r => simpa using hb) hb13
          simp only [List.length_append, List.length_singleton]; omega
      · by_cases hz : Q = []
        · exact .come ⟨e, rfl, .inl ⟨by show (if tlv ar.W = 0 then (6 : Int) else 4) = 6; rw [if_pos (hq0.2 hz)], hz⟩⟩
        · exact .come ⟨e, rfl, .inr ⟨by show (if tlv ar.W = 0 then (6 : Int) else 4) = 4; rw [if_neg (fun h => hz (hq0.1 h))], hz⟩⟩
theorem RInv.start (n : Nat) : RInv n (List.replicate (2 * n + 1) 0) (List.replicate n Sp.zero) [] := ⟨QInv.start n, fun h hh => by simp at hh, fun h hh => by simp at hh⟩
end
end Go.Proofs.YtkdaiomjbkpedaaGreat
end
section
/- Layers 26, 27: a rung's step on a window of the arena's words. Plain data. -/
namespace Go.Proofs.YtkdaiomjbkpedaaGreat
open Go.RowKit

def arW (W : List Int) : Ar := ⟨W, 0, 0, 0, 0, false⟩
section
variable {A W C : List Int} {n : Nat}
theorem inR_win {z : Int} (h1 : 1 ≤ z) (h2 : z ≤ W.length) : inR (A ++ W ++ C) (A.length + z) = true ∧ inR W z = true := by
  refine ⟨inR_true.2 ⟨by omega, ?_⟩, inR_true.2 ⟨h1, h2⟩⟩
  simp only [List.length_append]; omega
theorem ld_win {z : Int} (h1 : 1 ≤ z) (h2 : z ≤ W.length) : ldW (A ++ W ++ C) (A.length + z) = ldW W z := by
  obtain ⟨e1, e2⟩ := inR_win (A := A) (C := C) h1 h2
  rw [ldW_in e1, ldW_in e2, show ((A.length : Int) + z).toNat - 1 = A.length + (z.toNat - 1) by omega]
  rw [List.getD_eq_getElem?_getD, List.getD_eq_getElem?_getD, List.append_assoc, List.getElem?_append_right (by omega), Nat.add_sub_cancel_left, List.getElem?_append_left (by omega)]
theorem st_win {z : Int} (v : Int) (h1 : 1 ≤ z) (h2 : z ≤ W.length) : stW (A ++ W ++ C) (A.length + z) v = A ++ stW W z v ++ C := by
  obtain ⟨e1, e2⟩ := inR_win (A := A) (C := C) h1 h2
  unfold stW
  rw [if_pos e1, if_pos e2, show ((A.length : Int) + z).toNat - 1 = A.length + (z.toNat - 1) by omega]
  rw [List.append_assoc, List.set_append_right _ _ (by omega), Nat.add_sub_cancel_left, List.set_append_left _ _ (by omega), List.append_assoc]
theorem nxA_win {x : Int} (hx : 1 ≤ x ∧ x ≤ 32) (hA : A.length ≤ 5000) : nxA ((A.length : Int) + 1) x = A.length + 2 * x ∧ nxA 1 x = 2 * x := by unfold nxA wrap64; omega
theorem stA_win {x : Int} (hx : 1 ≤ x ∧ x ≤ 32) (hA : A.length ≤ 5000) : stA ((A.length : Int) + 1) x = A.length + (2 * x + 1) ∧ stA 1 x = 2 * x + 1 := by unfold stA wrap64; omega
theorem cas_win {s : Ar} (hs : s.W = A ++ W ++ C) {z old v : Int} (h1 : 1 ≤ z) (h2 : z ≤ W.length) : casB s (A.length + z) old = casB (arW W) z old ∧ (casA s (A.length + z) old v).W = A ++ (casA (arW W) z old v).W ++ C := by
  obtain ⟨e1, e2⟩ := inR_win (A := A) (C := C) h1 h2
  have hb : casB s (A.length + z) old = casB (arW W) z old := by
    unfold casB
    rw [hs, e1, ld_win h1 h2]
    show _ = (inR W z && decide (ldW W z = old))
    rw [e2]
  refine ⟨hb, ?_⟩
  rw [casA_W, casA_W, hb, hs]
  show (if casB (arW W) z old = true then stW (A ++ W ++ C) (A.length + z) v else A ++ W ++ C) = A ++ (if casB (arW W) z old = true then stW W z v else W) ++ C
  split
  · exact st_win v h1 h2
  · rfl
/-- a step on the arena is a step on the rung's own words -/
theorem stepP_win {s : Ar} (hs : s.W = A ++ W ++ C) (hW : W.length = 2 * n + 1) (hn : n ≤ 32) (hA : A.length ≤ 5000) {x : Int} (hx : 1 ≤ x ∧ x ≤ n) {p : Sp} (h4 : p.pc = 4 ∨ p.pc = 14 → 1 ≤ p.a ∧ p.a ≤ n) (h16 : p.pc = 16 → 1 ≤ p.b ∧ p.b ≤ n) :
    (stepP s ((A.length : Int) + 1) x p).1.W = A ++ (stepP (arW W) 1 x p).1.W ++ C ∧ (stepP s ((A.length : Int) + 1) x p).2 = (stepP (arW W) 1 x p).2 := by
  have nx : ∀ y : Int, 1 ≤ y → y ≤ n → (∀ v, stW (A ++ W ++ C) (nxA ((A.length : Int) + 1) y) v = A ++ stW W (nxA 1 y) v ++ C) ∧ ldW (A ++ W ++ C) (nxA ((A.length : Int) + 1) y) = ldW W (nxA 1 y) := fun y h1 h2 => by
    obtain ⟨e1, e2⟩ := nxA_win (x := y) (A := A) (by omega) hA
    rw [e1, e2]
    exact ⟨fun v => st_win v (by omega) (by omega), ld_win (by omega) (by omega)⟩
  have st : ∀ y : Int, 1 ≤ y → y ≤ n → (∀ v, stW (A ++ W ++ C) (stA ((A.length : Int) + 1) y) v = A ++ stW W (stA 1 y) v ++ C) ∧ ldW (A ++ W ++ C) (stA ((A.length : Int) + 1) y) = ldW W (stA 1 y) := fun y h1 h2 => by
    obtain ⟨e1, e2⟩ := stA_win (x := y) (A := A) (by omega) hA
    rw [e1, e2]
    exact ⟨fun v => st_win v (by omega) (by omega), ld_win (by omega) (by omega)⟩
  have tl := ld_win (A := A) (W := W) (C := C) (z := 1) (by omega) (by omega)
  have tst := fun v => st_win (A := A) (W := W) (C := C) (z := 1) v (by omega) (by omega)
  have tc := fun v => cas_win (s := s) hs (z := 1) (old := x) (v := v) (by omega) (by omega)
  obtain ⟨nx1, nx2⟩ := nx x hx.1 hx.2
  obtain ⟨st1, st2⟩ := st x hx.1 hx.2
  unfold stepP
  by_cases c10 : p.pc < 10
  · rw [if_pos c10, if_pos c10]
    unfold inR26
    by_cases c1 : p.pc = 1
    · simp only [if_pos c1, storeA_W, hs]; exact ⟨nx1 0, trivial⟩
    by_cases c2 : p.pc = 2
    · simp only [if_neg c1, if_pos c2, storeA_W, hs]; exact ⟨st1 0, trivial⟩
    by_cases c3 : p.pc = 3
    · simp only [if_neg c1, if_neg c2, if_pos c3, swapA_W, hs, tl]; exact ⟨tst x, rfl⟩
    by_cases c4 : p.pc = 4
    · obtain ⟨e1, e2⟩ := h4 (.inl c4)
      simp only [if_neg c1, if_neg c2, if_neg c3, if_pos c4, storeA_W, hs]; exact ⟨(nx p.a e1 e2).1 x, trivial⟩
    by_cases c5 : p.pc = 5
    · simp only [if_neg c1, if_neg c2, if_neg c3, if_neg c4, if_pos c5, loadA_W, hs, st2]; exact ⟨rfl, rfl⟩
    · simp only [if_neg c1, if_neg c2, if_neg c3, if_neg c4, if_neg c5, storeA_W, hs]; exact ⟨st1 1, trivial⟩
  · rw [if_neg c10, if_neg c10]
    unfold outR26
    by_cases c12 : p.pc = 12
    · simp only [if_pos c12, (tc 0).1, (tc 0).2]; exact ⟨trivial, trivial⟩
    by_cases c14 : p.pc = 14
    · obtain ⟨e1, e2⟩ := h4 (.inr c14)
      simp only [if_neg c12, if_pos c14, storeA_W, hs]; exact ⟨(st p.a e1 e2).1 p.c, trivial⟩
    by_cases c15 : p.pc = 15
    · simp only [if_neg c12, if_neg c14, if_pos c15, loadA_W, hs, nx2]; exact ⟨rfl, rfl⟩
    by_cases c16 : p.pc = 16
    · obtain ⟨e1, e2⟩ := h16 c16
      simp only [if_neg c12, if_neg c14, if_neg c15, if_pos c16, storeA_W, hs]; exact ⟨(st p.b e1 e2).1 p.c, trivial⟩
    · simp only [if_neg c12, if_neg c14, if_neg c15, if_neg c16, loadA_W, hs, nx2]; exact ⟨rfl, rfl⟩
/-- what a slot's step reads for a number is one of a slot -/
theorem QInv.reach {S : List Sp} {Q : List Nat} (k : QInv n W S Q) {i : Nat} (hi : i < n) : ((sv S i).pc = 4 ∨ (sv S i).pc = 14 → 1 ≤ (sv S i).a ∧ (sv S i).a ≤ n) ∧ ((sv S i).pc = 16 → 1 ≤ (sv S i).b ∧ (sv S i).b ≤ n) := by
  by_cases hQ : i ∈ Q
  · rcases k.inq hQ with ⟨hd, hpc⟩ | ⟨kk, a, ha, hk, hsg, hpc⟩
    · refine ⟨fun e => ?_, fun e => ?_⟩
      · rcases e with e | e
        · omega
        · obtain ⟨s, q1, q2, _⟩ := (k.head i hd).2.1 e
          have := k.lt s (List.mem_of_getElem? q1)
          omega
      · obtain ⟨s, q1, q2, _⟩ := (k.head i hd).2.2 e
        have := k.lt s (List.mem_of_getElem? q1)
        omega
    · have := k.lt a (List.mem_of_getElem? ha)
      refine ⟨fun e => ?_, fun e => ?_⟩ <;> omega
  · have := (k.out i hi hQ).1
    refine ⟨fun e => ?_, fun e => ?_⟩ <;> omega
end
end Go.Proofs.YtkdaiomjbkpedaaGreat
end
