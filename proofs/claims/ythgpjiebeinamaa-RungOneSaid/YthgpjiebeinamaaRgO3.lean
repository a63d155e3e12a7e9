/- Layer 26: a rung is a queue: any act. Plain data. -/
import Derived.Test.YthgpjiebeinamaaRgO2
namespace Go.Proofs.Ythgpjiebeinamaa
open Go.RowKit

theorem storeA_W (s : Ar) (x v : Int) : (storeA s x v).W = stW s.W x v := by unfold storeA wrA; show stW (noteA s 2 x true).W x v = _; rw [noteA_W]
theorem swapA_W (s : Ar) (x v : Int) : (swapA s x v).W = stW s.W x v := by unfold swapA wrA; show stW (noteA s 3 x true).W x v = _; rw [noteA_W]
theorem loadA_W (s : Ar) (x : Int) : (loadA s x).W = s.W := noteA_W _ _ _ _
def StepQ (n : Nat) (S : List Sp) (Q : List Nat) (i : Nat) (x : Ar × Sp) : Prop :=
  ∃ Q', QInv n x.1.W (S.set i x.2) Q' ∧ ∀ D H : List Nat, D = H ++ pend S Q → (if (sv S i).pc = 3 then D ++ [i] else D) = (if (sv S i).pc < 10 ∧ x.2.pc = 10 then H ++ [i] else H) ++ pend (S.set i x.2) Q'
section
variable {n : Nat} {ar : Ar} {S : List Sp} {Q : List Nat} {i : Nat}
/-- nobody comes, nobody holds, and the queue is as it was -/
theorem stepQ_same {x : Ar × Sp} (hq : QInv n x.1.W (S.set i x.2) Q) (h3 : (sv S i).pc ≠ 3) (hh : ¬ ((sv S i).pc < 10 ∧ x.2.pc = 10)) (hp : pend (S.set i x.2) Q = pend S Q) : StepQ n S Q i x :=
  ⟨Q, hq, fun D H h => by rw [if_neg h3, if_neg hh, hp]; exact h⟩
theorem pend_cons (S : List Sp) (a : Nat) (t : List Nat) : pend S (a :: t) = if 10 ≤ (sv S a).pc then t else a :: t := rfl
theorem sv_self (S : List Sp) {i : Nat} (hi : i < S.length) (p : Sp) : sv (S.set i p) i = p := by rw [sv_set, if_pos ⟨rfl, hi⟩]
theorem headQ (h : Q[0]? = some i) : ∃ t, Q = i :: t := by
  cases Q with
  | nil => simp at h
  | cons a t => simp at h; subst h; exact ⟨t, rfl⟩
/-- the head is as far as before: below 10 as below 10, from 10 on as from 10 on -/
theorem pend_keep (hs : S.length = n) (hi : Q[0]? = some i) (hin : i < n) {p' : Sp} (h : 10 ≤ p'.pc ↔ 10 ≤ (sv S i).pc) : pend (S.set i p') Q = pend S Q := by
  obtain ⟨t, rfl⟩ := headQ hi
  rw [pend_cons, pend_cons, sv_self S (by rw [hs]; exact hin)]
  simp only [h]
theorem pend_behind (h : QInv n ar.W S Q) {k : Nat} (hi : Q[k + 1]? = some i) (p' : Sp) : pend (S.set i p') Q = pend S Q := by
  match Q, h, hi with
  | a :: t, h, hi =>
    have : a ≠ i := fun e => by
      subst e
      have := nodup_idx h.nd hi (show (a :: t)[0]? = some a from rfl)
      omega
    have e : sv (S.set i p') a = sv S a := by rw [sv_set, if_neg (fun e => this e.1.symm)]
    rw [pend_cons, pend_cons, e]
theorem QInv.second (h : QInv n ar.W S Q) (hd : Q[0]? = some i) (hne : nxv ar.W i ≠ 0) : ∃ s : Nat, Q[1]? = some s ∧ nxv ar.W i = (s : Int) + 1 ∧ (sv S s).pc = 5 := by
  obtain ⟨t, rfl⟩ := headQ hd
  cases t with
  | nil => exact absurd (h.last i rfl) hne
  | cons s t =>
    rcases (h.link 0 i s rfl rfl).2 with ⟨_, _, hz⟩ | ⟨h5, hx⟩
    · exact absurd hz hne
    · exact ⟨s, rfl, hx, h5⟩
theorem QInv.alone (h : QInv n ar.W S Q) (hd : Q[0]? = some i) (hl : tlv ar.W = (i : Int) + 1) : Q = [i] := by
  obtain ⟨t, rfl⟩ := headQ hd
  cases t with
  | nil => rfl
  | cons s t =>
    have ht := h.tail
    unfold lastW at ht
    cases hg : (i :: s :: t).getLast? with
    | none => simp at hg
    | some j =>
      rw [hg] at ht
      dsimp only at ht
      have hji : j = i := by omega
      subst hji
      rw [List.getLast?_eq_getElem?] at hg
      have := nodup_idx h.nd hg (show (j :: s :: t)[0]? = some j from rfl)
      simp at this
theorem stepQ (h : QInv n ar.W S Q) (hn : n ≤ 32) (hi : i < n) (h0 : (sv S i).pc ≠ 0) (h10 : (sv S i).pc ≠ 10) : StepQ n S Q i (stepP ar 1 ((i : Int) + 1) (sv S i)) := by
  have hw := h.wl
  have hsl : i < S.length := by rw [h.sl]; exact hi
  obtain ⟨p, hp⟩ : ∃ p, p = sv S i := ⟨_, rfl⟩
  rw [← hp]
  rw [← hp] at h0 h10
  have hsx : ∀ v, (ar.W.set (2 * i + 1) v).length = 2 * n + 1 := fun v => by simp [hw]
  by_cases hQ : i ∈ Q
  · rcases h.inq hQ with ⟨hd, hpc⟩ | ⟨k, a, ha, hk, hsg, hpc⟩
    · rw [← hp] at hpc
      obtain ⟨t, ht⟩ := headQ hd
      have hcase : p.pc = 5 ∨ p.pc = 6 ∨ p.pc = 11 ∨ p.pc = 12 ∨ p.pc = 13 ∨ p.pc = 14 ∨ p.pc = 15 ∨ p.pc = 16 := by omega
      have hhead := h.head i hd
      rw [← hp] at hhead
      rcases hcase with e | e | e | e | e | e | e | e
      · -- 5: the head is told a value
        have hx : stepP ar 1 ((i : Int) + 1) p = (loadA ar (stA 1 ((i : Int) + 1)), if 0 < sgv ar.W i then { p with a := sgv ar.W i, b := 0, pc := 10 } else if sgv ar.W i < 0 then { p with a := sgv ar.W i, pc := 6 } else { p with a := sgv ar.W i, pc := 5 }) := by
          unfold stepP inR26
          rw [if_pos (by rw [e]; decide), if_neg (by rw [e]; decide), if_neg (by rw [e]; decide), if_neg (by rw [e]; decide), if_neg (by rw [e]; decide), if_pos e, ld_st hw hi hn]
        rw [hx]
        by_cases hv : 0 < sgv ar.W i
        · rw [if_pos hv]
          refine ⟨Q, h.headOnly hd (by rw [loadA_W]; exact hw) (by rw [loadA_W]) (fun _ => by rw [loadA_W]) (fun _ _ => by rw [loadA_W]) ⟨.inr (.inr ⟨by show (10 : Int) ≤ 10; omega, by show (10 : Int) ≤ 16; omega⟩), fun e => absurd e (by show ¬ (10 : Int) = 14; decide), fun e => absurd e (by show ¬ (10 : Int) = 16; decide)⟩, fun D H hD => ?_⟩
          rw [← hp, if_neg (by rw [e]; decide), if_pos ⟨by rw [e]; decide, rfl⟩, hD, ht, pend_cons, pend_cons, ← hp, if_neg (by rw [e]; decide), sv_self S hsl, if_pos (by show (10 : Int) ≤ 10; omega)]
          simp
        · rw [if_neg hv]
          by_cases hv2 : sgv ar.W i < 0
          · rw [if_pos hv2]
            refine stepQ_same (h.headOnly hd (by rw [loadA_W]; exact hw) (by rw [loadA_W]) (fun _ => by rw [loadA_W]) (fun _ _ => by rw [loadA_W]) ⟨.inr (.inl rfl), fun e => absurd e (by show ¬ (6 : Int) = 14; decide), fun e => absurd e (by show ¬ (6 : Int) = 16; decide)⟩) (by rw [← hp, e]; decide) (fun h => absurd h.2 (by show ¬ (6 : Int) = 10; decide)) (pend_keep h.sl hd hi (by rw [← hp, e]; show (10 : Int) ≤ 6 ↔ (10 : Int) ≤ 5; decide))
          · rw [if_neg hv2]
            refine stepQ_same (h.headOnly hd (by rw [loadA_W]; exact hw) (by rw [loadA_W]) (fun _ => by rw [loadA_W]) (fun _ _ => by rw [loadA_W]) ⟨.inl rfl, fun e => absurd e (by show ¬ (5 : Int) = 14; decide), fun e => absurd e (by show ¬ (5 : Int) = 16; decide)⟩) (by rw [← hp, e]; decide) (fun h => absurd h.2 (by show ¬ (5 : Int) = 10; decide)) (pend_keep h.sl hd hi (by rw [← hp, e]))
      · -- 6: the head holds
        have hx : stepP ar 1 ((i : Int) + 1) p = (storeA ar (stA 1 ((i : Int) + 1)) 1, { p with a := 1, b := 1, pc := 10 }) := by
          unfold stepP inR26
          rw [if_pos (by rw [e]; decide), if_neg (by rw [e]; decide), if_neg (by rw [e]; decide), if_neg (by rw [e]; decide), if_neg (by rw [e]; decide), if_neg (by rw [e]; decide)]
        rw [hx]
        have hW : (storeA ar (stA 1 ((i : Int) + 1)) 1).W = ar.W.set (2 * i + 2) 1 := by rw [storeA_W, st_st hw hi hn]
        refine ⟨Q, h.headOnly hd (by rw [hW]; simp [hw]) (by rw [hW, tlv_set _ _ _ (by omega), if_neg (by omega)]) (fun j => by rw [hW, nxv_set _ _ _ _ (by omega), if_neg (by omega)]) (fun j hj => by rw [hW, sgv_set _ _ _ _ (by omega), if_neg (by omega)]) ⟨.inr (.inr ⟨by show (10 : Int) ≤ 10; omega, by show (10 : Int) ≤ 16; omega⟩), fun e => absurd e (by show ¬ (10 : Int) = 14; decide), fun e => absurd e (by show ¬ (10 : Int) = 16; decide)⟩, fun D H hD => ?_⟩
        rw [← hp, if_neg (by rw [e]; decide), if_pos ⟨by rw [e]; decide, rfl⟩, hD, ht, pend_cons, pend_cons, ← hp, if_neg (by rw [e]; decide), sv_self S hsl, if_pos (by show (10 : Int) ≤ 10; omega)]
        simp
      · -- 11: is anybody behind?
        have hx : stepP ar 1 ((i : Int) + 1) p = (loadA ar (nxA 1 ((i : Int) + 1)), { p with a := nxv ar.W i, pc := if nxv ar.W i ≠ 0 then 14 else 12 }) := by
          unfold stepP outR26
          rw [if_neg (by rw [e]; decide), if_neg (by rw [e]; decide), if_neg (by rw [e]; decide), if_neg (by rw [e]; decide), if_neg (by rw [e]; decide), ld_nx hw hi hn]
          simp [e]
        rw [hx]
        refine stepQ_same (h.headOnly hd (by rw [loadA_W]; exact hw) (by rw [loadA_W]) (fun _ => by rw [loadA_W]) (fun _ _ => by rw [loadA_W]) ⟨.inr (.inr ?_), fun e14 => ?_, fun e16 => ?_⟩) (by rw [← hp, e]; decide) (fun h => by have := h.1; rw [← hp, e] at this; revert this; decide) (pend_keep h.sl hd hi ?_)
        · dsimp only; split <;> decide
        · dsimp only at e14
          have hne : nxv ar.W i ≠ 0 := by
            intro hz
            rw [hz] at e14
            revert e14; decide
          obtain ⟨s, q1, q2, q3⟩ := h.second hd hne
          exact ⟨s, q1, q2, q3⟩
        · dsimp only at e16
          split at e16 <;> exact absurd e16 (by decide)
        · rw [← hp, e]
          dsimp only
          split <;> decide
      · -- 12: was it the last one?
        have hc : casB ar 1 ((i : Int) + 1) = decide (tlv ar.W = (i : Int) + 1) := by
          unfold casB
          rw [ld_tl hw]
          have : inR ar.W 1 = true := decide_eq_true (by omega)
          rw [this, Bool.true_and]
        have hx : stepP ar 1 ((i : Int) + 1) p = (casA ar 1 ((i : Int) + 1) 0, { p with pc := if casB ar 1 ((i : Int) + 1) then 0 else 13 }) := by
          unfold stepP outR26
          rw [if_neg (by rw [e]; decide), if_pos e]
        rw [hx]
        by_cases hl : tlv ar.W = (i : Int) + 1
        · have hcb : casB ar 1 ((i : Int) + 1) = true := by rw [hc]; exact decide_eq_true hl
          have hW : (casA ar 1 ((i : Int) + 1) 0).W = ar.W.set 0 0 := by
            unfold casA
            rw [hcb, if_pos rfl]
            show stW (noteA ar 4 1 true).W 1 0 = _
            rw [noteA_W, st_tl hw]
          have hQ1 : Q = [i] := h.alone hd hl
          subst hQ1
          rw [hcb]
          refine ⟨[], h.gone (by rw [hW]; simp [hw]) (by rw [hW, tlv_set _ _ _ (by omega), if_pos rfl]) (fun j => by rw [hW, nxv_set _ _ _ _ (by omega), if_neg (by omega)]) (fun j => by rw [hW, sgv_set _ _ _ _ (by omega), if_neg (by omega)]) rfl, fun D H hD => ?_⟩
          rw [← hp, if_neg (by rw [e]; decide), if_neg (fun h => by have := h.1; rw [e] at this; revert this; decide), hD, pend_cons, ← hp, if_pos (by rw [e]; decide)]
          rfl
        · have hcb : casB ar 1 ((i : Int) + 1) = false := by rw [hc]; exact decide_eq_false hl
          have hW : (casA ar 1 ((i : Int) + 1) 0).W = ar.W := by
            unfold casA
            rw [hcb]
            exact noteA_W _ _ _ _
          rw [hcb]
          exact stepQ_same (h.headOnly hd (by rw [hW]; exact hw) (by rw [hW]) (fun _ => by rw [hW]) (fun _ _ => by rw [hW]) ⟨.inr (.inr (by show (10 : Int) ≤ 13 ∧ (13 : Int) ≤ 16; decide)), fun e => absurd e (by show ¬ (13 : Int) = 14; decide), fun e => absurd e (by show ¬ (13 : Int) = 16; decide)⟩) (by rw [← hp, e]; decide) (fun h => by have := h.1; rw [← hp, e] at this; revert this; decide) (pend_keep h.sl hd hi (by rw [← hp, e]; show (10 : Int) ≤ 13 ↔ (10 : Int) ≤ 12; decide))
      · -- 13: is anybody behind?
        have hx : stepP ar 1 ((i : Int) + 1) p = (loadA ar (nxA 1 ((i : Int) + 1)), { p with a := nxv ar.W i, pc := if nxv ar.W i ≠ 0 then 14 else 13 }) := by
          unfold stepP outR26
          rw [if_neg (by rw [e]; decide), if_neg (by rw [e]; decide), if_neg (by rw [e]; decide), if_neg (by rw [e]; decide), if_neg (by rw [e]; decide), ld_nx hw hi hn]
          simp [e]
        rw [hx]
        refine stepQ_same (h.headOnly hd (by rw [loadA_W]; exact hw) (by rw [loadA_W]) (fun _ => by rw [loadA_W]) (fun _ _ => by rw [loadA_W]) ⟨.inr (.inr ?_), fun e14 => ?_, fun e16 => ?_⟩) (by rw [← hp, e]; decide) (fun h => by have := h.1; rw [← hp, e] at this; revert this; decide) (pend_keep h.sl hd hi ?_)
        · dsimp only; split <;> decide
        · dsimp only at e14
          have hne : nxv ar.W i ≠ 0 := by
            intro hz
            rw [hz] at e14
            revert e14; decide
          obtain ⟨s, q1, q2, q3⟩ := h.second hd hne
          exact ⟨s, q1, q2, q3⟩
        · dsimp only at e16
          split at e16 <;> exact absurd e16 (by decide)
        · rw [← hp, e]
          dsimp only
          split <;> decide
      · -- 14: the one behind is told, and the head goes
        obtain ⟨s, q1, q2, q3⟩ := hhead.2.1 e
        have hs : s < n := h.lt s (List.mem_of_getElem? q1)
        have hx : stepP ar 1 ((i : Int) + 1) p = (storeA ar (stA 1 ((s : Int) + 1)) p.c, { p with pc := 0 }) := by
          unfold stepP outR26
          rw [if_neg (by rw [e]; decide), if_neg (by rw [e]; decide), if_pos e, q2]
        rw [hx]
        have hW : (storeA ar (stA 1 ((s : Int) + 1)) p.c).W = ar.W.set (2 * s + 2) p.c := by rw [storeA_W, st_st hw hs hn]
        obtain ⟨g1, g2⟩ := h.pop (p' := { p with pc := 0 }) hd q1 q3 (W' := ar.W.set (2 * s + 2) p.c) (by simp [hw]) (by rw [tlv_set _ _ _ (by omega), if_neg (by omega)]) (fun j => by rw [nxv_set _ _ _ _ (by omega), if_neg (by omega)]) (fun j hj => by rw [sgv_set _ _ _ _ (by omega), if_neg (by omega)]) rfl
        refine ⟨Q.tail, by rw [hW]; exact g1, fun D H hD => ?_⟩
        rw [← hp, if_neg (by rw [e]; decide), if_neg (fun h => by have := h.1; rw [e] at this; revert this; decide), hD, g2, ht, pend_cons, ← hp, if_pos (by rw [e]; decide)]
        rfl
      · -- 15: is anybody behind, to be handed on to?
        have hx : stepP ar 1 ((i : Int) + 1) p = (loadA ar (nxA 1 ((i : Int) + 1)), { p with b := nxv ar.W i, pc := if nxv ar.W i = 0 then 10 else 16 }) := by
          unfold stepP outR26
          rw [if_neg (by rw [e]; decide), if_neg (by rw [e]; decide), if_neg (by rw [e]; decide), if_pos e, ld_nx hw hi hn]
        rw [hx]
        refine stepQ_same (h.headOnly hd (by rw [loadA_W]; exact hw) (by rw [loadA_W]) (fun _ => by rw [loadA_W]) (fun _ _ => by rw [loadA_W]) ⟨.inr (.inr ?_), fun e14 => ?_, fun e16 => ?_⟩) (by rw [← hp, e]; decide) (fun h => by have := h.1; rw [← hp, e] at this; revert this; decide) (pend_keep h.sl hd hi ?_)
        · dsimp only; split <;> decide
        · dsimp only at e14
          split at e14 <;> exact absurd e14 (by decide)
        · dsimp only at e16
          have hne : nxv ar.W i ≠ 0 := by
            intro hz
            rw [hz] at e16
            revert e16; decide
          exact h.second hd hne
        · rw [← hp, e]
          dsimp only
          split <;> decide
      · -- 16: the one behind is told, and the head goes
        obtain ⟨s, q1, q2, q3⟩ := hhead.2.2 e
        have hs : s < n := h.lt s (List.mem_of_getElem? q1)
        have hx : stepP ar 1 ((i : Int) + 1) p = (storeA ar (stA 1 ((s : Int) + 1)) p.c, { p with pc := 0 }) := by
          unfold stepP outR26
          rw [if_neg (by rw [e]; decide), if_neg (by rw [e]; decide), if_neg (by rw [e]; decide), if_neg (by rw [e]; decide), if_pos e, q2]
        rw [hx]
        have hW : (storeA ar (stA 1 ((s : Int) + 1)) p.c).W = ar.W.set (2 * s + 2) p.c := by rw [storeA_W, st_st hw hs hn]
        obtain ⟨g1, g2⟩ := h.pop (p' := { p with pc := 0 }) hd q1 q3 (W' := ar.W.set (2 * s + 2) p.c) (by simp [hw]) (by rw [tlv_set _ _ _ (by omega), if_neg (by omega)]) (fun j => by rw [nxv_set _ _ _ _ (by omega), if_neg (by omega)]) (fun j hj => by rw [sgv_set _ _ _ _ (by omega), if_neg (by omega)]) rfl
        refine ⟨Q.tail, by rw [hW]; exact g1, fun D H hD => ?_⟩
        rw [← hp, if_neg (by rw [e]; decide), if_neg (fun h => by have := h.1; rw [e] at this; revert this; decide), hD, g2, ht, pend_cons, ← hp, if_pos (by rw [e]; decide)]
        rfl
    · rw [← hp] at hpc
      have han : a < n := h.lt a (List.mem_of_getElem? ha)
      rcases hpc with ⟨e, ea, hz⟩ | ⟨e, hz⟩
      · have hx : stepP ar 1 ((i : Int) + 1) p = (storeA ar (nxA 1 ((a : Int) + 1)) ((i : Int) + 1), { p with pc := 5 }) := by
          unfold stepP inR26
          rw [if_pos (by rw [e]; decide), if_neg (by rw [e]; decide), if_neg (by rw [e]; decide), if_neg (by rw [e]; decide), if_pos e, ea]
        rw [hx]
        have hW : (storeA ar (nxA 1 ((a : Int) + 1)) ((i : Int) + 1)).W = ar.W.set (2 * a + 1) ((i : Int) + 1) := by rw [storeA_W, st_nx hw han hn]
        exact stepQ_same (h.behind ha hk (by rw [hW]; simp [hw]) (by rw [hW, tlv_set _ _ _ (by omega), if_neg (by omega)]) (fun j hj => by rw [hW, nxv_set _ _ _ _ (by omega), if_neg (by omega)]) (fun j => by rw [hW, sgv_set _ _ _ _ (by omega), if_neg (by omega)]) ⟨rfl, by rw [hW, nxv_set _ _ _ _ (by omega), if_pos rfl]⟩) (by rw [← hp, e]; decide) (fun h => absurd h.2 (by show ¬ (5 : Int) = 10; decide)) (pend_behind h hk _)
      · have hx : stepP ar 1 ((i : Int) + 1) p = (loadA ar (stA 1 ((i : Int) + 1)), { p with a := sgv ar.W i, pc := 5 }) := by
          unfold stepP inR26
          rw [if_pos (by rw [e]; decide), if_neg (by rw [e]; decide), if_neg (by rw [e]; decide), if_neg (by rw [e]; decide), if_neg (by rw [e]; decide), if_pos e, ld_st hw hi hn, hsg]
          rfl
        rw [hx]
        exact stepQ_same (h.behind ha hk (by rw [loadA_W]; exact hw) (by rw [loadA_W]) (fun _ _ => by rw [loadA_W]) (fun _ => by rw [loadA_W]) ⟨rfl, by rw [loadA_W]; exact hz⟩) (by rw [← hp, e]; decide) (fun h => absurd h.2 (by show ¬ (5 : Int) = 10; decide)) (pend_behind h hk _)
  · obtain ⟨hr, hr2, hr3⟩ := h.out i hi hQ
    rw [← hp] at hr hr2 hr3
    rcases (show p.pc = 1 ∨ p.pc = 2 ∨ p.pc = 3 by omega) with e | e | e
    · have hx : stepP ar 1 ((i : Int) + 1) p = (storeA ar (nxA 1 ((i : Int) + 1)) 0, { p with pc := 2 }) := by
        unfold stepP inR26
        rw [if_pos (by rw [e]; decide), if_pos e]
      rw [hx]
      have hW : (storeA ar (nxA 1 ((i : Int) + 1)) 0).W = ar.W.set (2 * i + 1) 0 := by rw [storeA_W, st_nx hw hi hn]
      obtain ⟨g1, g2⟩ := h.outside (p' := { p with pc := 2 }) hi hQ (W' := ar.W.set (2 * i + 1) 0) (by simp [hw]) (by rw [tlv_set _ _ _ (by omega), if_neg (by omega)]) (fun j hj => by rw [nxv_set _ _ _ _ (by omega), if_neg (by omega)]) (fun j hj => by rw [sgv_set _ _ _ _ (by omega), if_neg (by omega)]) ⟨⟨by show (0 : Int) ≤ 2; decide, by show (2 : Int) ≤ 3; decide⟩, fun _ => by rw [nxv_set _ _ _ _ (by omega), if_pos rfl], fun e => absurd e (by show ¬ (2 : Int) = 3; decide)⟩
      exact stepQ_same (by rw [hW]; exact g1) (by rw [← hp, e]; decide) (fun h => absurd h.2 (by show ¬ (2 : Int) = 10; decide)) g2
    · have hx : stepP ar 1 ((i : Int) + 1) p = (storeA ar (stA 1 ((i : Int) + 1)) 0, { p with pc := 3 }) := by
        unfold stepP inR26
        rw [if_pos (by rw [e]; decide), if_neg (by rw [e]; decide), if_pos e]
      rw [hx]
      have hW : (storeA ar (stA 1 ((i : Int) + 1)) 0).W = ar.W.set (2 * i + 2) 0 := by rw [storeA_W, st_st hw hi hn]
      obtain ⟨g1, g2⟩ := h.outside (p' := { p with pc := 3 }) hi hQ (W' := ar.W.set (2 * i + 2) 0) (by simp [hw]) (by rw [tlv_set _ _ _ (by omega), if_neg (by omega)]) (fun j hj => by rw [nxv_set _ _ _ _ (by omega), if_neg (by omega)]) (fun j hj => by rw [sgv_set _ _ _ _ (by omega), if_neg (by omega)]) ⟨⟨by show (0 : Int) ≤ 3; decide, by show (3 : Int) ≤ 3; decide⟩, fun _ => by rw [nxv_set _ _ _ _ (by omega), if_neg (by omega)]; exact hr2 (by omega), fun _ => by rw [sgv_set _ _ _ _ (by omega), if_pos rfl]⟩
      exact stepQ_same (by rw [hW]; exact g1) (by rw [← hp, e]; decide) (fun h => absurd h.2 (by show ¬ (3 : Int) = 10; decide)) g2
    · have hx : stepP ar 1 ((i : Int) + 1) p = (swapA ar 1 ((i : Int) + 1), { p with a := tlv ar.W, pc := if tlv ar.W = 0 then 6 else 4 }) := by
        unfold stepP inR26
        rw [if_pos (by rw [e]; decide), if_neg (by rw [e]; decide), if_neg (by rw [e]; decide), if_pos e, ld_tl hw]
      rw [hx]
      have hW : (swapA ar 1 ((i : Int) + 1)).W = ar.W.set 0 ((i : Int) + 1) := by rw [swapA_W, st_tl hw]
      obtain ⟨g1, g2⟩ := h.come (p' := { p with a := tlv ar.W, pc := if tlv ar.W = 0 then 6 else 4 }) hi (by rw [← hp]; exact e) (W' := ar.W.set 0 ((i : Int) + 1)) (by simp [hw]) (by rw [tlv_set _ _ _ (by omega), if_pos rfl]) (fun j => by rw [nxv_set _ _ _ _ (by omega), if_neg (by omega)]) (fun j => by rw [sgv_set _ _ _ _ (by omega), if_neg (by omega)]) ⟨rfl, rfl⟩
      refine ⟨Q ++ [i], by rw [hW]; exact g1, fun D H hD => ?_⟩
      rw [← hp, if_pos e, if_neg (fun h => by
        have := h.2
        dsimp only at this
        split at this <;> (revert this; decide)), hD, g2, List.append_assoc]
end
end Go.Proofs.Ythgpjiebeinamaa
