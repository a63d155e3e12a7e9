/- Layer 26: a rung is a queue: each step. Plain data. -/
import Derived.Test.YthgpjiebeinamaaRgO1
namespace Go.Proofs.Ythgpjiebeinamaa
open Go.RowKit

section
variable {n : Nat} {W W' : List Int} {S : List Sp} {Q : List Nat} {i : Nat} {p' : Sp}
theorem QInv.inq (h : QInv n W S Q) (hi : i ∈ Q) : (Q[0]? = some i ∧ ((sv S i).pc = 5 ∨ (sv S i).pc = 6 ∨ (10 ≤ (sv S i).pc ∧ (sv S i).pc ≤ 16))) ∨ (∃ (k p : Nat), Q[k]? = some p ∧ Q[k + 1]? = some i ∧ sgv W i = 0 ∧ (((sv S i).pc = 4 ∧ (sv S i).a = (p : Int) + 1 ∧ nxv W p = 0) ∨ ((sv S i).pc = 5 ∧ nxv W p = (i : Int) + 1))) := by
  obtain ⟨k, hk⟩ := List.getElem?_of_mem hi
  cases k with
  | zero => exact .inl ⟨hk, (h.head i hk).1⟩
  | succ k =>
    have hk' : k < Q.length := by have := (List.getElem?_eq_some_iff.1 hk).1; omega
    obtain ⟨p, hp⟩ := getElem?_lt hk'
    exact .inr ⟨k, p, hp, hk, h.link k p i hp hk⟩
theorem QInv.notq (h : QInv n W S Q) (hp : (sv S i).pc ≤ 3) : i ∉ Q := fun hi => by
  rcases h.inq hi with ⟨_, h⟩ | ⟨k, p, _, _, _, h⟩
  · omega
  · omega
/-- the head's own spot turns, and maybe its stat word -/
theorem QInv.headOnly (h : QInv n W S Q) (hi : Q[0]? = some i) (hw : W'.length = 2 * n + 1) (ht : tlv W' = tlv W) (hnx : ∀ j, nxv W' j = nxv W j) (hsg : ∀ j, j ≠ i → sgv W' j = sgv W j)
    (hp : (p'.pc = 5 ∨ p'.pc = 6 ∨ (10 ≤ p'.pc ∧ p'.pc ≤ 16)) ∧ (p'.pc = 14 → ∃ s : Nat, Q[1]? = some s ∧ p'.a = (s : Int) + 1 ∧ (sv S s).pc = 5) ∧ (p'.pc = 16 → ∃ s : Nat, Q[1]? = some s ∧ p'.b = (s : Int) + 1 ∧ (sv S s).pc = 5)) :
    QInv n W' (S.set i p') Q := by
  have hin : i < n := h.lt i (List.mem_of_getElem? hi)
  have hsv : ∀ j, j ≠ i → sv (S.set i p') j = sv S j := fun j hj => by rw [sv_set, if_neg (fun e => hj e.1.symm)]
  have hsi : sv (S.set i p') i = p' := by rw [sv_set, if_pos ⟨rfl, by rw [h.sl]; exact hin⟩]
  have hne : ∀ k s, Q[k + 1]? = some s → s ≠ i := fun k s hs e => by
    subst e
    have := nodup_idx h.nd hs hi
    omega
  refine ⟨hw, by simp [h.sl], h.nd, h.lt, ht.trans h.tail, fun j hj hjQ => ?_, fun k p s hp' hs => ?_, fun j hj => ?_, fun a ha => ?_⟩
  · have e : j ≠ i := fun e => hjQ (e ▸ List.mem_of_getElem? hi)
    rw [hsv j e, hnx j, hsg j e]; exact h.out j hj hjQ
  · have e2 := hne k s hs
    rw [hsv s e2, hnx p, hsg s e2]
    exact h.link k p s hp' hs
  · rw [hnx j]; exact h.last j hj
  · have : a = i := by rw [hi] at ha; injection ha with ha; exact ha.symm
    subst this
    rw [hsi]
    refine ⟨hp.1, fun e => ?_, fun e => ?_⟩
    · obtain ⟨s, q1, q2, q3⟩ := hp.2.1 e
      exact ⟨s, q1, q2, by rw [hsv s (hne 0 s q1)]; exact q3⟩
    · obtain ⟨s, q1, q2, q3⟩ := hp.2.2 e
      exact ⟨s, q1, q2, by rw [hsv s (hne 0 s q1)]; exact q3⟩
/-- one who stands behind another one: its own spot turns, and maybe the next word of the one ahead -/
theorem QInv.behind (h : QInv n W S Q) {k p : Nat} (hp : Q[k]? = some p) (hi : Q[k + 1]? = some i) (hw : W'.length = 2 * n + 1) (ht : tlv W' = tlv W) (hnx : ∀ j, j ≠ p → nxv W' j = nxv W j) (hsg : ∀ j, sgv W' j = sgv W j)
    (hc : p'.pc = 5 ∧ nxv W' p = (i : Int) + 1) : QInv n W' (S.set i p') Q := by
  have hin : i < n := h.lt i (List.mem_of_getElem? hi)
  have hsv : ∀ j, j ≠ i → sv (S.set i p') j = sv S j := fun j hj => by rw [sv_set, if_neg (fun e => hj e.1.symm)]
  have hsi : sv (S.set i p') i = p' := by rw [sv_set, if_pos ⟨rfl, by rw [h.sl]; exact hin⟩]
  refine ⟨hw, by simp [h.sl], h.nd, h.lt, ht.trans h.tail, fun j hj hjQ => ?_, fun k2 p2 s2 hp2 hs2 => ?_, fun j hj => ?_, fun a ha => ?_⟩
  · have e : j ≠ i := fun e => hjQ (e ▸ List.mem_of_getElem? hi)
    have e2 : j ≠ p := fun e => hjQ (e ▸ List.mem_of_getElem? hp)
    rw [hsv j e, hnx j e2, hsg j]; exact h.out j hj hjQ
  · by_cases e : s2 = i
    · subst e
      obtain rfl : k2 = k := by have := nodup_idx h.nd hs2 hi; omega
      rw [hp] at hp2
      injection hp2 with hp2
      subst hp2
      rw [hsi, hsg]
      exact ⟨(h.link k2 p s2 hp hs2).1, .inr hc⟩
    · have e2 : p2 ≠ p := fun e3 => by
        subst e3
        have := nodup_idx h.nd hp2 hp
        subst this
        rw [hi] at hs2
        injection hs2 with hs2
        exact e hs2.symm
      rw [hsv s2 e, hnx p2 e2, hsg]
      exact h.link k2 p2 s2 hp2 hs2
  · have e2 : j ≠ p := fun e3 => by
      subst e3
      rw [List.getLast?_eq_getElem?] at hj
      have := nodup_idx h.nd hj hp
      have := (List.getElem?_eq_some_iff.1 hi).1
      omega
    rw [hnx j e2]; exact h.last j hj
  · have e : a ≠ i := fun e => by
      subst e
      have := nodup_idx h.nd ha hi
      omega
    rw [hsv a e]
    obtain ⟨h1, h2, h3⟩ := h.head a ha
    have h5 : ∀ s : Nat, (sv S s).pc = 5 → (sv (S.set i p') s).pc = 5 := fun s hs => by
      by_cases e : s = i
      · subst e; rw [hsi]; exact hc.1
      · rw [hsv s e]; exact hs
    refine ⟨h1, fun e => ?_, fun e => ?_⟩
    · obtain ⟨s, q1, q2, q3⟩ := h2 e
      exact ⟨s, q1, q2, h5 s q3⟩
    · obtain ⟨s, q1, q2, q3⟩ := h3 e
      exact ⟨s, q1, q2, h5 s q3⟩
/-- the head goes, and the one behind it is told a value -/
theorem QInv.pop (h : QInv n W S Q) {s : Nat} (hi : Q[0]? = some i) (hs : Q[1]? = some s) (h5 : (sv S s).pc = 5) (hw : W'.length = 2 * n + 1) (ht : tlv W' = tlv W) (hnx : ∀ j, nxv W' j = nxv W j) (hsg : ∀ j, j ≠ s → sgv W' j = sgv W j)
    (hp : p'.pc = 0) : QInv n W' (S.set i p') Q.tail ∧ pend (S.set i p') Q.tail = Q.tail := by
  have hin : i < n := h.lt i (List.mem_of_getElem? hi)
  have hsv : ∀ j, j ≠ i → sv (S.set i p') j = sv S j := fun j hj => by rw [sv_set, if_neg (fun e => hj e.1.symm)]
  have hsi : sv (S.set i p') i = p' := by rw [sv_set, if_pos ⟨rfl, by rw [h.sl]; exact hin⟩]
  have hne : ∀ k s, Q[k + 1]? = some s → s ≠ i := fun k s hs e => by
    subst e
    have := nodup_idx h.nd hs hi
    omega
  match Q, hi, hs with
  | a :: s' :: t, hi, hs =>
    simp at hi hs
    subst hi hs
    have hsne := hne 0 s' rfl
    refine ⟨⟨hw, by simp [h.sl], (List.nodup_cons.1 h.nd).2, fun j hj => h.lt j (List.mem_cons_of_mem _ hj), ?_, fun j hj hjQ => ?_, fun k p s2 hp' hs2 => ?_, fun j hj => ?_, fun b hb => ?_⟩, ?_⟩
    · rw [ht, h.tail]; unfold lastW; rw [List.tail_cons, List.getLast?_cons_cons]
    · by_cases e : j = a
      · subst e
        rw [hsi, hp]
        exact ⟨⟨by decide, by decide⟩, fun h => absurd h (by decide), fun h => absurd h (by decide)⟩
      · have hjQ' : j ∉ a :: s' :: t := by
          intro hm
          rcases List.mem_cons.1 hm with hm | hm
          · exact e hm
          · exact hjQ hm
        have e2 : j ≠ s' := fun e2 => hjQ (by rw [e2]; simp)
        rw [hsv j e, hnx j, hsg j e2]
        exact h.out j hj hjQ'
    · rw [List.tail_cons] at hp' hs2
      have e2 := hne (k + 1) s2 (by simpa using hs2)
      have e3 : s2 ≠ s' := fun e3 => by
        subst e3
        have := nodup_idx (List.nodup_cons.1 h.nd).2 hs2 (show (s2 :: t)[0]? = some s2 from rfl)
        omega
      rw [hsv s2 e2, hnx p, hsg s2 e3]
      exact h.link (k + 1) p s2 (by simpa using hp') (by simpa using hs2)
    · rw [hnx j]
      exact h.last j (by rw [List.getLast?_cons_cons]; exact hj)
    · rw [List.tail_cons] at hb
      have : b = s' := by simpa using hb.symm
      subst this
      rw [hsv b hsne, h5]
      exact ⟨.inl rfl, fun e => absurd e (by decide), fun e => absurd e (by decide)⟩
    · show (if 10 ≤ (sv (S.set a p') s').pc then t else s' :: t) = s' :: t
      rw [hsv s' hsne, h5]; rfl
/-- the only one goes -/
theorem QInv.gone (h : QInv n W S [i]) (hw : W'.length = 2 * n + 1) (ht : tlv W' = 0) (hnx : ∀ j, nxv W' j = nxv W j) (hsg : ∀ j, sgv W' j = sgv W j) (hp : p'.pc = 0) : QInv n W' (S.set i p') [] := by
  have hin : i < n := h.lt i (by simp)
  refine ⟨hw, by simp [h.sl], List.nodup_nil, by simp, ht, fun j hj _ => ?_, by simp, by simp, by simp⟩
  by_cases e : j = i
  · subst e
    rw [sv_set, if_pos ⟨rfl, by rw [h.sl]; exact hin⟩, hp]
    exact ⟨⟨by decide, by decide⟩, fun h => absurd h (by decide), fun h => absurd h (by decide)⟩
  · rw [sv_set, if_neg (fun e' => e e'.1.symm), hnx, hsg]
    exact h.out j hj (by simpa using e)
/-- one comes, behind all others -/
theorem QInv.come (h : QInv n W S Q) (hi : i < n) (hpc : (sv S i).pc = 3) (hw : W'.length = 2 * n + 1) (ht : tlv W' = (i : Int) + 1) (hnx : ∀ j, nxv W' j = nxv W j) (hsg : ∀ j, sgv W' j = sgv W j)
    (hp : p'.a = tlv W ∧ p'.pc = if tlv W = 0 then 6 else 4) : QInv n W' (S.set i p') (Q ++ [i]) ∧ pend (S.set i p') (Q ++ [i]) = pend S Q ++ [i] := by
  have hQ : i ∉ Q := h.notq (by omega)
  have ho := h.out i hi hQ
  have hsv : ∀ j, j ≠ i → sv (S.set i p') j = sv S j := fun j hj => by rw [sv_set, if_neg (fun e => hj e.1.symm)]
  have hsi : sv (S.set i p') i = p' := by rw [sv_set, if_pos ⟨rfl, by rw [h.sl]; exact hi⟩]
  have hne : ∀ j ∈ Q, j ≠ i := fun j hj e => hQ (e ▸ hj)
  have hlast : ∀ j, Q.getLast? = some j → tlv W = (j : Int) + 1 := fun j hj => by rw [h.tail]; unfold lastW; rw [hj]
  refine ⟨⟨hw, by simp [h.sl], ?_, ?_, ?_, fun j hj hjQ => ?_, fun k p s hp' hs => ?_, fun j hj => ?_, fun a ha => ?_⟩, ?_⟩
  · rw [List.nodup_append]
    exact ⟨h.nd, by simp, fun a ha b hb => by rw [List.mem_singleton.1 hb]; exact hne a ha⟩
  · intro j hj
    rcases List.mem_append.1 hj with hj | hj
    · exact h.lt j hj
    · rw [List.mem_singleton.1 hj]; exact hi
  · rw [ht]; unfold lastW; rw [List.getLast?_concat]
  · have hjQ' : j ∉ Q := fun hm => hjQ (List.mem_append.2 (.inl hm))
    have e : j ≠ i := fun e => hjQ (List.mem_append.2 (.inr (by simp [e])))
    rw [hsv j e, hnx, hsg]; exact h.out j hj hjQ'
  · rw [getElem?_snoc] at hp' hs
    split at hs
    · rename_i hk
      rw [if_pos (by omega)] at hp'
      have e := hne s (List.mem_of_getElem? hs)
      rw [hsv s e, hnx, hsg]
      exact h.link k p s hp' hs
    · split at hs
      · rename_i hk hk2
        injection hs with hs
        subst hs
        rw [if_pos (by omega)] at hp'
        have hl : Q.getLast? = some p := by rw [List.getLast?_eq_getElem?, ← hp']; congr 1; omega
        have ht0 := hlast p hl
        rw [hsi, hnx, hsg]
        refine ⟨ho.2.2 hpc, .inl ⟨by rw [hp.2, if_neg (by omega)], by rw [hp.1, ht0], h.last p hl⟩⟩
      · cases hs
  · rw [List.getLast?_concat] at hj
    injection hj with hj
    subst hj
    rw [hnx]; exact ho.2.1 (by omega)
  · cases Q with
    | nil =>
      have : a = i := by simpa using ha.symm
      subst this
      have h0 : tlv W = 0 := by rw [h.tail]; rfl
      rw [hsi, hp.2, if_pos h0]
      exact ⟨.inr (.inl rfl), fun e => absurd e (by decide), fun e => absurd e (by decide)⟩
    | cons b t =>
      have : b = a := by simpa using ha
      subst this
      rw [hsv b (hne b (by simp))]
      obtain ⟨h1, h2, h3⟩ := h.head b rfl
      have ext : ∀ s : Nat, (b :: t)[1]? = some s → (b :: t ++ [i])[1]? = some s := fun s hs => by
        rw [getElem?_snoc, if_pos (List.getElem?_eq_some_iff.1 hs).1]; exact hs
      refine ⟨h1, fun e => ?_, fun e => ?_⟩
      · obtain ⟨s, q1, q2, q3⟩ := h2 e
        exact ⟨s, ext s q1, q2, by rw [hsv s (hne s (List.mem_of_getElem? q1))]; exact q3⟩
      · obtain ⟨s, q1, q2, q3⟩ := h3 e
        exact ⟨s, ext s q1, q2, by rw [hsv s (hne s (List.mem_of_getElem? q1))]; exact q3⟩
  · cases Q with
    | nil =>
      have h0 : tlv W = 0 := by rw [h.tail]; rfl
      show (if 10 ≤ (sv (S.set i p') i).pc then [] else [i]) = [i]
      rw [hsi, hp.2, if_pos h0]; rfl
    | cons b t =>
      show (if 10 ≤ (sv (S.set i p') b).pc then t ++ [i] else b :: (t ++ [i])) = (if 10 ≤ (sv S b).pc then t else b :: t) ++ [i]
      rw [hsv b (hne b (by simp))]
      split <;> simp
end
end Go.Proofs.Ythgpjiebeinamaa
