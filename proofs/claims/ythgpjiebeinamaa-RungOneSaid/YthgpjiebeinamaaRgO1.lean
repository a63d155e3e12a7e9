/- Layer 26: a rung is a queue: no two hold, and they hold in the order in which they came. Plain data. -/
import Derived.Test.YthgpjiebeinamaaRr7
import Derived.Test.YthgpjiebeinamaaEv1
namespace Go.Proofs.Ythgpjiebeinamaa
open Go.RowKit

def tlv (W : List Int) : Int := W.getD 0 0
def nxv (W : List Int) (i : Nat) : Int := W.getD (2 * i + 1) 0
def sgv (W : List Int) (i : Nat) : Int := W.getD (2 * i + 2) 0
def sv (S : List Sp) (j : Nat) : Sp := S.getD j Sp.zero
theorem getD_set {α : Type} (l : List α) (i j : Nat) (a d : α) : (l.set i a).getD j d = if i = j ∧ i < l.length then a else l.getD j d := by
  rw [List.getD_eq_getElem?_getD, List.getD_eq_getElem?_getD, List.getElem?_set]
  by_cases h : i = j
  · subst h
    by_cases h2 : i < l.length
    · simp [h2]
    · simp [h2]
  · simp [h]
theorem sv_set (S : List Sp) (i j : Nat) (p : Sp) : sv (S.set i p) j = if i = j ∧ i < S.length then p else sv S j := getD_set _ _ _ _ _
theorem tlv_set (W : List Int) (i : Nat) (v : Int) (h : 0 < W.length) : tlv (W.set i v) = if i = 0 then v else tlv W := by
  unfold tlv; rw [getD_set]
  by_cases hi : i = 0
  · subst hi; simp [h]
  · simp [hi]
theorem nxv_set (W : List Int) (i j : Nat) (v : Int) (h : i < W.length) : nxv (W.set i v) j = if i = 2 * j + 1 then v else nxv W j := by
  unfold nxv; rw [getD_set]
  by_cases hi : i = 2 * j + 1
  · simp [hi, hi ▸ h]
  · simp [hi]
theorem sgv_set (W : List Int) (i j : Nat) (v : Int) (h : i < W.length) : sgv (W.set i v) j = if i = 2 * j + 2 then v else sgv W j := by
  unfold sgv; rw [getD_set]
  by_cases hi : i = 2 * j + 2
  · simp [hi, hi ▸ h]
  · simp [hi]
theorem nxA_at (j : Nat) (h : j < 1000) : nxA 1 ((j : Int) + 1) = 2 * j + 2 := by unfold nxA wrap64; omega
theorem stA_at (j : Nat) (h : j < 1000) : stA 1 ((j : Int) + 1) = 2 * j + 3 := by unfold stA wrap64; omega
section
variable {W : List Int} {n j : Nat}
theorem ld_tl (hw : W.length = 2 * n + 1) : ldW W 1 = tlv W := by unfold ldW inR tlv; rw [if_pos (decide_eq_true (by omega))]; rfl
theorem ld_nx (hw : W.length = 2 * n + 1) (hj : j < n) (hn : n ≤ 32) : ldW W (nxA 1 ((j : Int) + 1)) = nxv W j := by
  rw [nxA_at j (by omega)]
  unfold ldW inR nxv
  rw [if_pos (decide_eq_true (by omega)), show ((2 * (j : Int) + 2).toNat - 1) = 2 * j + 1 by omega]
theorem ld_st (hw : W.length = 2 * n + 1) (hj : j < n) (hn : n ≤ 32) : ldW W (stA 1 ((j : Int) + 1)) = sgv W j := by
  rw [stA_at j (by omega)]
  unfold ldW inR sgv
  rw [if_pos (decide_eq_true (by omega)), show ((2 * (j : Int) + 3).toNat - 1) = 2 * j + 2 by omega]
theorem st_tl (hw : W.length = 2 * n + 1) (v : Int) : stW W 1 v = W.set 0 v := by unfold stW inR; rw [if_pos (decide_eq_true (by omega))]; rfl
theorem st_nx (hw : W.length = 2 * n + 1) (hj : j < n) (hn : n ≤ 32) (v : Int) : stW W (nxA 1 ((j : Int) + 1)) v = W.set (2 * j + 1) v := by
  rw [nxA_at j (by omega)]
  unfold stW inR
  rw [if_pos (decide_eq_true (by omega)), show ((2 * (j : Int) + 2).toNat - 1) = 2 * j + 1 by omega]
theorem st_st (hw : W.length = 2 * n + 1) (hj : j < n) (hn : n ≤ 32) (v : Int) : stW W (stA 1 ((j : Int) + 1)) v = W.set (2 * j + 2) v := by
  rw [stA_at j (by omega)]
  unfold stW inR
  rw [if_pos (decide_eq_true (by omega)), show ((2 * (j : Int) + 3).toNat - 1) = 2 * j + 2 by omega]
end
/-- the queue's tail word -/
def lastW (Q : List Nat) : Int := match Q.getLast? with | some j => (j : Int) + 1 | none => 0
structure QInv (n : Nat) (W : List Int) (S : List Sp) (Q : List Nat) : Prop where
  wl : W.length = 2 * n + 1
  sl : S.length = n
  nd : Q.Nodup
  lt : ∀ i ∈ Q, i < n
  tail : tlv W = lastW Q
  out : ∀ i, i < n → i ∉ Q → (0 ≤ (sv S i).pc ∧ (sv S i).pc ≤ 3) ∧ (2 ≤ (sv S i).pc → nxv W i = 0) ∧ ((sv S i).pc = 3 → sgv W i = 0)
  link : ∀ (k p s : Nat), Q[k]? = some p → Q[k + 1]? = some s → sgv W s = 0 ∧ (((sv S s).pc = 4 ∧ (sv S s).a = (p : Int) + 1 ∧ nxv W p = 0) ∨ ((sv S s).pc = 5 ∧ nxv W p = (s : Int) + 1))
  last : ∀ j, Q.getLast? = some j → nxv W j = 0
  head : ∀ h, Q[0]? = some h → ((sv S h).pc = 5 ∨ (sv S h).pc = 6 ∨ (10 ≤ (sv S h).pc ∧ (sv S h).pc ≤ 16)) ∧ ((sv S h).pc = 14 → ∃ s : Nat, Q[1]? = some s ∧ (sv S h).a = (s : Int) + 1 ∧ (sv S s).pc = 5) ∧ ((sv S h).pc = 16 → ∃ s : Nat, Q[1]? = some s ∧ (sv S h).b = (s : Int) + 1 ∧ (sv S s).pc = 5)
/-- who has come, and has not yet held -/
def pend (S : List Sp) : List Nat → List Nat
  | [] => []
  | h :: t => if 10 ≤ (sv S h).pc then t else h :: t
theorem nodup_idx {Q : List Nat} (h : Q.Nodup) {i j : Nat} {x : Nat} (hi : Q[i]? = some x) (hj : Q[j]? = some x) : i = j := by
  obtain ⟨h1, e1⟩ := List.getElem?_eq_some_iff.1 hi
  obtain ⟨h2, e2⟩ := List.getElem?_eq_some_iff.1 hj
  have := List.pairwise_iff_getElem.1 h
  rcases Nat.lt_trichotomy i j with hl | hl | hl
  · exact absurd (e1.trans e2.symm) (this i j h1 h2 hl)
  · exact hl
  · exact absurd (e2.trans e1.symm) (this j i h2 h1 hl)
theorem QInv.start (n : Nat) : QInv n (List.replicate (2 * n + 1) 0) (List.replicate n Sp.zero) [] := by
  have hz : ∀ k, (List.replicate (2 * n + 1) (0 : Int)).getD k 0 = 0 := fun k => by
    rw [List.getD_eq_getElem?_getD, List.getElem?_replicate]; split <;> rfl
  have hs : ∀ i, sv (List.replicate n Sp.zero) i = Sp.zero := fun i => by
    unfold sv; rw [List.getD_eq_getElem?_getD, List.getElem?_replicate]; split <;> rfl
  refine ⟨by simp, by simp, List.nodup_nil, by simp, hz 0, fun i _ _ => ?_, by simp, by simp, by simp⟩
  rw [hs]
  exact ⟨by decide, fun _ => hz _, fun _ => hz _⟩
/-- a slot that is not in the queue, and stays out of it: its own words and its spot alone turn -/
theorem QInv.outside {n : Nat} {W W' : List Int} {S : List Sp} {Q : List Nat} {i : Nat} {p' : Sp} (h : QInv n W S Q) (hi : i < n) (hQ : i ∉ Q) (hw : W'.length = 2 * n + 1) (ht : tlv W' = tlv W)
    (hnx : ∀ j, j ≠ i → nxv W' j = nxv W j) (hsg : ∀ j, j ≠ i → sgv W' j = sgv W j) (hp : (0 ≤ p'.pc ∧ p'.pc ≤ 3) ∧ (2 ≤ p'.pc → nxv W' i = 0) ∧ (p'.pc = 3 → sgv W' i = 0)) : QInv n W' (S.set i p') Q ∧ pend (S.set i p') Q = pend S Q := by
  have hne : ∀ j ∈ Q, j ≠ i := fun j hj e => hQ (e ▸ hj)
  have hsv : ∀ j, j ≠ i → sv (S.set i p') j = sv S j := fun j hj => by rw [sv_set, if_neg (fun e => hj e.1.symm)]
  have hsi : sv (S.set i p') i = p' := by rw [sv_set, if_pos ⟨rfl, by rw [h.sl]; exact hi⟩]
  refine ⟨⟨hw, by simp [h.sl], h.nd, h.lt, ht.trans h.tail, fun j hj hjQ => ?_, fun k p s hp' hs => ?_, fun j hj => ?_, fun a ha => ?_⟩, ?_⟩
  · by_cases e : j = i
    · subst e; rw [hsi]; exact hp
    · rw [hsv j e, hnx j e, hsg j e]; exact h.out j hj hjQ
  · have e1 := hne p (List.mem_of_getElem? hp')
    have e2 := hne s (List.mem_of_getElem? hs)
    rw [hsv s e2, hnx p e1, hsg s e2]
    exact h.link k p s hp' hs
  · rw [hnx j (hne j (List.mem_of_getLast? hj))]; exact h.last j hj
  · rw [hsv a (hne a (List.mem_of_getElem? ha))]
    obtain ⟨h1, h2, h3⟩ := h.head a ha
    refine ⟨h1, fun e => ?_, fun e => ?_⟩
    · obtain ⟨s, q1, q2, q3⟩ := h2 e
      exact ⟨s, q1, q2, by rw [hsv s (hne s (List.mem_of_getElem? q1))]; exact q3⟩
    · obtain ⟨s, q1, q2, q3⟩ := h3 e
      exact ⟨s, q1, q2, by rw [hsv s (hne s (List.mem_of_getElem? q1))]; exact q3⟩
  · cases Q with
    | nil => rfl
    | cons a t =>
      show (if 10 ≤ (sv (S.set i p') a).pc then t else a :: t) = (if 10 ≤ (sv S a).pc then t else a :: t)
      rw [hsv a (hne a (by simp))]
end Go.Proofs.Ythgpjiebeinamaa
