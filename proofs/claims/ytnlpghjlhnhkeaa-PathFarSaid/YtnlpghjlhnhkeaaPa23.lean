/- Layer 7: how far two leaves are from one another; plain lists. -/
import Derived.Test.YtnlpghjlhnhkeaaPa17
namespace Go.Proofs.Ytnlpghjlhnhkeaa
open Go.RowKit

theorem up_nil {P : List Int} {v : Int} (h : v < 0) : upL P v = [] := upL_neg h
theorem up_at {P : List Int} (h : treeB P = true) : ∀ (v : Nat), v < P.length → (upL P v).length = depL P v ∧ ∀ (i : Nat) (u : Int), (upL P v)[i]? = some u → 0 ≤ u ∧ u < P.length ∧ (upL P v).drop i = upL P u ∧ depL P u + i = depL P v := by
  intro v
  induction v using Nat.strongRecOn with
  | _ v ih =>
    intro hv
    obtain ⟨p, hp⟩ := getElem?_lt hv
    have hl := tree_lt h hp
    rw [upL_step h hp, depL_step h hp]
    by_cases h0 : 0 ≤ p
    · obtain ⟨n, rfl⟩ := Int.eq_ofNat_of_zero_le h0
      obtain ⟨h1, h2⟩ := ih n (by omega) (by omega)
      rw [if_pos h0]
      refine ⟨by rw [List.length_cons, h1], fun i u hu => ?_⟩
      cases i with
      | zero =>
        simp at hu
        subst hu
        exact ⟨by omega, by omega, by rw [List.drop_zero, upL_step h hp], by rw [depL_step h hp, if_pos h0]⟩
      | succ i =>
        rw [List.getElem?_cons_succ] at hu
        obtain ⟨a1, a2, a3, a4⟩ := h2 i u hu
        exact ⟨a1, a2, by rw [List.drop_succ_cons]; exact a3, by omega⟩
    · rw [if_neg h0, up_nil (by omega)]
      refine ⟨rfl, fun i u hu => ?_⟩
      cases i with
      | zero =>
        simp at hu
        subst hu
        exact ⟨by omega, by omega, by rw [List.drop_zero, upL_step h hp, up_nil (by omega)], by rw [depL_step h hp, if_neg h0]⟩
      | succ i => simp at hu
theorem dep_pos {P : List Int} {v : Nat} (hv : v < P.length) : 1 ≤ depL P v := depL_pos hv
/-- two leaves of one depth: what lies on both ways lies at one height -/
structure Pair2 (P : List Int) (x y : Int) : Prop where
  tr : treeB P = true
  x0 : 0 ≤ x
  y0 : 0 ≤ y
  xl : x < P.length
  yl : y < P.length
  d : depL P x = depL P y
theorem Pair2.symm {P : List Int} {x y : Int} (h : Pair2 P x y) : Pair2 P y x := ⟨h.tr, h.y0, h.x0, h.yl, h.xl, h.d.symm⟩
theorem up_at' {P : List Int} (h : treeB P = true) {x : Int} (h0 : 0 ≤ x) (hl : x < P.length) : (upL P x).length = depL P x ∧ ∀ (i : Nat) (u : Int), (upL P x)[i]? = some u → 0 ≤ u ∧ u < P.length ∧ (upL P x).drop i = upL P u ∧ depL P u + i = depL P x := by
  obtain ⟨n, rfl⟩ := Int.eq_ofNat_of_zero_le h0
  exact up_at h n (by omega)
theorem Pair2.both {P : List Int} {x y : Int} (h : Pair2 P x y) {i : Nat} {u : Int} (hu : (upL P x)[i]? = some u) : u ∈ upL P y ↔ (upL P y)[i]? = some u := by
  constructor
  · intro hm
    obtain ⟨j, hj⟩ := List.getElem?_of_mem hm
    have h1 := ((up_at' h.tr h.x0 h.xl).2 i u hu).2.2.2
    have h2 := ((up_at' h.tr h.y0 h.yl).2 j u hj).2.2.2
    have hd := h.d
    obtain rfl : i = j := by omega
    exact hj
  · exact List.mem_of_getElem?
theorem Pair2.later {P : List Int} {x y : Int} (h : Pair2 P x y) {i j : Nat} {u : Int} (hu : (upL P x)[i]? = some u) (hv : (upL P y)[i]? = some u) (hij : i ≤ j) : (upL P x)[j]? = (upL P y)[j]? := by
  have h1 := ((up_at' h.tr h.x0 h.xl).2 i u hu).2.2.1
  have h2 := ((up_at' h.tr h.y0 h.yl).2 i u hv).2.2.1
  have e : (upL P x).drop i = (upL P y).drop i := by rw [h1, h2]
  have e2 := congrArg (fun l => l[j - i]?) e
  simp only [List.getElem?_drop] at e2
  rw [show i + (j - i) = j by omega] at e2
  exact e2
theorem root_last {P : List Int} (h : treeB P = true) {x : Int} (h0 : 0 ≤ x) (hl : x < P.length) : 1 ≤ depL P x ∧ (upL P x)[depL P x - 1]? = some 0 := by
  have hp : 1 ≤ depL P x := by
    obtain ⟨n, rfl⟩ := Int.eq_ofNat_of_zero_le h0
    exact dep_pos (by omega)
  refine ⟨hp, ?_⟩
  obtain ⟨h1, h2⟩ := up_at' h h0 hl
  obtain ⟨u, hu⟩ := getElem?_lt (show depL P x - 1 < (upL P x).length by omega)
  obtain ⟨a1, a2, a3, a4⟩ := h2 _ u hu
  obtain ⟨n, rfl⟩ := Int.eq_ofNat_of_zero_le a1
  obtain ⟨p, hpp⟩ := getElem?_lt (show n < P.length by omega)
  have hd := depL_step h hpp
  have ht := tree_at h hpp
  have hn0 : n = 0 := by
    rcases Nat.eq_zero_or_pos n with e | e
    · exact e
    · have hb := ht.2 e
      rw [if_pos hb.1] at hd
      obtain ⟨m, rfl⟩ := Int.eq_ofNat_of_zero_le hb.1
      have := dep_pos (P := P) (v := m) (by omega)
      omega
  subst hn0
  exact hu
/-- the height of two leaves' meeting -/
theorem Pair2.meet {P : List Int} {x y : Int} (h : Pair2 P x y) : ∃ k : Nat, fidx (fun z => decide (z ∈ upL P y)) (upL P x) = k ∧ (∃ u, (upL P x)[k]? = some u ∧ (upL P y)[k]? = some u) ∧ ∀ j, j < k → (upL P x)[j]? ≠ (upL P y)[j]? := by
  obtain ⟨r1, r2⟩ := root_last h.tr h.x0 h.xl
  obtain ⟨_, r3⟩ := root_last h.tr h.y0 h.yl
  rw [← h.d] at r3
  have hex : ∃ k, (upL P x)[k]? = (upL P y)[k]? ∧ k < (upL P x).length := ⟨depL P x - 1, by rw [r2, r3], by rw [(up_at' h.tr h.x0 h.xl).1]; omega⟩
  have hmin : ∃ k, ((upL P x)[k]? = (upL P y)[k]? ∧ k < (upL P x).length) ∧ ∀ j, j < k → ¬ ((upL P x)[j]? = (upL P y)[j]? ∧ j < (upL P x).length) := by
    obtain ⟨k, hk⟩ := hex
    induction k using Nat.strongRecOn with
    | _ k ih =>
      by_cases hj : ∃ j, j < k ∧ ((upL P x)[j]? = (upL P y)[j]? ∧ j < (upL P x).length)
      · obtain ⟨j, h1, h2⟩ := hj
        exact ih j h1 h2
      · exact ⟨k, hk, fun j h1 h2 => hj ⟨j, h1, h2⟩⟩
  obtain ⟨k, ⟨h1, h2⟩, h3⟩ := hmin
  obtain ⟨u, hu⟩ := getElem?_lt h2
  have hv : (upL P y)[k]? = some u := by rw [← h1]; exact hu
  refine ⟨k, fidx_hit hu (decide_eq_true ((h.both hu).2 hv)) (fun z hz => decide_eq_false fun hm => ?_), ⟨u, hu, hv⟩, fun j hj e => h3 j hj ⟨e, by omega⟩⟩
  obtain ⟨j, hj⟩ := List.getElem?_of_mem hz
  have hjk : j < k := by have := (List.getElem?_eq_some_iff.1 hj).1; rw [List.length_take] at this; omega
  rw [List.getElem?_take, if_pos hjk] at hj
  exact h3 j hjk ⟨by rw [hj, (h.both hj).1 hm], by omega⟩
/-- of threads -/
theorem pair_of {P T : List Int} (h : chkT P T = 0) {i j : Nat} {x y : Int} (hx : T[i]? = some x) (hy : T[j]? = some y) : Pair2 P x y ∧ farI P T i j = fidx (fun z => decide (z ∈ upL P y)) (upL P x) ∧ upI P T i = upL P x ∧ upI P T j = upL P y := by
  have li := (List.getElem?_eq_some_iff.1 hx).1
  have lj := (List.getElem?_eq_some_iff.1 hy).1
  have mx := thr_mem (chk_ok h).2.2.2 hx
  have my := thr_mem (chk_ok h).2.2.2 hy
  have ax := leaf_lt (mem_leaves.1 mx)
  have ay := leaf_lt (mem_leaves.1 my)
  have dx := depT_of h mx
  have dy := depT_of h my
  have hi : hasB T i = true := decide_eq_true (by omega)
  have hj : hasB T j = true := decide_eq_true (by omega)
  have e1 : upI P T i = upL P x := by unfold upI; rw [hi]; simp [hx]
  have e2 : upI P T j = upL P y := by unfold upI; rw [hj]; simp [hy]
  refine ⟨⟨(chk_ok h).2.1, ax.1, ay.1, ax.2.1, ay.2.1, by omega⟩, ?_, e1, e2⟩
  unfold farI
  rw [hi, hj, e1, e2]; rfl
theorem far_plain {P T : List Int} (h : chkT P T = 0) {i j : Nat} {x y : Int} (hx : T[i]? = some x) (hy : T[j]? = some y) :
    0 ≤ farI P T i j ∧ farI P T i j = farI P T j i ∧ meetI P T i j = meetI P T j i ∧ (farI P T i j = 0 ↔ x = y) := by
  obtain ⟨hp, e1, u1, u2⟩ := pair_of h hx hy
  obtain ⟨hq, e2, _, _⟩ := pair_of h hy hx
  obtain ⟨k, k1, ⟨u, k2, k3⟩, k4⟩ := hp.meet
  obtain ⟨m, m1, ⟨v, m2, m3⟩, m4⟩ := hq.meet
  obtain rfl : k = m := by
    rcases Nat.lt_trichotomy k m with hlt | he | hlt
    · exact absurd (by rw [k3, k2]) (m4 k hlt)
    · exact he
    · exact absurd (by rw [m3, m2]) (k4 m hlt)
  rw [k2] at m3
  injection m3 with m3
  subst m3
  have hxs : (upL P x)[0]? = some x := by
    obtain ⟨n, rfl⟩ := Int.eq_ofNat_of_zero_le hp.x0
    obtain ⟨p, hpp⟩ := getElem?_lt (show n < P.length by have := hp.xl; omega)
    rw [upL_step hp.tr hpp]; rfl
  have hys : (upL P y)[0]? = some y := by
    obtain ⟨n, rfl⟩ := Int.eq_ofNat_of_zero_le hp.y0
    obtain ⟨p, hpp⟩ := getElem?_lt (show n < P.length by have := hp.yl; omega)
    rw [upL_step hp.tr hpp]; rfl
  have f1 : farI P T i j = k := by rw [e1, k1]
  have f2 : farI P T j i = k := by rw [e2, m1]
  refine ⟨by omega, by omega, ?_, ?_⟩
  · unfold meetI
    rw [f1, f2, if_neg (by omega), if_neg (by omega), u1, u2, Int.toNat_natCast, getD_of k2, getD_of m2]
  · rw [f1]
    constructor
    · intro e
      obtain rfl : k = 0 := by omega
      rw [hxs] at k2
      rw [hys] at m2
      injection k2 with k2
      injection m2 with m2
      omega
    · rintro rfl
      rcases Nat.eq_zero_or_pos k with e | e
      · omega
      · exact absurd rfl (k4 0 e)
theorem far_ultra {P T : List Int} (h : chkT P T = 0) {i j l : Nat} {x y z : Int} (hx : T[i]? = some x) (hy : T[j]? = some y) (hz : T[l]? = some z) : farI P T i l ≤ max (farI P T i j) (farI P T j l) := by
  obtain ⟨hp, e1, _, _⟩ := pair_of h hx hy
  obtain ⟨hq, e2, _, _⟩ := pair_of h hy hz
  obtain ⟨hr, e3, _, _⟩ := pair_of h hx hz
  obtain ⟨k, k1, ⟨u, k2, k3⟩, _⟩ := hp.meet
  obtain ⟨m, m1, ⟨v, m2, m3⟩, _⟩ := hq.meet
  obtain ⟨n, n1, _, n4⟩ := hr.meet
  have a1 := hp.later k2 k3 (Nat.le_max_left k m)
  have a2 := hq.later m2 m3 (Nat.le_max_right k m)
  have hn : n ≤ max k m := by
    rcases Nat.lt_or_ge (max k m) n with hlt | hge
    · exact absurd (by rw [a1, a2]) (n4 _ hlt)
    · exact hge
  rw [e1, e2, e3, k1, m1, n1]
  omega
end Go.Proofs.Ytnlpghjlhnhkeaa
