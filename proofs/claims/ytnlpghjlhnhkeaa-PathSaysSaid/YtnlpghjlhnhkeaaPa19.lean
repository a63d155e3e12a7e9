/- Layer 7: topologies that are too long; the plain facts of PathCounts. -/
import Derived.Test.YtnlpghjlhnhkeaaPa18
namespace Go.Proofs.Ytnlpghjlhnhkeaa
open Go.RowKit

/-- too long for a table -/
def LongT (nP nT : Nat) : Prop := (60 < nP ∨ 60 < nT) ∧ nP ≤ 9223372036854775807 ∧ nT ≤ 9223372036854775807
set_option maxHeartbeats 1000000 in
theorem check_long (w : World) (AP AT : Option Addr) (nP cP nT cT : Nat) (h : LongT nP nT) :
    Calls Try.prog 37 #[.agg #[.slice AP nP cP, .slice AT nT cT]] w fun e w' => e = .returned (.int .i64 8) ∧ Below w.heap.size w w' := by
  obtain ⟨h0, h1, h2⟩ := h
  have HB0 := Lib.hid ((Below.refl w.heap.size w).alloc (Nat.le_refl _) (.cells #[.slice AP nP cP, .slice AT nT cT] 24))
  go_enter Try.func37, Try.ntmps37
  go_upto_region 1 with fail
  go_quiet (fail)
  have HB := Lib.hid (below_drewN HB0.out nq)
  by_cases a1 : nP < 1
  · go_wp2
    go_ret
    exact ⟨rfl, HB.out⟩
  by_cases a2 : 32 < nP
  · clear h0
    go_wp2
    go_ret
    exact ⟨rfl, HB.out⟩
  have a3 : 60 < nT := by omega
  have a4 : 32 < nT := by omega
  clear h0
  go_wp2
  go_ret
  exact ⟨rfl, HB.out⟩
theorem few_long (w : World) (AP AT : Option Addr) (nP cP nT cT : Nat) (h : LongT nP nT) :
    Calls Try.prog 9 #[.agg #[.slice AP nP cP, .slice AT nT cT]] w fun e w' => e = .returned (.bool false) ∧ Below w.heap.size w w' := by
  obtain ⟨h0, h1, h2⟩ := h
  go_enter Try.func9, Try.ntmps9
  by_cases a1 : nP ≤ 60
  · have a2 : ¬ nT ≤ 60 := by omega
    have a3 : 60 < nT := by omega
    clear h0
    go_wp2
    go_ret
    exact ⟨ret_bool (by simp; omega), (Below.refl _ _).alloc (Nat.le_refl _) _⟩
  · have a3 : 60 < nP := by omega
    clear h0
    go_wp2
    go_ret
    exact ⟨rfl, (Below.refl _ _).alloc (Nat.le_refl _) _⟩
theorem new_long (w : World) (AP AT : Option Addr) (nP cP nT cT : Nat) (h : LongT nP nT) :
    Calls Try.prog 8 #[.agg #[.slice AP nP cP, .slice AT nT cT]] w fun e w' => e = .returned (.tuple #[.pointer none, .int .i64 8]) ∧ Below w.heap.size w w' := by
  have HC := Lib.hid (check_long (w.alloc (.cells #[.slice AP nP cP, .slice AT nT cT] 24)) AP AT nP cP nT cT h)
  have HB0 := Lib.hid ((Below.refl w.heap.size w).alloc (Nat.le_refl _) (.cells #[.slice AP nP cP, .slice AT nT cT] 24))
  clear h
  go_enter Try.func8, Try.ntmps8
  go_wp2_with fail
  refine HC.out.mono ?_
  rintro en w1 ⟨rfl, b1⟩
  have HB1 := Lib.hid (HB0.out.trans (b1.mono HB0.out.size))
  clear b1
  go_wp2
  go_ret2
  exact ⟨rfl, HB1.out⟩
/-- how many threads stand at the first n nodes -/
def sumM (P T : List Int) (n : Nat) : Nat := (T.filter fun x => decide (idxI (leavesL P) x < n)).length
theorem filter_split {α : Type} (p q r : α → Bool) (l : List α) (h : ∀ x ∈ l, p x = (q x || r x)) (hd : ∀ x ∈ l, q x = true → r x = false) : (l.filter p).length = (l.filter q).length + (l.filter r).length := by
  induction l with
  | nil => rfl
  | cons a l ih =>
    have i1 := ih (fun x hx => h x (by simp [hx])) (fun x hx => hd x (by simp [hx]))
    have h1 := h a (by simp)
    have h2 := hd a (by simp)
    simp only [List.filter_cons]
    cases hq : q a <;> cases hr : r a <;> rw [hq, hr] at h1 <;> simp [h1, i1] <;> (try omega)
    · exact absurd (h2 hq) (by simp [hr])
theorem sumM_zero {P T : List Int} (h : chkT P T = 0) : sumM P T 0 = 0 := by
  unfold sumM
  rw [List.length_eq_zero_iff, List.filter_eq_nil_iff]
  intro x hx e
  obtain ⟨i, hi⟩ := List.getElem?_of_mem hx
  have := (idx_nonneg (leavesL P) x).1.2 (thr_mem (chk_ok h).2.2.2 hi)
  have := of_decide_eq_true e
  omega
theorem sumM_succ {P T : List Int} (h : chkT P T = 0) (n : Nat) : ((sumM P T (n + 1) : Nat) : Int) = sumM P T n + matesI P T n := by
  rw [← mateC_all h n]
  unfold sumM mateC
  rw [List.take_length, filter_split (fun x => decide (idxI (leavesL P) x < ((n + 1 : Nat) : Int))) (fun x => decide (idxI (leavesL P) x < (n : Int))) (fun x => idxI (leavesL P) x == (n : Int)) T]
  · omega
  · intro x _
    rw [Bool.eq_iff_iff]; simp; omega
  · intro x _ hx
    have := of_decide_eq_true hx
    rw [beq_eq_false_iff_ne]; omega
theorem sumM_all (P T : List Int) : sumM P T (leavesL P).length = T.length := by
  unfold sumM
  rw [List.filter_eq_self.2]
  intro x hx
  have := (idx_nonneg (leavesL P) x).2.1
  exact decide_eq_true this
theorem sumM_le (P T : List Int) (n : Nat) : sumM P T n ≤ T.length := List.length_filter_le _ _
theorem idx_inj {P : List Int} {x y : Int} (hx : x ∈ leavesL P) (hy : y ∈ leavesL P) (h : idxI (leavesL P) x = idxI (leavesL P) y) : x = y := by
  have h0 := (idx_nonneg (leavesL P) x).1.2 hx
  obtain ⟨k, hk⟩ := Int.eq_ofNat_of_zero_le h0
  have h1 := idx_get hx hk
  have h2 := idx_get hy (by rw [← h]; exact hk)
  rw [h1] at h2
  exact Option.some.inj h2
theorem node_nat {P T : List Int} {i : Nat} {x : Int} (hi : T[i]? = some x) : nodeI P T i = idxI (leavesL P) x := by
  have hl := (List.getElem?_eq_some_iff.1 hi).1
  unfold nodeI
  rw [show hasB T i = true from decide_eq_true (by omega)]
  simp [hi]
theorem slot_nat {T : List Int} {i : Nat} {x : Int} (hi : T[i]? = some x) : slotI T i = (((T.take i).count x : Nat) : Int) := by
  have hl := (List.getElem?_eq_some_iff.1 hi).1
  unfold slotI
  rw [show hasB T i = true from decide_eq_true (by omega)]
  simp [slotOf_take hi]
theorem mates_node {P T : List Int} (h : chkT P T = 0) {i : Nat} {x : Int} (hi : T[i]? = some x) : matesI P T (nodeI P T i) = ((T.count x : Nat) : Int) := by
  have hm := thr_mem (chk_ok h).2.2.2 hi
  have h0 := (idx_nonneg (leavesL P) x).1.2 hm
  have h1 := (idx_nonneg (leavesL P) x).2.1
  obtain ⟨k, hk⟩ := Int.eq_ofNat_of_zero_le h0
  have hg := idx_get hm hk
  rw [node_nat hi, hk]
  unfold matesI
  rw [if_pos (by omega), Int.toNat_natCast, getD_of hg]
theorem count_lt {T : List Int} {i : Nat} {x : Int} (hi : T[i]? = some x) : (T.take i).count x < T.count x := by
  have h1 := count_take hi x
  have h2 : (T.take (i + 1)).count x ≤ T.count x := (List.take_sublist _ _).count_le _
  rw [h1] at h2
  simp at h2
  omega
theorem slot_lt {P T : List Int} (h : chkT P T = 0) {i : Nat} (hi : i < T.length) : 0 ≤ slotI T i ∧ slotI T i < matesI P T (nodeI P T i) := by
  obtain ⟨x, hx⟩ := getElem?_lt hi
  have := count_lt hx
  rw [slot_nat hx, mates_node h hx]
  omega
theorem slot_ne {P T : List Int} (h : chkT P T = 0) {i k : Nat} (hi : i < T.length) (hk : k < i) (hn : nodeI P T i = nodeI P T k) : slotI T i ≠ slotI T k := by
  obtain ⟨x, hx⟩ := getElem?_lt hi
  obtain ⟨y, hy⟩ := getElem?_lt (show k < T.length by omega)
  rw [node_nat hx, node_nat hy] at hn
  have e := idx_inj (thr_mem (chk_ok h).2.2.2 hx) (thr_mem (chk_ok h).2.2.2 hy) hn
  subst e
  rw [slot_nat hx, slot_nat hy]
  have h1 := count_take hy x
  have h2 : (T.take (k + 1)).count x ≤ (T.take i).count x := by
    rw [show T.take (k + 1) = (T.take i).take (k + 1) by rw [List.take_take]; congr 1; omega]
    exact (List.take_sublist _ _).count_le _
  rw [h1] at h2
  simp at h2
  omega
end Go.Proofs.Ytnlpghjlhnhkeaa
