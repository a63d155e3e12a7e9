/- Layer 44: the document's Cohort, holds, waits, Tree; the flat kinds. -/
import Derived.Test.YthgpjiebeinamaaSp3
namespace Go.Proofs.Ythgpjiebeinamaa
open Go.RowKit

theorem may_b (w : World) (t k s : Int) (r : Bool) (hr : spanB t k s = r) : Calls Try.prog 80 #[.int .i64 t, .int .i64 k, .int .i64 s] w fun e w' => e = .returned (.bool r) ∧ w = w' := by
  have HE := Lib.hid (show spanB t k s = (decide (1 ≤ t) && decide (t ≤ 32) && decide (1 ≤ k) && decide (k ≤ 4000) && decide (0 ≤ s) && decide (s ≤ 4000)) from by
    unfold spanB
    rw [Bool.eq_iff_iff]
    simp only [Bool.and_eq_true, decide_eq_true_eq]
    omega)
  have HR := Lib.hid hr
  clear hr
  go_enter Try.func80, Try.ntmps80
  by_cases h1 : 1 ≤ t
  · by_cases h2 : t ≤ 32
    · by_cases h3 : 1 ≤ k
      · by_cases h4 : k ≤ 4000
        · by_cases h5 : 0 ≤ s
          · go_wp2
            go_ret
            exact ⟨ret_bool (by rw [← HR.out, HE.out]; simp [h1, h2, h3, h4, h5]), rfl⟩
          · go_wp2
            go_ret
            exact ⟨ret_bool (by rw [← HR.out]; unfold spanB; symm; exact decide_eq_false (by omega)), rfl⟩
        · go_wp2
          go_ret
          exact ⟨ret_bool (by rw [← HR.out]; unfold spanB; symm; exact decide_eq_false (by omega)), rfl⟩
      · go_wp2
        go_ret
        exact ⟨ret_bool (by rw [← HR.out]; unfold spanB; symm; exact decide_eq_false (by omega)), rfl⟩
    · go_wp2
      go_ret
      exact ⟨ret_bool (by rw [← HR.out]; unfold spanB; symm; exact decide_eq_false (by omega)), rfl⟩
  · go_wp2
    go_ret
    exact ⟨ret_bool (by rw [← HR.out]; unfold spanB; symm; exact decide_eq_false (by omega)), rfl⟩
theorem parts_any (w : World) (k : Int) : Calls Try.prog 79 #[.int .i64 k] w fun e w' => e = .returned (.tuple #[.int .i64 (if 2 ≤ k ∧ k ≤ 5 then (onceOf k : Nat) else 0 : Int), .int .i64 (if 2 ≤ k ∧ k ≤ 5 then (eachOf k : Nat) else 0 : Int), .bool (inI k 2 5)]) ∧ w = w' := by
  by_cases h4 : k = 4
  · subst h4
    go_enter Try.func79, Try.ntmps79
    go_wp2
    exact bodyPost_ret (v := .tuple #[.int .i64 6, .int .i64 8, .bool true]) (by simp [results, Try.results79, go_sem]) rfl ⟨rfl, rfl⟩
  · by_cases h5 : k = 5
    · subst h5
      go_enter Try.func79, Try.ntmps79
      go_wp2
      exact bodyPost_ret (v := .tuple #[.int .i64 4, .int .i64 4, .bool true]) (by simp [results, Try.results79, go_sem]) rfl ⟨rfl, rfl⟩
    · by_cases h2 : k = 2
      · subst h2
        go_enter Try.func79, Try.ntmps79
        go_wp2
        exact bodyPost_ret (v := .tuple #[.int .i64 3, .int .i64 4, .bool true]) (by simp [results, Try.results79, go_sem]) rfl ⟨rfl, rfl⟩
      · by_cases h3 : k = 3
        · subst h3
          go_enter Try.func79, Try.ntmps79
          go_wp2
          exact bodyPost_ret (v := .tuple #[.int .i64 3, .int .i64 4, .bool true]) (by simp [results, Try.results79, go_sem]) rfl ⟨rfl, rfl⟩
        · have e2 : (k == 2) = false := by simpa using h2
          have e3 : (k == 3) = false := by simpa using h3
          have e4 : (k == 4) = false := by simpa using h4
          have e5 : (k == 5) = false := by simpa using h5
          have HN := Lib.hid (show ¬ (2 ≤ k ∧ k ≤ 5) from by omega)
          clear h2 h3 h4 h5
          go_enter Try.func79, Try.ntmps79
          go_wp2
          refine bodyPost_ret (v := .tuple #[.int .i64 0, .int .i64 0, .bool false]) (by simp [results, Try.results79, go_sem]) rfl ⟨?_, rfl⟩
          first | rw [if_neg HN.out, if_neg HN.out, show inI k 2 5 = false from decide_eq_false HN.out] | rw [show inI k 2 5 = false from decide_eq_false HN.out]
/-- Each of a flat kind, the program's and the document's -/
theorem spanI_of {kind : Int} {t k s : Nat} (h : spanB t k s = true) (hk : 2 ≤ kind ∧ kind ≤ 5) : spanI kind t k s = k * (onceOf kind + (t - 1) * (s + eachOf kind)) := by
  unfold spanI; rw [if_pos ⟨h, hk.1, hk.2⟩]; simp
theorem spanI_no {kind t k s : Int} (h : ¬ (spanB t k s = true ∧ 2 ≤ kind ∧ kind ≤ 5)) : spanI kind t k s = 0 := if_neg h
theorem span_true {t k s : Int} (h : spanB t k s = true) : ∃ a b c : Nat, t = a ∧ k = b ∧ s = c ∧ (1 ≤ a ∧ a ≤ 32) ∧ (1 ≤ b ∧ b ≤ 4000) ∧ c ≤ 4000 := by
  simp only [spanB, decide_eq_true_eq] at h
  exact ⟨t.toNat, k.toNat, s.toNat, by omega, by omega, by omega, by omega, by omega, by omega⟩
theorem once_le (k : Int) : onceOf k ≤ 6 ∧ eachOf k ≤ 8 := by unfold onceOf eachOf; constructor <;> (repeat' split) <;> omega
theorem span_bound {a b c o e : Nat} (ha : a ≤ 32) (hb : b ≤ 4000) (hc : c ≤ 4000) (ho : o ≤ 6) (he : e ≤ 8) : (a - 1) * (c + e) ≤ 31 * 4008 ∧ b * (o + (a - 1) * (c + e)) ≤ 4000 * (6 + 31 * 4008) := by
  have h1 : (a - 1) * (c + e) ≤ 31 * 4008 := Nat.mul_le_mul (by omega) (by omega)
  exact ⟨h1, Nat.mul_le_mul hb (by omega)⟩
set_option maxHeartbeats 1000000 in
theorem span_any (w : World) (kind t k s : Int) : Calls Try.prog 52 #[.int .i64 kind, .int .i64 t, .int .i64 k, .int .i64 s] w fun e w' => e = .returned (.int .i64 (spanI kind t k s : Nat)) ∧ w = w' := by
  by_cases hk : 2 ≤ kind ∧ kind ≤ 5
  · have hp := parts_any w kind
    rw [if_pos hk, if_pos hk, show inI kind 2 5 = true from decide_eq_true hk] at hp
    cases hs : spanB t k s
    · have HN := Lib.hid (spanI_no (kind := kind) (t := t) (k := k) (s := s) (by rw [hs]; simp))
      have HM := Lib.hid (fun W => may_b W t k s _ hs)
      have HP := Lib.hid hp
      clear hs hp
      go_enter Try.func52, Try.ntmps52
      go_wp2_with fail
      refine HP.out.mono ?_
      rintro en w' ⟨rfl, rfl⟩
      go_wp2_with fail
      refine (HM.out _).mono ?_
      rintro en w' ⟨rfl, rfl⟩
      go_wp2
      go_ret
      exact ⟨ret_int (by rw [HN.out]; rfl), rfl⟩
    · have HM := Lib.hid (fun W => may_b W t k s _ hs)
      obtain ⟨a, b, c, rfl, rfl, rfl, ha, hb, hc⟩ := span_true hs
      have HN := Lib.hid (spanI_of hs hk)
      have hol := once_le kind
      obtain ⟨o, ho⟩ : ∃ o, o = onceOf kind := ⟨_, rfl⟩
      obtain ⟨e, he⟩ : ∃ e, e = eachOf kind := ⟨_, rfl⟩
      rw [← ho, ← he] at hp HN hol
      have hbd := span_bound ha.2 hb.2 hc hol.1 hol.2
      have HP := Lib.hid hp
      obtain ⟨a1, rfl⟩ : ∃ a1, a = a1 + 1 := ⟨a - 1, by omega⟩
      have i1 : (0 : Int) ≤ (a1 : Int) * ((c : Int) + (e : Int)) ∧ (a1 : Int) * ((c : Int) + (e : Int)) ≤ 31 * 4008 := by
        have h := hbd.1
        simp only [Nat.add_sub_cancel] at h
        have h' : ((a1 * (c + e) : Nat) : Int) = (a1 : Int) * ((c : Int) + (e : Int)) := by simp
        rw [← h']; omega
      have i2 : (0 : Int) ≤ (b : Int) * ((o : Int) + (a1 : Int) * ((c : Int) + (e : Int))) ∧ (b : Int) * ((o : Int) + (a1 : Int) * ((c : Int) + (e : Int))) ≤ 4000 * (6 + 31 * 4008) := by
        have h := hbd.2
        simp only [Nat.add_sub_cancel] at h
        have h' : ((b * (o + a1 * (c + e)) : Nat) : Int) = (b : Int) * ((o : Int) + (a1 : Int) * ((c : Int) + (e : Int))) := by simp
        rw [← h']; omega
      clear hs hp ho he hbd
      go_enter Try.func52, Try.ntmps52
      go_wp2_with fail
      refine HP.out.mono ?_
      rintro en w' ⟨rfl, rfl⟩
      go_wp2_with fail
      refine (HM.out _).mono ?_
      rintro en w' ⟨rfl, rfl⟩
      go_wp2
      go_ret
      exact ⟨ret_int (by rw [HN.out]; simp), rfl⟩
  · have hp := parts_any w kind
    rw [if_neg hk, if_neg hk, show inI kind 2 5 = false from decide_eq_false hk] at hp
    have HP := Lib.hid hp
    have HN := Lib.hid (spanI_no (kind := kind) (t := t) (k := k) (s := s) (fun h => hk h.2))
    clear hp hk
    go_enter Try.func52, Try.ntmps52
    go_wp2_with fail
    refine HP.out.mono ?_
    rintro en w' ⟨rfl, rfl⟩
    go_wp2
    go_ret
    exact ⟨ret_int (by rw [HN.out]; rfl), rfl⟩
theorem rspan_any (w : World) (kind t k s : Int) : Calls Try.prog 57 #[.int .i64 kind, .int .i64 t, .int .i64 k, .int .i64 s] w fun e w' => e = .returned (.int .i64 (spanI kind t k s : Nat)) ∧ w = w' := by
  cases hs : spanB t k s
  · have HN := Lib.hid (spanI_no (kind := kind) (t := t) (k := k) (s := s) (by rw [hs]; simp))
    have hs' : ¬ ((1 ≤ t ∧ t ≤ 32) ∧ (1 ≤ k ∧ k ≤ 4000) ∧ (0 ≤ s ∧ s ≤ 4000)) := of_decide_eq_false hs
    clear hs
    by_cases h1 : t < 1
    · go_enter Try.func57, Try.ntmps57
      go_wp2
      go_ret
      exact ⟨ret_int (by rw [HN.out]; rfl), rfl⟩
    by_cases h2 : 32 < t
    · go_enter Try.func57, Try.ntmps57
      go_wp2
      go_ret
      exact ⟨ret_int (by rw [HN.out]; rfl), rfl⟩
    by_cases h3 : k < 1
    · go_enter Try.func57, Try.ntmps57
      go_wp2
      go_ret
      exact ⟨ret_int (by rw [HN.out]; rfl), rfl⟩
    by_cases h4 : 4000 < k
    · go_enter Try.func57, Try.ntmps57
      go_wp2
      go_ret
      exact ⟨ret_int (by rw [HN.out]; rfl), rfl⟩
    by_cases h5 : s < 0
    · go_enter Try.func57, Try.ntmps57
      go_wp2
      go_ret
      exact ⟨ret_int (by rw [HN.out]; rfl), rfl⟩
    have h6 : 4000 < s := by omega
    go_enter Try.func57, Try.ntmps57
    go_wp2
    go_ret
    exact ⟨ret_int (by rw [HN.out]; rfl), rfl⟩
  · obtain ⟨a, b, c, rfl, rfl, rfl, ha, hb, hc⟩ := span_true hs
    by_cases k2 : kind = 2
    · subst k2
      have hbd := span_bound (a := a) (b := b) (c := c) (o := 3) (e := 4) ha.2 hb.2 hc (by omega) (by omega)
      have HN := Lib.hid (show spanI 2 a b c = b * (3 + (a - 1) * (c + 4)) from spanI_of hs (by omega))
      obtain ⟨a1, rfl⟩ : ∃ a1, a = a1 + 1 := ⟨a - 1, by omega⟩
      have i1 : (0 : Int) ≤ (a1 : Int) * ((c : Int) + 4) ∧ (a1 : Int) * ((c : Int) + 4) ≤ 31 * 4008 := by
        have h := hbd.1
        simp only [Nat.add_sub_cancel] at h
        have h' : ((a1 * (c + 4) : Nat) : Int) = (a1 : Int) * ((c : Int) + 4) := by simp
        rw [← h']; omega
      have i2 : (0 : Int) ≤ (b : Int) * (3 + (a1 : Int) * ((c : Int) + 4)) ∧ (b : Int) * (3 + (a1 : Int) * ((c : Int) + 4)) ≤ 4000 * (6 + 31 * 4008) := by
        have h := hbd.2
        simp only [Nat.add_sub_cancel] at h
        have h' : ((b * (3 + a1 * (c + 4)) : Nat) : Int) = (b : Int) * (3 + (a1 : Int) * ((c : Int) + 4)) := by simp
        rw [← h']; omega
      clear hs hbd
      go_enter Try.func57, Try.ntmps57
      go_wp2
      go_ret
      exact ⟨ret_int (by rw [HN.out]; simp), rfl⟩
    by_cases k3 : kind = 3
    · subst k3
      have hbd := span_bound (a := a) (b := b) (c := c) (o := 3) (e := 4) ha.2 hb.2 hc (by omega) (by omega)
      have HN := Lib.hid (show spanI 3 a b c = b * (3 + (a - 1) * (c + 4)) from spanI_of hs (by omega))
      obtain ⟨a1, rfl⟩ : ∃ a1, a = a1 + 1 := ⟨a - 1, by omega⟩
      have i1 : (0 : Int) ≤ (a1 : Int) * ((c : Int) + 4) ∧ (a1 : Int) * ((c : Int) + 4) ≤ 31 * 4008 := by
        have h := hbd.1
        simp only [Nat.add_sub_cancel] at h
        have h' : ((a1 * (c + 4) : Nat) : Int) = (a1 : Int) * ((c : Int) + 4) := by simp
        rw [← h']; omega
      have i2 : (0 : Int) ≤ (b : Int) * (3 + (a1 : Int) * ((c : Int) + 4)) ∧ (b : Int) * (3 + (a1 : Int) * ((c : Int) + 4)) ≤ 4000 * (6 + 31 * 4008) := by
        have h := hbd.2
        simp only [Nat.add_sub_cancel] at h
        have h' : ((b * (3 + a1 * (c + 4)) : Nat) : Int) = (b : Int) * (3 + (a1 : Int) * ((c : Int) + 4)) := by simp
        rw [← h']; omega
      clear hs hbd
      go_enter Try.func57, Try.ntmps57
      go_wp2
      go_ret
      exact ⟨ret_int (by rw [HN.out]; simp), rfl⟩
    by_cases k4 : kind = 4
    · subst k4
      have hbd := span_bound (a := a) (b := b) (c := c) (o := 6) (e := 8) ha.2 hb.2 hc (by omega) (by omega)
      have HN := Lib.hid (show spanI 4 a b c = b * (6 + (a - 1) * (c + 8)) from spanI_of hs (by omega))
      obtain ⟨a1, rfl⟩ : ∃ a1, a = a1 + 1 := ⟨a - 1, by omega⟩
      have i1 : (0 : Int) ≤ (a1 : Int) * ((c : Int) + 8) ∧ (a1 : Int) * ((c : Int) + 8) ≤ 31 * 4008 := by
        have h := hbd.1
        simp only [Nat.add_sub_cancel] at h
        have h' : ((a1 * (c + 8) : Nat) : Int) = (a1 : Int) * ((c : Int) + 8) := by simp
        rw [← h']; omega
      have i2 : (0 : Int) ≤ (b : Int) * (6 + (a1 : Int) * ((c : Int) + 8)) ∧ (b : Int) * (6 + (a1 : Int) * ((c : Int) + 8)) ≤ 4000 * (6 + 31 * 4008) := by
        have h := hbd.2
        simp only [Nat.add_sub_cancel] at h
        have h' : ((b * (6 + a1 * (c + 8)) : Nat) : Int) = (b : Int) * (6 + (a1 : Int) * ((c : Int) + 8)) := by simp
        rw [← h']; omega
      clear hs hbd
      go_enter Try.func57, Try.ntmps57
      go_wp2
      go_ret
      exact ⟨ret_int (by rw [HN.out]; simp), rfl⟩
    by_cases k5 : kind = 5
    · subst k5
      have hbd := span_bound (a := a) (b := b) (c := c) (o := 4) (e := 4) ha.2 hb.2 hc (by omega) (by omega)
      have HN := Lib.hid (show spanI 5 a b c = b * (4 + (a - 1) * (c + 4)) from spanI_of hs (by omega))
      obtain ⟨a1, rfl⟩ : ∃ a1, a = a1 + 1 := ⟨a - 1, by omega⟩
      have i1 : (0 : Int) ≤ (a1 : Int) * ((c : Int) + 4) ∧ (a1 : Int) * ((c : Int) + 4) ≤ 31 * 4008 := by
        have h := hbd.1
        simp only [Nat.add_sub_cancel] at h
        have h' : ((a1 * (c + 4) : Nat) : Int) = (a1 : Int) * ((c : Int) + 4) := by simp
        rw [← h']; omega
      have i2 : (0 : Int) ≤ (b : Int) * (4 + (a1 : Int) * ((c : Int) + 4)) ∧ (b : Int) * (4 + (a1 : Int) * ((c : Int) + 4)) ≤ 4000 * (6 + 31 * 4008) := by
        have h := hbd.2
        simp only [Nat.add_sub_cancel] at h
        have h' : ((b * (4 + a1 * (c + 4)) : Nat) : Int) = (b : Int) * (4 + (a1 : Int) * ((c : Int) + 4)) := by simp
        rw [← h']; omega
      clear hs hbd
      go_enter Try.func57, Try.ntmps57
      go_wp2
      go_ret
      exact ⟨ret_int (by rw [HN.out]; simp), rfl⟩
    have HN := Lib.hid (spanI_no (kind := kind) (t := a) (k := b) (s := c) (fun h => by omega))
    have e2 : (kind == 2) = false := by simpa using k2
    have e3 : (kind == 3) = false := by simpa using k3
    have e4 : (kind == 4) = false := by simpa using k4
    have e5 : (kind == 5) = false := by simpa using k5
    clear hs k2 k3 k4 k5
    go_enter Try.func57, Try.ntmps57
    go_wp2
    go_ret
    exact ⟨ret_int (by rw [HN.out]; rfl), rfl⟩
theorem cna_most (w : World) (t b : Nat) (ht : 1 ≤ t ∧ t ≤ 32) (hb : b ≤ 1000) : Calls Try.prog 85 #[.int .i64 t, .int .i64 b] w fun e w' => e = .returned (.int .i64 ((t - 1 + t * b : Nat) : Int)) ∧ w = w' := by
  have h1 : (0 : Int) ≤ (t : Int) * (b : Int) ∧ (t : Int) * (b : Int) ≤ 40000 := by
    have h : t * b ≤ 40000 := Nat.le_trans (Nat.mul_le_mul ht.2 (show _ ≤ 1000 by omega)) (by omega)
    have h' : ((t * b : Nat) : Int) = (t : Int) * (b : Int) := by simp
    rw [← h']; omega
  have HR := Lib.hid (fun W => right_b W b true (decide_eq_true (by omega)))
  go_enter Try.func85, Try.ntmps85
  go_wp2_with (go_at_call 49; refine (HR.out _).mono ?_; rintro e w' ⟨rfl, rfl⟩)
  go_ret
  exact ⟨ret_int (by first | (simp; done) | (simp; omega)), rfl⟩
theorem rcna_most (w : World) (t b : Nat) (ht : 1 ≤ t ∧ t ≤ 32) (hb : b ≤ 1000) : Calls Try.prog 91 #[.int .i64 t, .int .i64 b] w fun e w' => e = .returned (.int .i64 ((t - 1 + t * b : Nat) : Int)) ∧ w = w' := by
  have h1 : (0 : Int) ≤ (t : Int) * (b : Int) ∧ (t : Int) * (b : Int) ≤ 40000 := by
    have h : t * b ≤ 40000 := Nat.le_trans (Nat.mul_le_mul ht.2 (show _ ≤ 1000 by omega)) (by omega)
    have h' : ((t * b : Nat) : Int) = (t : Int) * (b : Int) := by simp
    rw [← h']; omega
  have HR := Lib.hid (fun W => right_b W b true (decide_eq_true (by omega)))
  go_enter Try.func91, Try.ntmps91
  go_wp2_with (go_at_call 49; refine (HR.out _).mono ?_; rintro e w' ⟨rfl, rfl⟩)
  go_ret
  exact ⟨ret_int (by first | (simp; done) | (simp; omega)), rfl⟩
theorem mal_most (w : World) (t b : Nat) (ht : 1 ≤ t ∧ t ≤ 32) (hb : b ≤ 1000) : Calls Try.prog 86 #[.int .i64 t, .int .i64 b] w fun e w' => e = .returned (.int .i64 ((t * (t + b + 2) : Nat) : Int)) ∧ w = w' := by
  have h1 : (0 : Int) ≤ (t : Int) * ((t : Int) + (b : Int) + 2) ∧ (t : Int) * ((t : Int) + (b : Int) + 2) ≤ 40000 := by
    have h : t * (t + b + 2) ≤ 40000 := Nat.le_trans (Nat.mul_le_mul ht.2 (show _ ≤ 1034 by omega)) (by omega)
    have h' : ((t * (t + b + 2) : Nat) : Int) = (t : Int) * ((t : Int) + (b : Int) + 2) := by simp
    rw [← h']; omega
  have HR := Lib.hid (fun W => right_b W b true (decide_eq_true (by omega)))
  go_enter Try.func86, Try.ntmps86
  go_wp2_with (go_at_call 49; refine (HR.out _).mono ?_; rintro e w' ⟨rfl, rfl⟩)
  go_ret
  exact ⟨ret_int (by first | (simp; done) | (simp; omega)), rfl⟩
theorem rmal_most (w : World) (t b : Nat) (ht : 1 ≤ t ∧ t ≤ 32) (hb : b ≤ 1000) : Calls Try.prog 92 #[.int .i64 t, .int .i64 b] w fun e w' => e = .returned (.int .i64 ((t * (t + b + 2) : Nat) : Int)) ∧ w = w' := by
  have h1 : (0 : Int) ≤ (t : Int) * ((t : Int) + (b : Int) + 2) ∧ (t : Int) * ((t : Int) + (b : Int) + 2) ≤ 40000 := by
    have h : t * (t + b + 2) ≤ 40000 := Nat.le_trans (Nat.mul_le_mul ht.2 (show _ ≤ 1034 by omega)) (by omega)
    have h' : ((t * (t + b + 2) : Nat) : Int) = (t : Int) * ((t : Int) + (b : Int) + 2) := by simp
    rw [← h']; omega
  have HR := Lib.hid (fun W => right_b W b true (decide_eq_true (by omega)))
  go_enter Try.func92, Try.ntmps92
  go_wp2_with (go_at_call 49; refine (HR.out _).mono ?_; rintro e w' ⟨rfl, rfl⟩)
  go_ret
  exact ⟨ret_int (by first | (simp; done) | (simp; omega)), rfl⟩
end Go.Proofs.Ythgpjiebeinamaa
