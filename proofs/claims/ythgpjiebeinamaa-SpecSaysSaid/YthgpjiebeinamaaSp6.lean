/- Layer 44: the program's Tree; the document's Cohort. -/
import Derived.Test.YthgpjiebeinamaaSp5
namespace Go.Proofs.Ythgpjiebeinamaa
open Go.RowKit

set_option maxRecDepth 100000 in
set_option maxHeartbeats 2000000 in
theorem rcoh_any (w : World) (A B stay g l p b : Int) :
    Calls Try.prog 30 #[.int .i64 A, .int .i64 B, .int .i64 stay, .agg #[.int .i64 g, .int .i64 l, .int .i64 p, .int .i64 b]] w fun e w' => e = .returned (.int .i64 (cohI A B stay g l b : Nat)) ∧ Below w.heap.size w w' := by
  have hb0 : Below w.heap.size w (w.alloc (.cells #[.int .i64 g, .int .i64 l, .int .i64 p, .int .i64 b] 63)) := (Below.refl _ _).alloc (Nat.le_refl _) _
  have HB := Lib.hid hb0
  clear hb0
  cases hc : cohB A B stay g l b
  · have HN := Lib.hid (cohI_no hc)
    have hc' : ¬ (((2 ≤ g ∧ g ≤ 5) ∧ (2 ≤ l ∧ l ≤ 5)) ∧ (0 ≤ b ∧ b ≤ 1000) ∧ (1 ≤ A ∧ A ≤ 32) ∧ (1 ≤ B ∧ B ≤ 32) ∧ (0 ≤ stay ∧ stay ≤ 40000)) := of_decide_eq_false hc
    clear hc
    by_cases h0 : g < 2
    · go_enter Try.func30, Try.ntmps30
      go_wp2
      go_ret
      exact ⟨ret_int (by rw [HN.out]; rfl), HB.out⟩
    by_cases h1 : 5 < g
    · go_enter Try.func30, Try.ntmps30
      go_wp2
      go_ret
      exact ⟨ret_int (by rw [HN.out]; rfl), HB.out⟩
    by_cases h2 : l < 2
    · go_enter Try.func30, Try.ntmps30
      go_wp2
      go_ret
      exact ⟨ret_int (by rw [HN.out]; rfl), HB.out⟩
    by_cases h3 : 5 < l
    · go_enter Try.func30, Try.ntmps30
      go_wp2
      go_ret
      exact ⟨ret_int (by rw [HN.out]; rfl), HB.out⟩
    by_cases h5 : 0 ≤ b ∧ b ≤ 1000
    rotate_left
    · have HR := Lib.hid (fun W => rright_b W b false (decide_eq_false h5))
      clear h5
      go_enter Try.func30, Try.ntmps30
      go_wp2_with fail
      refine (HR.out _).mono ?_
      rintro en w' ⟨rfl, rfl⟩
      go_wp2
      go_ret
      exact ⟨ret_int (by rw [HN.out]; rfl), HB.out⟩
    have HR := Lib.hid (fun W => rright_b W b true (decide_eq_true (by omega)))
    by_cases j0 : A < 1
    · go_enter Try.func30, Try.ntmps30
      go_wp2_with fail
      refine (HR.out _).mono ?_
      rintro en w' ⟨rfl, rfl⟩
      go_wp2
      go_ret
      exact ⟨ret_int (by rw [HN.out]; rfl), HB.out⟩
    by_cases j1 : 32 < A
    · go_enter Try.func30, Try.ntmps30
      go_wp2_with fail
      refine (HR.out _).mono ?_
      rintro en w' ⟨rfl, rfl⟩
      go_wp2
      go_ret
      exact ⟨ret_int (by rw [HN.out]; rfl), HB.out⟩
    by_cases j2 : B < 1
    · go_enter Try.func30, Try.ntmps30
      go_wp2_with fail
      refine (HR.out _).mono ?_
      rintro en w' ⟨rfl, rfl⟩
      go_wp2
      go_ret
      exact ⟨ret_int (by rw [HN.out]; rfl), HB.out⟩
    by_cases j3 : 32 < B
    · go_enter Try.func30, Try.ntmps30
      go_wp2_with fail
      refine (HR.out _).mono ?_
      rintro en w' ⟨rfl, rfl⟩
      go_wp2
      go_ret
      exact ⟨ret_int (by rw [HN.out]; rfl), HB.out⟩
    by_cases j4 : stay < 0
    · go_enter Try.func30, Try.ntmps30
      go_wp2_with fail
      refine (HR.out _).mono ?_
      rintro en w' ⟨rfl, rfl⟩
      go_wp2
      go_ret
      exact ⟨ret_int (by rw [HN.out]; rfl), HB.out⟩
    by_cases j5 : 40000 < stay
    · go_enter Try.func30, Try.ntmps30
      go_wp2_with fail
      refine (HR.out _).mono ?_
      rintro en w' ⟨rfl, rfl⟩
      go_wp2
      go_ret
      exact ⟨ret_int (by rw [HN.out]; rfl), HB.out⟩
    exact absurd (show ((2 ≤ g ∧ g ≤ 5) ∧ (2 ≤ l ∧ l ≤ 5)) ∧ (0 ≤ b ∧ b ≤ 1000) ∧ (1 ≤ A ∧ A ≤ 32) ∧ (1 ≤ B ∧ B ≤ 32) ∧ (0 ≤ stay ∧ stay ≤ 40000) from by omega) hc'
  · obtain ⟨a, c, s, d, rfl, rfl, rfl, rfl, ha, hc', hs, hd, hf⟩ := coh_true hc
    have HN := Lib.hid (cohI_nat hc)
    have HR := Lib.hid (fun W => rright_b W d true (decide_eq_true (by omega)))
    simp only [fifoB, decide_eq_true_eq] at hf
    have m1 := mulN_le (d + 1) (s + 14)
    have m2 := addN_le (mulN (d + 1) (s + 14)) 12
    have m3 := mulN_le c (addN (mulN (d + 1) (s + 14)) 12)
    have m4 := addN_le (mulN c (addN (mulN (d + 1) (s + 14)) 12)) (s + 26)
    have m5 := mulN_le a (addN (mulN c (addN (mulN (d + 1) (s + 14)) 12)) (s + 26))
    clear hc
    go_enter Try.func30, Try.ntmps30
    go_wp2_with fail
    refine (HR.out _).mono ?_
    rintro en w' ⟨rfl, rfl⟩
    go_wp2_with fail
    refine (times_call _ _ _ (d + 1) (s + 14) (by omega) (by omega) (by omega) (by omega)).mono ?_
    rintro en w' ⟨rfl, rfl⟩
    go_wp2_with fail
    refine (add_call _ _ _ (mulN (d + 1) (s + 14)) 12 (by rfl) (by omega) (by omega) (by omega)).mono ?_
    rintro en w' ⟨rfl, rfl⟩
    go_wp2_with fail
    refine (times_call _ _ _ c (addN (mulN (d + 1) (s + 14)) 12) (by rfl) (by rfl) (by omega) (by omega)).mono ?_
    rintro en w' ⟨rfl, rfl⟩
    go_wp2_with fail
    refine (add_call _ _ _ (mulN c (addN (mulN (d + 1) (s + 14)) 12)) (s + 26) (by rfl) (by omega) (by omega) (by omega)).mono ?_
    rintro en w' ⟨rfl, rfl⟩
    go_wp2_with fail
    refine (times_call _ _ _ a (addN (mulN c (addN (mulN (d + 1) (s + 14)) 12)) (s + 26)) (by rfl) (by rfl) (by omega) (by omega)).mono ?_
    rintro en w' ⟨rfl, rfl⟩
    go_wp2_with fail
    refine (add_call _ _ _ (mulN a (addN (mulN c (addN (mulN (d + 1) (s + 14)) 12)) (s + 26))) 4 (by rfl) (by omega) (by omega) (by omega)).mono ?_
    rintro en w' ⟨rfl, rfl⟩
    go_wp2
    go_ret
    exact ⟨ret_int (by rw [HN.out]; rfl), HB.out⟩
theorem arr_hold (f : Nat → Nat) (k : Nat) (l : Nat) (hl : l < 5) : ((List.range 5).map fun (u : Nat) => Value.int .i64 (if u < k then (f u : Int) else 0))[l]? = some (.int .i64 (if l < k then (f l : Int) else 0)) := by
  simp [hl]
/-- the array of the levels, as far as the first k are reckoned -/
def holdsA (f : Nat → Nat) (k : Nat) : Array Value := ((List.range 5).map fun (u : Nat) => Value.int .i64 (if u < k then (f u : Int) else 0)).toArray
theorem holdsA_set (f : Nat → Nat) (k : Nat) : (holdsA f k).setIfInBounds k (.int .i64 (f k : Nat)) = holdsA f (k + 1) := by
  unfold holdsA
  rw [List.setIfInBounds_toArray]
  congr 1
  refine range_set 5 k _ _ _ ?_ fun j hj => ?_
  · show Value.int .i64 (if k < k + 1 then _ else _) = _
    rw [if_pos (by omega)]
  · show Value.int .i64 (if j < k + 1 then _ else _) = Value.int .i64 (if j < k then _ else _)
    by_cases h : j < k
    · rw [if_pos h, if_pos (by omega)]
    · rw [if_neg h, if_neg (by omega)]
theorem holdsA_get (f : Nat → Nat) (k l : Nat) (hl : l < 5) (h : l < k) : (holdsA f k)[l]? = some (.int .i64 (f l : Nat)) := by
  unfold holdsA
  simp [hl, h]
theorem holdsA_zero (f : Nat → Nat) : holdsA f 0 = #[.int .i64 0, .int .i64 0, .int .i64 0, .int .i64 0, .int .i64 0] := by
  unfold holdsA; rfl
end Go.Proofs.Ythgpjiebeinamaa
