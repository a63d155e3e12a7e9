/- Layer 45: the walk of FamilySays. -/
import Derived.Test.YtfbiejkdeadheaaFam6
namespace Go.Proofs.Ytfbiejkdeadheaa
open Go.RowKit

theorem same_true (w : World) (v1 v2 : Value) (a : List (Int × Int)) (h1 : RdL w v1 2 encP a) (h2 : RdL w v2 2 encP a) :
    Calls Try.prog 17 #[v1, v2] w fun e w' => e = .returned (.bool true) ∧ Qt w w' :=
  (same_any w v1 v2 a a h1 h2).mono fun _ _ ⟨he, hq⟩ => ⟨by rw [he]; simp, hq⟩

theorem nil_same (w : World) : Calls Try.prog 17 #[.slice none 0 0, .slice none 0 0] w fun e w' => e = .returned (.bool true) ∧ w = w' := by
  go_enter Try.func17, Try.ntmps17
  go_wp2
  refine wp_loop_rounds 1 ?_
  rw [rounds_succ]
  go_wp2
  go_ret
  exact ⟨rfl, rfl⟩

set_option maxHeartbeats 2000000 in
theorem says_none (b m : Int) (en : Int) (w : World) 
    (h1 : ∀ w, Calls Try.prog 14 #[.int .i64 b, .int .i64 m] w fun e w' => e = .returned (.tuple #[.slice none 0 0, .int .i64 en]) ∧ w = w')
    (h2 : ∀ w, Calls Try.prog 15 #[.int .i64 b, .int .i64 m] w fun e w' => e = .returned (.tuple #[.slice none 0 0, .int .i64 en]) ∧ w = w')
    (h3 : ∀ w, Calls Try.prog 18 #[.int .i64 b, .int .i64 m] w fun e w' => e = .returned (.int .i64 0) ∧ w = w') :
    Calls Try.prog 3 #[.int .i64 b, .int .i64 m] w fun e w' => e = .returned (.bool true) ∧ Below w.heap.size w w' := by
  have H1 := Lib.hid h1
  have H2 := Lib.hid h2
  have H3 := Lib.hid h3
  clear h1 h2 h3
  go_enter Try.func3, Try.ntmps3
  go_wp2_with fail
  refine (H1.out _).mono ?_
  rintro e w' ⟨rfl, rfl⟩
  go_wp2_with fail
  refine (H2.out _).mono ?_
  rintro e w' ⟨rfl, rfl⟩
  go_wp2_with fail
  refine (world_any _ _).mono ?_
  rintro e w1 ⟨p, q, rfl, hb⟩
  have HB := Lib.hid hb
  clear hb
  go_wp2_with fail
  refine (nil_same _).mono ?_
  rintro e w' ⟨rfl, rfl⟩
  go_wp2_with fail
  refine (H3.out _).mono ?_
  rintro e w' ⟨rfl, rfl⟩
  go_wp2_with fail
  refine (awake45 _).mono ?_
  rintro e w2 ⟨rfl, hb2⟩
  go_wp2
  go_ret
  exact ⟨rfl, ((HB.out.alloc HB.out.size _).alloc (by have := HB.out.size; simp; omega) _).trans (hb2.mono (by have := HB.out.size; simp; omega))⟩

set_option maxHeartbeats 2000000 in
theorem says_some (b : Int) (m : Nat) (w : World) (h0 : 0 ≤ b) (h1 : b ≤ 1000) (hsz : 4 + m * (9 + outN b) + 4 ≤ 4000) :
    Calls Try.prog 3 #[.int .i64 b, .int .i64 m] w fun e w' => e = .returned (.bool true) ∧ Below w.heap.size w w' := by
  obtain ⟨l, hl⟩ : ∃ l, l = scriptL b m := ⟨_, rfl⟩
  have H1 : Hid (∀ w, Calls Try.prog 14 #[.int .i64 b, .int .i64 m] w fun e w' => ∃ v, e = .returned (.tuple #[v, .int .i64 0]) ∧ RdL w' v 2 encP l ∧ Below w.heap.size w w') := by rw [hl]; exact Lib.hid fun w => script_ok b m w h0 h1 hsz
  have H2 : Hid (∀ w, Calls Try.prog 15 #[.int .i64 b, .int .i64 m] w fun e w' => ∃ v, e = .returned (.tuple #[v, .int .i64 0]) ∧ RdL w' v 2 encP l ∧ Below w.heap.size w w') := by rw [hl]; exact Lib.hid fun w => rscript_ok b m w h0 h1 hsz
  have H3 : Hid (∀ w, Calls Try.prog 18 #[.int .i64 b, .int .i64 m] w fun e w' => e = .returned (.int .i64 (l.length : Int)) ∧ w = w') := by
    rw [hl]; exact Lib.hid fun w => by have := size_any b m w; rw [size_pos b m ⟨h0, h1⟩ hsz] at this; rw [scriptL_len]; exact this
  have hll : l.length ≤ 4000 := by rw [hl, scriptL_len]; omega
  clear hl hsz
  go_enter Try.func3, Try.ntmps3
  go_wp2_with fail
  refine (H1.out _).mono ?_
  rintro e w1 ⟨v1, rfl, r1, b1⟩
  have R1 := Lib.hid (And.intro r1 b1)
  clear r1 b1
  go_wp2_with fail
  refine (H2.out _).mono ?_
  rintro e w2 ⟨v2, rfl, r2, b2⟩
  obtain ⟨A2, c2, rfl, m1, m2, m3⟩ := r2
  have R2 := Lib.hid (And.intro (show RdL w2 (.slice A2 l.length c2) 2 encP l from ⟨A2, c2, rfl, m1, m2, m3⟩) b2)
  clear b2 m1 m2 m3
  go_wp2_with fail
  refine (world_any _ _).mono ?_
  rintro e w3 ⟨p, q, rfl, b3⟩
  have B3 := Lib.hid b3
  clear b3
  go_wp2_with fail
  have hs2 := R2.out.2.size
  have hs3 := B3.out.size
  refine (same_true _ v1 _ l ?_ ?_).mono ?_
  · exact ((R1.out.1.below R2.out.2 (Nat.le_refl _)).below B3.out (Nat.le_refl _) |>.below ((Below.refl w3.heap.size w3).alloc (Nat.le_refl _) _ |>.alloc (by simp) _) (Nat.le_refl _))
  · exact ((R2.out.1.below B3.out (Nat.le_refl _)).below ((Below.refl w3.heap.size w3).alloc (Nat.le_refl _) _ |>.alloc (by simp) _) (Nat.le_refl _))
  rintro e w' ⟨rfl, ⟨n4, rfl⟩⟩
  go_wp2_with fail
  refine (H3.out _).mono ?_
  rintro e w' ⟨rfl, rfl⟩
  go_wp2_with fail
  refine (awake45 _).mono ?_
  rintro e w5 ⟨rfl, b5⟩
  go_wp2
  go_ret
  have hs1 := R1.out.2.size
  refine ⟨rfl, (((R1.out.2.trans (R2.out.2.mono hs1)).trans (B3.out.mono (by omega))).trans (below_drewN (((Below.refl _ w3).alloc (by omega) _).alloc (by simp; omega) _) n4)).trans (b5.mono (by simp; omega))⟩

theorem says (b m : Int) (w : World) : Calls Try.prog 3 #[.int .i64 b, .int .i64 m] w fun e w' => e = .returned (.bool true) ∧ Below w.heap.size w w' := by
  by_cases ha : b < 0 ∨ 1000 < b ∨ m < 0
  · exact says_none b m 1 w (fun w => script_arg b m w ha) (fun w => rscript_arg b m w ha) (fun w => by
      have := size_any b m w
      rw [show sizeN b m = 0 from by unfold sizeN; rw [if_pos (by omega)]] at this
      exact this)
  · obtain ⟨k, rfl⟩ := Int.eq_ofNat_of_zero_le (show 0 ≤ m by omega)
    by_cases hs : 4 + k * (9 + outN b) + 4 ≤ 4000
    · exact says_some b k w (by omega) (by omega) hs
    · have hz := size_zero b k ⟨by omega, by omega⟩ hs
      exact says_none b k 8 w (fun w => script_many b k w (by omega) (by omega) (by omega) hz) (fun w => rscript_many b k w (by omega) (by omega) hs) (fun w => by
        have := size_any b k w
        rw [hz] at this
        exact this)
end Go.Proofs.Ytfbiejkdeadheaa
