/- Layer 45: what budget.Right, family.out and family.Size compute; the closure that adds picks. -/
import Derived.Test.YtfbiejkdeadheaaRows
import Derived.Test.YtfbiejkdeadheaaBase
namespace Go.Proofs.Ytfbiejkdeadheaa
open Go.RowKit

def rightB (b : Int) : Bool := decide (0 ≤ b ∧ b ≤ 1000)
def outN (b : Int) : Nat := if 0 < b then 6 else 5
def sizeN (b m : Int) : Int := if b < 0 ∨ 1000 < b ∨ m < 0 ∨ 4000 < m then 0 else if 4000 < 4 + m * (9 + (outN b : Int)) + 4 then 0 else 4 + m * (9 + (outN b : Int)) + 4

theorem out_any (b : Int) (w : World) : Calls Try.prog 64 #[.int .i64 b] w fun e w' => e = .returned (.int .i64 (outN b : Int)) ∧ w = w' := by
  by_cases h : 0 < b
  · go_enter Try.func64, Try.ntmps64
    go_wp2
    go_ret
    exact ⟨ret_int (by simp [outN, h]), rfl⟩
  · go_enter Try.func64, Try.ntmps64
    go_wp2
    go_ret
    exact ⟨ret_int (by unfold outN; rw [if_neg (by omega)]; rfl), rfl⟩

theorem right_yes (b : Int) (w : World) (h0 : 0 ≤ b) (h1 : b ≤ 1000) : Calls Try.prog 62 #[.int .i64 b] w fun e w' => e = .returned (.bool true) ∧ w = w' := by
  go_enter Try.func62, Try.ntmps62
  go_wp2
  go_ret
  exact ⟨rfl, rfl⟩
theorem right_no (b : Int) (w : World) (h : b < 0 ∨ 1000 < b) : Calls Try.prog 62 #[.int .i64 b] w fun e w' => e = .returned (.bool false) ∧ w = w' := by
  rcases h with h | h
  · go_enter Try.func62, Try.ntmps62
    go_wp2
    go_ret
    exact ⟨rfl, rfl⟩
  · have h0 : 0 ≤ b := by omega
    have h1 : ¬ b ≤ 1000 := by omega
    go_enter Try.func62, Try.ntmps62
    go_wp2
    go_ret
    exact ⟨rfl, rfl⟩

set_option maxHeartbeats 400000 in
theorem size_any (b m : Int) (w : World) : Calls Try.prog 18 #[.int .i64 b, .int .i64 m] w fun e w' => e = .returned (.int .i64 (sizeN b m)) ∧ w = w' := by
  by_cases hb : b < 0 ∨ 1000 < b
  · go_enter Try.func18, Try.ntmps18
    go_wp2_with (go_at_call 62; refine (right_no _ _ hb).mono ?_; rintro e w' ⟨rfl, rfl⟩)
    go_ret
    exact ⟨ret_int (by unfold sizeN; rw [if_pos (by omega)]), rfl⟩
  · have h0 : 0 ≤ b := by omega
    have h1 : b ≤ 1000 := by omega
    clear hb
    by_cases m0 : m < 0
    · go_enter Try.func18, Try.ntmps18
      go_wp2_with (go_at_call 62; refine (right_yes _ _ h0 h1).mono ?_; rintro e w' ⟨rfl, rfl⟩)
      go_ret
      exact ⟨ret_int (by unfold sizeN; rw [if_pos (by omega)]), rfl⟩
    · by_cases m1 : 4000 < m
      · go_enter Try.func18, Try.ntmps18
        go_wp2_with (go_at_call 62; refine (right_yes _ _ h0 h1).mono ?_; rintro e w' ⟨rfl, rfl⟩)
        go_ret
        exact ⟨ret_int (by unfold sizeN; rw [if_pos (by omega)]), rfl⟩
      · obtain ⟨o, ho, ho2⟩ : ∃ o : Nat, o = outN b ∧ o ≤ 6 := ⟨_, rfl, by unfold outN; split <;> omega⟩
        have hn : sizeN b m = if 4000 < 4 + m * (9 + (o : Int)) + 4 then 0 else 4 + m * (9 + (o : Int)) + 4 := by
          unfold sizeN; rw [if_neg (by omega), ho]
        have hmul : 0 ≤ m * (9 + (o : Int)) ∧ m * (9 + (o : Int)) ≤ 4000 * 15 := ⟨Int.mul_nonneg (by omega) (by omega), Int.mul_le_mul (by omega) (by omega) (by omega) (by omega)⟩
        obtain ⟨hm1, hm2⟩ := hmul
        have HN := Lib.hid hn
        have HO := Lib.hid ho
        clear hn ho
        have OUT : ∀ w, Calls Try.prog 64 #[.int .i64 b] w fun e w' => e = .returned (.int .i64 (o : Int)) ∧ w = w' := fun w => by rw [HO.out]; exact out_any b w
        have OUTH := Lib.hid OUT
        clear OUT
        by_cases hs : 4000 < 4 + m * (9 + (o : Int)) + 4
        all_goals
          go_enter Try.func18, Try.ntmps18
          go_wp2_with (first | (go_at_call 62; refine (right_yes _ _ h0 h1).mono ?_; rintro e w' ⟨rfl, rfl⟩) | (go_at_call 64; refine (OUTH.out _).mono ?_; rintro e w' ⟨rfl, rfl⟩))
          go_ret
        · exact ⟨ret_int (by rw [HN.out, if_pos hs]), rfl⟩
        · exact ⟨ret_int (by rw [HN.out, if_neg (by omega)]), rfl⟩
end Go.Proofs.Ytfbiejkdeadheaa
