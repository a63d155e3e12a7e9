/- Layer 45: what family.Script hands back. -/
import Derived.Test.YtfbiejkdeadheaaFam2
namespace Go.Proofs.Ytfbiejkdeadheaa
open Go.RowKit

def roundL (b : Int) : List (Int × Int) := addL 1 1 7 ++ addL 1 2 (outN b)
def partL (b : Int) (k : Nat) : List (Int × Int) := addL 0 1 3 ++ (List.replicate k (roundL b)).flatten
def scriptL (b : Int) (m : Nat) : List (Int × Int) := partL b m ++ addL 0 0 4

theorem outN_le (b : Int) : outN b ≤ 6 := by unfold outN; split <;> omega
theorem addL_len (t w : Int) (s : Nat) : (addL t w s).length ≤ s + 1 := by unfold addL; split <;> simp <;> omega
theorem roundL_len (b : Int) : (roundL b).length = 9 + outN b := by simp [roundL, addL]; omega
theorem partL_len (b : Int) (k : Nat) : (partL b k).length = 4 + k * (9 + outN b) := by
  simp [partL, addL, roundL_len]; omega
theorem scriptL_len (b : Int) (m : Nat) : (scriptL b m).length = 4 + m * (9 + outN b) + 4 := by simp [scriptL, partL_len, addL]
theorem partL_succ (b : Int) (k : Nat) : partL b (k + 1) = (partL b k ++ addL 1 1 7) ++ addL 1 2 (outN b) := by
  simp [partL, List.replicate_succ', roundL, List.append_assoc]

theorem add_call (w0 : World) (B base : Nat) (l : List (Int × Int)) (t want s : Int) (steps : Nat) (hs : s = (steps : Int)) (hc : Cap w0 B base l) (hl : l.length + steps ≤ 5000) :
    Calls Try.prog 63 #[.int .i64 t, .int .i64 want, .int .i64 s, .pointer (some ⟨B, 0, none⟩)] w0 fun e w' => e = .returned (.tuple #[]) ∧ Cap w' B base (l ++ addL t want steps) ∧ Below B w0 w' := by
  subst hs; exact add_any w0 B base l t want steps hc hl

theorem script_arg (b m : Int) (w : World) (h : b < 0 ∨ 1000 < b ∨ m < 0) : Calls Try.prog 14 #[.int .i64 b, .int .i64 m] w fun e w' => e = .returned (.tuple #[.slice none 0 0, .int .i64 1]) ∧ w = w' := by
  by_cases hb : b < 0 ∨ 1000 < b
  · clear h
    go_enter Try.func14, Try.ntmps14
    go_wp2_with (go_at_call 62; refine (right_no _ _ hb).mono ?_; rintro e w' ⟨rfl, rfl⟩)
    go_ret2
    exact ⟨rfl, rfl⟩
  · have h0 : 0 ≤ b := by omega
    have h1 : b ≤ 1000 := by omega
    have hm : m < 0 := by omega
    clear h hb
    go_enter Try.func14, Try.ntmps14
    go_wp2_with (go_at_call 62; refine (right_yes _ _ h0 h1).mono ?_; rintro e w' ⟨rfl, rfl⟩)
    go_ret2
    exact ⟨rfl, rfl⟩

theorem script_many (b m : Int) (w : World) (h0 : 0 ≤ b) (h1 : b ≤ 1000) (hm : 0 ≤ m) (hz : sizeN b m = 0) : Calls Try.prog 14 #[.int .i64 b, .int .i64 m] w fun e w' => e = .returned (.tuple #[.slice none 0 0, .int .i64 8]) ∧ w = w' := by
  have SZ : ∀ w, Calls Try.prog 18 #[.int .i64 b, .int .i64 m] w fun e w' => e = .returned (.int .i64 0) ∧ w = w' := fun w => by rw [← hz]; exact size_any b m w
  have HS := Lib.hid SZ
  clear SZ hz
  go_enter Try.func14, Try.ntmps14
  go_wp2_with (first | (go_at_call 62; refine (right_yes _ _ h0 h1).mono ?_; rintro e w' ⟨rfl, rfl⟩) | (go_at_call 18; refine (HS.out _).mono ?_; rintro e w' ⟨rfl, rfl⟩))
  go_ret2
  exact ⟨rfl, rfl⟩

theorem size_pos (b : Int) (m : Nat) (hb : 0 ≤ b ∧ b ≤ 1000) (h : 4 + m * (9 + outN b) + 4 ≤ 4000) : sizeN b m = ((4 + m * (9 + outN b) + 4 : Nat) : Int) := by
  have h9 : m * 9 ≤ m * (9 + outN b) := Nat.mul_le_mul_left m (by omega)
  unfold sizeN
  rw [if_neg (by omega)]
  have e : (m : Int) * (9 + (outN b : Int)) = ((m * (9 + outN b) : Nat) : Int) := by simp
  rw [e, if_neg (by omega)]
  omega
theorem size_zero (b : Int) (m : Nat) (_hb : 0 ≤ b ∧ b ≤ 1000) (h : ¬ 4 + m * (9 + outN b) + 4 ≤ 4000) : sizeN b m = 0 := by
  unfold sizeN
  split
  · rfl
  · have e : (m : Int) * (9 + (outN b : Int)) = ((m * (9 + outN b) : Nat) : Int) := by simp
    rw [e, if_pos (by omega)]

theorem cap_nil (w : World) : Cap (w.alloc (.cells #[.slice none 0 0] 22)) w.heap.size (w.heap.size + 1) [] :=
  ⟨_, heap_alloc_new w _, World.ownsRow_nil _ _ _ _, by omega, by simp⟩

set_option maxHeartbeats 1000000 in
theorem script_ok (b : Int) (m : Nat) (w : World) (h0 : 0 ≤ b) (h1 : b ≤ 1000) (hsz : 4 + m * (9 + outN b) + 4 ≤ 4000) :
    Calls Try.prog 14 #[.int .i64 b, .int .i64 m] w fun e w' => ∃ v, e = .returned (.tuple #[v, .int .i64 0]) ∧ RdL w' v 2 encP (scriptL b m) ∧ Below w.heap.size w w' := by
  have h9 : m * 9 ≤ m * (9 + outN b) := Nat.mul_le_mul_left m (by omega)
  have hm0 : (0 : Int) ≤ m := by omega
  have hmm : (m : Int) ≤ 4000 := by omega
  have hmf : ∀ (fn : Fn) (first cap : Array Value) (w : World), (Instr.makeFunc fn first cap).run Try.prog w = .ok (.func fn first cap) w := fun _ _ _ _ => rfl
  obtain ⟨n, hn, hn2⟩ : ∃ n : Nat, n = 4 + m * (9 + outN b) + 4 ∧ 8 ≤ n := ⟨_, rfl, by omega⟩
  have SZ : ∀ w, Calls Try.prog 18 #[.int .i64 b, .int .i64 m] w fun e w' => e = .returned (.int .i64 (n : Int)) ∧ w = w' := fun w => by
    have := size_any b m w
    rw [size_pos b m ⟨h0, h1⟩ hsz, ← hn] at this
    exact this
  have HS := Lib.hid SZ
  have HP : Hid (∀ k, k ≤ m → (partL b k).length + 20 ≤ 5000) := fun k hk => by
    rw [partL_len]; have : k * (9 + outN b) ≤ m * (9 + outN b) := Nat.mul_le_mul_right _ hk
    omega
  have HN := Lib.hid hn
  have HZ := Lib.hid hsz
  have hO := outN_le b
  clear SZ hn hsz h9
  go_enter Try.func14, Try.ntmps14
  go_wp2_with (first | (go_at_call 62; refine (right_yes _ _ h0 h1).mono ?_; rintro e w' ⟨rfl, rfl⟩) | (go_at_call 18; refine (HS.out _).mono ?_; rintro e w' ⟨rfl, rfl⟩))
  refine (add_call _ w.heap.size (w.heap.size + 1) [] 0 1 3 3 rfl (cap_nil w) (by simp)).mono ?_
  rintro e w1 ⟨rfl, hc1, hb1⟩
  go_wp2_with fail
  go_loopw [25] (fun i wr => ∃ k : Nat, k ≤ m ∧ i = .int .i64 k ∧ Cap wr w.heap.size (w.heap.size + 1) (partL b k) ∧ Below w.heap.size w wr) (fun i _ => m - (intOf i).toNat)
  case atStart => exact ⟨0, by omega, rfl, by simpa [partL] using hc1, ((Below.refl _ _).alloc (Nat.le_refl _) _).trans hb1⟩
  case round =>
    obtain ⟨k, hk, rfl, hcap, hbel⟩ := hrel
    have hP := HP.out k hk
    clear hc1 hb1
    by_cases hlt : k < m
    · have HC := Lib.hid hcap
      clear hcap
      go_wp2_with fail
      refine (add_call _ w.heap.size (w.heap.size + 1) (partL b k) 1 1 7 7 rfl HC.out (by omega)).mono ?_
      rintro e w2 ⟨rfl, hc2, hb2⟩
      have HC2 := Lib.hid hc2
      clear hc2
      go_wp2_with (go_at_call 64; refine (out_any _ _).mono ?_; rintro e w' ⟨rfl, rfl⟩)
      refine (add_call _ w.heap.size (w.heap.size + 1) (partL b k ++ addL 1 1 7) 1 2 (outN b) (outN b) rfl HC2.out (by have := addL_len 1 1 7; simp only [List.length_append]; omega)).mono ?_
      rintro e w3 ⟨rfl, hc3, hb3⟩
      rw [← partL_succ] at hc3
      have HC3 := Lib.hid hc3
      clear hc3
      go_wp2
      go_roundw
      case rel => exact ⟨k + 1, by omega, by go_num, HC3.out, (hbel.trans hb2).trans hb3⟩
      case measure => simp [intOf]; omega
    · obtain rfl : k = m := by omega
      have HC := Lib.hid hcap
      clear hcap
      go_wp2_with fail
      refine (add_call _ w.heap.size (w.heap.size + 1) (partL b k) 0 0 4 4 rfl HC.out (by omega)).mono ?_
      rintro e w2 ⟨rfl, hc2, hb2⟩
      obtain ⟨q, hq⟩ : ∃ q, q = partL b k ++ addL 0 0 4 := ⟨_, rfl⟩
      rw [← hq] at hc2
      have hql : q.length ≤ 140737488355328 := by have := scriptL_len b k; have := HZ.out; unfold scriptL at *; rw [hq]; omega
      have HQ : Hid (q = scriptL b k) := hq
      have HL := Lib.hid hql
      clear hq hql
      obtain ⟨v, hB, hown, hlt2, hle⟩ := hc2
      have hcB := cell_of_one hB
      obtain ⟨A', c', rfl⟩ := own_form hown
      have HO := Lib.hid hown
      clear hown hB
      go_wp2
      go_ret2
      exact ⟨_, rfl, by rw [← HQ.out]; exact RdL.of_own encP_len rfl HL.out HO.out, hbel.trans hb2⟩
end Go.Proofs.Ytfbiejkdeadheaa
