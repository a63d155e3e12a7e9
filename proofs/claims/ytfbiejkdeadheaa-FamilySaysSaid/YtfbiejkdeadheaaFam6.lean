/- Layer 45: family.World, the law's own test, FamilySays. -/
import Derived.Test.YtfbiejkdeadheaaFam5
namespace Go.Proofs.Ytfbiejkdeadheaa
open Go.RowKit

theorem eqSpec (a b c d e a' b' c' d' e' : Int) (w : World) : (Op.equalIn 10000 32 (.agg #[.int .i64 a, .int .i64 b, .int .i64 c, .int .i64 d, .int .i64 e]) (.agg #[.int .i64 a', .int .i64 b', .int .i64 c', .int .i64 d', .int .i64 e'])).run Try.prog w = .ok (a == a' && (b == b' && c == c' && d == d' && e == e')) w := by
  have u3 := Try.underlying3
  have a3 := Try.isAgg3
  have z3 := Try.sizeOf3
  have ap := Try.isAgg30
  have zp := Try.sizeOf30
  have hS : Try.prog.underlying 32 = some (.struct (Try.prog.fieldsOf 32)) := by kernel_rfl
  have hp : Try.prog.stoodInHeld 32 = false := by kernel_rfl
  have hS2 : Try.prog.underlying 30 = some (.struct (Try.prog.fieldsOf 30)) := by kernel_rfl
  have hp2 : Try.prog.stoodInHeld 30 = false := by kernel_rfl
  have hP : ∀ (w : World), (Op.equalIn 9999 30 (.agg #[.int .i64 b, .int .i64 c, .int .i64 d, .int .i64 e]) (.agg #[.int .i64 b', .int .i64 c', .int .i64 d', .int .i64 e'])).run Try.prog w = .ok (b == b' && c == c' && d == d' && e == e') w := by
    intro w
    rw [show (9999 : Nat) = 9998 + 1 from rfl, run_equalIn_agg w 9998 30 _ _ hS2 hp2]
    simp only [Program.fieldsOf, Try.underlying30]
    clear hS hp hS2 hp2
    go_simp
    by_cases h1 : b = b' <;> by_cases h2 : c = c' <;> by_cases h3 : d = d' <;> by_cases h4 : e = e' <;> simp [h1, h2, h3, h4]
  rw [show (10000 : Nat) = 9999 + 1 from rfl, run_equalIn_agg w 9999 32 _ _ hS hp]
  simp only [Program.fieldsOf, Try.underlying32]
  clear hS hp hS2 hp2
  go_simp
  by_cases h0 : a = a' <;> by_cases h1 : b = b' <;> by_cases h2 : c = c' <;> by_cases h3 : d = d' <;> by_cases h4 : e = e' <;> simp [h0, h1, h2, h3, h4]
@[go_sem] theorem guardSpec : Try.prog.eqGuardType Try.prog.depth 32 = false := by kernel_rfl
@[go_sem high] theorem eqlSpec (a b c d e a' b' c' d' e' : Int) (w : World) : (binOp .eql 32 (.agg #[.int .i64 a, .int .i64 b, .int .i64 c, .int .i64 d, .int .i64 e]) (.agg #[.int .i64 a', .int .i64 b', .int .i64 c', .int .i64 d', .int .i64 e'])).run Try.prog w = .ok (.bool (a == a' && (b == b' && c == c' && d == d' && e == e'))) w := by
  rw [run_eql_struct, eqSpec]; rfl

set_option maxHeartbeats 1000000 in
theorem world_any (b : Int) (w : World) : Calls Try.prog 16 #[.int .i64 b] w fun e w' => ∃ p q, e = .returned (.tuple #[.agg #[.slice p 3 3, .slice q 2 2], .agg #[.int .i64 6, .int .i64 2, .int .i64 4, .int .i64 1, .int .i64 b]]) ∧ Below w.heap.size w w' := by
  go_enter Try.func16, Try.ntmps16
  go_wp2
  refine bodyPost_ret (v := .tuple #[.agg #[.slice (some ⟨w.heap.size + 1 + 1, 0, none⟩) 3 3, .slice (some ⟨w.heap.size + 1 + 1 + 1, 0, none⟩) 2 2], .agg #[.int .i64 6, .int .i64 2, .int .i64 4, .int .i64 1, .int .i64 b]]) (by simp [results, Try.results16, go_sem]) rfl ⟨_, _, rfl, ?_⟩
  repeat first | exact Below.refl _ _ | refine Below.alloc ?_ (by first | (simp; done) | (simp; omega)) _

theorem script_call (b mi : Int) (m : Nat) (hm : mi = (m : Int)) (w : World) (h0 : 0 ≤ b) (h1 : b ≤ 1000) (hsz : 4 + m * (9 + outN b) + 4 ≤ 4000) :
    Calls Try.prog 14 #[.int .i64 b, .int .i64 mi] w fun e w' => ∃ v, e = .returned (.tuple #[v, .int .i64 0]) ∧ RdL w' v 2 encP (scriptL b m) ∧ Below w.heap.size w w' := by
  subst hm; exact script_ok b m w h0 h1 hsz

set_option maxHeartbeats 1000000 in
theorem awake45 (w : World) : Calls Try.prog 19 #[] w fun e w' => e = .returned (.bool true) ∧ Below w.heap.size w w' := by
  go_enter Try.func19, Try.ntmps19
  go_wp2_with fail
  refine (script_call 0 1 1 rfl _ (by omega) (by omega) (by decide)).mono ?_
  rintro e w1 ⟨v, rfl, hr, hb⟩
  obtain ⟨A, cap, rfl, hl1, hl2, hr⟩ := hr
  have hlen : (scriptL 0 1).length = 22 := by decide
  obtain ⟨bl, off, rfl, _, hc⟩ := hr (by rw [hlen]; omega)
  have c0 := hc 0 (0, 1) (by decide) 0 _ rfl
  have c1 := hc 0 (0, 1) (by decide) 1 _ rfl
  have c2 := hc 12 (1, 2) (by decide) 0 _ rfl
  have c3 := hc 12 (1, 2) (by decide) 1 _ rfl
  rw [hlen]
  simp only [Nat.zero_mul, Nat.add_zero, Nat.reduceMul, Nat.add_assoc, Nat.reduceAdd] at c0 c1 c2 c3
  have HB := Lib.hid hb
  clear hr hc hl1 hl2 hlen hb
  go_wp2_with fail
  refine (script_many 0 300 _ (by omega) (by omega) (by omega) (by decide)).mono ?_
  rintro e w' ⟨rfl, rfl⟩
  go_wp2_with fail
  refine (script_arg 1001 300 _ (by omega)).mono ?_
  rintro e w' ⟨rfl, rfl⟩
  have s1 : ∀ w, Calls Try.prog 18 #[.int .i64 0, .int .i64 2] w fun e w' => e = .returned (.int .i64 36) ∧ w = w' := size_any 0 2
  have s2 : ∀ w, Calls Try.prog 18 #[.int .i64 1, .int .i64 2] w fun e w' => e = .returned (.int .i64 38) ∧ w = w' := size_any 1 2
  have S1 := Lib.hid s1
  have S2 := Lib.hid s2
  clear s1 s2
  go_wp2_with fail
  refine (S1.out _).mono ?_
  rintro e w' ⟨rfl, rfl⟩
  go_wp2_with fail
  refine (S2.out _).mono ?_
  rintro e w' ⟨rfl, rfl⟩
  go_wp2
  go_ret
  exact ⟨rfl, HB.out⟩
end Go.Proofs.Ytfbiejkdeadheaa
