/- Layer 12: '==' of two arrays of four numbers. -/
import Derived.Test.YtfbiejkdeadheaaTal11
import Derived.ChangeKeysEq
namespace Go.Proofs.Ytfbiejkdeadheaa
open Go.RowKit Go.Maps

theorem eqInt_run (d : Nat) (a b : Int) (w : World) : (Op.equalIn (d + 1) 3 (.int .i64 a) (.int .i64 b)).run Try.prog w = .ok (a == b) w := by
  simp only [Op.equalIn, Sem.run_bind, run_underlying Try.underlying3, Result.andThen_ok]
  simp
theorem eqArr4 (a b c d : Int) (w : World) : (Op.equalIn 10000 101 (.agg #[.int .i64 a, .int .i64 b, .int .i64 c, .int .i64 d]) (.agg #[.int .i64 a, .int .i64 b, .int .i64 c, .int .i64 d])).run Try.prog w = .ok true w := by
  obtain ⟨i0, hi, hz0, hz1, hz2⟩ := info_parts Try.infoInt
  have hc : Try.prog.cellsOf 3 = 1 := by kernel_rfl
  have p0 : ∀ w, (part 3 #[Value.int .i64 a, .int .i64 b, .int .i64 c, .int .i64 d] 0).run Try.prog w = .ok (.int .i64 a) w := fun _ => by kernel_rfl
  have p1 : ∀ w, (part 3 #[Value.int .i64 a, .int .i64 b, .int .i64 c, .int .i64 d] 1).run Try.prog w = .ok (.int .i64 b) w := fun _ => by kernel_rfl
  have p2 : ∀ w, (part 3 #[Value.int .i64 a, .int .i64 b, .int .i64 c, .int .i64 d] 2).run Try.prog w = .ok (.int .i64 c) w := fun _ => by kernel_rfl
  have p3 : ∀ w, (part 3 #[Value.int .i64 a, .int .i64 b, .int .i64 c, .int .i64 d] 3).run Try.prog w = .ok (.int .i64 d) w := fun _ => by kernel_rfl
  have e1 := fun a b w => eqInt_run 9998 a b w
  have e2 : ∀ a b : Int, ∀ w, (Op.equalIn 9999 3 (.int .i64 a) (.int .i64 b)).run Try.prog w = .ok (a == b) w := e1
  have hq := run_equalIn_array (P := Try.prog) w 9999 #[Value.int .i64 a, .int .i64 b, .int .i64 c, .int .i64 d] #[Value.int .i64 a, .int .i64 b, .int .i64 c, .int .i64 d] Try.underlying101 hi
  rw [hc, show List.range 4 = [0, 1, 2, 3] from rfl] at hq
  refine hq.trans ?_
  simp [Op.eqItems, Sem.run_bind, p0, p1, p2, p3, e2]
end Go.Proofs.Ytfbiejkdeadheaa
