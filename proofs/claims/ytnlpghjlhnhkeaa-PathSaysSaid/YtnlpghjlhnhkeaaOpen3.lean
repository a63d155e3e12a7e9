/- Opening an argument that is a topology. -/
import Derived.Test.YtnlpghjlhnhkeaaRows
import Derived.Test.YtnlpghjlhnhkeaaOpen
namespace Go.Proofs.Ytnlpghjlhnhkeaa
open Go.RowKit Go.ChangeShapes Go.WideShapes Go.Deep

theorem Try.cellsTopo : Try.prog.cellsOf 24 = 2 := by kernel_rfl
theorem Try.cellsInts : Try.prog.cellsOf 22 = 1 := by kernel_rfl
theorem Try.cellsInt : Try.prog.cellsOf 3 = 1 := by kernel_rfl
theorem okWide_row {P : Program} {w : World} {r : Reach} {base : Nat} {t e : TypeId} {v : Value} {n : Nat} (ht : P.underlying t = some (.array n e)) (h : Value.okWide P w r base t v) : ∃ cs, v = .agg cs ∧ cs.size = P.cellsOf t := by
  unfold Value.okWide at h
  rw [ht] at h
  obtain ⟨cs, h1, h2, _⟩ := h
  exact ⟨cs, h1, h2⟩
section
variable {H : Type} {enc : TypeId × Value → H} {w : World} {base : Nat} {spare : Nat → Bool} {held : Bool}
set_option maxRecDepth 100000 in
theorem open_topo {r : Reach} {b0 fuel : Nat} {v : Value} {x : DataW H × List MemPlace} (hv : Value.okWide Try.prog w r b0 24 v) (h : DataW.trod enc Try.prog w base spare held fuel 24 v.cells.toList = some x) :
    ∃ AP cP P AT cT T, v = .agg #[.slice AP (List.length (α := Int) P) cP, .slice AT (List.length (α := Int) T) cT] ∧ P.length ≤ maxLen ∧ T.length ≤ maxLen ∧ (P.length ≤ 140737488355328 → RdL w (.slice AP P.length cP) 1 encI P) ∧ (T.length ≤ 140737488355328 → RdL w (.slice AT T.length cT) 1 encI T) := by
  obtain ⟨cs, rfl, hsz⟩ := okWide_struct Try.underlying24 hv
  rw [Try.cellsTopo] at hsz
  obtain ⟨xs, m, _, _, _, hxl, hf⟩ := DataW.trod_struct Try.underlying24 h
  obtain ⟨l⟩ := cs
  match l, hsz with
  | [c0, c1], _ =>
    match xs, hxl with
    | [y0, y1], _ =>
      have g0 := hf 0 _ rfl
      have g1 := hf 1 _ rfl
      simp [Value.cells, Try.cellsInts] at g0 g1
      obtain ⟨AP, cP, P, e0, m0, R0, _⟩ := open_RdI Try.underlying22 Try.underlying3 Try.cellsInt g0
      obtain ⟨AT, cT, T, e1, m1, R1, _⟩ := open_RdI Try.underlying22 Try.underlying3 Try.cellsInt g1
      subst e0 e1
      exact ⟨AP, cP, P, AT, cT, T, rfl, m0, m1, R0, R1⟩
end
end Go.Proofs.Ytnlpghjlhnhkeaa
