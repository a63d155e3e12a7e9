/- Opening arguments that are structs of two or three numbers. -/
import Derived.Test.YtgbfbeohmogadaaGreatRows
import Derived.WalkKit
import Derived.ProofKit
import Derived.OpenShut
import Derived.ChangeOld
import Derived.Deep.Slices
import Derived.Deep.Fields
import Derived.ChangeSame
import Derived.Carry
namespace Go.Proofs.YtgbfbeohmogadaaGreat
open Go.RowKit Go.ChangeShapes Go.WideShapes Go.Deep
section
variable {H : Type} {enc : TypeId × Value → H} {P : Program} {w : World} {base : Nat} {spare : Nat → Bool} {held : Bool}
theorem open_two {r : Reach} {b0 fuel : Nat} {v : Value} {t ti : TypeId} {f0 f1 : Field} {x : DataW H × List MemPlace} (ht : P.underlying t = some (.struct #[f0, f1])) (hC : P.cellsOf t = 2) (hc : P.cellsOf ti = 1) (h0 : f0.type = ti) (h1 : f1.type = ti) (o0 : f0.offset = 0) (o1 : f1.offset = 1) (hti : P.underlying ti = some (.int .i64))
    (hv : Value.okWide P w r b0 t v) (h : DataW.trod enc P w base spare held fuel t v.cells.toList = some x) : ∃ a b : Int, v = .agg #[.int .i64 a, .int .i64 b] := by
  obtain ⟨cs, rfl, hsz⟩ := okWide_struct ht hv
  rw [hC] at hsz
  obtain ⟨xs, m, _, _, _, hxl, hf⟩ := DataW.trod_struct ht h
  obtain ⟨l⟩ := cs
  match l, hsz with
  | [c0, c1], _ =>
    match xs, hxl with
    | [y0, y1], _ =>
      have g0 := hf 0 _ rfl
      have g1 := hf 1 _ rfl
      simp [Value.cells, h0, h1, o0, o1, hc] at g0 g1
      obtain ⟨a0, e0, _, _⟩ := DataW.trod_int hti g0
      obtain ⟨a1, e1, _, _⟩ := DataW.trod_int hti g1
      simp at e0 e1
      subst e0 e1
      exact ⟨a0, a1, rfl⟩
theorem open_three {r : Reach} {b0 fuel : Nat} {v : Value} {t ti : TypeId} {f0 f1 f2 : Field} {x : DataW H × List MemPlace} (ht : P.underlying t = some (.struct #[f0, f1, f2])) (hC : P.cellsOf t = 3) (hc : P.cellsOf ti = 1) (h0 : f0.type = ti) (h1 : f1.type = ti) (h2 : f2.type = ti) (o0 : f0.offset = 0) (o1 : f1.offset = 1) (o2 : f2.offset = 2) (hti : P.underlying ti = some (.int .i64))
    (hv : Value.okWide P w r b0 t v) (h : DataW.trod enc P w base spare held fuel t v.cells.toList = some x) : ∃ a b c : Int, v = .agg #[.int .i64 a, .int .i64 b, .int .i64 c] := by
  obtain ⟨cs, rfl, hsz⟩ := okWide_struct ht hv
  rw [hC] at hsz
  obtain ⟨xs, m, _, _, _, hxl, hf⟩ := DataW.trod_struct ht h
  obtain ⟨l⟩ := cs
  match l, hsz with
  | [c0, c1, c2], _ =>
    match xs, hxl with
    | [y0, y1, y2], _ =>
      have g0 := hf 0 _ rfl
      have g1 := hf 1 _ rfl
      have g2 := hf 2 _ rfl
      simp [Value.cells, h0, h1, h2, o0, o1, o2, hc] at g0 g1 g2
      obtain ⟨a0, e0, _, _⟩ := DataW.trod_int hti g0
      obtain ⟨a1, e1, _, _⟩ := DataW.trod_int hti g1
      obtain ⟨a2, e2, _, _⟩ := DataW.trod_int hti g2
      simp at e0 e1 e2
      subst e0 e1 e2
      exact ⟨a0, a1, a2, rfl⟩
end
end Go.Proofs.YtgbfbeohmogadaaGreat
