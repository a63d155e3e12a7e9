/- Opening arguments: a spec, six numbers, an array of five bytes. -/
import Derived.Test.YthgpjiebeinamaaOpen3
namespace Go.Proofs.Ythgpjiebeinamaa
open Go.RowKit Go.ChangeShapes Go.WideShapes Go.Deep

theorem Try.cellsSpec : Try.prog.cellsOf 65 = 5 := by kernel_rfl
theorem Try.cellsPair : Try.prog.cellsOf 63 = 4 := by kernel_rfl
theorem Try.cellsNums : Try.prog.cellsOf 67 = 6 := by kernel_rfl
theorem Try.cellsBool : Try.prog.cellsOf 4 = 1 := by kernel_rfl
theorem Try.cellsArr5 : Try.prog.cellsOf 73 = 5 := by kernel_rfl
theorem Try.cellsU8 : Try.prog.cellsOf 5 = 1 := by kernel_rfl
section
variable {H : Type} {enc : TypeId × Value → H} {w : World} {base : Nat} {spare : Nat → Bool} {held : Bool}
set_option maxRecDepth 100000 in
theorem open_spec {r : Reach} {b0 fuel : Nat} {v : Value} {x : DataW H × List MemPlace} (hv : Value.okWide Try.prog w r b0 65 v) (h : DataW.trod enc Try.prog w base spare held fuel 65 v.cells.toList = some x) :
    ∃ k g l p b : Int, v = .agg #[.int .i64 k, .int .i64 g, .int .i64 l, .int .i64 p, .int .i64 b] := by
  obtain ⟨cs, rfl, hsz⟩ := okWide_struct Try.underlying65 hv
  rw [Try.cellsSpec] at hsz
  obtain ⟨xs, m, _, _, _, hxl, hf⟩ := DataW.trod_struct Try.underlying65 h
  obtain ⟨l⟩ := cs
  match l, hsz with
  | [c0, c1, c2, c3, c4], _ =>
    match xs, hxl with
    | [y0, y1], _ =>
      have g0 := hf 0 _ rfl
      have g1 := hf 1 _ rfl
      simp [Value.cells, Try.cellsInt, Try.cellsPair] at g0 g1
      obtain ⟨a0, e0, _, _⟩ := DataW.trod_int Try.underlying3 g0
      obtain ⟨zs, n, _, _, _, hzl, hz⟩ := DataW.trod_struct Try.underlying63 g1
      match zs, hzl with
      | [z0, z1, z2, z3], _ =>
        have q0 := hz 0 _ rfl
        have q1 := hz 1 _ rfl
        have q2 := hz 2 _ rfl
        have q3 := hz 3 _ rfl
        simp [Try.cellsInt] at q0 q1 q2 q3
        obtain ⟨b0, u0, _, _⟩ := DataW.trod_int Try.underlying3 q0
        obtain ⟨b1, u1, _, _⟩ := DataW.trod_int Try.underlying3 q1
        obtain ⟨b2, u2, _, _⟩ := DataW.trod_int Try.underlying3 q2
        obtain ⟨b3, u3, _, _⟩ := DataW.trod_int Try.underlying3 q3
        simp at e0 u0 u1 u2 u3
        subst e0 u0 u1 u2 u3
        exact ⟨_, _, _, _, _, rfl⟩
set_option maxRecDepth 100000 in
theorem open_nums {r : Reach} {b0 fuel : Nat} {v : Value} {x : DataW H × List MemPlace} (hv : Value.okWide Try.prog w r b0 67 v) (h : DataW.trod enc Try.prog w base spare held fuel 67 v.cells.toList = some x) :
    ∃ (k s : Int) (rd : Bool) (a b c : Int), v = .agg #[.int .i64 k, .int .i64 s, .bool rd, .int .i64 a, .int .i64 b, .int .i64 c] := by
  obtain ⟨cs, rfl, hsz⟩ := okWide_struct Try.underlying67 hv
  rw [Try.cellsNums] at hsz
  obtain ⟨xs, m, _, _, _, hxl, hf⟩ := DataW.trod_struct Try.underlying67 h
  obtain ⟨l⟩ := cs
  match l, hsz with
  | [c0, c1, c2, c3, c4, c5], _ =>
    match xs, hxl with
    | [y0, y1, y2, y3, y4, y5], _ =>
      have g0 := hf 0 _ rfl
      have g1 := hf 1 _ rfl
      have g2 := hf 2 _ rfl
      have g3 := hf 3 _ rfl
      have g4 := hf 4 _ rfl
      have g5 := hf 5 _ rfl
      simp [Value.cells, Try.cellsInt, Try.cellsBool] at g0 g1 g2 g3 g4 g5
      obtain ⟨a0, e0, _, _⟩ := DataW.trod_int Try.underlying3 g0
      obtain ⟨a1, e1, _, _⟩ := DataW.trod_int Try.underlying3 g1
      obtain ⟨a2, e2, _⟩ := DataW.trod_bool Try.underlying4 g2
      obtain ⟨a3, e3, _, _⟩ := DataW.trod_int Try.underlying3 g3
      obtain ⟨a4, e4, _, _⟩ := DataW.trod_int Try.underlying3 g4
      obtain ⟨a5, e5, _, _⟩ := DataW.trod_int Try.underlying3 g5
      simp at e0 e1 e2 e3 e4 e5
      subst e0 e1 e2 e3 e4 e5
      exact ⟨_, _, _, _, _, _, rfl⟩
set_option maxRecDepth 100000 in
theorem open_five {r : Reach} {b0 fuel : Nat} {v : Value} {x : DataW H × List MemPlace} (hv : Value.okWide Try.prog w r b0 73 v) (h : DataW.trod enc Try.prog w base spare held fuel 73 v.cells.toList = some x) :
    ∃ n0 n1 n2 n3 n4 : Int, v = .agg #[.int .u8 n0, .int .u8 n1, .int .u8 n2, .int .u8 n3, .int .u8 n4] ∧ (Lit.int .u8 n0).wf = true ∧ (Lit.int .u8 n1).wf = true ∧ (Lit.int .u8 n2).wf = true ∧ (Lit.int .u8 n3).wf = true ∧ (Lit.int .u8 n4).wf = true := by
  obtain ⟨cs, rfl, hsz⟩ := okWide_row Try.underlying73 hv
  rw [Try.cellsArr5] at hsz
  obtain ⟨xs, m, _, _, _, hxl, hg⟩ := DataW.trod_array Try.underlying73 h
  obtain ⟨l⟩ := cs
  match l, hsz with
  | [c0, c1, c2, c3, c4], _ =>
    match xs, hxl with
    | [y0, y1, y2, y3, y4], _ =>
      have g0 := hg 0 (by omega)
      have g1 := hg 1 (by omega)
      have g2 := hg 2 (by omega)
      have g3 := hg 3 (by omega)
      have g4 := hg 4 (by omega)
      rw [Try.cellsU8] at g0 g1 g2 g3 g4
      simp [Value.cells] at g0 g1 g2 g3 g4
      obtain ⟨a0, e0, _, w0⟩ := DataW.trod_int Try.underlying5 g0
      obtain ⟨a1, e1, _, w1⟩ := DataW.trod_int Try.underlying5 g1
      obtain ⟨a2, e2, _, w2⟩ := DataW.trod_int Try.underlying5 g2
      obtain ⟨a3, e3, _, w3⟩ := DataW.trod_int Try.underlying5 g3
      obtain ⟨a4, e4, _, w4⟩ := DataW.trod_int Try.underlying5 g4
      simp at e0 e1 e2 e3 e4
      subst e0 e1 e2 e3 e4
      exact ⟨a0, a1, a2, a3, a4, rfl, w0, w1, w2, w3, w4⟩
end
end Go.Proofs.Ythgpjiebeinamaa
