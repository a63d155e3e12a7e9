/- Opening arguments: an array of two numbers; a slice of structs of three numbers. No program in sight. -/
import Derived.Test.YtnlpghjlhnhkeaaOpen
namespace Go.Proofs.Ytnlpghjlhnhkeaa
open Go.RowKit Go.ChangeShapes Go.WideShapes Go.Deep

def encT (x : Int × Int × Int) : List Value := [.int .i64 x.1, .int .i64 x.2.1, .int .i64 x.2.2]
theorem encT_len (x : Int × Int × Int) : (encT x).length = 3 := rfl
section
variable {H : Type} {enc : TypeId × Value → H} {P : Program} {w : World} {base : Nat} {spare : Nat → Bool} {held : Bool}
theorem open_arr2 {r : Reach} {b0 : Nat} {t e : TypeId} {k : IntKind} {fuel : Nat} {v : Value} {x : DataW H × List MemPlace} (ht : P.underlying t = some (.array 2 e)) (he : P.underlying e = some (.int k)) (hc : P.cellsOf e = 1) (hC : P.cellsOf t = 2)
    (hv : Value.okWide P w r b0 t v) (h : DataW.trod enc P w base spare held fuel t v.cells.toList = some x) : ∃ n0 n1 : Int, v = .agg #[.int k n0, .int k n1] ∧ (Lit.int k n0).wf = true ∧ (Lit.int k n1).wf = true := by
  unfold Value.okWide at hv
  rw [ht] at hv
  obtain ⟨cs, rfl, hsz, _⟩ := hv
  rw [hC] at hsz
  obtain ⟨xs, m, _, _, _, hxl, hg⟩ := DataW.trod_array ht h
  obtain ⟨l⟩ := cs
  match l, hsz with
  | [c0, c1], _ =>
    match xs, hxl with
    | [y0, y1], _ =>
      have g0 := hg 0 (by omega)
      have g1 := hg 1 (by omega)
      rw [hc] at g0 g1
      simp [Value.cells] at g0 g1
      obtain ⟨a0, e0, _, w0⟩ := DataW.trod_int he g0
      obtain ⟨a1, e1, _, w1⟩ := DataW.trod_int he g1
      simp at e0 e1
      subst e0 e1
      exact ⟨a0, a1, rfl, w0, w1⟩
/-- a slice of structs of three numbers that came in -/
theorem open_RdT {t e ti : TypeId} {f0 f1 f2 : Field} {fuel : Nat} {v : Value} {x : DataW H × List MemPlace} (ht : P.underlying t = some (.slice e)) (he : P.underlying e = some (.struct #[f0, f1, f2]))
    (hone : oneCellFields P #[f0, f1, f2] = true) (hC : P.cellsOf e = 3) (h0 : f0.type = ti) (h1 : f1.type = ti) (h2 : f2.type = ti) (hti : P.underlying ti = some (.int .i64))
    (h : DataW.trod enc P w base spare held fuel t [v] = some x) :
    ∃ A cap l, v = .slice A l.length cap ∧ l.length ≤ maxLen ∧ (l.length ≤ 140737488355328 → RdL w v 3 encT l) := by
  rcases open_slice_fields ht he hone (by rw [hC]; rfl) h with hcs | ⟨a, len, cap, hcs, hl, hm, hf⟩
  · simp at hcs; subst hcs
    exact ⟨none, 0, [], rfl, by simp, fun _ => RdL.nil⟩
  · simp at hcs; subst hcs
    have each : ∀ i, i < len → ∃ z : Int × Int × Int, w.cell? (a.add (i * 3 + 0)) = some (.int .i64 z.1) ∧ w.cell? (a.add (i * 3 + 1)) = some (.int .i64 z.2.1) ∧ w.cell? (a.add (i * 3 + 2)) = some (.int .i64 z.2.2) := by
      intro i hi
      obtain ⟨v0, n0, y0, c0, r0⟩ := hf i hi 0 f0 rfl
      obtain ⟨v1, n1, y1, c1, r1⟩ := hf i hi 1 f1 rfl
      obtain ⟨v2, n2, y2, c2, r2⟩ := hf i hi 2 f2 rfl
      rw [h0] at r0
      rw [h1] at r1
      rw [h2] at r2
      obtain ⟨a0, e0, _, w0⟩ := DataW.trod_int hti r0
      obtain ⟨a1, e1, _, w1⟩ := DataW.trod_int hti r1
      obtain ⟨a2, e2, _, w2⟩ := DataW.trod_int hti r2
      simp at e0 e1 e2
      subst e0 e1 e2
      exact ⟨(a0, a1, a2), c0, c1, c2⟩
    obtain ⟨l, hll, hq⟩ := list_of_each _ len each
    refine ⟨some a, cap, l, by rw [hll], by omega, fun hb => ?_⟩
    refine ⟨some a, cap, by rw [hll], by omega, hb, fun hn => ?_⟩
    obtain ⟨z0, hz0⟩ := getElem?_lt (show 0 < l.length from hn)
    have hc0 := (hq 0 z0 hz0).1
    obtain ⟨b, off, spot⟩ := a
    have hs : spot = none := by simpa [Addr.add] using World.cell?_spot hc0
    subst hs
    refine ⟨b, off, rfl, World.block_lt_of_cell? w _ (by rw [addr_add_none] at hc0; exact hc0), fun i y hy j u hu => ?_⟩
    have hc := hq i y hy
    simp only [addr_add_none, ← Nat.add_assoc] at hc
    have hj : j < 3 := by have := (List.getElem?_eq_some_iff.1 hu).1; simpa [encT] using this
    obtain rfl | rfl | rfl : j = 0 ∨ j = 1 ∨ j = 2 := by omega
    · rw [hc.1]; simpa [encT] using hu
    · rw [hc.2.1]; simpa [encT] using hu
    · rw [hc.2.2]; simpa [encT] using hu
end
end Go.Proofs.Ytnlpghjlhnhkeaa
