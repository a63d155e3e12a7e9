/- Opening arguments: a slice of numbers, a slice of events, an array of three numbers, as my walks want them. No program in sight. -/
import Derived.Test.YtnlpghjlhnhkeaaEv1
import Derived.Test.YtnlpghjlhnhkeaaRows
import Derived.OpenShut
import Derived.Deep.Slices
import Derived.Deep.Fields
import Derived.ChangeSame
import Derived.Carry
namespace Go.Proofs.Ytnlpghjlhnhkeaa
open Go.RowKit Go.ChangeShapes Go.WideShapes Go.Deep

theorem list_of_each {α : Type} (Q : Nat → α → Prop) : ∀ n : Nat, (∀ i, i < n → ∃ x, Q i x) → ∃ l : List α, l.length = n ∧ ∀ i x, l[i]? = some x → Q i x
  | 0, _ => ⟨[], rfl, by intro i x h; simp at h⟩
  | n + 1, h => by
    obtain ⟨l, hl, hq⟩ := list_of_each Q n (fun i hi => h i (by omega))
    obtain ⟨y, hy⟩ := h n (by omega)
    refine ⟨l ++ [y], by simp [hl], fun i x hx => ?_⟩
    rw [getElem?_snoc] at hx
    split at hx
    · exact hq i x hx
    · split at hx
      · rename_i _ he
        injection hx with hx
        subst hx; rw [he, hl]; exact hy
      · cases hx

section
variable {H : Type} {enc : TypeId × Value → H} {P : Program} {w : World} {base : Nat} {spare : Nat → Bool} {held : Bool}

theorem addr_add_none {b off : Nat} (j : Nat) : (⟨b, off, none⟩ : Addr).add j = ⟨b, off + j, none⟩ := by
  unfold Addr.add; split <;> simp_all

/-- a slice of numbers that came in -/
theorem open_RdI {t e : TypeId} {fuel : Nat} {v : Value} {x : DataW H × List MemPlace} (ht : P.underlying t = some (.slice e)) (he : P.underlying e = some (.int .i64)) (hc : P.cellsOf e = 1)
    (h : DataW.trod enc P w base spare held fuel t [v] = some x) :
    ∃ A cap zs, v = .slice A zs.length cap ∧ zs.length ≤ maxLen ∧ (zs.length ≤ 140737488355328 → RdL w v 1 encI zs) ∧ ∀ z ∈ zs, (Lit.int .i64 z).wf = true := by
  rcases open_ints ht he hc h with ⟨hcs, _⟩ | ⟨a, len, cap, zs, hcs, _, hl, hm, hz, _, hcell, hwf⟩
  · simp at hcs; subst hcs
    exact ⟨none, 0, [], rfl, by simp, fun _ => RdL.nil, by simp⟩
  · simp at hcs; subst hcs
    have hzl : len ≤ zs.length := by rw [hz]; split <;> omega
    refine ⟨some a, cap, zs.take len, by simp [hzl], by simp; omega, fun hb => ?_, fun z hzm => hwf z (List.mem_of_mem_take hzm)⟩
    have hlen : (zs.take len).length = len := by simp [hzl]
    refine ⟨some a, cap, by rw [hlen], by omega, hb, fun hn => ?_⟩
    rw [hlen] at hn
    have h0 := hcell 0 (by omega)
    obtain ⟨b, off, spot⟩ := a
    have hs : spot = none := by simpa [Addr.add] using World.cell?_spot h0
    subst hs
    refine ⟨b, off, rfl, World.block_lt_of_cell? w _ (by rw [addr_add_none] at h0; exact h0), fun i y hy j u hu => ?_⟩
    have hi : i < len := by have := (List.getElem?_eq_some_iff.1 hy).1; rw [hlen] at this; exact this
    have hc' := hcell i (by omega)
    rw [addr_add_none] at hc'
    have hj : j = 0 := by
      have := (List.getElem?_eq_some_iff.1 hu).1; simp [encI] at this; exact this
    subst hj
    have hy2 : zs.getD i 0 = y := by
      rw [List.getElem?_take, if_pos hi] at hy
      rw [List.getD_eq_getElem?_getD, hy]; rfl
    have hu2 : u = .int .i64 y := by simpa [encI] using hu.symm
    rw [Nat.mul_one, Nat.add_zero, hc', hu2, hy2]

theorem open_slice_fields {t e : TypeId} {fs : Array Field} {fuel : Nat} {cs : List Value} {x : DataW H × List MemPlace} (ht : P.underlying t = some (.slice e)) (he : P.underlying e = some (.struct fs))
    (hone : oneCellFields P fs = true) (hC : P.cellsOf e = fs.size) (h : DataW.trod enc P w base spare held fuel t cs = some x) :
    cs = [.slice none 0 0] ∨
    ∃ (a : Addr) (len cap : Nat), cs = [.slice (some a) len cap] ∧ len ≤ cap ∧ cap ≤ maxLen ∧
      ∀ i, i < len → ∀ (j : Nat) (f : Field), fs[j]? = some f → ∃ (v : Value) (n : Nat) (y : DataW H × List MemPlace), w.cell? (a.add (i * fs.size + j)) = some v ∧ DataW.trod enc P w base spare held n f.type [v] = some y := by
  rcases open_slice ht h with h0 | ⟨a, len, cap, m, n, D, Pl, hcs, hb, hl, hm, hmm, hx, hi⟩
  · exact .inl h0.1
  · refine .inr ⟨a, len, cap, hcs, hl, hm, fun i hin j f hj => ?_⟩
    have him : i < m := by rw [hmm]; split <;> omega
    obtain ⟨cs', hc, ht'⟩ := hi i him
    rw [hC] at hc
    obtain ⟨ys, n', hn', hy, hlen, hyl, hf⟩ := DataW.trod_struct he ht'
    obtain ⟨_, hcl, hat⟩ := World.cells?_some hc
    obtain ⟨ho, hk⟩ := hone_of hone j f hj
    have hjl : j < fs.size := (Array.getElem?_eq_some_iff.1 hj).1
    have hcell := hat j hjl
    have h1 := hf j f hj
    rw [ho, hk] at h1
    have hone' : (cs'.drop j).take 1 = [cs'[j]'(by omega)] := by
      rw [List.drop_eq_getElem_cons (by omega)]
      rfl
    rw [hone'] at h1
    have hys : ys[j]? = some (ys[j]'(by omega)) := List.getElem?_eq_getElem (by omega)
    refine ⟨cs'[j]'(by omega), n', ys[j]'(by omega), ?_, h1.trans hys⟩
    rw [← Go.Deep.add_add, hcell]
    exact List.getElem?_eq_getElem (by omega)

/-- a slice of events that came in -/
theorem open_RdE {t e ti tb : TypeId} {f0 f1 f2 f3 : Field} {fuel : Nat} {v : Value} {x : DataW H × List MemPlace} (ht : P.underlying t = some (.slice e)) (he : P.underlying e = some (.struct #[f0, f1, f2, f3]))
    (hone : oneCellFields P #[f0, f1, f2, f3] = true) (hC : P.cellsOf e = 4) (h0 : f0.type = ti) (h1 : f1.type = ti) (h2 : f2.type = tb) (h3 : f3.type = ti) (hti : P.underlying ti = some (.int .i64)) (htb : P.underlying tb = some .bool)
    (h : DataW.trod enc P w base spare held fuel t [v] = some x) :
    ∃ A cap l, v = .slice A l.length cap ∧ l.length ≤ maxLen ∧ (l.length ≤ 140737488355328 → RdL w v 4 encE l) ∧ ∀ z ∈ l, (Lit.int .i64 z.thread).wf = true ∧ (Lit.int .i64 z.kind).wf = true ∧ (Lit.int .i64 z.count).wf = true := by
  rcases open_slice_fields ht he hone (by rw [hC]; rfl) h with hcs | ⟨a, len, cap, hcs, hl, hm, hf⟩
  · simp at hcs; subst hcs
    exact ⟨none, 0, [], rfl, by simp, fun _ => RdL.nil, by simp⟩
  · simp at hcs; subst hcs
    have each : ∀ i, i < len → ∃ z : Ev, (w.cell? (a.add (i * 4 + 0)) = some (.int .i64 z.kind) ∧ w.cell? (a.add (i * 4 + 1)) = some (.int .i64 z.thread) ∧ w.cell? (a.add (i * 4 + 2)) = some (.bool z.read) ∧ w.cell? (a.add (i * 4 + 3)) = some (.int .i64 z.count)) ∧
        (Lit.int .i64 z.thread).wf = true ∧ (Lit.int .i64 z.kind).wf = true ∧ (Lit.int .i64 z.count).wf = true := by
      intro i hi
      obtain ⟨v0, n0, y0, c0, r0⟩ := hf i hi 0 f0 rfl
      obtain ⟨v1, n1, y1, c1, r1⟩ := hf i hi 1 f1 rfl
      obtain ⟨v2, n2, y2, c2, r2⟩ := hf i hi 2 f2 rfl
      obtain ⟨v3, n3, y3, c3, r3⟩ := hf i hi 3 f3 rfl
      rw [h0] at r0
      rw [h1] at r1
      rw [h2] at r2
      rw [h3] at r3
      obtain ⟨a0, e0, _, w0⟩ := DataW.trod_int hti r0
      obtain ⟨a1, e1, _, w1⟩ := DataW.trod_int hti r1
      obtain ⟨a2, e2, _⟩ := DataW.trod_bool htb r2
      obtain ⟨a3, e3, _, w3⟩ := DataW.trod_int hti r3
      simp at e0 e1 e2 e3
      subst e0 e1 e2 e3
      exact ⟨⟨a0, a1, a2, a3⟩, ⟨c0, c1, c2, c3⟩, w1, w0, w3⟩
    obtain ⟨l, hll, hq⟩ := list_of_each _ len each
    refine ⟨some a, cap, l, by rw [hll], by omega, fun hb => ?_, fun z hz => ?_⟩
    · refine ⟨some a, cap, by rw [hll], by omega, hb, fun hn => ?_⟩
      obtain ⟨z0, hz0⟩ := getElem?_lt (show 0 < l.length from hn)
      have hc0 := (hq 0 z0 hz0).1.1
      obtain ⟨b, off, spot⟩ := a
      have hs : spot = none := by simpa [Addr.add] using World.cell?_spot hc0
      subst hs
      refine ⟨b, off, rfl, World.block_lt_of_cell? w _ (by rw [addr_add_none] at hc0; exact hc0), fun i y hy j u hu => ?_⟩
      have hc := (hq i y hy).1
      simp only [addr_add_none, ← Nat.add_assoc] at hc
      have hj : j < 4 := by have := (List.getElem?_eq_some_iff.1 hu).1; simpa [encE] using this
      obtain rfl | rfl | rfl | rfl : j = 0 ∨ j = 1 ∨ j = 2 ∨ j = 3 := by omega
      · rw [hc.1]; simpa [encE] using hu
      · rw [hc.2.1]; simpa [encE] using hu
      · rw [hc.2.2.1]; simpa [encE] using hu
      · rw [hc.2.2.2]; simpa [encE] using hu
    · obtain ⟨i, hi⟩ := List.getElem?_of_mem hz
      exact (hq i z hi).2

/-- an array of numbers that came in -/
theorem open_arr3 {r : Reach} {b0 : Nat} {t e : TypeId} {k : IntKind} {fuel : Nat} {v : Value} {x : DataW H × List MemPlace} (ht : P.underlying t = some (.array 3 e)) (he : P.underlying e = some (.int k)) (hc : P.cellsOf e = 1) (hC : P.cellsOf t = 3)
    (hv : Value.okWide P w r b0 t v) (h : DataW.trod enc P w base spare held fuel t v.cells.toList = some x) : ∃ n0 n1 n2 : Int, v = .agg #[.int k n0, .int k n1, .int k n2] ∧ (Lit.int k n0).wf = true ∧ (Lit.int k n1).wf = true ∧ (Lit.int k n2).wf = true := by
  unfold Value.okWide at hv
  rw [ht] at hv
  obtain ⟨cs, rfl, hsz, _⟩ := hv
  rw [hC] at hsz
  obtain ⟨xs, m, _, _, _, hxl, hg⟩ := DataW.trod_array ht h
  obtain ⟨l⟩ := cs
  match l, hsz with
  | [c0, c1, c2], _ =>
    match xs, hxl with
    | [y0, y1, y2], _ =>
      have g0 := hg 0 (by omega)
      have g1 := hg 1 (by omega)
      have g2 := hg 2 (by omega)
      rw [hc] at g0 g1 g2
      simp [Value.cells] at g0 g1 g2
      obtain ⟨a0, e0, _, w0⟩ := DataW.trod_int he g0
      obtain ⟨a1, e1, _, w1⟩ := DataW.trod_int he g1
      obtain ⟨a2, e2, _, w2⟩ := DataW.trod_int he g2
      simp at e0 e1 e2
      subst e0 e1 e2
      exact ⟨a0, a1, a2, rfl, w0, w1, w2⟩
theorem open_arr4 {r : Reach} {b0 : Nat} {t e : TypeId} {k : IntKind} {fuel : Nat} {v : Value} {x : DataW H × List MemPlace} (ht : P.underlying t = some (.array 4 e)) (he : P.underlying e = some (.int k)) (hc : P.cellsOf e = 1) (hC : P.cellsOf t = 4)
    (hv : Value.okWide P w r b0 t v) (h : DataW.trod enc P w base spare held fuel t v.cells.toList = some x) : ∃ n0 n1 n2 n3 : Int, v = .agg #[.int k n0, .int k n1, .int k n2, .int k n3] ∧ (Lit.int k n0).wf = true ∧ (Lit.int k n1).wf = true ∧ (Lit.int k n2).wf = true ∧ (Lit.int k n3).wf = true := by
  unfold Value.okWide at hv
  rw [ht] at hv
  obtain ⟨cs, rfl, hsz, _⟩ := hv
  rw [hC] at hsz
  obtain ⟨xs, m, _, _, _, hxl, hg⟩ := DataW.trod_array ht h
  obtain ⟨l⟩ := cs
  match l, hsz with
  | [c0, c1, c2, c3], _ =>
    match xs, hxl with
    | [y0, y1, y2, y3], _ =>
      have g0 := hg 0 (by omega)
      have g1 := hg 1 (by omega)
      have g2 := hg 2 (by omega)
      have g3 := hg 3 (by omega)
      rw [hc] at g0 g1 g2 g3
      simp [Value.cells] at g0 g1 g2 g3
      obtain ⟨a0, e0, _, w0⟩ := DataW.trod_int he g0
      obtain ⟨a1, e1, _, w1⟩ := DataW.trod_int he g1
      obtain ⟨a2, e2, _, w2⟩ := DataW.trod_int he g2
      obtain ⟨a3, e3, _, w3⟩ := DataW.trod_int he g3
      simp at e0 e1 e2 e3
      subst e0 e1 e2 e3
      exact ⟨a0, a1, a2, a3, rfl, w0, w1, w2, w3⟩
end
end Go.Proofs.Ytnlpghjlhnhkeaa
