/- Layer 26: what is handed over, in plain words (written by wip/gen_rgg.py). -/
import Derived.Test.YthgpjiebeinamaaRg5
namespace Go.Proofs.Ythgpjiebeinamaa
open Go.RowKit

/-- slot own holds, the other one is at rest -/
def Held (own : Nat) (r : Rg) : Prop := ∃ (o : Nat) (k x : Int) (wr : Bool) (n1 s1 n2 s2 a b c a' b' c' : Int), r = ⟨⟨[(own : Int) + 1, n1, s1, n2, s2], 20, o, k, x, wr⟩, if own = 0 then [⟨10, a, b, c⟩, ⟨0, a', b', c'⟩] else [⟨0, a', b', c'⟩, ⟨10, a, b, c⟩]⟩
structure Hand0 (own nxt : Nat) (r : Rg) : Prop where
  h : ∃ r1 r2 r3 r4 r5, beginRg r nxt 0 1 = (r1, true) ∧ stepsRg 9 r1 1 nxt = (r2, false) ∧ withRg r2 own 11 0 = (r3, true) ∧ stepsRg 9 r3 1 own = (r4, true) ∧ stepsRg 9 r4 1 nxt = (r5, false)
structure Hand (own nxt : Nat) (v : Int) (r : Rg) : Prop where
  h : ∃ r1 r2 r3 r4 r5 p, beginRg r nxt 0 1 = (r1, true) ∧ stepsRg 9 r1 1 nxt = (r2, false) ∧ withRg r2 own 11 v = (r3, true) ∧ withRg r3 own 15 v = (r3, false) ∧ stepsRg 9 r3 1 own = (r4, true) ∧
    (getS r4.S own).pc = 0 ∧ stepsRg 9 r4 1 nxt = (r5, true) ∧ Held nxt r5 ∧ getS r5.S nxt = p ∧ (0 < v → p.a = v ∧ p.b = 0) ∧ (v < 0 → p.a = 1 ∧ p.b = 1)
theorem stepsRg_end {k : Nat} {r r' : Rg} {t i : Int} (h : stepRg r t i = (r', true)) : stepsRg (k + 1) r t i = (r', true) := by
  show (if (stepRg r t i).2 then ((stepRg r t i).1, true) else stepsRg k (stepRg r t i).1 t i) = _
  rw [h]; rfl
theorem stepsRg_on {k : Nat} {r r' : Rg} {t i : Int} (h : stepRg r t i = (r', false)) : stepsRg (k + 1) r t i = stepsRg k r' t i := by
  show (if (stepRg r t i).2 then ((stepRg r t i).1, true) else stepsRg k (stepRg r t i).1 t i) = _
  rw [h]; rfl
theorem stepRg_of {r : Rg} {t i : Int} {x : Ar × Sp} {b : Bool} (hi : okI r.S i) (h0 : (getS r.S i).pc ≠ 0) (h1 : (getS r.S i).pc ≠ 10) (hx : stepP r.ar t (i + 1) (getS r.S i) = x) (hb : decide (x.2.pc = 0 ∨ x.2.pc = 10) = b) : stepRg r t i = (⟨x.1, r.S.set i.toNat x.2⟩, b) := by
  unfold stepRg
  rw [if_pos ⟨hi, h0, h1⟩, hx, hb]
theorem hand0_0 (o : Nat) (k x : Int) (wr : Bool) (n1 s1 n2 s2 a b c a' b' c' : Int) : Hand0 0 1 ⟨⟨[1, n1, s1, n2, s2], 20, o, k, x, wr⟩, [⟨10, a, b, c⟩, ⟨0, a', b', c'⟩]⟩ :=
  ⟨⟨⟨[1, n1, s1, n2, s2], 20, o, k, x, wr⟩, [⟨10, a, b, c⟩, ⟨1, a', b', c'⟩]⟩, ⟨⟨[2, 2, s1, 0, 0], 20, o + 9, 1, 5, false⟩, [⟨10, a, b, c⟩, ⟨5, 0, b', c'⟩]⟩, ⟨⟨[2, 2, s1, 0, 0], 20, o + 9, 1, 5, false⟩, [⟨11, a, b, 0⟩, ⟨5, 0, b', c'⟩]⟩, ⟨⟨[2, 2, s1, 0, 0], 20, o + 11, 2, 5, true⟩, [⟨0, 2, b, 0⟩, ⟨5, 0, b', c'⟩]⟩, ⟨⟨[2, 2, s1, 0, 0], 20, o + 20, 1, 5, false⟩, [⟨0, 2, b, 0⟩, ⟨5, 0, b', c'⟩]⟩, by kernel_rfl, by kernel_rfl, by kernel_rfl, by kernel_rfl, by kernel_rfl⟩
theorem hand_0 (v : Int) (o : Nat) (k x : Int) (wr : Bool) (n1 s1 n2 s2 a b c a' b' c' : Int) (hv : v ≠ 0) : Hand 0 1 v ⟨⟨[1, n1, s1, n2, s2], 20, o, k, x, wr⟩, [⟨10, a, b, c⟩, ⟨0, a', b', c'⟩]⟩ := by
  have e0 : stepP ⟨[2, 2, s1, 0, v], 20, o + 11, 2, 5, true⟩ 1 (1 + 1) ⟨5, 0, b', c'⟩ = (⟨[2, 2, s1, 0, v], 20, o + 12, 1, 5, false⟩, if 0 < v then ⟨10, v, 0, c'⟩ else if v < 0 then ⟨6, v, b', c'⟩ else ⟨5, v, b', c'⟩) := by kernel_rfl
  by_cases hp : 0 < v
  · rw [if_pos hp] at e0
    have e1 : stepRg ⟨⟨[2, 2, s1, 0, v], 20, o + 11, 2, 5, true⟩, [⟨0, 2, b, v⟩, ⟨5, 0, b', c'⟩]⟩ 1 1 = (⟨⟨[2, 2, s1, 0, v], 20, o + 12, 1, 5, false⟩, [⟨0, 2, b, v⟩, ⟨10, v, 0, c'⟩]⟩, true) := stepRg_of (r := ⟨⟨[2, 2, s1, 0, v], 20, o + 11, 2, 5, true⟩, [⟨0, 2, b, v⟩, ⟨5, 0, b', c'⟩]⟩) (x := (⟨[2, 2, s1, 0, v], 20, o + 12, 1, 5, false⟩, ⟨10, v, 0, c'⟩)) ⟨(show (0 : Int) ≤ 1 by decide), (show (1 : Int) < 2 by decide)⟩ (show (5 : Int) ≠ 0 by decide) (show (5 : Int) ≠ 10 by decide) e0 rfl
    exact ⟨⟨⟨[1, n1, s1, n2, s2], 20, o, k, x, wr⟩, [⟨10, a, b, c⟩, ⟨1, a', b', c'⟩]⟩, ⟨⟨[2, 2, s1, 0, 0], 20, o + 9, 1, 5, false⟩, [⟨10, a, b, c⟩, ⟨5, 0, b', c'⟩]⟩, ⟨⟨[2, 2, s1, 0, 0], 20, o + 9, 1, 5, false⟩, [⟨11, a, b, v⟩, ⟨5, 0, b', c'⟩]⟩, ⟨⟨[2, 2, s1, 0, v], 20, o + 11, 2, 5, true⟩, [⟨0, 2, b, v⟩, ⟨5, 0, b', c'⟩]⟩, ⟨⟨[2, 2, s1, 0, v], 20, o + 12, 1, 5, false⟩, [⟨0, 2, b, v⟩, ⟨10, v, 0, c'⟩]⟩, ⟨10, v, 0, c'⟩, by kernel_rfl, by kernel_rfl, by kernel_rfl, by kernel_rfl, by kernel_rfl, by kernel_rfl, stepsRg_end e1,
      ⟨o + 12, 1, 5, false, 2, s1, 0, v, v, 0, c', 2, b, v, by kernel_rfl⟩, by kernel_rfl, fun _ => ⟨rfl, rfl⟩, fun h => by omega⟩
  · have hn : v < 0 := by omega
    rw [if_neg hp, if_pos hn] at e0
    have e1 : stepRg ⟨⟨[2, 2, s1, 0, v], 20, o + 11, 2, 5, true⟩, [⟨0, 2, b, v⟩, ⟨5, 0, b', c'⟩]⟩ 1 1 = (⟨⟨[2, 2, s1, 0, v], 20, o + 12, 1, 5, false⟩, [⟨0, 2, b, v⟩, ⟨6, v, b', c'⟩]⟩, false) := stepRg_of (r := ⟨⟨[2, 2, s1, 0, v], 20, o + 11, 2, 5, true⟩, [⟨0, 2, b, v⟩, ⟨5, 0, b', c'⟩]⟩) (x := (⟨[2, 2, s1, 0, v], 20, o + 12, 1, 5, false⟩, ⟨6, v, b', c'⟩)) ⟨(show (0 : Int) ≤ 1 by decide), (show (1 : Int) < 2 by decide)⟩ (show (5 : Int) ≠ 0 by decide) (show (5 : Int) ≠ 10 by decide) e0 rfl
    exact ⟨⟨⟨[1, n1, s1, n2, s2], 20, o, k, x, wr⟩, [⟨10, a, b, c⟩, ⟨1, a', b', c'⟩]⟩, ⟨⟨[2, 2, s1, 0, 0], 20, o + 9, 1, 5, false⟩, [⟨10, a, b, c⟩, ⟨5, 0, b', c'⟩]⟩, ⟨⟨[2, 2, s1, 0, 0], 20, o + 9, 1, 5, false⟩, [⟨11, a, b, v⟩, ⟨5, 0, b', c'⟩]⟩, ⟨⟨[2, 2, s1, 0, v], 20, o + 11, 2, 5, true⟩, [⟨0, 2, b, v⟩, ⟨5, 0, b', c'⟩]⟩, ⟨⟨[2, 2, s1, 0, 1], 20, o + 13, 2, 5, true⟩, [⟨0, 2, b, v⟩, ⟨10, 1, 1, c'⟩]⟩, ⟨10, 1, 1, c'⟩, by kernel_rfl, by kernel_rfl, by kernel_rfl, by kernel_rfl, by kernel_rfl, by kernel_rfl, (stepsRg_on e1).trans (by kernel_rfl),
      ⟨o + 13, 2, 5, true, 2, s1, 0, 1, 1, 1, c', 2, b, v, by kernel_rfl⟩, by kernel_rfl, fun h => by omega, fun _ => ⟨rfl, rfl⟩⟩
theorem hand0_1 (o : Nat) (k x : Int) (wr : Bool) (n1 s1 n2 s2 a b c a' b' c' : Int) : Hand0 1 0 ⟨⟨[2, n1, s1, n2, s2], 20, o, k, x, wr⟩, [⟨0, a', b', c'⟩, ⟨10, a, b, c⟩]⟩ :=
  ⟨⟨⟨[2, n1, s1, n2, s2], 20, o, k, x, wr⟩, [⟨1, a', b', c'⟩, ⟨10, a, b, c⟩]⟩, ⟨⟨[1, 0, 0, 1, s2], 20, o + 9, 1, 3, false⟩, [⟨5, 0, b', c'⟩, ⟨10, a, b, c⟩]⟩, ⟨⟨[1, 0, 0, 1, s2], 20, o + 9, 1, 3, false⟩, [⟨5, 0, b', c'⟩, ⟨11, a, b, 0⟩]⟩, ⟨⟨[1, 0, 0, 1, s2], 20, o + 11, 2, 3, true⟩, [⟨5, 0, b', c'⟩, ⟨0, 1, b, 0⟩]⟩, ⟨⟨[1, 0, 0, 1, s2], 20, o + 20, 1, 3, false⟩, [⟨5, 0, b', c'⟩, ⟨0, 1, b, 0⟩]⟩, by kernel_rfl, by kernel_rfl, by kernel_rfl, by kernel_rfl, by kernel_rfl⟩
theorem hand_1 (v : Int) (o : Nat) (k x : Int) (wr : Bool) (n1 s1 n2 s2 a b c a' b' c' : Int) (hv : v ≠ 0) : Hand 1 0 v ⟨⟨[2, n1, s1, n2, s2], 20, o, k, x, wr⟩, [⟨0, a', b', c'⟩, ⟨10, a, b, c⟩]⟩ := by
  have e0 : stepP ⟨[1, 0, v, 1, s2], 20, o + 11, 2, 3, true⟩ 1 (0 + 1) ⟨5, 0, b', c'⟩ = (⟨[1, 0, v, 1, s2], 20, o + 12, 1, 3, false⟩, if 0 < v then ⟨10, v, 0, c'⟩ else if v < 0 then ⟨6, v, b', c'⟩ else ⟨5, v, b', c'⟩) := by kernel_rfl
  by_cases hp : 0 < v
  · rw [if_pos hp] at e0
    have e1 : stepRg ⟨⟨[1, 0, v, 1, s2], 20, o + 11, 2, 3, true⟩, [⟨5, 0, b', c'⟩, ⟨0, 1, b, v⟩]⟩ 1 0 = (⟨⟨[1, 0, v, 1, s2], 20, o + 12, 1, 3, false⟩, [⟨10, v, 0, c'⟩, ⟨0, 1, b, v⟩]⟩, true) := stepRg_of (r := ⟨⟨[1, 0, v, 1, s2], 20, o + 11, 2, 3, true⟩, [⟨5, 0, b', c'⟩, ⟨0, 1, b, v⟩]⟩) (x := (⟨[1, 0, v, 1, s2], 20, o + 12, 1, 3, false⟩, ⟨10, v, 0, c'⟩)) ⟨(show (0 : Int) ≤ 0 by decide), (show (0 : Int) < 2 by decide)⟩ (show (5 : Int) ≠ 0 by decide) (show (5 : Int) ≠ 10 by decide) e0 rfl
    exact ⟨⟨⟨[2, n1, s1, n2, s2], 20, o, k, x, wr⟩, [⟨1, a', b', c'⟩, ⟨10, a, b, c⟩]⟩, ⟨⟨[1, 0, 0, 1, s2], 20, o + 9, 1, 3, false⟩, [⟨5, 0, b', c'⟩, ⟨10, a, b, c⟩]⟩, ⟨⟨[1, 0, 0, 1, s2], 20, o + 9, 1, 3, false⟩, [⟨5, 0, b', c'⟩, ⟨11, a, b, v⟩]⟩, ⟨⟨[1, 0, v, 1, s2], 20, o + 11, 2, 3, true⟩, [⟨5, 0, b', c'⟩, ⟨0, 1, b, v⟩]⟩, ⟨⟨[1, 0, v, 1, s2], 20, o + 12, 1, 3, false⟩, [⟨10, v, 0, c'⟩, ⟨0, 1, b, v⟩]⟩, ⟨10, v, 0, c'⟩, by kernel_rfl, by kernel_rfl, by kernel_rfl, by kernel_rfl, by kernel_rfl, by kernel_rfl, stepsRg_end e1,
      ⟨o + 12, 1, 3, false, 0, v, 1, s2, v, 0, c', 1, b, v, by kernel_rfl⟩, by kernel_rfl, fun _ => ⟨rfl, rfl⟩, fun h => by omega⟩
  · have hn : v < 0 := by omega
    rw [if_neg hp, if_pos hn] at e0
    have e1 : stepRg ⟨⟨[1, 0, v, 1, s2], 20, o + 11, 2, 3, true⟩, [⟨5, 0, b', c'⟩, ⟨0, 1, b, v⟩]⟩ 1 0 = (⟨⟨[1, 0, v, 1, s2], 20, o + 12, 1, 3, false⟩, [⟨6, v, b', c'⟩, ⟨0, 1, b, v⟩]⟩, false) := stepRg_of (r := ⟨⟨[1, 0, v, 1, s2], 20, o + 11, 2, 3, true⟩, [⟨5, 0, b', c'⟩, ⟨0, 1, b, v⟩]⟩) (x := (⟨[1, 0, v, 1, s2], 20, o + 12, 1, 3, false⟩, ⟨6, v, b', c'⟩)) ⟨(show (0 : Int) ≤ 0 by decide), (show (0 : Int) < 2 by decide)⟩ (show (5 : Int) ≠ 0 by decide) (show (5 : Int) ≠ 10 by decide) e0 rfl
    exact ⟨⟨⟨[2, n1, s1, n2, s2], 20, o, k, x, wr⟩, [⟨1, a', b', c'⟩, ⟨10, a, b, c⟩]⟩, ⟨⟨[1, 0, 0, 1, s2], 20, o + 9, 1, 3, false⟩, [⟨5, 0, b', c'⟩, ⟨10, a, b, c⟩]⟩, ⟨⟨[1, 0, 0, 1, s2], 20, o + 9, 1, 3, false⟩, [⟨5, 0, b', c'⟩, ⟨11, a, b, v⟩]⟩, ⟨⟨[1, 0, v, 1, s2], 20, o + 11, 2, 3, true⟩, [⟨5, 0, b', c'⟩, ⟨0, 1, b, v⟩]⟩, ⟨⟨[1, 0, 1, 1, s2], 20, o + 13, 2, 3, true⟩, [⟨10, 1, 1, c'⟩, ⟨0, 1, b, v⟩]⟩, ⟨10, 1, 1, c'⟩, by kernel_rfl, by kernel_rfl, by kernel_rfl, by kernel_rfl, by kernel_rfl, by kernel_rfl, (stepsRg_on e1).trans (by kernel_rfl),
      ⟨o + 13, 2, 3, true, 0, 1, 1, s2, 1, 1, c', 1, b, v, by kernel_rfl⟩, by kernel_rfl, fun h => by omega, fun _ => ⟨rfl, rfl⟩⟩
theorem hand0_any {r : Rg} (i : Nat) (h : Held (i % 2) r) : Hand0 (i % 2) ((i + 1) % 2) r := by
  obtain ⟨o, k, x, wr, n1, s1, n2, s2, a, b, c, a', b', c', rfl⟩ := h
  rcases (show i % 2 = 0 ∧ (i + 1) % 2 = 1 ∨ i % 2 = 1 ∧ (i + 1) % 2 = 0 by omega) with ⟨e1, e2⟩ | ⟨e1, e2⟩
  · rw [e1, e2]; exact hand0_0 o k x wr n1 s1 n2 s2 a b c a' b' c'
  · rw [e1, e2]; exact hand0_1 o k x wr n1 s1 n2 s2 a b c a' b' c'
theorem hand_any {r : Rg} (i : Nat) (v : Int) (hv : v ≠ 0) (h : Held (i % 2) r) : Hand (i % 2) ((i + 1) % 2) v r := by
  obtain ⟨o, k, x, wr, n1, s1, n2, s2, a, b, c, a', b', c', rfl⟩ := h
  rcases (show i % 2 = 0 ∧ (i + 1) % 2 = 1 ∨ i % 2 = 1 ∧ (i + 1) % 2 = 0 by omega) with ⟨e1, e2⟩ | ⟨e1, e2⟩
  · rw [e1, e2]; exact hand_0 v o k x wr n1 s1 n2 s2 a b c a' b' c' hv
  · rw [e1, e2]; exact hand_1 v o k x wr n1 s1 n2 s2 a b c a' b' c' hv
def gv1 : Rg := (beginRg (newR 20 2) 0 0 1).1
def gv2 : Rg := (stepsRg 9 gv1 1 0).1
theorem gvE1 : beginRg (newR 20 2) 0 0 1 = (gv1, true) := by kernel_rfl
theorem gvE2 : stepsRg 9 gv1 1 0 = (gv2, true) := by kernel_rfl
theorem gvS : getS gv2.S 0 = ⟨10, 1, 1, 0⟩ := by kernel_rfl
theorem gvH : Held 0 gv2 := ⟨4, 2, 3, true, 0, 1, 0, 0, 1, 1, 0, 0, 0, 0, by kernel_rfl⟩
end Go.Proofs.Ythgpjiebeinamaa
