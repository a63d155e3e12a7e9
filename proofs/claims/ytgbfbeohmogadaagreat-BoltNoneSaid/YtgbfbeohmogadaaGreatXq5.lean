/- Running closed code: structs and arrays that are built, addresses, parts, slices of slices, lengths. -/
import Derived.Test.YtgbfbeohmogadaaGreatXq4
import Derived.Great.BuildSlice
namespace Go.Proofs.YtgbfbeohmogadaaGreat
open Go.RowKit
set_option linter.unusedVariables false

/-! ### Filling -/
def wcells : Wv → List C
  | .c x => [x]
  | .a cs => cs
theorem CR.notAgg {r : Nm} {c : C} {v : Value} (h : CR r c v) : v.cells = #[v] := by cases h <;> rfl
theorem wcells_ok {r : Nm} {x : Wv} {v : Value} (h : WR r x v) : CsR r (wcells x) v.cells.toList := by
  cases h with
  | c h => rw [h.notAgg]; exact .cons h .nil
  | a h => simpa [Value.cells, wcells] using h
theorem CsR.set {r : Nm} {cs : List C} {vs : List Value} (h : CsR r cs vs) {c : C} {v : Value} (k : CR r c v) : ∀ i, CsR r (cs.set i c) (vs.set i v) := by
  induction h with
  | nil => intro i; simp; exact .nil
  | cons h t ih =>
    intro i
    cases i with
    | zero => exact .cons k t
    | succ i => exact .cons h (ih i)
def putAll (off : Nat) : List C → List C → List C
  | [], cs => cs
  | x :: xs, cs => putAll (off + 1) xs (cs.set off x)
theorem putAll_ok {r : Nm} : ∀ (xs : List C) (us : List Value), CsR r xs us → ∀ (k off : Nat) (cs : List C) (vs : Array Value), CsR r cs vs.toList →
    CsR r (putAll (off + k) xs cs) ((us.zipIdx k).foldl (fun cs (p : Value × Nat) => cs.setIfInBounds (off + p.2) p.1) vs).toList := by
  intro xs us h
  induction h with
  | nil => intro k off cs vs hc; exact hc
  | cons h t ih =>
    intro k off cs vs hc
    rw [List.zipIdx_cons, List.foldl_cons]
    show CsR r (putAll (off + k + 1) _ (cs.set (off + k) _)) _
    exact ih (k + 1) off _ _ (by rw [Array.toList_setIfInBounds]; exact hc.set h _)
def fillC (place : Nat → Option (Nat × Nat)) : List C → List (Nat × Wv) → Option (List C)
  | cs, [] => some cs
  | cs, (i, x) :: rest => match place i with
    | none => none
    | some (off, size) => if (wcells x).length ≠ size ∨ off + (wcells x).length > cs.length then none else fillC place (putAll off (wcells x) cs) rest
inductive PsR (r : Nm) : List (Nat × Wv) → List (Nat × Value) → Prop where
  | nil : PsR r [] []
  | cons {i x v xs vs} (h : WR r x v) (t : PsR r xs vs) : PsR r ((i, x) :: xs) ((i, v) :: vs)
theorem fillC_ok {r : Nm} {place : Nat → Option (Nat × Nat)} : ∀ (ps : List (Nat × Wv)) (qs : List (Nat × Value)), PsR r ps qs → ∀ (cs : List C) (vs : Array Value) (ds : List C), CsR r cs vs.toList → fillC place cs ps = some ds →
    ∃ us : Array Value, Instr.fill place vs qs = some us ∧ CsR r ds us.toList := by
  intro ps qs h
  induction h with
  | nil => intro cs vs ds hc hf; injection hf with hf; subst hf; exact ⟨vs, rfl, hc⟩
  | cons hw t ih =>
    rename_i i x v xs rest
    intro cs vs ds hc hf
    unfold fillC at hf
    unfold Instr.fill
    cases hp : place i with
    | none => rw [hp] at hf; cases hf
    | some os =>
      obtain ⟨off, size⟩ := os
      rw [hp] at hf
      simp only at hf
      have hwc := wcells_ok hw
      have l1 := hwc.length
      have l2 := hc.length
      rw [Array.length_toList] at l1 l2
      split at hf
      · cases hf
      · rename_i hn
        have e : (v.cells.size ≠ size || off + v.cells.size > vs.size) = false := by
          rw [l1, l2]
          simp only [not_or] at hn
          simp
          omega
        simp only [e]
        have hz : (v.cells.zipIdx.foldl (fun cs (p : Value × Nat) => cs.setIfInBounds (off + p.2) p.1) vs) = ((v.cells.toList.zipIdx 0).foldl (fun cs (p : Value × Nat) => cs.setIfInBounds (off + p.2) p.1) vs) := by
          rw [← Array.foldl_toList, Array.toList_zipIdx]
        have hq := putAll_ok _ _ hwc 0 off cs vs hc
        obtain ⟨us, h1, h2⟩ := ih _ _ ds (by rw [Nat.add_zero] at hq; exact hq) hf
        refine ⟨us, ?_, h2⟩
        rw [← h1]
        simp only [Bool.false_eq_true, if_false]
        congr 1
/-- the zero of a type, by cells -/
def zeroW (P : Program) (t : TypeId) : Option Wv := match P.info? t with
  | some i => match i.zero with
    | some z => wOf z
    | none => none
  | none => none
theorem zeroW_ok {P : Program} {r : Nm} {t : TypeId} {x : Wv} (h : zeroW P t = some x) : ∃ i z, P.info? t = some i ∧ i.zero = some z ∧ WR r x z := by
  unfold zeroW at h
  split at h
  · rename_i i hi
    split at h
    · rename_i z hz; exact ⟨i, z, hi, hz, wOf_ok h⟩
    · cases h
  · cases h
def placesOf (P : Program) : List Field → Option (List (Nat × Nat))
  | [] => some []
  | f :: fs => match szOf P f.type, placesOf P fs with
    | some n, some l => some ((f.offset, n) :: l)
    | _, _ => none
theorem placesOf_ok {P : Program} : ∀ (fs : List Field) (l : List (Nat × Nat)), placesOf P fs = some l → fs.mapM (fun f => (P.info? f.type).map fun i => (f.offset, i.size)) = some l
  | [], l, h => by injection h with h; subst h; rfl
  | f :: fs, l, h => by
    unfold placesOf at h
    split at h
    · rename_i n l' h1 h2
      injection h with h
      subst h
      unfold szOf at h1
      cases hi : P.info? f.type with
      | none => rw [hi] at h1; cases h1
      | some i =>
        rw [hi] at h1
        injection h1 with h1
        subst h1
        simp [List.mapM_cons, hi, placesOf_ok fs l' h2]
    · cases h
def partsE (e : Operand → Option V) : List (Nat × Operand) → Option (List (Nat × Wv))
  | [] => some []
  | (i, x) :: rest => match e x, partsE e rest with
    | some (.w w), some l => some ((i, w) :: l)
    | _, _ => none
theorem partsE_ok {r : Nm} {e : Operand → Option V} {g : Operand → Value} (h : ∀ x v, e x = some v → VR r v (g x)) : ∀ (ps : List (Nat × Operand)) (l : List (Nat × Wv)), partsE e ps = some l → PsR r l (ps.map fun (i, x) => (i, g x))
  | [], l, k => by injection k with k; subst k; exact .nil
  | (i, x) :: rest, l, k => by
    unfold partsE at k
    split at k
    · rename_i w l' h1 h2
      injection k with k
      subst k
      have := h _ _ h1
      cases this with
      | w hw => exact .cons hw (partsE_ok h rest l' h2)
    · cases k
def opBuild (P : Program) (t : TypeId) (ps : List (Nat × Wv)) : Option (List C) := match zeroW P t with
  | none => none
  | some z => match P.underlying t with
    | some (.struct fs) => match placesOf P fs.toList with
      | some pl => fillC (pl.toArray[·]?) (wcells z) ps
      | none => none
    | some (.array _ e) => match szOf P e with
      | some n => fillC (fun i => some (i * n, n)) (wcells z) ps
      | none => none
    | _ => none
theorem opBuild_ok {P : Program} {r : Nm} {t : TypeId} {ps : List (Nat × Wv)} {qs : Array (Nat × Value)} {cs : List C} (h : opBuild P t ps = some cs) (hp : PsR r ps qs.toList) :
    ∃ vs : List Value, CsR r cs vs ∧ ∀ w, (Instr.build t qs).run P w = .ok (.agg vs.toArray) w := by
  unfold opBuild at h
  cases hz : zeroW P t with
  | none => rw [hz] at h; cases h
  | some z =>
    rw [hz] at h
    obtain ⟨i, zv, hi, hiz, hzr⟩ := zeroW_ok (r := r) hz
    simp only at h
    split at h
    · rename_i fs hu
      cases hpl : placesOf P fs.toList with
      | none => rw [hpl] at h; cases h
      | some pl =>
        rw [hpl] at h
        obtain ⟨us, h1, h2⟩ := fillC_ok _ _ hp _ _ _ (wcells_ok hzr) h
        refine ⟨us.toList, h2, fun w => ?_⟩
        have := run_build (P := P) w t qs us (by unfold Program.built; simp only [hi, hu, hiz, placesOf_ok _ _ hpl]; exact h1)
        simpa using this
    · rename_i n e hu
      cases hs : szOf P e with
      | none => rw [hs] at h; cases h
      | some sz =>
        rw [hs] at h
        unfold szOf at hs
        cases hie : P.info? e with
        | none => rw [hie] at hs; cases hs
        | some ie =>
          rw [hie] at hs
          injection hs with hs
          subst hs
          obtain ⟨us, h1, h2⟩ := fillC_ok _ _ hp _ _ _ (wcells_ok hzr) h
          refine ⟨us.toList, h2, fun w => ?_⟩
          have := run_build (P := P) w t qs us (by unfold Program.built; simp only [hi, hu, hiz, hie]; exact h1)
          simpa using this
    · cases h
end Go.Proofs.YtgbfbeohmogadaaGreat
