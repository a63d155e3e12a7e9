/- Running closed code: what is made. -/
import Derived.Test.YtgbfbeohmogadaaGreatXq9
namespace Go.Proofs.YtgbfbeohmogadaaGreat
open Go.RowKit
set_option linter.unusedVariables false

def bkL (e : TypeId) (cs : List C) : Bk := ⟨e, cs.length, [], setN .nil 0 cs⟩
theorem bkL_cell (e : TypeId) (cs : List C) (j : Nat) (h : j < cs.length) : (bkL e cs).cell j = cs[j] := by
  unfold Bk.cell bkL
  have e := setN_get cs .nil 0 j
  rw [if_pos (by omega), Nat.sub_zero, List.getElem?_eq_getElem h] at e
  rw [e]
/-- a block of a list's cells, in a world in which it was just made -/
theorem bkL_new {r : Nm} {e : TypeId} {cs : List C} {vs : Array Value} (h : CsR r cs vs.toList) (w : World) : BR r (w.alloc (.cells vs e)) (bkL e cs) w.heap.size vs.size := by
  have hl := h.length
  rw [Array.length_toList] at hl
  refine ⟨vs, heap_alloc_new w _, rfl, by show cs.length ≤ _; omega, fun j hj => ?_⟩
  have hj' : j < cs.length := hj
  obtain ⟨v, hv, hr⟩ := h.get j cs[j] (List.getElem?_eq_getElem hj')
  exact ⟨v, by simpa using hv, by rw [bkL_cell e cs j hj']; exact hr⟩
def bkP (e : TypeId) (n : Nat) (pat : List C) : Bk := ⟨e, n, pat, .nil⟩
theorem pat_cells {r : Nm} {pat : List C} {vs : Array Value} (h : CsR r pat vs.toList) (j : Nat) (hn : 0 < pat.length) : CR r (pat.getD (j % pat.length) .ni) (vs[j % vs.size]!) := by
  have hl := h.length
  rw [Array.length_toList] at hl
  have hj : j % pat.length < pat.length := Nat.mod_lt _ hn
  obtain ⟨v, hv, hr⟩ := h.get (j % pat.length) (pat.getD (j % pat.length) .ni) (by rw [List.getD_eq_getElem?_getD, List.getElem?_eq_getElem hj]; rfl)
  rw [hl]
  have : vs[j % pat.length]? = some v := by simpa using hv
  rw [getElem!_def, this]
  exact hr
theorem bkP_new {r : Nm} {e : TypeId} {n : Nat} {pat : List C} {vs : Array Value} (h : CsR r pat vs.toList) (hn : 0 < n → 0 < pat.length) (w : World) : BR r (w.alloc (.cells ((Array.range n).map (vs[· % vs.size]!)) e)) (bkP e n pat) w.heap.size n := by
  refine ⟨_, heap_alloc_new w _, by simp, Nat.le_refl _, fun j hj => ?_⟩
  have hj' : j < n := hj
  refine ⟨vs[j % vs.size]!, by simp [hj'], ?_⟩
  show CR r (match Tr.get .nil j with | some c => c | none => pat.getD (j % pat.length) .ni) _
  exact pat_cells h j (hn (by omega))
def rangeC (n : Nat) (pat : List C) : List C := (List.range n).map fun j => pat.getD (j % pat.length) .ni
theorem rangeC_ok {r : Nm} {pat : List C} {vs : Array Value} (h : CsR r pat vs.toList) (n : Nat) (hn : 0 < n → 0 < pat.length) : CsR r (rangeC n pat) ((Array.range n).map (vs[· % vs.size]!)).toList := by
  refine CsR.of_get _ _ (by simp [rangeC]) fun j c v hc hv => ?_
  have hj : j < n := by have := (List.getElem?_eq_some_iff.1 hc).1; simpa [rangeC] using this
  unfold rangeC at hc
  rw [List.getElem?_map, List.getElem?_range hj] at hc
  injection hc with hc
  subst hc
  simp [hj] at hv
  subst hv
  exact pat_cells h j (hn (by omega))
/-- the operations that make one block, and do nothing else: the block, and whether the value is a pointer, or a slice of so many -/
def opAlloc (P : Program) (e : Operand → Option V) : Op → Option (Bk × Option (Nat × Cp))
  | .alloc t => match zeroW P t with
    | some z => some (bkL t (wcells z), none)
    | none => none
  | .box t x => match e x with
    | some (.w y) => some (bkL t (wcells y), none)
    | _ => none
  | .buildSlice t len ps => match partsE e ps.toList, P.underlying t with
    | some l, some (.slice el) => match szOf P el, zeroW P el with
      | some n, some z => if len * n ≤ 16000 ∧ (0 < len * n → 0 < (wcells z).length) then
          if len * n = 0 then if l.isEmpty then some (bkL el [], some (len, if n = 0 then .k len else .u n)) else none
          else match fillC (fun i => some (i * n, n)) (rangeC (len * n) (wcells z)) l with
          | some cs => if cs.length = len * n ∧ len ≤ maxLen then some (bkL el cs, some (len, .u n)) else none
          | none => none
        else none
      | _, _ => none
    | _, _ => none
  | .makeSlice t l c => match e l, e c, P.underlying t with
    | some (.w (.c (.i _ a))), some (.w (.c (.i _ b))), some (.slice el) => match P.info? el, zeroW P el with
      | some ie, some z => if a = b ∧ 0 ≤ a ∧ a * ie.bytes ≤ 1000000 ∧ a ≤ 1000000 ∧ ie.size ≤ 1000 ∧ (wcells z).length = ie.size ∧ 0 < ie.size then some (bkP el (a.toNat * ie.size) (wcells z), some (a.toNat, .u ie.size)) else none
      | _, _ => none
    | _, _, _ => none
  | _ => none
/-- the value of what was made, by its name -/
def madeC (k : Nat) : Option (Nat × Cp) → C
  | none => .p (some (k, 0))
  | some (n, c) => .l (some (k, 0)) n c
def madeV (b : Nat) : Option (Nat × Cp) → Value
  | none => ptrOf b 0
  | some (n, _) => .slice (some ⟨b, 0, none⟩) n n
/-- what the capacity says of the block -/
def madeOk (m : Option (Nat × Cp)) (sz : Nat) : Prop := match m with
  | none => True
  | some (n, .k c) => c = n
  | some (n, .u es) => n ≤ maxLen ∧ n * es = sz
theorem madeC_ok {r : Nm} {k b sz : Nat} (h : r k = some (b, sz)) (m : Option (Nat × Cp)) (hm : madeOk m sz) : CR r (madeC k m) (madeV b m) := by
  match m, hm with
  | none, _ => exact .p h
  | some (n, .k c), hm => obtain rfl : c = n := hm; exact .l c c h
  | some (n, .u es), hm => exact .u n n es h (Nat.le_refl _) hm.1 (by rw [Nat.zero_add]; exact hm.2)
theorem wrap_small {a : Int} (h0 : 0 ≤ a) (h1 : a ≤ 1000000) : IntKind.i64.wrap a = a := by
  unfold IntKind.wrap
  simp [IntKind.bits, IntKind.signed]
  omega
set_option maxHeartbeats 1000000 in
theorem opAlloc_ok {P : Program} {r : Nm} {e : Operand → Option V} {g : Operand → Value} (he : ∀ x v, e x = some v → VR r v (g x)) {o : Oper} {B : Bk} {m : Option (Nat × Cp)} (h : opAlloc P e o.op = some (B, m)) (w : World) :
    ∃ cs : Array Value, (execOp g o).run P w = .ok (.value (madeV w.heap.size m)) (w.alloc (.cells cs B.e)) ∧ BR r (w.alloc (.cells cs B.e)) B w.heap.size cs.size ∧ madeOk m cs.size := by
  obtain ⟨dst, op, ty, pos, after, guard⟩ := o
  simp only at h
  unfold opAlloc at h
  split at h
  · rename_i t
    split at h
    · rename_i z hz
      injection h with h
      injection h with h1 h2
      subst h1 h2
      obtain ⟨i, zv, hi, hiz, hzr⟩ := zeroW_ok (r := r) hz
      refine ⟨zv.cells, ?_, bkL_new (wcells_ok hzr) w, trivial⟩
      simp [execOp, Instr.alloc, zeroValue, typeInfo, hi, hiz, newVar, newRow, madeV, ptrOf, bkL]
    · cases h
  · rename_i t x
    split at h
    · rename_i y hy
      injection h with h
      injection h with h1 h2
      subst h1 h2
      have hv := he _ _ hy
      cases hv with | w hv =>
      refine ⟨(g x).cells, ?_, bkL_new (wcells_ok hv) w, trivial⟩
      simp [execOp, Instr.box, newVar, newRow, madeV, ptrOf, bkL]
    · cases h
  · rename_i t len ps
    split at h
    · rename_i l el hl ht
      split at h
      · rename_i n z hn hz
        split at h
        · rename_i hc
          obtain ⟨i, zv, hi, hiz, hzr⟩ := zeroW_ok (r := r) hz
          have hin : i.size = n := by unfold szOf at hn; rw [hi] at hn; injection hn
          split at h
          · rename_i h0
            split at h
            · rename_i hle
              injection h with h
              injection h with h1 h2
              subst h1 h2
              have hps : ps = #[] := by
                have : l = [] := by simpa using hle
                subst this
                cases hp : ps.toList with
                | nil => exact Array.toList_eq_nil_iff.1 hp
                | cons a b =>
                  rw [hp] at hl
                  obtain ⟨i, x⟩ := a
                  unfold partsE at hl
                  split at hl
                  · cases hl
                  · cases hl
              subst hps
              refine ⟨#[], ?_, bkL_new .nil w, ?_⟩
              rotate_left
              · by_cases hn0 : n = 0
                · rw [if_pos hn0]; rfl
                · rw [if_neg hn0]
                  have hl0 : len = 0 := by rcases Nat.mul_eq_zero.1 h0 with x | x; exact x; exact absurd x hn0
                  subst hl0
                  exact ⟨Nat.zero_le _, Nat.zero_mul _⟩
              simp [execOp, Instr.buildSlice, run_underlying ht, run_szOf hn, h0, Instr.fill, newRow, madeV, bkL, show Array.range 0 = #[] from rfl]
            · cases h
          · rename_i h0
            split at h
            · rename_i cs hcs
              split at h
              case isFalse => cases h
              rename_i hlen
              injection h with h
              injection h with h1 h2
              subst h1 h2
              have hp := partsE_ok he _ _ hl
              rw [← map_parts] at hp
              obtain ⟨us, h1, h2⟩ := fillC_ok _ _ hp _ _ _ (rangeC_ok (wcells_ok hzr) (len * n) hc.2) hcs
              refine ⟨us, ?_, bkL_new h2 w, hlen.2, by have := h2.length; rw [Array.length_toList] at this; omega⟩
              have := run_buildSlice (P := P) w t el len (ps.map fun (i, x) => (i, g x)) us i zv ht hi hiz (by rw [hin]; have := hc.1; omega) (by rw [hin]; exact h0) (by rw [hin]; exact h1)
              simp only [execOp, Sem.run_bind, this, Result.andThen_ok, Sem.run_pure, bkL, madeV]
            · cases h
        · cases h
      · cases h
    · cases h
  · rename_i t l c
    split at h
    · rename_i k1 a k2 b el ha hb ht
      split at h
      · rename_i ie z hie hz
        split at h
        · rename_i hc
          obtain ⟨hab, ha0, hab1, ha1, hs1, hs2, hs3⟩ := hc
          subst hab
          injection h with h
          injection h with h1 h2
          subst h1 h2
          obtain ⟨i, zv, hi, hiz, hzr⟩ := zeroW_ok (r := r) hz
          rw [hie] at hi
          injection hi with hi
          subst hi
          have hva := he _ _ ha
          have hvb := he _ _ hb
          refine ⟨(Array.range (a.toNat * ie.size)).map (zv.cells[· % zv.cells.size]!), ?_, ?_, by unfold maxLen; omega, by simp⟩
          rotate_left
          · have hq := bkP_new (e := el) (n := a.toNat * ie.size) (wcells_ok hzr) (by intro _; omega) w
            have hsz : ((Array.range (a.toNat * ie.size)).map (zv.cells[· % zv.cells.size]!)).size = a.toNat * ie.size := by simp
            rw [hsz]
            exact hq
          · simp only [execOp]
            generalize g l = u at hva
            generalize g c = v at hvb
            cases hva with | w hva => cases hva with | c hva => cases hva with | i => cases hvb with | w hvb => cases hvb with | c hvb => cases hvb with | i =>
            have hw := wrap_small ha0 ha1
            have hby : (ie.bytes : Int) * a = a * ie.bytes := Int.mul_comm _ _
            have e1 : ¬ a < 0 := by omega
            have e2 : ¬ 281474976710656 < a * (ie.bytes : Int) := by omega
            have e3 : ¬ (a.toNat * ie.bytes > roomBytes) := by
              have : ((a.toNat * ie.bytes : Nat) : Int) ≤ 1000000 := by push_cast; rw [Int.toNat_of_nonneg ha0]; exact hab1
              unfold roomBytes
              omega
            simp [Instr.makeSlice, run_underlying ht, asInt, asIntOf, typeInfo, hie, hw, hby, e1, e2, askRoom, sizeOf, bkP, madeV]
            by_cases hz0 : a.toNat * ie.size = 0
            · simp [hz0, newRow, show Array.range 0 = #[] from rfl]
            · simp [hz0, zeroValue, typeInfo, hie, hiz, newRow]
        · cases h
      · cases h
    · cases h
  · cases h
end Go.Proofs.YtgbfbeohmogadaaGreat
