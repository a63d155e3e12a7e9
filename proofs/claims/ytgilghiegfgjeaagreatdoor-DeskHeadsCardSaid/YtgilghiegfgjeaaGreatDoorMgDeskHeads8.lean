/- Joined: Xq10, Xq11, Xq12. -/
import Derived.Maps.AppendAt
import Derived.Laws.CopyRow
import Derived.Test.YtgilghiegfgjeaaGreatDoorMgDeskHeads7
section
set_option linter.unusedVariables false
set_option linter.unusedSimpArgs false
/- Running closed code: what is made. -/
namespace Go.Proofs.YtgilghiegfgjeaaGreatDoor
open Go.RowKit
set_option linter.unusedVariables false

def bkL (e : TypeId) (cs : List C) : Bk := ⟨e, cs.length, [], setN .nil 0 cs, none⟩
theorem bkL_cell (e : TypeId) (cs : List C) (j : Nat) (h : j < cs.length) : (bkL e cs).cell j = cs[j] := by
  unfold Bk.cell bkL
  have e := setN_get cs .nil 0 j
  rw [if_pos (by omega), Nat.sub_zero, List.getElem?_eq_getElem h] at e
  rw [e]
/-- a block of a list's cells, in a world in which it was just made -/
theorem bkL_new {r : Nm} {e : TypeId} {cs : List C} {vs : Array Value} (h : CsR r cs vs.toList) (w : World) : BR r (w.alloc (.cells vs e)) (bkL e cs) w.heap.size vs.size := by
  have hl := h.length
  rw [Array.length_toList] at hl
  refine ⟨fun l hl => (by cases hl), fun _ => ⟨vs, heap_alloc_new w _, rfl, by show cs.length ≤ _; omega, fun j hj => ?_⟩⟩
  have hj' : j < cs.length := hj
  obtain ⟨v, hv, hr⟩ := h.get j cs[j] (List.getElem?_eq_getElem hj')
  exact ⟨v, by simpa using hv, by rw [bkL_cell e cs j hj']; exact hr⟩
def bkP (e : TypeId) (n : Nat) (pat : List C) : Bk := ⟨e, n, pat, .nil, none⟩
theorem pat_cells {r : Nm} {pat : List C} {vs : Array Value} (h : CsR r pat vs.toList) (j : Nat) (hn : 0 < pat.length) : CR r (pat.getD (j % pat.length) .ni) (vs[j % vs.size]!) := by
  have hl := h.length
  rw [Array.length_toList] at hl
  have hj : j % pat.length < pat.length := Nat.mod_lt _ hn
  obtain ⟨v, hv, hr⟩ := h.get (j % pat.length) (pat.getD (j % pat.length) .ni) (by rw [List.getD_eq_getElem?_getD, List.getElem?_eq_getElem hj]; rfl)
  rw [hl]
  have : vs[j % pat.length]? = some v := by simpa using hv
  rw [getElem!_def, this]
  exact hr
theorem bkP_new {r : Nm} {e : TypeId} {n : Nat} {pat : List C} {vs : Array Value} (h : CsR r pat vs.toList) (hn : 0 < n → 0 < pat.length) (w : World) : BR r (w.alloc (.cells ((Array.range n).map (vs[· % vs.size]!)) e)) (bkP e n pat) w.heap.size n := by
  refine ⟨fun l hl => (by cases hl), fun _ => ⟨_, heap_alloc_new w _, by simp, Nat.le_refl _, fun j hj => ?_⟩⟩
  have hj' : j < n := hj
  refine ⟨vs[j % vs.size]!, by simp [hj'], ?_⟩
  show CR r (match Tr.get .nil j with | some c => c | none => pat.getD (j % pat.length) .ni) _
  exact pat_cells h j (hn (by omega))
def rangeC (n : Nat) (pat : List C) : List C := (List.range n).map fun j => pat.getD (j % pat.length) .ni
theorem rangeC_ok {r : Nm} {pat : List C} {vs : Array Value} (h : CsR r pat vs.toList) (n : Nat) (hn : 0 < n → 0 < pat.length) : CsR r (rangeC n pat) ((Array.range n).map (vs[· % vs.size]!)).toList := by
  refine CsR.of_get _ _ (by simp [rangeC]) fun j c v hc hv => ?_
  have hj : j < n := by have := (List.getElem?_eq_some_iff.1 hc).1; simpa [rangeC] using this
  unfold rangeC at hc
  rw [List.getElem?_map, List.getElem?_range hj] at hc
  injection hc with hc
  subst hc
  simp [hj] at hv
  subst hv
  exact pat_cells h j (hn (by omega))
/-- the operations that make one block, and do nothing else: the block, and whether the value is a pointer, or a slice of so many -/
def opAlloc (P : Program) (e : Operand → Option V) : Op → Option (Bk × Option (Nat × Nat × Cp))
  | .alloc t => match zeroW P t with
    | some z => some (bkL t (wcells z), none)
    | none => none
  | .box t x => match e x with
    | some (.w y) => some (bkL t (wcells y), none)
    | _ => none
  | .buildSlice t len ps => match partsE e ps.toList, P.underlying t with
    | some l, some (.slice el) => match szOf P el, zeroW P el with
      | some n, some z => if len * n ≤ 16000 ∧ (0 < len * n → 0 < (wcells z).length) then
          if len * n = 0 then if l.isEmpty then some (bkL el [], some (len, len, if n = 0 then .k len else .u n)) else none
          else match fillC (fun i => some (i * n, n)) (rangeC (len * n) (wcells z)) l with
          | some cs => if cs.length = len * n ∧ len ≤ maxLen then some (bkL el cs, some (len, len, .u n)) else none
          | none => none
        else none
      | _, _ => none
    | _, _ => none
  | .makeSlice t l c => match e l, e c, P.underlying t with
    | some (.w (.c (.i _ b))), some (.w (.c (.i _ a))), some (.slice el) => match P.info? el, zeroW P el with
      | some ie, some z => if 0 ≤ b ∧ b ≤ a ∧ a * ie.bytes ≤ 1000000 ∧ a ≤ 1000000 ∧ ie.size ≤ 1000 ∧ (wcells z).length = ie.size ∧ 0 < ie.size then some (bkP el (a.toNat * ie.size) (wcells z), some (b.toNat, a.toNat, .u ie.size)) else none
      | _, _ => none
    | _, _, _ => none
  | _ => none
/-- the value of what was made, by its name -/
def madeC (k : Nat) : Option (Nat × Nat × Cp) → C
  | none => .p (some (k, 0))
  | some (n, _, c) => .l (some (k, 0)) n c
def madeV (b : Nat) : Option (Nat × Nat × Cp) → Value
  | none => ptrOf b 0
  | some (n, c, _) => .slice (some ⟨b, 0, none⟩) n c
/-- what the capacity says of the block -/
def madeOk (m : Option (Nat × Nat × Cp)) (sz : Nat) : Prop := match m with
  | none => True
  | some (n, c, .k d) => d = c
  | some (n, c, .u es) => n ≤ c ∧ c ≤ maxLen ∧ c * es = sz
theorem madeC_ok {r : Nm} {k b sz : Nat} (h : r k = some (b, sz)) (m : Option (Nat × Nat × Cp)) (hm : madeOk m sz) : CR r (madeC k m) (madeV b m) := by
  match m, hm with
  | none, _ => exact .p h
  | some (n, c, .k d), hm => obtain rfl : d = c := hm; exact .l n d h
  | some (n, c, .u es), hm => exact .u n c es h hm.1 hm.2.1 (by rw [Nat.zero_add]; exact hm.2.2)
theorem wrap_small {a : Int} (h0 : 0 ≤ a) (h1 : a ≤ 1000000) : IntKind.i64.wrap a = a := by
  unfold IntKind.wrap
  simp [IntKind.bits, IntKind.signed]
  omega
set_option maxHeartbeats 1000000 in
theorem opAlloc_ok {P : Program} {r : Nm} {e : Operand → Option V} {g : Operand → Value} (he : ∀ x v, e x = some v → VR r v (g x)) {o : Oper} {B : Bk} {m : Option (Nat × Nat × Cp)} (h : opAlloc P e o.op = some (B, m)) (w : World) :
    ∃ cs : Array Value, (execOp g o).run P w = .ok (.value (madeV w.heap.size m)) (w.alloc (.cells cs B.e)) ∧ BR r (w.alloc (.cells cs B.e)) B w.heap.size cs.size ∧ madeOk m cs.size := by
  obtain ⟨dst, op, ty, pos, after, guard⟩ := o
  simp only at h
  unfold opAlloc at h
  split at h
  · rename_i t
    split at h
    · rename_i z hz
      injection h with h
      injection h with h1 h2
      subst h1 h2
      obtain ⟨i, zv, hi, hiz, hzr⟩ := zeroW_ok (r := r) hz
      refine ⟨zv.cells, ?_, bkL_new (wcells_ok hzr) w, trivial⟩
      simp [execOp, Instr.alloc, zeroValue, typeInfo, hi, hiz, newVar, newRow, madeV, ptrOf, bkL]
    · cases h
  · rename_i t x
    split at h
    · rename_i y hy
      injection h with h
      injection h with h1 h2
      subst h1 h2
      have hv := he _ _ hy
      cases hv with | w hv =>
      refine ⟨(g x).cells, ?_, bkL_new (wcells_ok hv) w, trivial⟩
      simp [execOp, Instr.box, newVar, newRow, madeV, ptrOf, bkL]
    · cases h
  · rename_i t len ps
    split at h
    · rename_i l el hl ht
      split at h
      · rename_i n z hn hz
        split at h
        · rename_i hc
          obtain ⟨i, zv, hi, hiz, hzr⟩ := zeroW_ok (r := r) hz
          have hin : i.size = n := by unfold szOf at hn; rw [hi] at hn; injection hn
          split at h
          · rename_i h0
            split at h
            · rename_i hle
              injection h with h
              injection h with h1 h2
              subst h1 h2
              have hps : ps = #[] := by
                have : l = [] := by simpa using hle
                subst this
                cases hp : ps.toList with
                | nil => exact Array.toList_eq_nil_iff.1 hp
                | cons a b =>
                  rw [hp] at hl
                  obtain ⟨i, x⟩ := a
                  unfold partsE at hl
                  split at hl
                  · cases hl
                  · cases hl
              subst hps
              refine ⟨#[], ?_, bkL_new .nil w, ?_⟩
              rotate_left
              · by_cases hn0 : n = 0
                · rw [if_pos hn0]; rfl
                · rw [if_neg hn0]
                  have hl0 : len = 0 := by rcases Nat.mul_eq_zero.1 h0 with x | x; exact x; exact absurd x hn0
                  subst hl0
                  exact ⟨Nat.le_refl _, Nat.zero_le _, Nat.zero_mul _⟩
              simp [execOp, Instr.buildSlice, run_underlying ht, run_szOf hn, h0, Instr.fill, newRow, madeV, bkL, show Array.range 0 = #[] from rfl]
            · cases h
          · rename_i h0
            split at h
            · rename_i cs hcs
              split at h
              case isFalse => cases h
              rename_i hlen
              injection h with h
              injection h with h1 h2
              subst h1 h2
              have hp := partsE_ok he _ _ hl
              rw [← map_parts] at hp
              obtain ⟨us, h1, h2⟩ := fillC_ok _ _ hp _ _ _ (rangeC_ok (wcells_ok hzr) (len * n) hc.2) hcs
              refine ⟨us, ?_, bkL_new h2 w, Nat.le_refl _, hlen.2, by have := h2.length; rw [Array.length_toList] at this; omega⟩
              have := run_buildSlice (P := P) w t el len (ps.map fun (i, x) => (i, g x)) us i zv ht hi hiz (by rw [hin]; have := hc.1; omega) (by rw [hin]; exact h0) (by rw [hin]; exact h1)
              simp only [execOp, Sem.run_bind, this, Result.andThen_ok, Sem.run_pure, bkL, madeV]
            · cases h
        · cases h
      · cases h
    · cases h
  · rename_i t l c
    split at h
    · rename_i k1 b k2 a el hb ha ht
      split at h
      · rename_i ie z hie hz
        split at h
        · rename_i hc
          obtain ⟨hb0, hba, hab1, ha1, hs1, hs2, hs3⟩ := hc
          have ha0 : 0 ≤ a := by omega
          have hb1 : b ≤ 1000000 := by omega
          injection h with h
          injection h with h1 h2
          subst h1 h2
          obtain ⟨i, zv, hi, hiz, hzr⟩ := zeroW_ok (r := r) hz
          rw [hie] at hi
          injection hi with hi
          subst hi
          have hva := he _ _ ha
          have hvb := he _ _ hb
          refine ⟨(Array.range (a.toNat * ie.size)).map (zv.cells[· % zv.cells.size]!), ?_, ?_, by omega, by unfold maxLen; omega, by simp⟩
          rotate_left
          · have hq := bkP_new (e := el) (n := a.toNat * ie.size) (wcells_ok hzr) (by intro _; omega) w
            have hsz : ((Array.range (a.toNat * ie.size)).map (zv.cells[· % zv.cells.size]!)).size = a.toNat * ie.size := by simp
            rw [hsz]
            exact hq
          · simp only [execOp]
            generalize g l = u at hvb
            generalize g c = v at hva
            cases hva with | w hva => cases hva with | c hva => cases hva with | i => cases hvb with | w hvb => cases hvb with | c hvb => cases hvb with | i =>
            have hwb := wrap_small hb0 hb1
            have e4 : ¬ b < 0 := by omega
            have e5 : ¬ a < b := by omega
            have hw := wrap_small ha0 ha1
            have hby : (ie.bytes : Int) * a = a * ie.bytes := Int.mul_comm _ _
            have e1 : ¬ a < 0 := by omega
            have e2 : ¬ 281474976710656 < a * (ie.bytes : Int) := by omega
            have e3 : ¬ (a.toNat * ie.bytes > roomBytes) := by
              have : ((a.toNat * ie.bytes : Nat) : Int) ≤ 1000000 := by push_cast; rw [Int.toNat_of_nonneg ha0]; exact hab1
              unfold roomBytes
              omega
            simp [Instr.makeSlice, run_underlying ht, asInt, asIntOf, typeInfo, hie, hw, hwb, hby, e1, e2, e4, e5, askRoom, sizeOf, bkP, madeV]
            by_cases hz0 : a.toNat * ie.size = 0
            · simp [hz0, newRow, show Array.range 0 = #[] from rfl]
            · simp [hz0, zeroValue, typeInfo, hie, hiz, newRow]
        · cases h
      · cases h
    · cases h
  · cases h
end Go.Proofs.YtgilghiegfgjeaaGreatDoor
end
section
set_option linter.unusedVariables false
set_option linter.unusedSimpArgs false
/- Running closed code: append. The old slice's name dies; the new slice has a name of its own. -/
namespace Go.Proofs.YtgilghiegfgjeaaGreatDoor
open Go.RowKit
set_option linter.unusedVariables false

/-- one name more, for a block that no other name has -/
theorem RelH.new2 {r : Nm} {H : Hp} {w w' : World} (h : RelH r H w) {k : Nat} (rk : r k = none) {B : Bk} {b sz : Nat} (hB : BR (r.add k (b, sz)) w' B b sz)
    (ho : ∀ j D c s, H.get j = some D → r j = some (c, s) → c ≠ b ∧ w'.heap[c]? = w.heap[c]?) : RelH (r.add k (b, sz)) (H.set k B) w' := by
  have hle := Nm.le_add rk (b, sz)
  refine ⟨fun j D hj => ?_, fun i j D E c s t hi hj ri rj => ?_⟩
  · rw [Tr.get_set] at hj
    by_cases e : j = k
    · subst e
      rw [if_pos rfl] at hj
      injection hj with hj
      subst hj
      exact ⟨b, sz, Nm.add_at _ _ _, hB⟩
    · rw [if_neg e] at hj
      obtain ⟨c, t, rj, hD⟩ := h.at_ j D hj
      exact ⟨c, t, hle _ _ rj, (hD.keep (ho j D c t hj rj).2).mono hle⟩
  · have low : ∀ i D c s, i ≠ k → (H.set k B).get i = some D → (r.add k (b, sz)) i = some (c, s) → H.get i = some D ∧ r i = some (c, s) := fun i D c s e hi ri => by
      rw [Tr.get_set, if_neg e] at hi
      unfold Nm.add at ri
      rw [if_neg e] at ri
      exact ⟨hi, ri⟩
    have top : ∀ c s, (r.add k (b, sz)) k = some (c, s) → c = b := fun c s e => by
      rw [Nm.add_at] at e
      injection e with e
      injection e with e _
      exact e.symm
    by_cases ei : i = k
    · by_cases ej : j = k
      · rw [ei, ej]
      · subst ei
        have h1 := top c s ri
        obtain ⟨a1, a2⟩ := low j E c t ej hj rj
        exact absurd h1 (ho j E c t a1 a2).1
    · by_cases ej : j = k
      · subst ej
        have h1 := top c t rj
        obtain ⟨a1, a2⟩ := low i D c s ei hi ri
        exact absurd h1 (ho i D c s a1 a2).1
      · obtain ⟨a1, a2⟩ := low i D c s ei hi ri
        obtain ⟨b1, b2⟩ := low j E c t ej hj rj
        exact h.inj i j D E c s t a1 b1 a2 b2
/-- the slice that is appended to: its name, what it reads -/
inductive Base where
  | nil
  | at_ (k : Nat) (B : Bk) (n : Nat)
def baseOf (H : Hp) (sz : Nat) (el : TypeId) : V → Option Base
  | .w (.c (.l none 0 (.k 0))) => some .nil
  | .w (.c (.l (some (k, 0)) n (.u es))) => match H.get k with
    | some B => if es = sz ∧ B.e = el ∧ n * sz ≤ B.n ∧ B.mp.isNone = true then some (.at_ k B n) else none
    | none => none
  | _ => none
def baseCells (sz : Nat) : Base → List C
  | .nil => []
  | .at_ _ B n => loadN B 0 (n * sz)
def baseLen : Base → Nat
  | .nil => 0
  | .at_ _ _ n => n
def baseDel (H : Hp) : Base → Hp
  | .nil => H
  | .at_ k _ _ => H.del k
/-- what is appended -/
def newsOf (H : Hp) (sz : Nat) : V → Option (Nat × List C)
  | .w (.c (.l (some (k, o)) m _)) => match H.get k with
    | some B => if o + m * sz ≤ B.n ∧ B.mp.isNone = true then some (m, loadN B o (m * sz)) else none
    | none => none
  | _ => none
def opAppend (P : Program) (H : Hp) (nx : Nat) (ts : Array TypeId) (xs : List V) : Option (V × Hp) := match ts.toList, xs with
  | [t, t2], [x, y] => if t = t2 then match P.underlying t with
    | some (.slice el) => match P.info? el, zeroW P el with
      | some i, some z => match baseOf H i.size el x, newsOf H i.size y with
        | some b, some (m, cs) => if 0 < i.size ∧ (wcells z).length = i.size ∧ i.bytes ≤ 10000 ∧ baseLen b + m ≤ 1000000 ∧ 0 < m then
            some (.w (.c (.l (some (nx, 0)) (baseLen b + m) (.u i.size))), (baseDel H b).set nx (bkL el (baseCells i.size b ++ cs)))
          else none
        | _, _ => none
      | _, _ => none
    | _ => none
    else none
  | _, _ => none
theorem loadN_ok {r : Nm} {w : World} {B : Bk} {b sz : Nat} (h : BR r w B b sz) (hm : B.mp = none) {o n : Nat} (hn : o + n ≤ B.n) :
    ∃ vs, CsR r (loadN B o n) vs ∧ vs.length = n ∧ ∀ j u, vs[j]? = some u → w.cell? ((⟨b, o, none⟩ : Addr).add j) = some u := by
  obtain ⟨cs, hg, hsz, hn', hc⟩ := h.ex hm
  have hl : ((List.range n).map fun j => cs.getD (o + j) undef).length = n := by simp
  refine ⟨(List.range n).map fun j => cs.getD (o + j) undef, CsR.of_get _ _ (by rw [loadN_length, hl]) fun j c v h3 h4 => ?_, hl, fun j v hv => ?_⟩
  · rw [loadN_get] at h3
    split at h3
    · rename_i hj
      injection h3 with h3
      subst h3
      rw [List.getElem?_map, List.getElem?_range hj] at h4
      injection h4 with h4
      subst h4
      obtain ⟨v, hv, hr⟩ := hc (o + j) (by omega)
      show CR r (B.cell (o + j)) (cs.getD (o + j) undef)
      rw [Array.getD_eq_getD_getElem?, hv]
      exact hr
    · cases h3
  · have hj : j < n := by have := (List.getElem?_eq_some_iff.1 hv).1; rw [hl] at this; exact this
    rw [List.getElem?_map, List.getElem?_range hj] at hv
    injection hv with hv
    subst hv
    rw [add_at, cell_of_row w b (o + j) cs B.e (0, 0) hg]
    simp [Array.getD_eq_getD_getElem?, Array.getElem?_eq_getElem (show o + j < cs.size by omega)]
/-- what a base is in a world -/
theorem baseOf_ok {r : Nm} {H : Hp} {w : World} (h : RelH r H w) {sz : Nat} {el : TypeId} {x : V} {b : Base} (e : baseOf H sz el x = some b) {u : Value} (hu : VR r x u) :
    ∃ vs, CsR r (baseCells sz b) vs ∧ w.ownsRow 0 el sz u (baseLen b) vs ∧ (∀ g, u.ownBlock = some g → ∃ k B n s, b = .at_ k B n ∧ H.get k = some B ∧ r k = some (g, s)) := by
  unfold baseOf at e
  split at e
  · injection e with e
    subst e
    cases hu with | w hu => cases hu with | c hu => cases hu with | l0 =>
      exact ⟨[], .nil, World.ownsRow_nil _ _ _ _, fun g hg => by cases hg⟩
  · rename_i k n es
    split at e
    · rename_i B hk
      split at e
      · rename_i hc
        obtain ⟨rfl, he, hn, hm⟩ := hc
        have hm : B.mp = none := by simpa using hm
        injection e with e
        subst e
        cases hu with | w hu => cases hu with | c hu => cases hu with | u n' c es' rk h1 h2 h3 =>
        rename_i g s
        obtain ⟨b, t, rk', hB⟩ := h.at_ k B hk
        rw [rk] at rk'
        injection rk' with rk'
        injection rk' with e1 e2
        subst e1 e2
        obtain ⟨vs, q1, q2, q3⟩ := loadN_ok hB hm (o := 0) (n := n * es) (by omega)
        refine ⟨vs, q1, ⟨by rw [q2]; rfl, .inr ?_⟩, fun g' hg' => ?_⟩
        · obtain ⟨cs, hg, hsz, hn', hc⟩ := hB.ex hm
          refine ⟨g, c, cs, rfl, Nat.zero_le _, by rw [← he]; exact hg, h1, h2, by omega, ?_⟩
          refine List.ext_getElem? fun j => ?_
          rw [List.getElem?_take]
          split
          · rename_i hj
            obtain ⟨v, hv⟩ : ∃ v, vs[j]? = some v := ⟨vs[j]'(by rw [q2]; exact hj), List.getElem?_eq_getElem _⟩
            have := q3 j v hv
            rw [add_at, Nat.zero_add, cell_of_row w g j cs B.e (0, 0) hg] at this
            rw [hv]
            simpa using this
          · rename_i hj
            rw [List.getElem?_eq_none (by rw [q2]; show n * es ≤ j; have : ¬ j < n * es := hj; omega)]
        · injection hg' with hg'
          exact ⟨k, B, n, s, rfl, hk, by rw [← hg']; exact rk⟩
      · cases e
    · cases e
  · cases e
theorem newsOf_ok {r : Nm} {H : Hp} {w : World} (h : RelH r H w) {sz m : Nat} {y : V} {cs : List C} (e : newsOf H sz y = some (m, cs)) {u : Value} (hu : VR r y u) :
    ∃ vs a c, u = .slice (some a) m c ∧ CsR r cs vs ∧ vs.length = m * sz ∧ ∀ j v, vs[j]? = some v → w.cell? (a.add j) = some v := by
  unfold newsOf at e
  split at e
  · rename_i k o n cp
    split at e
    · rename_i B hk
      split at e
      · rename_i hb
        injection e with e
        injection e with e1 e2
        subst e1 e2
        obtain ⟨b, t, rk', hB⟩ := h.at_ k B hk
        obtain ⟨vs, q1, q2, q3⟩ := loadN_ok hB (by simpa using hb.2) hb.1
        cases hu with | w hu => cases hu with | c hu =>
          cases hu with
          | l n' c' rk =>
            rw [rk'] at rk
            injection rk with rk
            injection rk with e1 e2
            subst e1 e2
            exact ⟨vs, _, _, rfl, q1, q2, q3⟩
          | u n' c' es rk h1 h2 h3 =>
            rw [rk'] at rk
            injection rk with rk
            injection rk with e1 e2
            subst e1 e2
            exact ⟨vs, _, _, rfl, q1, q2, q3⟩
      · cases e
    · cases e
  · cases e
set_option maxHeartbeats 1000000 in
theorem opAppend_ok {P : Program} {r : Nm} {H H' : Hp} {w : World} (h : RelH r H w) {nx : Nat} (hx : ∀ j, nx ≤ j → r j = none) {ts : Array TypeId} {xs : List V} {us : Array Value} {v : V} (hu : VsR r xs us.toList) (e : opAppend P H nx ts xs = some (v, H')) (ty : TypeId) :
    ∃ u w' r', (Builtin.append_ ts ty us).run P w = .ok u w' ∧ (∃ x, r' = r.add nx x) ∧ (∀ j, nx + 1 ≤ j → r' j = none) ∧ VR r' v u ∧ RelH r' H' w' ∧ Fr r H w w' ∧ (∀ k B b s, H'.get k = some B → r' k = some (b, s) → w.heap.size ≤ b ∨ ∃ j D t, H.get j = some D ∧ r j = some (b, t)) := by
  unfold opAppend at e
  split at e
  case h_2 => cases e
  rename_i t t2 x y hts
  split at e
  case isFalse => cases e
  rename_i htt
  subst htt
  split at e
  case h_2 => cases e
  rename_i el ht
  split at e
  case h_2 => cases e
  rename_i i z hi hz
  split at e
  case h_2 => cases e
  rename_i b m cs hb hn
  split at e
  case isFalse => cases e
  rename_i hc
  obtain ⟨c1, c2, c3, c4, c5⟩ := hc
  injection e with e
  injection e with e1 e2
  subst e1 e2
  obtain ⟨us⟩ := us
  simp only at hu
  cases hu with | cons hx1 hr => cases hr with | cons hy1 hr2 => cases hr2 with | nil =>
  rename_i u1 u2
  obtain ⟨ts⟩ := ts
  simp only at hts
  subst hts
  obtain ⟨vs, p1, p2, p3⟩ := baseOf_ok h hb hx1
  obtain ⟨ns, a, c, rfl, q1, q2, q3⟩ := newsOf_ok h hn hy1
  obtain ⟨i', zv, hi', hiz, hzr⟩ := zeroW_ok (r := r) hz
  rw [hi] at hi'
  injection hi' with hi'
  subst hi'
  have hzs : zv.cells.size = i.size := by have := (wcells_ok hzr).length; rw [Array.length_toList] at this; omega
  obtain ⟨v', w', hrun, hown, hgrow, hnil, hat⟩ := run_append_own_at (P := P) w 0 t ty el i zv i.size i.bytes ht hi hiz rfl rfl hzs c1 u1 (baseLen b) vs p2 a m c ns q2 q3 q1.one (by unfold maxLen; omega) (by
    have := Nat.mul_le_mul c4 c3; omega) (Nat.zero_le _)
  have hown2 := hown.2
  rcases hown2 with ⟨_, h0⟩ | ⟨g, cap, cur, rfl, _, hg, hnc, hcm, hcs, htk⟩
  · omega
  refine ⟨_, w', r.add nx (g, cap * i.size), hrun, ⟨_, rfl⟩, fun j hj => ?_, ?_, ?_, ?_, fun k D c s hk rk => ?_⟩
  · unfold Nm.add
    rw [if_neg (by omega)]
    exact hx j (by omega)
  · exact .w (.c (.u _ _ _ (Nm.add_at _ _ _) hnc hcm (by rw [Nat.zero_add])))
  · have hle := Nm.le_add (hx nx (Nat.le_refl _)) (g, cap * i.size)
    have hcells := p1.append q1
    have hlen := hcells.length
    have hB : BR (r.add nx (g, cap * i.size)) w' (bkL el (baseCells i.size b ++ cs)) g (cap * i.size) := by
      refine ⟨fun l hl => (by cases hl), fun _ => ⟨cur, hg, hcs, ?_, fun j hj => ?_⟩⟩
      · show (baseCells i.size b ++ cs).length ≤ _
        rw [← hlen, ← htk, ← hcs]
        simp
        exact Nat.min_le_right _ _
      · have hj' : j < (baseCells i.size b ++ cs).length := hj
        obtain ⟨u, hu, hr⟩ := hcells.get j _ (List.getElem?_eq_getElem hj')
        refine ⟨u, ?_, by rw [bkL_cell el _ j hj']; exact hr.mono hle⟩
        rw [← htk, List.getElem?_take] at hu
        split at hu
        · simpa using hu
        · cases hu
    have key : ∀ j D c s, (baseDel H b).get j = some D → r j = some (c, s) → c < w.heap.size ∧ some c ≠ u1.ownBlock := fun j D c s hj rj => by
      have hj' : H.get j = some D := by
        cases b with
        | nil => exact hj
        | at_ k B n =>
          have hj2 : (H.del k).get j = some D := hj
          rw [Tr.get_del] at hj2
          split at hj2
          · cases hj2
          · exact hj2
      obtain ⟨c', s', rj', hD⟩ := h.at_ j D hj'
      rw [rj] at rj'
      injection rj' with rj'
      injection rj' with e1 e2
      subst e1 e2
      refine ⟨hD.lt, fun e => ?_⟩
      obtain ⟨k, B, n, s', rfl, hk, rk⟩ := p3 c e.symm
      have hjk : j ≠ k := by
        rintro rfl
        have hj2 : (H.del j).get j = some D := hj
        rw [Tr.get_del, if_pos rfl] at hj2
        cases hj2
      exact hjk (h.inj j k D B c _ _ hj' hk rj rk)
    refine RelH.new2 (w := w) (b := g) (sz := cap * i.size) (H := baseDel H b) ?_ (hx nx (Nat.le_refl _)) hB fun j D c s hj rj => ?_
    · cases b with
      | nil => exact h
      | at_ k B n => exact h.del k
    · obtain ⟨hlt, hne⟩ := key j D c s hj rj
      refine ⟨?_, hgrow.block c hlt hne⟩
      rintro rfl
      rcases hat with hat | hat
      · exact hne hat
      · injection hat with hat; exact absurd hat (Nat.ne_of_lt hlt)
  · exact ⟨hgrow.os, hgrow.tape, hgrow.output, hgrow.size, fun c hc hno => hgrow.block c hc fun e => by
      obtain ⟨k, B, n, s', _, hk, rk⟩ := p3 c e.symm
      exact hno k B s' hk rk⟩
  · unfold Nm.add at rk
    split at rk
    · injection rk with rk
      injection rk with e1 _
      subst e1
      rcases hat with hat | hat
      · obtain ⟨k, B, n, s', _, hk, rk⟩ := p3 g hat.symm
        exact .inr ⟨k, B, s', hk, rk⟩
      · injection hat with hat; exact .inl (by rw [← hat]; exact Nat.le_refl _)
    · rename_i hne
      rw [Tr.get_set, if_neg hne] at hk
      have hk' : H.get k = some D := by
        cases b with
        | nil => exact hk
        | at_ k' B n =>
          have hk2 : (H.del k').get k = some D := hk
          rw [Tr.get_del] at hk2
          split at hk2
          · cases hk2
          · exact hk2
      exact .inr ⟨k, D, s, hk', rk⟩
end Go.Proofs.YtgilghiegfgjeaaGreatDoor
end
section
set_option linter.unusedVariables false
set_option linter.unusedSimpArgs false
/- Running closed code: how memory moves; one operation. -/
namespace Go.Proofs.YtgilghiegfgjeaaGreatDoor
open Go.RowKit
set_option linter.unusedVariables false

/-- from one memory by names to another -/
structure Mv (nx : Nat) (r : Nm) (H : Hp) (w : World) (nx' : Nat) (r' : Nm) (H' : Hp) (w' : World) : Prop where
  le : r.le r'
  nle : nx ≤ nx'
  low : ∀ k, k < nx → r' k = r k
  rel : RelH r' H' w'
  os : w'.os = w.os
  tape : w'.tape = w.tape
  output : w'.output = w.output
  size : w.heap.size ≤ w'.heap.size
  block : ∀ b, b < w.heap.size → (∀ k B s, H.get k = some B → r k ≠ some (b, s)) → w'.heap[b]? = w.heap[b]?
  own : ∀ k B b s, H'.get k = some B → r' k = some (b, s) → w.heap.size ≤ b ∨ ∃ j D t, H.get j = some D ∧ r j = some (b, t)
theorem Mv.refl {nx : Nat} {r : Nm} {H : Hp} {w : World} (h : RelH r H w) : Mv nx r H w nx r H w := ⟨Nm.le_refl _, Nat.le_refl _, fun _ _ => rfl, h, rfl, rfl, rfl, Nat.le_refl _, fun _ _ _ => rfl, fun k B b s hk rk => .inr ⟨k, B, s, hk, rk⟩⟩
theorem Mv.trans {nx nx' nx'' : Nat} {r r' r'' : Nm} {H H' H'' : Hp} {w w' w'' : World} (h : Mv nx r H w nx' r' H' w') (k : Mv nx' r' H' w' nx'' r'' H'' w'') : Mv nx r H w nx'' r'' H'' w'' := by
  refine ⟨Nm.le_trans h.le k.le, Nat.le_trans h.nle k.nle, fun j hj => (k.low j (Nat.lt_of_lt_of_le hj h.nle)).trans (h.low j hj), k.rel, k.os.trans h.os, k.tape.trans h.tape, k.output.trans h.output, Nat.le_trans h.size k.size, fun b hb hno => ?_, fun i B b s hi ri => ?_⟩
  · refine (k.block b (Nat.lt_of_lt_of_le hb h.size) fun j D t hj rj => ?_).trans (h.block b hb hno)
    rcases h.own j D b t hj rj with e | ⟨j', D', t', a1, a2⟩
    · omega
    · exact hno j' D' t' a1 a2
  · rcases k.own i B b s hi ri with e | ⟨j, D, t, hj, rj⟩
    · exact .inl (Nat.le_trans h.size e)
    · exact h.own j D b t hj rj
theorem Mv.drew {nx nx' : Nat} {r r' : Nm} {H H' : Hp} {w w' : World} (h : Mv nx r H w nx' r' H' w') : Mv nx r H w nx' r' H' w'.drew :=
  ⟨h.le, h.nle, h.low, h.rel.world rfl, h.os, h.tape, h.output, h.size, h.block, h.own⟩
theorem Mv.from_drew {nx nx' : Nat} {r r' : Nm} {H H' : Hp} {w w' : World} (h : Mv nx r H w.drew nx' r' H' w') : Mv nx r H w nx' r' H' w' :=
  ⟨h.le, h.nle, h.low, h.rel, h.os, h.tape, h.output, h.size, h.block, h.own⟩
theorem add_low {r : Nm} {k nx : Nat} (h : k < nx) (x : Nat × Nat) : r.add nx x k = r k := by unfold Nm.add; rw [if_neg (Nat.ne_of_lt h)]
def fresh (r : Nm) (nx : Nat) : Prop := ∀ j, nx ≤ j → r j = none
theorem mv_new {r : Nm} {H : Hp} {w : World} (h : RelH r H w) {nx : Nat} (hf : fresh r nx) {o : Obj} {sz : Nat} {B : Bk} (hB : BR r (w.alloc o) B w.heap.size sz) :
    Mv nx r H w (nx + 1) (r.add nx (w.heap.size, sz)) (H.set nx B) (w.alloc o) ∧ fresh (r.add nx (w.heap.size, sz)) (nx + 1) := by
  have hn := hf nx (Nat.le_refl _)
  refine ⟨⟨Nm.le_add hn _, Nat.le_succ _, fun k hk => add_low hk _, ?_, rfl, rfl, rfl, by simp, fun b hb _ => heap_alloc_old w _ hb, fun k D b s hk rk => ?_⟩, fun j hj => ?_⟩
  · refine RelH.new2 (w := w) h hn (hB.mono (Nm.le_add hn _)) fun j D c s hj rj => ?_
    obtain ⟨c', s', rj', hD⟩ := h.at_ j D hj
    rw [rj] at rj'
    injection rj' with rj'
    injection rj' with e1 e2
    subst e1 e2
    have := hD.lt
    exact ⟨by omega, heap_alloc_old w _ hD.lt⟩
  · unfold Nm.add at rk
    split at rk
    · injection rk with rk
      injection rk with e1 _
      exact .inl (by omega)
    · rename_i hne
      rw [Tr.get_set, if_neg hne] at hk
      exact .inr ⟨k, D, s, hk, rk⟩
  · unfold Nm.add
    rw [if_neg (by omega)]
    exact hf j (by omega)
theorem mv_upd {nx : Nat} {r : Nm} {H : Hp} {w w' : World} (h : RelH r H w) {k : Nat} {B B' : Bk} (hk : H.get k = some B) {b sz : Nat} (rk : r k = some (b, sz)) (hB : BR r w' B' b sz)
    (ho : ∀ c, c ≠ b → w'.heap[c]? = w.heap[c]?) (h1 : w'.os = w.os) (h2 : w'.tape = w.tape) (h3 : w'.output = w.output) (h4 : w'.heap.size = w.heap.size) : Mv nx r H w nx r (H.set k B') w' := by
  refine ⟨Nm.le_refl _, Nat.le_refl _, fun _ _ => rfl, h.upd hk rk hB ho, h1, h2, h3, by omega, fun c hc hno => ?_, fun j D c s hj rj => ?_⟩
  · refine ho c ?_
    rintro rfl
    exact hno k B sz hk rk
  · rw [Tr.get_set] at hj
    by_cases e : j = k
    · subst e; exact .inr ⟨j, B, s, hk, rj⟩
    · rw [if_neg e] at hj; exact .inr ⟨j, D, s, hj, rj⟩
theorem mv_row {nx : Nat} {r : Nm} {H : Hp} {w : World} (h : RelH r H w) {k : Nat} {B B' : Bk} (hk : H.get k = some B) {b sz : Nat} (rk : r k = some (b, sz)) {cs : Array Value} (hB : BR r (w.setRow b cs) B' b sz) : Mv nx r H w nx r (H.set k B') (w.setRow b cs) := by
  refine ⟨Nm.le_refl _, Nat.le_refl _, fun _ _ => rfl, h.upd hk rk hB (fun c hc => setRow_other w b cs c hc), rfl, rfl, rfl, by simp [World.setRow], fun c hc hno => ?_, fun j D c s hj rj => ?_⟩
  · refine setRow_other w b cs c ?_
    rintro rfl
    exact hno k B sz hk rk
  · rw [Tr.get_set] at hj
    by_cases e : j = k
    · subst e; exact .inr ⟨j, B, s, hk, rj⟩
    · rw [if_neg e] at hj; exact .inr ⟨j, D, s, hj, rj⟩
theorem opAppend_mv {P : Program} {r : Nm} {H H' : Hp} {w : World} (h : RelH r H w) {nx : Nat} (hx : fresh r nx) {ts : Array TypeId} {xs : List V} {us : Array Value} {v : V} (hu : VsR r xs us.toList) (e : opAppend P H nx ts xs = some (v, H')) (ty : TypeId) :
    ∃ u w' r', (Builtin.append_ ts ty us).run P w = .ok u w' ∧ Mv nx r H w (nx + 1) r' H' w' ∧ fresh r' (nx + 1) ∧ VR r' v u := by
  obtain ⟨u, w', r', h1, ⟨x, rfl⟩, h3, h4, h5, h6, h7⟩ := opAppend_ok h hx hu e ty
  exact ⟨u, w', _, h1, ⟨Nm.le_add (hx nx (Nat.le_refl _)) x, Nat.le_succ _, fun k hk => add_low hk _, h5, h6.os, h6.tape, h6.output, h6.size, h6.block, h7⟩, h3, h4⟩
/-- copy of as many cells as there is room for, of a type of one cell -/
def opCopy (P : Program) (H : Hp) (ts : Array TypeId) (xs : List V) : Option (V × Hp) := match ts.toList, xs with
  | [t, _], [.w (.c (.l (some (k, o)) n _)), y] => match P.underlying t with
    | some (.slice el) => if (P.info? el).map (·.size) = some 1 then match H.get k, newsOf H 1 y with
      | some B, some (m, cs) => if m = n ∧ o + m ≤ B.n ∧ cs.length = m ∧ B.mp.isNone = true then some (.w (.c (.i .i64 m)), H.set k (B.put o cs)) else none
      | _, _ => none
      else none
    | _ => none
  | _, _ => none
theorem opCopy_mv {P : Program} {r : Nm} {H H' : Hp} {w : World} (h : RelH r H w) {nx : Nat} {ts : Array TypeId} {xs : List V} {us : Array Value} {v : V} (hu : VsR r xs us.toList) (e : opCopy P H ts xs = some (v, H')) (ty : TypeId) :
    ∃ u w', (Builtin.copy_ ts ty us).run P w = .ok u w' ∧ Mv nx r H w nx r H' w' ∧ VR r v u := by
  unfold opCopy at e
  split at e
  case h_2 => cases e
  rename_i t t2 k o n cp y hts
  split at e
  case h_2 => cases e
  rename_i el ht
  split at e
  case isFalse => cases e
  rename_i hsz
  split at e
  case h_2 => cases e
  rename_i B m cs hk hn
  split at e
  case isFalse => cases e
  rename_i hc
  obtain ⟨rfl, hfit, hlen, hm⟩ := hc
  have hm : B.mp = none := by simpa using hm
  injection e with e
  injection e with e1 e2
  subst e1 e2
  obtain ⟨us⟩ := us
  simp only at hu
  cases hu with | cons hx1 hr => cases hr with | cons hy1 hr2 => cases hr2 with | nil =>
  rename_i u1 u2
  obtain ⟨ts⟩ := ts
  simp only at hts
  subst hts
  obtain ⟨vs, a, c, rfl, q1, q2, q3⟩ := newsOf_ok h hn hy1
  obtain ⟨b, sz, rk, hB⟩ := h.at_ k B hk
  have hdst : ∃ c1, u1 = .slice (some ⟨b, o, none⟩) m c1 := by
    cases hx1 with | w hx1 => cases hx1 with | c hx1 =>
      cases hx1 with
      | l n' c' rk' =>
        rw [rk] at rk'; injection rk' with rk'; injection rk' with e1 e2; subst e1
        exact ⟨_, rfl⟩
      | u n' c' es rk' h1 h2 h3 =>
        rw [rk] at rk'; injection rk' with rk'; injection rk' with e1 e2; subst e1
        exact ⟨_, rfl⟩
  obtain ⟨c1, rfl⟩ := hdst
  obtain ⟨cur, hg, hcs, hbn, hcell⟩ := hB.ex hm
  have hvl : vs.length = m := by omega
  have hrun := run_copy_row P w t t2 ty el b o m c1 a m c cur B.e vs ht hsz hg (by rw [hvl]; simp) q3 (by omega) q1.one
  have hB' : BR r (w.setRow b (cur.toList.take o ++ vs ++ cur.toList.drop (o + vs.length)).toArray) (B.put o cs) b sz := by
    refine ⟨fun l hl => absurd (hm.symm.trans hl) (by simp), fun _ => ⟨_, setRow_heap w b cur _ B.e (0, 0) hg, ?_, hbn, fun j hj => ?_⟩⟩
    · simp; omega
    · rw [Bk.put_cell]
      simp only [List.getElem?_toArray, List.append_assoc]
      obtain ⟨u, hu, hr⟩ := hcell j hj
      have h5 : (cur.toList.take o).length = o := by simp; omega
      split
      · rename_i hjo
        rw [List.getElem?_append_right (by omega), h5, List.getElem?_append_left (by omega)]
        obtain ⟨y, hy, hyr⟩ := q1.get (j - o) (cs.getD (j - o) .ni) (by rw [List.getD_eq_getElem?_getD, List.getElem?_eq_getElem (show j - o < cs.length by omega)]; rfl)
        exact ⟨y, hy, hyr⟩
      · rename_i hjo
        refine ⟨u, ?_, hr⟩
        by_cases h6 : j < o
        · rw [List.getElem?_append_left (by omega), List.getElem?_take, if_pos h6]; simpa using hu
        · rw [List.getElem?_append_right (by omega), h5, List.getElem?_append_right (by omega), List.getElem?_drop]
          rw [show o + vs.length + (j - o - vs.length) = j by omega]
          simpa using hu
  refine ⟨_, _, hrun, mv_row h hk rk hB', ?_⟩
  rw [hvl]
  exact .w (.c (.i _ _))
end Go.Proofs.YtgilghiegfgjeaaGreatDoor
end
