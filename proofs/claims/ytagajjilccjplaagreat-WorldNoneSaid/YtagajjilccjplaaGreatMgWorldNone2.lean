/- Joined: Xq10, Xq11, Xq12, Xq13, Xq14, Xq15. -/
import Derived.Maps.AppendAt
import Derived.Laws.CopyRow
import Derived.LoopN
import Derived.ScopeJumps
import Derived.Test.YtagajjilccjplaaGreatMgWorldNone1
section
set_option linter.unusedVariables false
set_option linter.unusedSimpArgs false
/- Running closed code: what is made. -/
namespace Go.Proofs.YtagajjilccjplaaGreat
open Go.RowKit
set_option linter.unusedVariables false

def bkL (e : TypeId) (cs : List C) : Bk := ⟨e, cs.length, [], setN .nil 0 cs, none⟩
theorem bkL_cell (e : TypeId) (cs : List C) (j : Nat) (h : j < cs.length) : (bkL e cs).cell j = cs[j] := by
  unfold Bk.cell bkL
  have e := setN_get cs .nil 0 j
  rw [if_pos (by omega), Nat.sub_zero, List.getElem?_eq_getElem h] at e
  rw [e]
/-- a block of a list's cells, in a world in which it was just made -/
theorem bkL_new {r : Nm} {e : TypeId} {cs : List C} {vs : Array Value} (h : CsR r cs vs.toList) (w : World) : BR r (w.alloc (.cells vs e)) (bkL e cs) w.heap.size vs.size := by
  have hl := h.length
  rw [Array.length_toList] at hl
  refine ⟨fun l hl => (by cases hl), fun _ => ⟨vs, heap_alloc_new w _, rfl, by show cs.length ≤ _; omega, fun j hj => ?_⟩⟩
  have hj' : j < cs.length := hj
  obtain ⟨v, hv, hr⟩ := h.get j cs[j] (List.getElem?_eq_getElem hj')
  exact ⟨v, by simpa using hv, by rw [bkL_cell e cs j hj']; exact hr⟩
def bkP (e : TypeId) (n : Nat) (pat : List C) : Bk := ⟨e, n, pat, .nil, none⟩
theorem pat_cells {r : Nm} {pat : List C} {vs : Array Value} (h : CsR r pat vs.toList) (j : Nat) (hn : 0 < pat.length) : CR r (pat.getD (j % pat.length) .ni) (vs[j % vs.size]!) := by
  have hl := h.length
  rw [Array.length_toList] at hl
  have hj : j % pat.length < pat.length := Nat.mod_lt _ hn
  obtain ⟨v, hv, hr⟩ := h.get (j % pat.length) (pat.getD (j % pat.length) .ni) (by rw [List.getD_eq_getElem?_getD, List.getElem?_eq_getElem hj]; rfl)
  rw [hl]
  have : vs[j % pat.length]? = some v := by simpa using hv
  rw [getElem!_def, this]
  exact hr
theorem bkP_new {r : Nm} {e : TypeId} {n : Nat} {pat : List C} {vs : Array Value} (h : CsR r pat vs.toList) (hn : 0 < n → 0 < pat.length) (w : World) : BR r (w.alloc (.cells ((Array.range n).map (vs[· % vs.size]!)) e)) (bkP e n pat) w.heap.size n := by
  refine ⟨fun l hl => (by cases hl), fun _ => ⟨_, heap_alloc_new w _, by simp, Nat.le_refl _, fun j hj => ?_⟩⟩
  have hj' : j < n := hj
  refine ⟨vs[j % vs.size]!, by simp [hj'], ?_⟩
  show CR r (match Tr.get .nil j with | some c => c | none => pat.getD (j % pat.length) .ni) _
  exact pat_cells h j (hn (by omega))
def rangeC (n : Nat) (pat : List C) : List C := (List.range n).map fun j => pat.getD (j % pat.length) .ni
theorem rangeC_ok {r : Nm} {pat : List C} {vs : Array Value} (h : CsR r pat vs.toList) (n : Nat) (hn : 0 < n → 0 < pat.length) : CsR r (rangeC n pat) ((Array.range n).map (vs[· % vs.size]!)).toList := by
  refine CsR.of_get _ _ (by simp [rangeC]) fun j c v hc hv => ?_
  have hj : j < n := by have := (List.getElem?_eq_some_iff.1 hc).1; simpa [rangeC] using this
  unfold rangeC at hc
  rw [List.getElem?_map, List.getElem?_range hj] at hc
  injection hc with hc
  subst hc
  simp [hj] at hv
  subst hv
  exact pat_cells h j (hn (by omega))
/-- the operations that make one block, and do nothing else: the block, and whether the value is a pointer, or a slice of so many -/
def opAlloc (P : Program) (e : Operand → Option V) : Op → Option (Bk × Option (Nat × Cp))
  | .alloc t => match zeroW P t with
    | some z => some (bkL t (wcells z), none)
    | none => none
  | .box t x => match e x with
    | some (.w y) => some (bkL t (wcells y), none)
    | _ => none
  | .buildSlice t len ps => match partsE e ps.toList, P.underlying t with
    | some l, some (.slice el) => match szOf P el, zeroW P el with
      | some n, some z => if len * n ≤ 16000 ∧ (0 < len * n → 0 < (wcells z).length) then
          if len * n = 0 then if l.isEmpty then some (bkL el [], some (len, if n = 0 then .k len else .u n)) else none
          else match fillC (fun i => some (i * n, n)) (rangeC (len * n) (wcells z)) l with
          | some cs => if cs.length = len * n ∧ len ≤ maxLen then some (bkL el cs, some (len, .u n)) else none
          | none => none
        else none
      | _, _ => none
    | _, _ => none
  | .makeSlice t l c => match e l, e c, P.underlying t with
    | some (.w (.c (.i _ a))), some (.w (.c (.i _ b))), some (.slice el) => match P.info? el, zeroW P el with
      | some ie, some z => if a = b ∧ 0 ≤ a ∧ a * ie.bytes ≤ 1000000 ∧ a ≤ 1000000 ∧ ie.size ≤ 1000 ∧ (wcells z).length = ie.size ∧ 0 < ie.size then some (bkP el (a.toNat * ie.size) (wcells z), some (a.toNat, .u ie.size)) else none
      | _, _ => none
    | _, _, _ => none
  | _ => none
/-- the value of what was made, by its name -/
def madeC (k : Nat) : Option (Nat × Cp) → C
  | none => .p (some (k, 0))
  | some (n, c) => .l (some (k, 0)) n c
def madeV (b : Nat) : Option (Nat × Cp) → Value
  | none => ptrOf b 0
  | some (n, _) => .slice (some ⟨b, 0, none⟩) n n
/-- what the capacity says of the block -/
def madeOk (m : Option (Nat × Cp)) (sz : Nat) : Prop := match m with
  | none => True
  | some (n, .k c) => c = n
  | some (n, .u es) => n ≤ maxLen ∧ n * es = sz
theorem madeC_ok {r : Nm} {k b sz : Nat} (h : r k = some (b, sz)) (m : Option (Nat × Cp)) (hm : madeOk m sz) : CR r (madeC k m) (madeV b m) := by
  match m, hm with
  | none, _ => exact .p h
  | some (n, .k c), hm => obtain rfl : c = n := hm; exact .l c c h
  | some (n, .u es), hm => exact .u n n es h (Nat.le_refl _) hm.1 (by rw [Nat.zero_add]; exact hm.2)
theorem wrap_small {a : Int} (h0 : 0 ≤ a) (h1 : a ≤ 1000000) : IntKind.i64.wrap a = a := by
  unfold IntKind.wrap
  simp [IntKind.bits, IntKind.signed]
  omega
set_option maxHeartbeats 1000000 in
theorem opAlloc_ok {P : Program} {r : Nm} {e : Operand → Option V} {g : Operand → Value} (he : ∀ x v, e x = some v → VR r v (g x)) {o : Oper} {B : Bk} {m : Option (Nat × Cp)} (h : opAlloc P e o.op = some (B, m)) (w : World) :
    ∃ cs : Array Value, (execOp g o).run P w = .ok (.value (madeV w.heap.size m)) (w.alloc (.cells cs B.e)) ∧ BR r (w.alloc (.cells cs B.e)) B w.heap.size cs.size ∧ madeOk m cs.size := by
  obtain ⟨dst, op, ty, pos, after, guard⟩ := o
  simp only at h
  unfold opAlloc at h
  split at h
  · rename_i t
    split at h
    · rename_i z hz
      injection h with h
      injection h with h1 h2
      subst h1 h2
      obtain ⟨i, zv, hi, hiz, hzr⟩ := zeroW_ok (r := r) hz
      refine ⟨zv.cells, ?_, bkL_new (wcells_ok hzr) w, trivial⟩
      simp [execOp, Instr.alloc, zeroValue, typeInfo, hi, hiz, newVar, newRow, madeV, ptrOf, bkL]
    · cases h
  · rename_i t x
    split at h
    · rename_i y hy
      injection h with h
      injection h with h1 h2
      subst h1 h2
      have hv := he _ _ hy
      cases hv with | w hv =>
      refine ⟨(g x).cells, ?_, bkL_new (wcells_ok hv) w, trivial⟩
      simp [execOp, Instr.box, newVar, newRow, madeV, ptrOf, bkL]
    · cases h
  · rename_i t len ps
    split at h
    · rename_i l el hl ht
      split at h
      · rename_i n z hn hz
        split at h
        · rename_i hc
          obtain ⟨i, zv, hi, hiz, hzr⟩ := zeroW_ok (r := r) hz
          have hin : i.size = n := by unfold szOf at hn; rw [hi] at hn; injection hn
          split at h
          · rename_i h0
            split at h
            · rename_i hle
              injection h with h
              injection h with h1 h2
              subst h1 h2
              have hps : ps = #[] := by
                have : l = [] := by simpa using hle
                subst this
                cases hp : ps.toList with
                | nil => exact Array.toList_eq_nil_iff.1 hp
                | cons a b =>
                  rw [hp] at hl
                  obtain ⟨i, x⟩ := a
                  unfold partsE at hl
                  split at hl
                  · cases hl
                  · cases hl
              subst hps
              refine ⟨#[], ?_, bkL_new .nil w, ?_⟩
              rotate_left
              · by_cases hn0 : n = 0
                · rw [if_pos hn0]; rfl
                · rw [if_neg hn0]
                  have hl0 : len = 0 := by rcases Nat.mul_eq_zero.1 h0 with x | x; exact x; exact absurd x hn0
                  subst hl0
                  exact ⟨Nat.zero_le _, Nat.zero_mul _⟩
              simp [execOp, Instr.buildSlice, run_underlying ht, run_szOf hn, h0, Instr.fill, newRow, madeV, bkL, show Array.range 0 = #[] from rfl]
            · cases h
          · rename_i h0
            split at h
            · rename_i cs hcs
              split at h
              case isFalse => cases h
              rename_i hlen
              injection h with h
              injection h with h1 h2
              subst h1 h2
              have hp := partsE_ok he _ _ hl
              rw [← map_parts] at hp
              obtain ⟨us, h1, h2⟩ := fillC_ok _ _ hp _ _ _ (rangeC_ok (wcells_ok hzr) (len * n) hc.2) hcs
              refine ⟨us, ?_, bkL_new h2 w, hlen.2, by have := h2.length; rw [Array.length_toList] at this; omega⟩
              have := run_buildSlice (P := P) w t el len (ps.map fun (i, x) => (i, g x)) us i zv ht hi hiz (by rw [hin]; have := hc.1; omega) (by rw [hin]; exact h0) (by rw [hin]; exact h1)
              simp only [execOp, Sem.run_bind, this, Result.andThen_ok, Sem.run_pure, bkL, madeV]
            · cases h
        · cases h
      · cases h
    · cases h
  · rename_i t l c
    split at h
    · rename_i k1 a k2 b el ha hb ht
      split at h
      · rename_i ie z hie hz
        split at h
        · rename_i hc
          obtain ⟨hab, ha0, hab1, ha1, hs1, hs2, hs3⟩ := hc
          subst hab
          injection h with h
          injection h with h1 h2
          subst h1 h2
          obtain ⟨i, zv, hi, hiz, hzr⟩ := zeroW_ok (r := r) hz
          rw [hie] at hi
          injection hi with hi
          subst hi
          have hva := he _ _ ha
          have hvb := he _ _ hb
          refine ⟨(Array.range (a.toNat * ie.size)).map (zv.cells[· % zv.cells.size]!), ?_, ?_, by unfold maxLen; omega, by simp⟩
          rotate_left
          · have hq := bkP_new (e := el) (n := a.toNat * ie.size) (wcells_ok hzr) (by intro _; omega) w
            have hsz : ((Array.range (a.toNat * ie.size)).map (zv.cells[· % zv.cells.size]!)).size = a.toNat * ie.size := by simp
            rw [hsz]
            exact hq
          · simp only [execOp]
            generalize g l = u at hva
            generalize g c = v at hvb
            cases hva with | w hva => cases hva with | c hva => cases hva with | i => cases hvb with | w hvb => cases hvb with | c hvb => cases hvb with | i =>
            have hw := wrap_small ha0 ha1
            have hby : (ie.bytes : Int) * a = a * ie.bytes := Int.mul_comm _ _
            have e1 : ¬ a < 0 := by omega
            have e2 : ¬ 281474976710656 < a * (ie.bytes : Int) := by omega
            have e3 : ¬ (a.toNat * ie.bytes > roomBytes) := by
              have : ((a.toNat * ie.bytes : Nat) : Int) ≤ 1000000 := by push_cast; rw [Int.toNat_of_nonneg ha0]; exact hab1
              unfold roomBytes
              omega
            simp [Instr.makeSlice, run_underlying ht, asInt, asIntOf, typeInfo, hie, hw, hby, e1, e2, askRoom, sizeOf, bkP, madeV]
            by_cases hz0 : a.toNat * ie.size = 0
            · simp [hz0, newRow, show Array.range 0 = #[] from rfl]
            · simp [hz0, zeroValue, typeInfo, hie, hiz, newRow]
        · cases h
      · cases h
    · cases h
  · cases h
end Go.Proofs.YtagajjilccjplaaGreat
end
section
set_option linter.unusedVariables false
set_option linter.unusedSimpArgs false
/- Running closed code: append. The old slice's name dies; the new slice has a name of its own. -/
namespace Go.Proofs.YtagajjilccjplaaGreat
open Go.RowKit
set_option linter.unusedVariables false

/-- one name more, for a block that no other name has -/
theorem RelH.new2 {r : Nm} {H : Hp} {w w' : World} (h : RelH r H w) {k : Nat} (rk : r k = none) {B : Bk} {b sz : Nat} (hB : BR (r.add k (b, sz)) w' B b sz)
    (ho : ∀ j D c s, H.get j = some D → r j = some (c, s) → c ≠ b ∧ w'.heap[c]? = w.heap[c]?) : RelH (r.add k (b, sz)) (H.set k B) w' := by
  have hle := Nm.le_add rk (b, sz)
  refine ⟨fun j D hj => ?_, fun i j D E c s t hi hj ri rj => ?_⟩
  · rw [Tr.get_set] at hj
    by_cases e : j = k
    · subst e
      rw [if_pos rfl] at hj
      injection hj with hj
      subst hj
      exact ⟨b, sz, Nm.add_at _ _ _, hB⟩
    · rw [if_neg e] at hj
      obtain ⟨c, t, rj, hD⟩ := h.at_ j D hj
      exact ⟨c, t, hle _ _ rj, (hD.keep (ho j D c t hj rj).2).mono hle⟩
  · have low : ∀ i D c s, i ≠ k → (H.set k B).get i = some D → (r.add k (b, sz)) i = some (c, s) → H.get i = some D ∧ r i = some (c, s) := fun i D c s e hi ri => by
      rw [Tr.get_set, if_neg e] at hi
      unfold Nm.add at ri
      rw [if_neg e] at ri
      exact ⟨hi, ri⟩
    have top : ∀ c s, (r.add k (b, sz)) k = some (c, s) → c = b := fun c s e => by
      rw [Nm.add_at] at e
      injection e with e
      injection e with e _
      exact e.symm
    by_cases ei : i = k
    · by_cases ej : j = k
      · rw [ei, ej]
      · subst ei
        have h1 := top c s ri
        obtain ⟨a1, a2⟩ := low j E c t ej hj rj
        exact absurd h1 (ho j E c t a1 a2).1
    · by_cases ej : j = k
      · subst ej
        have h1 := top c t rj
        obtain ⟨a1, a2⟩ := low i D c s ei hi ri
        exact absurd h1 (ho i D c s a1 a2).1
      · obtain ⟨a1, a2⟩ := low i D c s ei hi ri
        obtain ⟨b1, b2⟩ := low j E c t ej hj rj
        exact h.inj i j D E c s t a1 b1 a2 b2
/-- the slice that is appended to: its name, what it reads -/
inductive Base where
  | nil
  | at_ (k : Nat) (B : Bk) (n : Nat)
def baseOf (H : Hp) (sz : Nat) (el : TypeId) : V → Option Base
  | .w (.c (.l none 0 (.k 0))) => some .nil
  | .w (.c (.l (some (k, 0)) n (.u es))) => match H.get k with
    | some B => if es = sz ∧ B.e = el ∧ n * sz ≤ B.n ∧ B.mp.isNone = true then some (.at_ k B n) else none
    | none => none
  | _ => none
def baseCells (sz : Nat) : Base → List C
  | .nil => []
  | .at_ _ B n => loadN B 0 (n * sz)
def baseLen : Base → Nat
  | .nil => 0
  | .at_ _ _ n => n
def baseDel (H : Hp) : Base → Hp
  | .nil => H
  | .at_ k _ _ => H.del k
/-- what is appended -/
def newsOf (H : Hp) (sz : Nat) : V → Option (Nat × List C)
  | .w (.c (.l (some (k, o)) m _)) => match H.get k with
    | some B => if o + m * sz ≤ B.n ∧ B.mp.isNone = true then some (m, loadN B o (m * sz)) else none
    | none => none
  | _ => none
def opAppend (P : Program) (H : Hp) (nx : Nat) (ts : Array TypeId) (xs : List V) : Option (V × Hp) := match ts.toList, xs with
  | [t, t2], [x, y] => if t = t2 then match P.underlying t with
    | some (.slice el) => match P.info? el, zeroW P el with
      | some i, some z => match baseOf H i.size el x, newsOf H i.size y with
        | some b, some (m, cs) => if 0 < i.size ∧ (wcells z).length = i.size ∧ i.bytes ≤ 10000 ∧ baseLen b + m ≤ 1000000 ∧ 0 < m then
            some (.w (.c (.l (some (nx, 0)) (baseLen b + m) (.u i.size))), (baseDel H b).set nx (bkL el (baseCells i.size b ++ cs)))
          else none
        | _, _ => none
      | _, _ => none
    | _ => none
    else none
  | _, _ => none
theorem loadN_ok {r : Nm} {w : World} {B : Bk} {b sz : Nat} (h : BR r w B b sz) (hm : B.mp = none) {o n : Nat} (hn : o + n ≤ B.n) :
    ∃ vs, CsR r (loadN B o n) vs ∧ vs.length = n ∧ ∀ j u, vs[j]? = some u → w.cell? ((⟨b, o, none⟩ : Addr).add j) = some u := by
  obtain ⟨cs, hg, hsz, hn', hc⟩ := h.ex hm
  have hl : ((List.range n).map fun j => cs.getD (o + j) undef).length = n := by simp
  refine ⟨(List.range n).map fun j => cs.getD (o + j) undef, CsR.of_get _ _ (by rw [loadN_length, hl]) fun j c v h3 h4 => ?_, hl, fun j v hv => ?_⟩
  · rw [loadN_get] at h3
    split at h3
    · rename_i hj
      injection h3 with h3
      subst h3
      rw [List.getElem?_map, List.getElem?_range hj] at h4
      injection h4 with h4
      subst h4
      obtain ⟨v, hv, hr⟩ := hc (o + j) (by omega)
      show CR r (B.cell (o + j)) (cs.getD (o + j) undef)
      rw [Array.getD_eq_getD_getElem?, hv]
      exact hr
    · cases h3
  · have hj : j < n := by have := (List.getElem?_eq_some_iff.1 hv).1; rw [hl] at this; exact this
    rw [List.getElem?_map, List.getElem?_range hj] at hv
    injection hv with hv
    subst hv
    rw [add_at, cell_of_row w b (o + j) cs B.e (0, 0) hg]
    simp [Array.getD_eq_getD_getElem?, Array.getElem?_eq_getElem (show o + j < cs.size by omega)]
/-- what a base is in a world -/
theorem baseOf_ok {r : Nm} {H : Hp} {w : World} (h : RelH r H w) {sz : Nat} {el : TypeId} {x : V} {b : Base} (e : baseOf H sz el x = some b) {u : Value} (hu : VR r x u) :
    ∃ vs, CsR r (baseCells sz b) vs ∧ w.ownsRow 0 el sz u (baseLen b) vs ∧ (∀ g, u.ownBlock = some g → ∃ k B n s, b = .at_ k B n ∧ H.get k = some B ∧ r k = some (g, s)) := by
  unfold baseOf at e
  split at e
  · injection e with e
    subst e
    cases hu with | w hu => cases hu with | c hu => cases hu with | l0 =>
      exact ⟨[], .nil, World.ownsRow_nil _ _ _ _, fun g hg => by cases hg⟩
  · rename_i k n es
    split at e
    · rename_i B hk
      split at e
      · rename_i hc
        obtain ⟨rfl, he, hn, hm⟩ := hc
        have hm : B.mp = none := by simpa using hm
        injection e with e
        subst e
        cases hu with | w hu => cases hu with | c hu => cases hu with | u n' c es' rk h1 h2 h3 =>
        rename_i g s
        obtain ⟨b, t, rk', hB⟩ := h.at_ k B hk
        rw [rk] at rk'
        injection rk' with rk'
        injection rk' with e1 e2
        subst e1 e2
        obtain ⟨vs, q1, q2, q3⟩ := loadN_ok hB hm (o := 0) (n := n * es) (by omega)
        refine ⟨vs, q1, ⟨by rw [q2]; rfl, .inr ?_⟩, fun g' hg' => ?_⟩
        · obtain ⟨cs, hg, hsz, hn', hc⟩ := hB.ex hm
          refine ⟨g, c, cs, rfl, Nat.zero_le _, by rw [← he]; exact hg, h1, h2, by omega, ?_⟩
          refine List.ext_getElem? fun j => ?_
          rw [List.getElem?_take]
          split
          · rename_i hj
            obtain ⟨v, hv⟩ : ∃ v, vs[j]? = some v := ⟨vs[j]'(by rw [q2]; exact hj), List.getElem?_eq_getElem _⟩
            have := q3 j v hv
            rw [add_at, Nat.zero_add, cell_of_row w g j cs B.e (0, 0) hg] at this
            rw [hv]
            simpa using this
          · rename_i hj
            rw [List.getElem?_eq_none (by rw [q2]; show n * es ≤ j; have : ¬ j < n * es := hj; omega)]
        · injection hg' with hg'
          exact ⟨k, B, n, s, rfl, hk, by rw [← hg']; exact rk⟩
      · cases e
    · cases e
  · cases e
theorem newsOf_ok {r : Nm} {H : Hp} {w : World} (h : RelH r H w) {sz m : Nat} {y : V} {cs : List C} (e : newsOf H sz y = some (m, cs)) {u : Value} (hu : VR r y u) :
    ∃ vs a c, u = .slice (some a) m c ∧ CsR r cs vs ∧ vs.length = m * sz ∧ ∀ j v, vs[j]? = some v → w.cell? (a.add j) = some v := by
  unfold newsOf at e
  split at e
  · rename_i k o n cp
    split at e
    · rename_i B hk
      split at e
      · rename_i hb
        injection e with e
        injection e with e1 e2
        subst e1 e2
        obtain ⟨b, t, rk', hB⟩ := h.at_ k B hk
        obtain ⟨vs, q1, q2, q3⟩ := loadN_ok hB (by simpa using hb.2) hb.1
        cases hu with | w hu => cases hu with | c hu =>
          cases hu with
          | l n' c' rk =>
            rw [rk'] at rk
            injection rk with rk
            injection rk with e1 e2
            subst e1 e2
            exact ⟨vs, _, _, rfl, q1, q2, q3⟩
          | u n' c' es rk h1 h2 h3 =>
            rw [rk'] at rk
            injection rk with rk
            injection rk with e1 e2
            subst e1 e2
            exact ⟨vs, _, _, rfl, q1, q2, q3⟩
      · cases e
    · cases e
  · cases e
set_option maxHeartbeats 1000000 in
theorem opAppend_ok {P : Program} {r : Nm} {H H' : Hp} {w : World} (h : RelH r H w) {nx : Nat} (hx : ∀ j, nx ≤ j → r j = none) {ts : Array TypeId} {xs : List V} {us : Array Value} {v : V} (hu : VsR r xs us.toList) (e : opAppend P H nx ts xs = some (v, H')) (ty : TypeId) :
    ∃ u w' r', (Builtin.append_ ts ty us).run P w = .ok u w' ∧ (∃ x, r' = r.add nx x) ∧ (∀ j, nx + 1 ≤ j → r' j = none) ∧ VR r' v u ∧ RelH r' H' w' ∧ Fr r H w w' ∧ (∀ k B b s, H'.get k = some B → r' k = some (b, s) → w.heap.size ≤ b ∨ ∃ j D t, H.get j = some D ∧ r j = some (b, t)) := by
  unfold opAppend at e
  split at e
  case h_2 => cases e
  rename_i t t2 x y hts
  split at e
  case isFalse => cases e
  rename_i htt
  subst htt
  split at e
  case h_2 => cases e
  rename_i el ht
  split at e
  case h_2 => cases e
  rename_i i z hi hz
  split at e
  case h_2 => cases e
  rename_i b m cs hb hn
  split at e
  case isFalse => cases e
  rename_i hc
  obtain ⟨c1, c2, c3, c4, c5⟩ := hc
  injection e with e
  injection e with e1 e2
  subst e1 e2
  obtain ⟨us⟩ := us
  simp only at hu
  cases hu with | cons hx1 hr => cases hr with | cons hy1 hr2 => cases hr2 with | nil =>
  rename_i u1 u2
  obtain ⟨ts⟩ := ts
  simp only at hts
  subst hts
  obtain ⟨vs, p1, p2, p3⟩ := baseOf_ok h hb hx1
  obtain ⟨ns, a, c, rfl, q1, q2, q3⟩ := newsOf_ok h hn hy1
  obtain ⟨i', zv, hi', hiz, hzr⟩ := zeroW_ok (r := r) hz
  rw [hi] at hi'
  injection hi' with hi'
  subst hi'
  have hzs : zv.cells.size = i.size := by have := (wcells_ok hzr).length; rw [Array.length_toList] at this; omega
  obtain ⟨v', w', hrun, hown, hgrow, hnil, hat⟩ := run_append_own_at (P := P) w 0 t ty el i zv i.size i.bytes ht hi hiz rfl rfl hzs c1 u1 (baseLen b) vs p2 a m c ns q2 q3 q1.one (by unfold maxLen; omega) (by
    have := Nat.mul_le_mul c4 c3; omega) (Nat.zero_le _)
  have hown2 := hown.2
  rcases hown2 with ⟨_, h0⟩ | ⟨g, cap, cur, rfl, _, hg, hnc, hcm, hcs, htk⟩
  · omega
  refine ⟨_, w', r.add nx (g, cap * i.size), hrun, ⟨_, rfl⟩, fun j hj => ?_, ?_, ?_, ?_, fun k D c s hk rk => ?_⟩
  · unfold Nm.add
    rw [if_neg (by omega)]
    exact hx j (by omega)
  · exact .w (.c (.u _ _ _ (Nm.add_at _ _ _) hnc hcm (by rw [Nat.zero_add])))
  · have hle := Nm.le_add (hx nx (Nat.le_refl _)) (g, cap * i.size)
    have hcells := p1.append q1
    have hlen := hcells.length
    have hB : BR (r.add nx (g, cap * i.size)) w' (bkL el (baseCells i.size b ++ cs)) g (cap * i.size) := by
      refine ⟨fun l hl => (by cases hl), fun _ => ⟨cur, hg, hcs, ?_, fun j hj => ?_⟩⟩
      · show (baseCells i.size b ++ cs).length ≤ _
        rw [← hlen, ← htk, ← hcs]
        simp
        exact Nat.min_le_right _ _
      · have hj' : j < (baseCells i.size b ++ cs).length := hj
        obtain ⟨u, hu, hr⟩ := hcells.get j _ (List.getElem?_eq_getElem hj')
        refine ⟨u, ?_, by rw [bkL_cell el _ j hj']; exact hr.mono hle⟩
        rw [← htk, List.getElem?_take] at hu
        split at hu
        · simpa using hu
        · cases hu
    have key : ∀ j D c s, (baseDel H b).get j = some D → r j = some (c, s) → c < w.heap.size ∧ some c ≠ u1.ownBlock := fun j D c s hj rj => by
      have hj' : H.get j = some D := by
        cases b with
        | nil => exact hj
        | at_ k B n =>
          have hj2 : (H.del k).get j = some D := hj
          rw [Tr.get_del] at hj2
          split at hj2
          · cases hj2
          · exact hj2
      obtain ⟨c', s', rj', hD⟩ := h.at_ j D hj'
      rw [rj] at rj'
      injection rj' with rj'
      injection rj' with e1 e2
      subst e1 e2
      refine ⟨hD.lt, fun e => ?_⟩
      obtain ⟨k, B, n, s', rfl, hk, rk⟩ := p3 c e.symm
      have hjk : j ≠ k := by
        rintro rfl
        have hj2 : (H.del j).get j = some D := hj
        rw [Tr.get_del, if_pos rfl] at hj2
        cases hj2
      exact hjk (h.inj j k D B c _ _ hj' hk rj rk)
    refine RelH.new2 (w := w) (b := g) (sz := cap * i.size) (H := baseDel H b) ?_ (hx nx (Nat.le_refl _)) hB fun j D c s hj rj => ?_
    · cases b with
      | nil => exact h
      | at_ k B n => exact h.del k
    · obtain ⟨hlt, hne⟩ := key j D c s hj rj
      refine ⟨?_, hgrow.block c hlt hne⟩
      rintro rfl
      rcases hat with hat | hat
      · exact hne hat
      · injection hat with hat; exact absurd hat (Nat.ne_of_lt hlt)
  · exact ⟨hgrow.os, hgrow.tape, hgrow.output, hgrow.size, fun c hc hno => hgrow.block c hc fun e => by
      obtain ⟨k, B, n, s', _, hk, rk⟩ := p3 c e.symm
      exact hno k B s' hk rk⟩
  · unfold Nm.add at rk
    split at rk
    · injection rk with rk
      injection rk with e1 _
      subst e1
      rcases hat with hat | hat
      · obtain ⟨k, B, n, s', _, hk, rk⟩ := p3 g hat.symm
        exact .inr ⟨k, B, s', hk, rk⟩
      · injection hat with hat; exact .inl (by rw [← hat]; exact Nat.le_refl _)
    · rename_i hne
      rw [Tr.get_set, if_neg hne] at hk
      have hk' : H.get k = some D := by
        cases b with
        | nil => exact hk
        | at_ k' B n =>
          have hk2 : (H.del k').get k = some D := hk
          rw [Tr.get_del] at hk2
          split at hk2
          · cases hk2
          · exact hk2
      exact .inr ⟨k, D, s, hk', rk⟩
end Go.Proofs.YtagajjilccjplaaGreat
end
section
set_option linter.unusedVariables false
set_option linter.unusedSimpArgs false
/- Running closed code: how memory moves; one operation. -/
namespace Go.Proofs.YtagajjilccjplaaGreat
open Go.RowKit
set_option linter.unusedVariables false

/-- from one memory by names to another -/
structure Mv (nx : Nat) (r : Nm) (H : Hp) (w : World) (nx' : Nat) (r' : Nm) (H' : Hp) (w' : World) : Prop where
  le : r.le r'
  nle : nx ≤ nx'
  low : ∀ k, k < nx → r' k = r k
  rel : RelH r' H' w'
  os : w'.os = w.os
  tape : w'.tape = w.tape
  output : w'.output = w.output
  size : w.heap.size ≤ w'.heap.size
  block : ∀ b, b < w.heap.size → (∀ k B s, H.get k = some B → r k ≠ some (b, s)) → w'.heap[b]? = w.heap[b]?
  own : ∀ k B b s, H'.get k = some B → r' k = some (b, s) → w.heap.size ≤ b ∨ ∃ j D t, H.get j = some D ∧ r j = some (b, t)
theorem Mv.refl {nx : Nat} {r : Nm} {H : Hp} {w : World} (h : RelH r H w) : Mv nx r H w nx r H w := ⟨Nm.le_refl _, Nat.le_refl _, fun _ _ => rfl, h, rfl, rfl, rfl, Nat.le_refl _, fun _ _ _ => rfl, fun k B b s hk rk => .inr ⟨k, B, s, hk, rk⟩⟩
theorem Mv.trans {nx nx' nx'' : Nat} {r r' r'' : Nm} {H H' H'' : Hp} {w w' w'' : World} (h : Mv nx r H w nx' r' H' w') (k : Mv nx' r' H' w' nx'' r'' H'' w'') : Mv nx r H w nx'' r'' H'' w'' := by
  refine ⟨Nm.le_trans h.le k.le, Nat.le_trans h.nle k.nle, fun j hj => (k.low j (Nat.lt_of_lt_of_le hj h.nle)).trans (h.low j hj), k.rel, k.os.trans h.os, k.tape.trans h.tape, k.output.trans h.output, Nat.le_trans h.size k.size, fun b hb hno => ?_, fun i B b s hi ri => ?_⟩
  · refine (k.block b (Nat.lt_of_lt_of_le hb h.size) fun j D t hj rj => ?_).trans (h.block b hb hno)
    rcases h.own j D b t hj rj with e | ⟨j', D', t', a1, a2⟩
    · omega
    · exact hno j' D' t' a1 a2
  · rcases k.own i B b s hi ri with e | ⟨j, D, t, hj, rj⟩
    · exact .inl (Nat.le_trans h.size e)
    · exact h.own j D b t hj rj
theorem Mv.drew {nx nx' : Nat} {r r' : Nm} {H H' : Hp} {w w' : World} (h : Mv nx r H w nx' r' H' w') : Mv nx r H w nx' r' H' w'.drew :=
  ⟨h.le, h.nle, h.low, h.rel.world rfl, h.os, h.tape, h.output, h.size, h.block, h.own⟩
theorem Mv.from_drew {nx nx' : Nat} {r r' : Nm} {H H' : Hp} {w w' : World} (h : Mv nx r H w.drew nx' r' H' w') : Mv nx r H w nx' r' H' w' :=
  ⟨h.le, h.nle, h.low, h.rel, h.os, h.tape, h.output, h.size, h.block, h.own⟩
theorem add_low {r : Nm} {k nx : Nat} (h : k < nx) (x : Nat × Nat) : r.add nx x k = r k := by unfold Nm.add; rw [if_neg (Nat.ne_of_lt h)]
def fresh (r : Nm) (nx : Nat) : Prop := ∀ j, nx ≤ j → r j = none
theorem mv_new {r : Nm} {H : Hp} {w : World} (h : RelH r H w) {nx : Nat} (hf : fresh r nx) {o : Obj} {sz : Nat} {B : Bk} (hB : BR r (w.alloc o) B w.heap.size sz) :
    Mv nx r H w (nx + 1) (r.add nx (w.heap.size, sz)) (H.set nx B) (w.alloc o) ∧ fresh (r.add nx (w.heap.size, sz)) (nx + 1) := by
  have hn := hf nx (Nat.le_refl _)
  refine ⟨⟨Nm.le_add hn _, Nat.le_succ _, fun k hk => add_low hk _, ?_, rfl, rfl, rfl, by simp, fun b hb _ => heap_alloc_old w _ hb, fun k D b s hk rk => ?_⟩, fun j hj => ?_⟩
  · refine RelH.new2 (w := w) h hn (hB.mono (Nm.le_add hn _)) fun j D c s hj rj => ?_
    obtain ⟨c', s', rj', hD⟩ := h.at_ j D hj
    rw [rj] at rj'
    injection rj' with rj'
    injection rj' with e1 e2
    subst e1 e2
    have := hD.lt
    exact ⟨by omega, heap_alloc_old w _ hD.lt⟩
  · unfold Nm.add at rk
    split at rk
    · injection rk with rk
      injection rk with e1 _
      exact .inl (by omega)
    · rename_i hne
      rw [Tr.get_set, if_neg hne] at hk
      exact .inr ⟨k, D, s, hk, rk⟩
  · unfold Nm.add
    rw [if_neg (by omega)]
    exact hf j (by omega)
theorem mv_upd {nx : Nat} {r : Nm} {H : Hp} {w w' : World} (h : RelH r H w) {k : Nat} {B B' : Bk} (hk : H.get k = some B) {b sz : Nat} (rk : r k = some (b, sz)) (hB : BR r w' B' b sz)
    (ho : ∀ c, c ≠ b → w'.heap[c]? = w.heap[c]?) (h1 : w'.os = w.os) (h2 : w'.tape = w.tape) (h3 : w'.output = w.output) (h4 : w'.heap.size = w.heap.size) : Mv nx r H w nx r (H.set k B') w' := by
  refine ⟨Nm.le_refl _, Nat.le_refl _, fun _ _ => rfl, h.upd hk rk hB ho, h1, h2, h3, by omega, fun c hc hno => ?_, fun j D c s hj rj => ?_⟩
  · refine ho c ?_
    rintro rfl
    exact hno k B sz hk rk
  · rw [Tr.get_set] at hj
    by_cases e : j = k
    · subst e; exact .inr ⟨j, B, s, hk, rj⟩
    · rw [if_neg e] at hj; exact .inr ⟨j, D, s, hj, rj⟩
theorem mv_row {nx : Nat} {r : Nm} {H : Hp} {w : World} (h : RelH r H w) {k : Nat} {B B' : Bk} (hk : H.get k = some B) {b sz : Nat} (rk : r k = some (b, sz)) {cs : Array Value} (hB : BR r (w.setRow b cs) B' b sz) : Mv nx r H w nx r (H.set k B') (w.setRow b cs) := by
  refine ⟨Nm.le_refl _, Nat.le_refl _, fun _ _ => rfl, h.upd hk rk hB (fun c hc => setRow_other w b cs c hc), rfl, rfl, rfl, by simp [World.setRow], fun c hc hno => ?_, fun j D c s hj rj => ?_⟩
  · refine setRow_other w b cs c ?_
    rintro rfl
    exact hno k B sz hk rk
  · rw [Tr.get_set] at hj
    by_cases e : j = k
    · subst e; exact .inr ⟨j, B, s, hk, rj⟩
    · rw [if_neg e] at hj; exact .inr ⟨j, D, s, hj, rj⟩
theorem opAppend_mv {P : Program} {r : Nm} {H H' : Hp} {w : World} (h : RelH r H w) {nx : Nat} (hx : fresh r nx) {ts : Array TypeId} {xs : List V} {us : Array Value} {v : V} (hu : VsR r xs us.toList) (e : opAppend P H nx ts xs = some (v, H')) (ty : TypeId) :
    ∃ u w' r', (Builtin.append_ ts ty us).run P w = .ok u w' ∧ Mv nx r H w (nx + 1) r' H' w' ∧ fresh r' (nx + 1) ∧ VR r' v u := by
  obtain ⟨u, w', r', h1, ⟨x, rfl⟩, h3, h4, h5, h6, h7⟩ := opAppend_ok h hx hu e ty
  exact ⟨u, w', _, h1, ⟨Nm.le_add (hx nx (Nat.le_refl _)) x, Nat.le_succ _, fun k hk => add_low hk _, h5, h6.os, h6.tape, h6.output, h6.size, h6.block, h7⟩, h3, h4⟩
/-- copy of as many cells as there is room for, of a type of one cell -/
def opCopy (P : Program) (H : Hp) (ts : Array TypeId) (xs : List V) : Option (V × Hp) := match ts.toList, xs with
  | [t, _], [.w (.c (.l (some (k, o)) n _)), y] => match P.underlying t with
    | some (.slice el) => if (P.info? el).map (·.size) = some 1 then match H.get k, newsOf H 1 y with
      | some B, some (m, cs) => if m = n ∧ o + m ≤ B.n ∧ cs.length = m ∧ B.mp.isNone = true then some (.w (.c (.i .i64 m)), H.set k (B.put o cs)) else none
      | _, _ => none
      else none
    | _ => none
  | _, _ => none
theorem opCopy_mv {P : Program} {r : Nm} {H H' : Hp} {w : World} (h : RelH r H w) {nx : Nat} {ts : Array TypeId} {xs : List V} {us : Array Value} {v : V} (hu : VsR r xs us.toList) (e : opCopy P H ts xs = some (v, H')) (ty : TypeId) :
    ∃ u w', (Builtin.copy_ ts ty us).run P w = .ok u w' ∧ Mv nx r H w nx r H' w' ∧ VR r v u := by
  unfold opCopy at e
  split at e
  case h_2 => cases e
  rename_i t t2 k o n cp y hts
  split at e
  case h_2 => cases e
  rename_i el ht
  split at e
  case isFalse => cases e
  rename_i hsz
  split at e
  case h_2 => cases e
  rename_i B m cs hk hn
  split at e
  case isFalse => cases e
  rename_i hc
  obtain ⟨rfl, hfit, hlen, hm⟩ := hc
  have hm : B.mp = none := by simpa using hm
  injection e with e
  injection e with e1 e2
  subst e1 e2
  obtain ⟨us⟩ := us
  simp only at hu
  cases hu with | cons hx1 hr => cases hr with | cons hy1 hr2 => cases hr2 with | nil =>
  rename_i u1 u2
  obtain ⟨ts⟩ := ts
  simp only at hts
  subst hts
  obtain ⟨vs, a, c, rfl, q1, q2, q3⟩ := newsOf_ok h hn hy1
  obtain ⟨b, sz, rk, hB⟩ := h.at_ k B hk
  have hdst : ∃ c1, u1 = .slice (some ⟨b, o, none⟩) m c1 := by
    cases hx1 with | w hx1 => cases hx1 with | c hx1 =>
      cases hx1 with
      | l n' c' rk' =>
        rw [rk] at rk'; injection rk' with rk'; injection rk' with e1 e2; subst e1
        exact ⟨_, rfl⟩
      | u n' c' es rk' h1 h2 h3 =>
        rw [rk] at rk'; injection rk' with rk'; injection rk' with e1 e2; subst e1
        exact ⟨_, rfl⟩
  obtain ⟨c1, rfl⟩ := hdst
  obtain ⟨cur, hg, hcs, hbn, hcell⟩ := hB.ex hm
  have hvl : vs.length = m := by omega
  have hrun := run_copy_row P w t t2 ty el b o m c1 a m c cur B.e vs ht hsz hg (by rw [hvl]; simp) q3 (by omega) q1.one
  have hB' : BR r (w.setRow b (cur.toList.take o ++ vs ++ cur.toList.drop (o + vs.length)).toArray) (B.put o cs) b sz := by
    refine ⟨fun l hl => absurd (hm.symm.trans hl) (by simp), fun _ => ⟨_, setRow_heap w b cur _ B.e (0, 0) hg, ?_, hbn, fun j hj => ?_⟩⟩
    · simp; omega
    · rw [Bk.put_cell]
      simp only [List.getElem?_toArray, List.append_assoc]
      obtain ⟨u, hu, hr⟩ := hcell j hj
      have h5 : (cur.toList.take o).length = o := by simp; omega
      split
      · rename_i hjo
        rw [List.getElem?_append_right (by omega), h5, List.getElem?_append_left (by omega)]
        obtain ⟨y, hy, hyr⟩ := q1.get (j - o) (cs.getD (j - o) .ni) (by rw [List.getD_eq_getElem?_getD, List.getElem?_eq_getElem (show j - o < cs.length by omega)]; rfl)
        exact ⟨y, hy, hyr⟩
      · rename_i hjo
        refine ⟨u, ?_, hr⟩
        by_cases h6 : j < o
        · rw [List.getElem?_append_left (by omega), List.getElem?_take, if_pos h6]; simpa using hu
        · rw [List.getElem?_append_right (by omega), h5, List.getElem?_append_right (by omega), List.getElem?_drop]
          rw [show o + vs.length + (j - o - vs.length) = j by omega]
          simpa using hu
  refine ⟨_, _, hrun, mv_row h hk rk hB', ?_⟩
  rw [hvl]
  exact .w (.c (.i _ _))
end Go.Proofs.YtagajjilccjplaaGreat
end
section
set_option linter.unusedVariables false
set_option linter.unusedSimpArgs false
/- Running closed code: one operation of a region. -/
namespace Go.Proofs.YtagajjilccjplaaGreat
open Go.RowKit
set_option linter.unusedVariables false

structure St where
  tm : Tr V
  hp : Hp
  nx : Nat
/-- a call, run: its value, the memory behind it -/
abbrev CallF := FuncId → List V → Hp → Nat → Option (V × Hp × Nat)
def CallS (P : Program) (call : CallF) : Prop := ∀ f xs H nx v H' nx', call f xs H nx = some (v, H', nx') → ∀ r w us, VsR r xs us → RelH r H w → fresh r nx →
  Calls P f us.toArray w fun e w' => ∃ r' u, e = .returned u ∧ VR r' v u ∧ Mv nx r H w nx' r' H' w' ∧ fresh r' nx'
/-- functions without a body -/
abbrev ExtF := FuncId → List V → Hp → Option (V × Hp)
def ExtS (P : Program) (ext : ExtF) : Prop := ∀ f xs H v H', ext f xs H = some (v, H') → ∀ r w us, VsR r xs us → RelH r H w →
  ∃ u w', (callFunc f us.toArray).run P w = .ok (.value u) w' ∧ VR r v u ∧ ∀ nx, Mv nx r H w nx r H' w'
def ptrsV (l : List (Nat × Nat)) : List V := l.map fun a => .w (.c (.p (some a)))
theorem ptrsV_ok {r : Nm} {l : List (Nat × Nat)} {us : List Value} (h : AR r l us) : VsR r (ptrsV l) us := by
  induction h with
  | nil => exact .nil
  | cons e _ ih => exact .cons (.w (.c (.p e))) ih
theorem VsR.append {r : Nm} {xs ys : List V} {us vs : List Value} (h : VsR r xs us) (k : VsR r ys vs) : VsR r (xs ++ ys) (us ++ vs) := by
  induction h with
  | nil => exact k
  | cons e _ ih => exact .cons e ih
def opEnter (P : Program) (ext : ExtF) (call : CallF) (H : Hp) (nx : Nat) (fn : FuncId) (args : List V) : Option (V × Hp × Nat) := match ext fn args H with
  | some (v, H') => some (v, H', nx)
  | none => match P.funcs[fn]? with
    | some g => if g.name == "runtime.NumGoroutine" || g.body.isNone then none else call fn args H nx
    | none => none
def opCall (P : Program) (ext : ExtF) (call : CallF) (H : Hp) (nx : Nat) (f : V) (args : List V) : Option (V × Hp × Nat) := match f with
  | .w (.c (.f fn first cap)) => opEnter P ext call H nx fn (ptrsV first ++ args ++ ptrsV cap)
  | _ => none
def followP (P : Program) : List FieldStep → TypeId → Wv → Option (TypeId × Wv)
  | [], t, x => some (t, x)
  | s :: rest, _, x => if s.deref then none else match P.underlying s.struct, x with
    | some (.struct fields), .a cs => match fields[s.index]? with
      | some f => match partC P f.type cs f.offset with
        | some y => followP P rest f.type y
        | none => none
      | none => none
    | _, _ => none
/-- the function behind a method of an interface's value, and its receiver -/
def methR (P : Program) : Nat → TypeId → Wv → String → Option (FuncId × Wv)
  | 0, _, _, _ => none
  | n + 1, t, x, name => match P.info? t with
    | some i => match i.methods.find? (·.name == name) with
      | some m => match followP P m.path.toList t x with
        | some (xt, y) => match m.func with
          | none => match y with
            | .c (.d u false c) => methR P n u (.c c) name
            | .c (.d u true c) => methR P n u (.a [c]) name
            | _ => none
          | some (f, pr) => match P.underlying xt, pr with
            | some (.pointer _), true => some (f, y)
            | some (.struct _), false => some (f, y)
            | _, _ => none
        | none => none
      | none => none
    | none => none
theorem followP_ok {P : Program} {r : Nm} : ∀ (l : List FieldStep) (t : TypeId) (x : Wv) (xt : TypeId) (y : Wv) (v : Value), followP P l t x = some (xt, y) → WR r x v → ∃ u, WR r y u ∧ ∀ w, (follow l t (.val v)).run P w = .ok (xt, .val u) w
  | [], t, x, xt, y, v, h, hx => by
    injection h with h
    injection h with h1 h2
    subst h1 h2
    exact ⟨v, hx, fun w => rfl⟩
  | s :: rest, t, x, xt, y, v, h, hx => by
    unfold followP at h
    split at h
    · cases h
    · rename_i hd
      split at h
      · rename_i fields cs hs
        split at h
        · rename_i f hf
          split at h
          · rename_i z hz
            cases hx with | a hx =>
            obtain ⟨u, hu, hp⟩ := partC_ok (P := P) hx hz
            obtain ⟨u2, h1, h2⟩ := followP_ok rest f.type z xt y u h hu
            refine ⟨u2, h1, fun w => ?_⟩
            unfold follow
            simp only [Sem.run_bind, run_underlying hs, Result.andThen_ok, hf, hd, Bool.false_eq_true, if_false, hp w, h2 w]
          · cases h
        · cases h
      · cases h
theorem methR_ok {P : Program} {r : Nm} {name : String} : ∀ (n : Nat) (t : TypeId) (x : Wv) (f : FuncId) (y : Wv) (v : Value), methR P n t x name = some (f, y) → WR r x v → ∃ u, WR r y u ∧ ∀ m, n ≤ m → ∀ w, (method m t v name).run P w = .ok (f, u) w
  | 0, t, x, f, y, v, h, hx => by cases h
  | n + 1, t, x, f, y, v, h, hx => by
    unfold methR at h
    split at h
    case h_2 => cases h
    rename_i i hi
    split at h
    case h_2 => cases h
    rename_i m hm
    split at h
    case h_2 => cases h
    rename_i xt z hz
    obtain ⟨u, hu, hfol⟩ := followP_ok m.path.toList t x xt z v hz hx
    have start : ∀ (k : Nat) (w : World) (X : Result (FuncId × Value)), ((match m.func with
        | none => do
          match ← Place.get xt (.val u) with
          | .iface t' v' => method k t' v' name
          | .nilIface => runtimePanic .nilDeref
          | _ => stuck "method row: interface value expected"
        | some (f, pointerReceiver) => do
          pure (f, ← receiverAt xt (.val u) pointerReceiver (if m.path.isEmpty then some ((name.splitOn ".").getLastD name) else none)) : Sem (FuncId × Value))).run P w = X → (method (k + 1) t v name).run P w = X := fun k w X h => by
      unfold method
      simp only [typeInfo, Sem.run_bind, show program.run P w = .ok P w from rfl, Result.andThen_ok, hi, Sem.run_pure, hm, hfol w]
      rw [← h]
      cases m.func <;> rfl
    split at h
    · rename_i hmf
      have again : ∀ (t' : TypeId) (x' : Wv) (v' : Value), u = .iface t' v' → WR r x' v' → methR P n t' x' name = some (f, y) → ∃ u, WR r y u ∧ ∀ m, n + 1 ≤ m → ∀ w, (method m t v name).run P w = .ok (f, u) w := fun t' x' v' hu' hx' h' => by
        obtain ⟨u2, h1, h2⟩ := methR_ok n t' x' f y v' h' hx'
        refine ⟨u2, h1, fun k hk w => ?_⟩
        obtain ⟨k, rfl⟩ : ∃ j, k = j + 1 := ⟨k - 1, by omega⟩
        refine start k w _ ?_
        rw [hmf, hu']
        simp only [Place.get, Sem.run_bind, Sem.run_pure, Result.andThen_ok]
        exact h2 k (by omega) w
      split at h
      · cases hu with | c hu => cases hu with | d _ hc => exact again _ _ _ rfl (.c hc) h
      · cases hu with | c hu => cases hu with | da _ hc => exact again _ _ _ rfl (.a (.cons hc .nil)) h
      · cases h
    · rename_i f' pr hmf
      have fin : ∀ (hd : ∀ (o : Option String) w, (receiverAt xt (.val u) pr o).run P w = .ok u w), f' = f → z = y → ∃ u, WR r y u ∧ ∀ m, n + 1 ≤ m → ∀ w, (method m t v name).run P w = .ok (f, u) w := fun hd e1 e2 => by
        subst e1 e2
        refine ⟨u, hu, fun k hk w => ?_⟩
        obtain ⟨k, rfl⟩ : ∃ j, k = j + 1 := ⟨k - 1, by omega⟩
        refine start k w _ ?_
        rw [hmf]
        simp only [Sem.run_bind, hd, Result.andThen_ok, Sem.run_pure]
      split at h
      · rename_i el ht
        injection h with h
        injection h with h1 h2
        exact fin (fun o w => by simp [receiverAt, run_underlying ht, Place.get]) h1 h2
      · rename_i fs ht
        injection h with h
        injection h with h1 h2
        exact fin (fun o w => by simp [receiverAt, run_underlying ht, Place.get]) h1 h2
      · cases h
theorem callMethod_ok {P : Program} {r : Nm} {n : Nat} {t : TypeId} {x y : Wv} {name : String} {f : FuncId} {v : Value} (h : methR P n t x name = some (f, y)) (hn : n ≤ 100) (hx : WR r x v) : ∃ u, WR r y u ∧ ∀ args w, (callMethod (.iface t v) name args).run P w = (callFunc f (#[u] ++ args)).run P w := by
  obtain ⟨u, h1, h2⟩ := methR_ok n t x f y v h hx
  refine ⟨u, h1, fun args w => ?_⟩
  have hprog : program.run P w = .ok P w := rfl
  unfold callMethod
  rw [Sem.run_bind, hprog, Result.andThen_ok, Sem.run_bind, h2 (P.types.size + Made.depth) (Nat.le_trans hn (Nat.le_add_left 100 _)) w]
  rfl
/-! ### Maps from whole numbers -/
def keyEq : C → C → Option Bool
  | .i .i64 a, .i .i64 b => some (a == b)
  | .o k _, .o j _ => if k = j then some true else none
  | _, _ => none
theorem keyEq_ok {r : Nm} {x y : C} {u v : Value} {b : Bool} (h : keyEq x y = some b) (hx : CR r x u) (hy : CR r y v) : Instr.sameNow (.int .i64) u v = some b := by
  unfold keyEq at h
  split at h
  · cases hx; cases hy
    simpa [Instr.sameNow] using h
  · split at h
    · rename_i hk
      subst hk
      injection h with h
      subst h
      cases hx with | o e1 => cases hy with | o e2 =>
        rw [e1] at e2
        injection e2 with e2
        injection e2 with e2 e3
        subst e2 e3
        simp [Instr.sameNow]
    · cases h
  · cases h
def isKey : C → Bool
  | .i .i64 _ => true
  | .o _ _ => true
  | _ => false
theorem isKey_ok {r : Nm} {x : C} {u : Value} (h : isKey x = true) (hx : CR r x u) : ∃ n, u = .int .i64 n := by
  unfold isKey at h
  split at h
  · cases hx; exact ⟨_, rfl⟩
  · cases hx; exact ⟨_, rfl⟩
  · cases h
def lk : List (C × C) → C → Option (Option C)
  | [], _ => some none
  | (k, c) :: l, n => match keyEq n k with
    | some true => some (some c)
    | some false => lk l n
    | none => none
theorem findNow_none {r : Nm} {l : List (C × C)} {es : List MapEntry} (h : MR r l es) {n : C} {u : Value} (hn : CR r n u) (hl : lk l n = some none) : ∀ i, Instr.findNow (.int .i64) u es i = some none := by
  induction h with
  | nil => intro i; rfl
  | cons hk h t ih =>
    intro i
    unfold lk at hl
    split at hl
    · cases hl
    · rename_i he
      simp only [Instr.findNow, keyEq_ok he hn hk]
      exact ih hl (i + 1)
    · cases hl
theorem findNow_some {r : Nm} {l : List (C × C)} {es : List MapEntry} (h : MR r l es) {n : C} {u : Value} (hn : CR r n u) {c : C} (hl : lk l n = some (some c)) : ∀ i, ∃ j v, Instr.findNow (.int .i64) u es i = some (some (j, v)) ∧ CR r c v := by
  induction h with
  | nil => cases hl
  | cons hk h t ih =>
    rename_i k0 c0 e0 l0 es0
    intro i
    unfold lk at hl
    split at hl
    · rename_i he
      injection hl with hl
      injection hl with hl
      subst hl
      exact ⟨i, e0.val, by simp only [Instr.findNow, keyEq_ok he hn hk], h⟩
    · rename_i he
      simp only [Instr.findNow, keyEq_ok he hn hk]
      exact ih hl (i + 1)
    · cases hl
theorem checkKey_int' {P : Program} {kt : TypeId} (hk : P.underlying kt = some (.int .i64)) (b : Bool) (m : Nat) (n : Int) (w : World) : (Instr.checkKey b (m + 1) kt (.int .i64 n)).run P w = .ok () w := by
  simp only [Instr.checkKey, Sem.run_bind, run_underlying hk, Result.andThen_ok, Sem.run_pure]
theorem checkKey_int {P : Program} {kt : TypeId} (hk : P.underlying kt = some (.int .i64)) (b : Bool) (n : Int) (w : World) : (Instr.checkKey b 10000 kt (.int .i64 n)).run P w = .ok () w := checkKey_int' hk b 9999 n w
theorem run_getMap {P : Program} {w : World} {b : Nat} {es : Array MapEntry} {clk : Nat} (h : w.heap[b]? = some (.map es clk)) : (getObj b).run P w = .ok (.map es clk) w := by
  simp [getObj, Sem.run, h]
theorem run_setMap {P : Program} {w : World} {b : Nat} {es : Array MapEntry} {clk : Nat} (h : w.heap[b]? = some (.map es clk)) (o : Obj) : (setObj b o).run P w = .ok () { w with heap := w.heap.setIfInBounds b o } := by
  simp [setObj, Sem.run, h]
def opLook (P : Program) (H : Hp) (t : TypeId) (x i : V) (ok : Bool) : Option V := match x, i with
  | .w (.c (.m (some k))), .w (.c n) => match P.underlying t, H.get k with
    | some (.map kt et), some B => match P.underlying kt, B.mp with
      | some (.int .i64), some l => if isKey n then match lk l n with
        | some (some c) => some (if ok then .t [.c c, .c (.b true)] else .w (.c c))
        | some none => match zeroW P et with
          | some z => some (if ok then .t [z, .c (.b false)] else .w z)
          | none => none
        | none => none
        else none
      | _, _ => none
    | _, _ => none
  | _, _ => none
theorem opLook_ok {P : Program} {r : Nm} {H : Hp} {w : World} (h : RelH r H w) {t : TypeId} {x i v : V} {ok : Bool} {u ui : Value} (e : opLook P H t x i ok = some v) (hx : VR r x u) (hi : VR r i ui) :
    ∃ z, VR r v z ∧ (Instr.lookup t u ui ok).run P w = .ok z w := by
  unfold opLook at e
  split at e
  case h_2 => cases e
  rename_i k n
  split at e
  case h_2 => cases e
  rename_i kt et B ht hB
  split at e
  case h_2 => cases e
  rename_i l hk hl
  split at e
  case isFalse => cases e
  rename_i hn
  cases hx with | w hx => cases hx with | c hx => cases hx with | m rk =>
  cases hi with | w hi => cases hi with | c hi =>
  obtain ⟨nn, rfl⟩ := isKey_ok hn hi
  obtain ⟨b, sz, rk', hBR⟩ := h.at_ k B hB
  rw [rk] at rk'
  injection rk' with rk'
  injection rk' with e1 e2
  subst e1 e2
  obtain ⟨_, es, clk, hg, hm⟩ := hBR.mx l hl
  split at e
  · rename_i c hc
    obtain ⟨j, y, hf, hy⟩ := findNow_some hm hi hc 0
    injection e with e
    subst e
    refine ⟨if ok then .tuple #[y, .bool true] else y, ?_, ?_⟩
    · cases ok
      · exact .w (.c hy)
      · exact .t (.cons (.c hy) (.cons (.c (.b _)) .nil))
    · simp only [Instr.lookup, Sem.run_bind, run_underlying ht, Result.andThen_ok, run_getMap hg, Sem.run_pure, checkKey_int hk, Instr.findKey, run_underlying hk, hf]
  · rename_i hc
    have hf := findNow_none hm hi hc 0
    split at e
    case h_2 => cases e
    rename_i z hz
    obtain ⟨inf, y, hinf, hiz, hy⟩ := zeroW_ok (r := r) hz
    injection e with e
    subst e
    refine ⟨if ok then .tuple #[y, .bool false] else y, ?_, ?_⟩
    · cases ok
      · exact .w hy
      · exact .t (.cons hy (.cons (.c (.b _)) .nil))
    · simp only [Instr.lookup, Sem.run_bind, run_underlying ht, Result.andThen_ok, run_getMap hg, Sem.run_pure, checkKey_int hk, Instr.findKey, run_underlying hk, hf]
      simp [zeroValue, typeInfo, hinf, hiz, go_sem]
  · cases e
theorem MR.snoc {r : Nm} {l : List (C × C)} {es : List MapEntry} (h : MR r l es) {n c : C} {e : MapEntry} (hk : CR r n e.key) (hc : CR r c e.val) : MR r (l ++ [(n, c)]) (es ++ [e]) := by
  induction h with
  | nil => exact .cons hk hc .nil
  | cons a b _ ih => exact .cons a b ih
def opMapPut (P : Program) (H : Hp) (t : TypeId) (x i v : V) : Option Hp := match x, i, v with
  | .w (.c (.m (some k))), .w (.c n), .w (.c c) => match P.underlying t, H.get k with
    | some (.map kt _), some B => match P.underlying kt, B.mp with
      | some (.int .i64), some l => if isKey n then match lk l n with
        | some none => some (H.set k ⟨B.e, B.n, B.d, B.u, some (l ++ [(n, c)])⟩)
        | _ => none
        else none
      | _, _ => none
    | _, _ => none
  | _, _, _ => none
theorem opMapPut_ok {P : Program} {r : Nm} {H H' : Hp} {w : World} {nx : Nat} (h : RelH r H w) {t : TypeId} {x i v : V} {u ui uv : Value} (e : opMapPut P H t x i v = some H') (hx : VR r x u) (hi : VR r i ui) (hv : VR r v uv) :
    ∃ w', (Instr.mapUpdate t u ui uv).run P w = .ok () w' ∧ Mv nx r H w nx r H' w' := by
  unfold opMapPut at e
  split at e
  case h_2 => cases e
  rename_i k n c
  split at e
  case h_2 => cases e
  rename_i kt et B ht hB
  split at e
  case h_2 => cases e
  rename_i l hk hl
  split at e
  case isFalse => cases e
  rename_i hn
  cases hx with | w hx => cases hx with | c hx => cases hx with | m rk =>
  cases hi with | w hi => cases hi with | c hi =>
  obtain ⟨nn, rfl⟩ := isKey_ok hn hi
  cases hv with | w hv => cases hv with | c hv =>
  rename_i b sz
  obtain ⟨b', sz', rk', hBR⟩ := h.at_ k B hB
  rw [rk] at rk'
  injection rk' with rk'
  injection rk' with e1 e2
  subst e1 e2
  obtain ⟨h0, es, clk, hg, hm⟩ := hBR.mx l hl
  split at e
  case h_2 => cases e
  rename_i hc
  injection e with e
  subst e
  have hf := findNow_none hm hi hc 0
  have hlt := hBR.lt
  refine ⟨{ w with heap := w.heap.setIfInBounds b (.map (es.push { key := .int .i64 nn, val := uv, born := clk }) (clk + 1)) }, ?_, ?_⟩
  · simp only [Instr.mapUpdate, Sem.run_bind, run_underlying ht, Result.andThen_ok, run_getMap hg, Sem.run_pure, checkKey_int hk, Instr.findKey, run_underlying hk, hf, run_setMap hg]
  · refine mv_upd h hB rk ⟨fun l' hl' => ?_, fun hm => (by cases hm)⟩ (fun c hc => ?_) rfl rfl rfl (by simp)
    · injection hl' with hl'
      subst hl'
      refine ⟨h0, _, _, by show (w.heap.setIfInBounds b _)[b]? = _; rw [Array.getElem?_setIfInBounds_self_of_lt hlt], ?_⟩
      rw [Array.toList_push]
      exact hm.snoc hi hv
    · show (w.heap.setIfInBounds b _)[c]? = _
      rw [Array.getElem?_setIfInBounds_ne (fun e => hc e.symm)]
/-- without an entry -/
def dl : List (C × C) → C → List (C × C)
  | [], _ => []
  | (k, c) :: l, n => match keyEq n k with
    | some true => l
    | _ => (k, c) :: dl l n
theorem findNow_del {r : Nm} {l : List (C × C)} {es : List MapEntry} (h : MR r l es) {n : C} {u : Value} (hn : CR r n u) {c : C} (hl : lk l n = some (some c)) : ∀ i, ∃ d v, Instr.findNow (.int .i64) u es i = some (some (i + d, v)) ∧ MR r (dl l n) (es.eraseIdx d) := by
  induction h with
  | nil => cases hl
  | cons hk h t ih =>
    rename_i k0 c0 e0 l0 es0
    intro i
    unfold lk at hl
    unfold dl
    split at hl
    · rename_i he
      rw [he]
      exact ⟨0, e0.val, by simp only [Instr.findNow, keyEq_ok he hn hk, Nat.add_zero], t⟩
    · rename_i he
      rw [he]
      obtain ⟨d, v, h1, h2⟩ := ih hl (i + 1)
      refine ⟨d + 1, v, ?_, .cons hk h h2⟩
      simp only [Instr.findNow, keyEq_ok he hn hk]
      rw [h1, show i + 1 + d = i + (d + 1) by omega]
    · cases hl
def opDel (P : Program) (H : Hp) (t : TypeId) (x i : V) : Option Hp := match x, i with
  | .w (.c (.m (some k))), .w (.c n) => match P.underlying t, H.get k with
    | some (.map kt _), some B => match P.underlying kt, B.mp with
      | some (.int .i64), some l => if isKey n then match lk l n with
        | some (some _) => some (H.set k ⟨B.e, B.n, B.d, B.u, some (dl l n)⟩)
        | _ => none
        else none
      | _, _ => none
    | _, _ => none
  | _, _ => none
theorem opDel_ok {P : Program} {r : Nm} {H H' : Hp} {w : World} {nx : Nat} (h : RelH r H w) {t : TypeId} {x i : V} {u ui : Value} (e : opDel P H t x i = some H') (hx : VR r x u) (hi : VR r i ui) {ts : Array TypeId} (hts : ts[0]? = some t) (ty : TypeId) :
    ∃ w', (Builtin.delete_ ts ty #[u, ui]).run P w = .ok (.tuple #[]) w' ∧ Mv nx r H w nx r H' w' := by
  unfold opDel at e
  split at e
  case h_2 => cases e
  rename_i k n
  split at e
  case h_2 => cases e
  rename_i kt et B ht hB
  split at e
  case h_2 => cases e
  rename_i l hk hl
  split at e
  case isFalse => cases e
  rename_i hn
  cases hx with | w hx => cases hx with | c hx => cases hx with | m rk =>
  cases hi with | w hi => cases hi with | c hi =>
  obtain ⟨nn, rfl⟩ := isKey_ok hn hi
  rename_i b sz
  obtain ⟨b', sz', rk', hBR⟩ := h.at_ k B hB
  rw [rk] at rk'
  injection rk' with rk'
  injection rk' with e1 e2
  subst e1 e2
  obtain ⟨h0, es, clk, hg, hm⟩ := hBR.mx l hl
  split at e
  case h_2 => cases e
  rename_i c hc
  injection e with e
  subst e
  obtain ⟨d, v, hf, hd⟩ := findNow_del hm hi hc 0
  rw [Nat.zero_add] at hf
  have hlt := hBR.lt
  refine ⟨{ w with heap := w.heap.setIfInBounds b (.map (es.eraseIdxIfInBounds d) clk) }, ?_, ?_⟩
  · have g0 : (#[Value.map (some b), Value.int .i64 nn] : Array Value)[0]? = some (.map (some b)) := rfl
    have g1 : (#[Value.map (some b), Value.int .i64 nn] : Array Value)[1]? = some (.int .i64 nn) := rfl
    simp only [Builtin.delete_, hts, g0, g1, Sem.run_bind, run_underlying ht, Result.andThen_ok, run_getMap hg, Sem.run_pure, checkKey_int hk, Instr.findKey, run_underlying hk, hf, run_setMap hg]
  · refine mv_upd h hB rk ⟨fun l' hl' => ?_, fun hm => (by cases hm)⟩ (fun c hc => ?_) rfl rfl rfl (by simp)
    · injection hl' with hl'
      subst hl'
      refine ⟨h0, _, _, by show (w.heap.setIfInBounds b _)[b]? = _; rw [Array.getElem?_setIfInBounds_self_of_lt hlt], ?_⟩
      have : (es.eraseIdxIfInBounds d).toList = es.toList.eraseIdx d := by
        unfold Array.eraseIdxIfInBounds
        split
        · simp
        · rename_i hn
          rw [List.eraseIdx_of_length_le (by rw [Array.length_toList]; omega)]
      rw [this]
      exact hd
    · show (w.heap.setIfInBounds b _)[c]? = _
      rw [Array.getElem?_setIfInBounds_ne (fun e => hc e.symm)]
theorem bkM_new (r : Nm) (t : TypeId) (w : World) : BR r (w.alloc (.map #[] 0)) ⟨t, 0, [], .nil, some []⟩ w.heap.size 0 :=
  ⟨fun l hl => by injection hl with hl; subst hl; exact ⟨rfl, #[], 0, heap_alloc_new w _, .nil⟩, fun h => by cases h⟩
def putD (N : Nat) (dst : Option Nat) (v : V) (tm : Tr V) : Option (Tr V) := match dst with
  | none => some tm
  | some d => if d < N then some (tm.set d v) else none
def loseD (dst : Option Nat) (tm : Tr V) : Tr V := match dst with
  | none => tm
  | some d => tm.del d
/-- what an operation does to memory: its value (none: no value), the memory behind it -/
def opMem (P : Program) (ext : ExtF) (call : CallF) (e : Operand → Option V) (H : Hp) (nx : Nat) (op : Op) : Option (Option V × Hp × Nat) :=
  match opAlloc P e op with
  | some (B, m) => some (some (.w (.c (madeC nx m))), H.set nx B, nx + 1)
  | none => match op with
    | .load t x => match e x with
      | some (.w (.c (.p (some (k, o))))) => match H.get k with
        | some B => match opLoadB P B t o with
          | some y => some (some (.w y), H, nx)
          | none => none
        | none => none
      | _ => none
    | .store t x y => match e x, e y with
      | some (.w (.c (.p (some (k, o))))), some (.w z) => match H.get k with
        | some B => match opStoreB P B t o z with
          | some B' => some (none, H.set k B', nx)
          | none => none
        | none => none
      | _, _ => none
    | .call ⟨.builtin .append, args, ts⟩ => match valsE e args.toList with
      | some l => match opAppend P H nx ts l with
        | some (v, H') => some (some v, H', nx + 1)
        | none => none
      | none => none
    | .call ⟨.builtin .copy, args, ts⟩ => match valsE e args.toList with
      | some l => match opCopy P H ts l with
        | some (v, H') => some (some v, H', nx)
        | none => none
      | none => none
    | .call ⟨.value f, args, _⟩ => match e f, valsE e args.toList with
      | some fv, some l => match opCall P ext call H nx fv l with
        | some (v, H', nx') => some (some v, H', nx')
        | none => none
      | _, _ => none
    | .call ⟨.invoke x name, args, _⟩ => match (match e x with
        | some (.w (.c (.d t false c))) => methR P 8 t (.c c) name
        | some (.w (.c (.d t true c))) => methR P 8 t (.a [c]) name
        | _ => none), valsE e args.toList with
      | some (fn, y), some l => match opEnter P ext call H nx fn (.w y :: l) with
        | some (v, H', nx') => some (some v, H', nx')
        | none => none
      | _, _ => none
    | .call ⟨.builtin .delete, args, ts⟩ => match ts[0]?, valsE e args.toList with
      | some t, some [x, i] => match opDel P H t x i with
        | some H' => some (some (.t []), H', nx)
        | none => none
      | _, _ => none
    | .makeMap t none => some (some (.w (.c (.m (some nx)))), H.set nx ⟨t, 0, [], .nil, some []⟩, nx + 1)
    | .lookup t x i ok => match e x, e i with
      | some a, some b => match opLook P H t a b ok with
        | some v => some (some v, H, nx)
        | none => none
      | _, _ => none
    | .mapUpdate t x i y => match e x, e i, e y with
      | some a, some b, some c => match opMapPut P H t a b c with
        | some H' => some (none, H', nx)
        | none => none
      | _, _, _ => none
    | _ => none
def putO (N : Nat) (dst : Option Nat) (v : Option V) (tm : Tr V) : Option (Tr V) := match v with
  | some v => putD N dst v tm
  | none => some (loseD dst tm)
/-- what the world does at an operation, whatever follows -/
def OpOk (P : Program) (o : Oper) (a : Act) (w : World) (R : Option Value → World → Prop) : Prop :=
  ∀ (K : Act → World → Prop) (Q : Exit → Act → World → Prop), (∀ u w', R u w' → K (a.put o.dst (u.getD undef)) w') → o.wp P a w K Q
theorem extract_tail (x : Value) (A : Array Value) : (#[x] ++ A).extract 1 (#[x] ++ A).size = A := by
  obtain ⟨l⟩ := A
  simp
theorem head_zero (x : Value) (A : Array Value) : (#[x] ++ A)[0]? = some x := by
  obtain ⟨l⟩ := A
  simp
theorem opEnter_ok {P : Program} {ext : ExtF} {call : CallF} (hext : ExtS P ext) (hcall : CallS P call) {r : Nm} {H : Hp} {nx : Nat} {w : World} {fn : FuncId} {l : List V} {us : List Value} (hargs : VsR r l us) (hH : RelH r H w) (hf : fresh r nx)
    {a : Act} {o : Oper} (hinv : (execOp a.eval o).run P w = (callFunc fn us.toArray).run P w) {v : V} {H' : Hp} {nx' : Nat} (hc : opEnter P ext call H nx fn l = some (v, H', nx')) :
    OpOk P o a w fun u w' => ∃ r', Mv nx r H w nx' r' H' w' ∧ fresh r' nx' ∧ ((some v = none ∧ u = none) ∨ ∃ x y, some v = some x ∧ u = some y ∧ VR r' x y) := by
  intro K Q hK
  unfold opEnter at hc
  split at hc
  · rename_i v1 H1 he1
    injection hc with hc
    injection hc with e1 e2
    injection e2 with e2 e3
    subst e1 e2 e3
    obtain ⟨u, w', hrun, hvr, hmv⟩ := hext _ _ _ _ _ he1 r w _ hargs hH
    unfold Oper.wp
    rw [hinv, hrun]
    exact hK (some u) w' ⟨r, hmv nx, hf, .inr ⟨_, _, rfl, rfl, hvr⟩⟩
  · split at hc
    · rename_i g hg
      split at hc
      · cases hc
      · rename_i hcond
        simp only [Bool.or_eq_true, not_or, Bool.not_eq_true] at hcond
        have hcf : (callFunc fn us.toArray).run P w = .ok (.enter fn us.toArray) w := by
          have hn : ¬ g.name = "runtime.NumGoroutine" := by simpa using hcond.1
          have hb : ¬ g.body = none := by intro e; rw [e] at hcond; simp at hcond
          simp [callFunc, hg, hn, hb]
        unfold Oper.wp
        rw [hinv, hcf, Oper.upon_enter]
        refine (hcall _ _ _ _ _ _ _ hc r w _ hargs hH hf).mono fun e w' ⟨r', u, heq, hvr, hmv, hfr'⟩ => ?_
        subst heq
        exact hK (some u) w' ⟨r', hmv, hfr', .inr ⟨_, _, rfl, rfl, hvr⟩⟩
    · cases hc
theorem opMem_ok {P : Program} {ext : ExtF} {call : CallF} (hext : ExtS P ext) (hcall : CallS P call) {r : Nm} {a : Act} {e : Operand → Option V} (he : ∀ x v, e x = some v → VR r v (a.eval x))
    {H : Hp} {nx : Nat} {w : World} (hH : RelH r H w) (hf : fresh r nx) {o : Oper} {v : Option V} {H' : Hp} {nx' : Nat} (h : opMem P ext call e H nx o.op = some (v, H', nx')) :
    OpOk P o a w fun u w' => ∃ r', Mv nx r H w nx' r' H' w' ∧ fresh r' nx' ∧ ((v = none ∧ u = none) ∨ ∃ x y, v = some x ∧ u = some y ∧ VR r' x y) := by
  intro K Q hK
  unfold opMem at h
  split at h
  · rename_i B m hm
    injection h with h
    injection h with h1 h2
    injection h2 with h2 h3
    subst h1 h2 h3
    obtain ⟨cs, hrun, hB, hmd⟩ := opAlloc_ok he hm w
    obtain ⟨hmv, hfr⟩ := mv_new hH hf hB
    unfold Oper.wp
    rw [hrun]
    exact hK (some _) _ ⟨_, hmv, hfr, .inr ⟨_, _, rfl, rfl, .w (.c (madeC_ok (Nm.add_at _ _ _) m hmd))⟩⟩
  · split at h
    · rename_i t x ho
      split at h
      · rename_i k off hx
        split at h
        · rename_i B hk
          split at h
          · rename_i y hy
            injection h with h
            injection h with h1 h2
            injection h2 with h2 h3
            subst h1 h2 h3
            obtain ⟨b, sz, rk, hB⟩ := hH.at_ k B hk
            obtain ⟨z, hz, hrun⟩ := opLoadB_ok hB hy
            have hv := he _ _ hx
            have hp : a.eval x = ptrOf b off := by
              generalize a.eval x = u at hv
              cases hv with | w hv => cases hv with | c hv => cases hv with | p rk' =>
                rw [rk] at rk'; injection rk' with rk'; injection rk' with e1 e2; subst e1; rfl
            unfold Oper.wp
            have : (execOp a.eval o).run P w = .ok (.value z) w := by
              unfold execOp
              rw [ho]
              simp only [Sem.run_bind, hp, hrun, Result.andThen_ok, Sem.run_pure]
            rw [this]
            exact hK (some z) w ⟨r, Mv.refl hH, hf, .inr ⟨_, _, rfl, rfl, .w hz⟩⟩
          · cases h
        · cases h
      · cases h
    · rename_i t x y ho
      split at h
      · rename_i k off z hx hy
        split at h
        · rename_i B hk
          split at h
          · rename_i B' hB'
            injection h with h
            injection h with h1 h2
            injection h2 with h2 h3
            subst h1 h2 h3
            obtain ⟨b, sz, rk, hB⟩ := hH.at_ k B hk
            have hv := he _ _ hx
            have hz := he _ _ hy
            have hp : a.eval x = ptrOf b off := by
              generalize a.eval x = u at hv
              cases hv with | w hv => cases hv with | c hv => cases hv with | p rk' =>
                rw [rk] at rk'; injection rk' with rk'; injection rk' with e1 e2; subst e1; rfl
            cases hz with | w hz =>
            obtain ⟨cs', hrun, hBR⟩ := opStoreB_ok hB hz hB'
            unfold Oper.wp
            have : (execOp a.eval o).run P w = .ok .skip (w.setRow b cs') := by
              unfold execOp
              rw [ho]
              simp only [Sem.run_bind, hp, hrun, Result.andThen_ok, Sem.run_pure]
            rw [this]
            exact hK none _ ⟨r, mv_row hH hk rk hBR, hf, .inl ⟨rfl, rfl⟩⟩
          · cases h
        · cases h
      · cases h
    · rename_i args ts ho
      split at h
      · rename_i l hl
        split at h
        · rename_i v' H'' ha
          injection h with h
          injection h with h1 h2
          injection h2 with h2 h3
          subst h1 h2 h3
          have hp := valsE_ok he _ _ hl
          rw [← Array.toList_map] at hp
          obtain ⟨u, w', r', hrun, hmv, hfr, hvr⟩ := opAppend_mv hH hf hp ha o.type
          unfold Oper.wp
          have : (execOp a.eval o).run P w = .ok (.value u) w' := by
            unfold execOp
            rw [ho]
            simp only [resolve, Sem.run_bind, Sem.run_pure, Result.andThen_ok, invoke, builtin, hrun]
          rw [this]
          exact hK (some u) w' ⟨r', hmv, hfr, .inr ⟨_, _, rfl, rfl, hvr⟩⟩
        · cases h
      · cases h
    · rename_i args ts ho
      split at h
      · rename_i l hl
        split at h
        · rename_i v' H'' ha
          injection h with h
          injection h with h1 h2
          injection h2 with h2 h3
          subst h1 h2 h3
          have hp := valsE_ok he _ _ hl
          rw [← Array.toList_map] at hp
          obtain ⟨u, w', hrun, hmv, hvr⟩ := opCopy_mv (nx := nx) hH hp ha o.type
          unfold Oper.wp
          have : (execOp a.eval o).run P w = .ok (.value u) w' := by
            unfold execOp
            rw [ho]
            simp only [resolve, Sem.run_bind, Sem.run_pure, Result.andThen_ok, invoke, builtin, hrun]
          rw [this]
          exact hK (some u) w' ⟨r, hmv, hf, .inr ⟨_, _, rfl, rfl, hvr⟩⟩
        · cases h
      · cases h
    · rename_i f args ts ho
      split at h
      · rename_i fv l hfv hl
        split at h
        · rename_i v' H'' nx'' hc
          injection h with h
          injection h with h1 h2
          injection h2 with h2 h3
          subst h1 h2 h3
          have hp := valsE_ok he _ _ hl
          have hfr := he _ _ hfv
          unfold opCall at hc
          split at hc
          · rename_i fn first cap
            have hfun : ∃ va vc, AR r first va ∧ AR r cap vc ∧ a.eval f = .func (.func fn) va.toArray vc.toArray := by
              generalize a.eval f = u at hfr
              cases hfr with | w hfr => cases hfr with | c hfr => cases hfr with | f _ ha hcp => exact ⟨_, _, ha, hcp, rfl⟩
            obtain ⟨va, vc, h1, h2, h3⟩ := hfun
            have hargs := ((ptrsV_ok h1).append hp).append (ptrsV_ok h2)
            have harr : (va.toArray ++ args.map a.eval ++ vc.toArray) = (va ++ args.toList.map a.eval ++ vc).toArray := by
              rw [← Array.toList_map]; simp
            have hinv : (execOp a.eval o).run P w = (callFunc fn (va ++ args.toList.map a.eval ++ vc).toArray).run P w := by
              unfold execOp
              rw [ho]
              simp only [resolve, Sem.run_bind, Sem.run_pure, Result.andThen_ok, h3, Deferred.ofValue, invoke, harr]
            exact opEnter_ok hext hcall hargs hH hf hinv hc K Q hK
          · cases hc
        · cases h
      · cases h
    · rename_i x name args ts ho
      split at h
      · rename_i fn y l hm hl
        split at h
        · rename_i v' H'' nx'' hc
          injection h with h
          injection h with h1 h2
          injection h2 with h2 h3
          subst h1 h2 h3
          have hp := valsE_ok he _ _ hl
          have hrecv : ∃ t z u, a.eval x = .iface t z ∧ WR r y u ∧ ∀ args w, (callMethod (.iface t z) name args).run P w = (callFunc fn (#[u] ++ args)).run P w := by
            split at hm
            · rename_i t c hx
              have hv := he _ _ hx
              generalize a.eval x = q at hv
              cases hv with | w hv => cases hv with | c hv => cases hv with | d _ hcr =>
              obtain ⟨u, h1, h2⟩ := callMethod_ok hm (by omega) (.c hcr)
              exact ⟨_, _, u, rfl, h1, h2⟩
            · rename_i t c hx
              have hv := he _ _ hx
              generalize a.eval x = q at hv
              cases hv with | w hv => cases hv with | c hv => cases hv with | da _ hcr =>
              obtain ⟨u, h1, h2⟩ := callMethod_ok hm (by omega) (.a (.cons hcr .nil))
              exact ⟨_, _, u, rfl, h1, h2⟩
            · cases hm
          obtain ⟨t, z, u, hev, hyr, hcm⟩ := hrecv
          have hargs : VsR r (.w y :: l) (u :: args.toList.map a.eval) := .cons (.w hyr) hp
          have hinv : (execOp a.eval o).run P w = (callFunc fn (u :: args.toList.map a.eval).toArray).run P w := by
            unfold execOp
            rw [ho]
            simp only [resolve, Sem.run_bind, Sem.run_pure, Result.andThen_ok, invoke, hev]
            have e0 := head_zero (Value.iface t z) (args.map a.eval)
            have e1 := extract_tail (Value.iface t z) (args.map a.eval)
            have e2 : #[u] ++ args.map a.eval = (u :: args.toList.map a.eval).toArray := by
              apply Array.ext'; simp
            rw [e0]
            simp only [e1]
            rw [hcm, e2]
          exact opEnter_ok hext hcall hargs hH hf hinv hc K Q hK
        · cases h
      · cases h
    · rename_i args ts ho
      split at h
      · rename_i t x i ht hl
        split at h
        · rename_i H'' hd
          injection h with h
          injection h with h1 h2
          injection h2 with h2 h3
          subst h1 h2 h3
          have hp := valsE_ok he _ _ hl
          rw [← Array.toList_map] at hp
          obtain ⟨us, hus⟩ : ∃ us, us = args.map a.eval := ⟨_, rfl⟩
          rw [← hus] at hp
          obtain ⟨us⟩ := us
          cases hp with | cons hx hp => cases hp with | cons hi hp => cases hp with | nil =>
          obtain ⟨w', hrun, hmv⟩ := opDel_ok (nx := nx) hH hd hx hi ht o.type
          unfold Oper.wp
          have : (execOp a.eval o).run P w = .ok (.value (.tuple #[])) w' := by
            unfold execOp
            rw [ho]
            simp only [resolve, Sem.run_bind, Sem.run_pure, Result.andThen_ok, invoke, builtin, ← hus, hrun]
          rw [this]
          exact hK (some _) w' ⟨r, hmv, hf, .inr ⟨_, _, rfl, rfl, .t .nil⟩⟩
        · cases h
      · cases h
    · rename_i t ho
      injection h with h
      injection h with h1 h2
      injection h2 with h2 h3
      subst h1 h2 h3
      obtain ⟨hmv, hfr⟩ := mv_new hH hf (bkM_new _ t w)
      unfold Oper.wp
      have : (execOp a.eval o).run P w = .ok (.value (.map (some w.heap.size))) (w.alloc (.map #[] 0)) := by
        unfold execOp
        rw [ho]
        rfl
      rw [this]
      exact hK (some _) _ ⟨_, hmv, hfr, .inr ⟨_, _, rfl, rfl, .w (.c (.m (Nm.add_at _ _ _)))⟩⟩
    · rename_i t x i ok ho
      split at h
      · rename_i xa xb ha hb
        split at h
        · rename_i v' hl
          injection h with h
          injection h with h1 h2
          injection h2 with h2 h3
          subst h1 h2 h3
          obtain ⟨z, hz, hrun⟩ := opLook_ok hH hl (he _ _ ha) (he _ _ hb)
          unfold Oper.wp
          have : (execOp a.eval o).run P w = .ok (.value z) w := by
            unfold execOp
            rw [ho]
            simp only [Sem.run_bind, hrun, Result.andThen_ok, Sem.run_pure]
          rw [this]
          exact hK (some z) w ⟨r, Mv.refl hH, hf, .inr ⟨_, _, rfl, rfl, hz⟩⟩
        · cases h
      · cases h
    · rename_i t x i y ho
      split at h
      · rename_i xa xb xc ha hb hc
        split at h
        · rename_i H'' hl
          injection h with h
          injection h with h1 h2
          injection h2 with h2 h3
          subst h1 h2 h3
          obtain ⟨w', hrun, hmv⟩ := opMapPut_ok (nx := nx) hH hl (he _ _ ha) (he _ _ hb) (he _ _ hc)
          unfold Oper.wp
          have : (execOp a.eval o).run P w = .ok .skip w' := by
            unfold execOp
            rw [ho]
            simp only [Sem.run_bind, hrun, Result.andThen_ok, Sem.run_pure]
          rw [this]
          exact hK none w' ⟨r, hmv, hf, .inl ⟨rfl, rfl⟩⟩
        · cases h
      · cases h
    · cases h
end Go.Proofs.YtagajjilccjplaaGreat
end
section
set_option linter.unusedVariables false
set_option linter.unusedSimpArgs false
/- Running closed code: regions in their order, code, calls. -/
namespace Go.Proofs.YtagajjilccjplaaGreat
open Go.RowKit
set_option linter.unusedVariables false

def wantS (ops : Array Oper) (tm : Tr V) (o : Oper) : Option Bool := match o.guard with
  | none => some true
  | some (j, want) => match ops[j]? with
    | some q => match q.dst with
      | some t => match tm.get t with
        | some (.w (.c (.b b))) => some (b == want)
        | some (.t []) => some false
        | _ => none
      | none => none
    | none => none
theorem wantS_ok {r : Nm} {tm : Tr V} {n : Nat} {a : Act} (h : RelA r tm n a) {ops : Array Oper} {o : Oper} {b : Bool} (e : wantS ops tm o = some b) : Region.wanted o (yielded ops a.tmps) = b := by
  unfold wantS at e
  unfold Region.wanted
  split at e
  · rename_i hg; rw [hg]; injection e
  · rename_i j want hg
    rw [hg]
    simp only
    split at e
    · rename_i q hq
      split at e
      · rename_i t ht
        split at e
        · rename_i c hc
          injection e with e
          subst e
          obtain ⟨u, h1, h2⟩ := h.val t _ hc
          cases h2 with | w h2 => cases h2 with | c h2 => cases h2 with | b =>
          have : yielded ops a.tmps j = some c := by
            unfold yielded
            rw [hq]
            simp [ht, h1]
          rw [this]
          cases c <;> cases want <;> rfl
        · rename_i hc
          injection e with e
          subst e
          obtain ⟨u, h1, h2⟩ := h.val t _ hc
          cases h2 with | t h2 => cases h2 with | nil =>
          have : yielded ops a.tmps j = none := by
            unfold yielded
            rw [hq]
            simp [ht, h1]
          rw [this]
          cases want <;> rfl
        · cases e
      · cases e
    · cases e
/-- a frame and a memory -/
structure RelS (r : Nm) (N : Nat) (s : St) (a : Act) (w : World) : Prop where
  fr : RelA r s.tm N a
  hp : RelH r s.hp w
  nx : fresh r s.nx
def stepR (P : Program) (ext : ExtF) (call : CallF) (ops : Array Oper) (N : Nat) (o : Oper) (s : St) : Option St := match wantS ops s.tm o with
  | none => none
  | some false => match putD N o.dst (.t []) s.tm with
    | some tm => some ⟨tm, s.hp, s.nx⟩
    | none => none
  | some true => match opPure P (evO s.tm) o.op with
    | some v => match putD N o.dst v s.tm with
      | some tm => some ⟨tm, s.hp, s.nx⟩
      | none => none
    | none => match opMem P ext call (evO s.tm) s.hp s.nx o.op with
      | some (v, H', nx') => match putO N o.dst v s.tm with
        | some tm => some ⟨tm, H', nx'⟩
        | none => none
      | none => none
def runL (P : Program) (ext : ExtF) (call : CallF) (ops : Array Oper) (N : Nat) : List Oper → St → Option St
  | [], s => some s
  | o :: l, s => match stepR P ext call ops N o s with
    | some s' => runL P ext call ops N l s'
    | none => none
theorem RelA.putD {r : Nm} {tm tm' : Tr V} {N : Nat} {a : Act} (h : RelA r tm N a) {dst : Option Nat} {v : V} {u : Value} (hv : VR r v u) (e : Go.Proofs.YtagajjilccjplaaGreat.putD N dst v tm = some tm') : RelA r tm' N (a.put dst u) := by
  unfold Go.Proofs.YtagajjilccjplaaGreat.putD at e
  split at e
  · injection e with e; subst e; exact h
  · split at e
    · rename_i hd; injection e with e; subst e; exact h.put hd hv
    · cases e
theorem RelA.loseD {r : Nm} {tm : Tr V} {N : Nat} {a : Act} (h : RelA r tm N a) (dst : Option Nat) (u : Value) : RelA r (Go.Proofs.YtagajjilccjplaaGreat.loseD dst tm) N (a.put dst u) := by
  cases dst with
  | none => exact h
  | some d => exact h.lose d u
section
variable {P : Program} {ext : ExtF} {call : CallF} (hext : ExtS P ext) (hcall : CallS P call)
include hext hcall
/-- one operation -/
theorem stepR_ok {r : Nm} {N : Nat} {ops : Array Oper} {o : Oper} {s s' : St} {a : Act} {w : World} (h : RelS r N s a w) (e : stepR P ext call ops N o s = some s') {K : Act → World → Prop} {Q : Exit → Act → World → Prop}
    (hK : ∀ r' a' w', Mv s.nx r s.hp w s'.nx r' s'.hp w' → RelS r' N s' a' w' → K a' w') :
    if Region.wanted o (yielded ops a.tmps) then o.wp P a w K Q ∨ (o.asks P a w ∧ LetsOut Q) else K (a.put o.dst undef) w := by
  have he := fun x v (e : evO s.tm x = some v) => evO_ok h.fr e
  unfold stepR at e
  split at e
  · cases e
  · rename_i hw
    rw [if_neg (by rw [wantS_ok h.fr hw]; exact Bool.false_ne_true)]
    split at e
    · rename_i tm htm
      injection e with e
      subst e
      exact hK r _ w (Mv.refl h.hp) ⟨h.fr.putD (.t .nil) htm, h.hp, h.nx⟩
    · cases e
  · rename_i hw
    rw [if_pos (wantS_ok h.fr hw)]
    left
    split at e
    · rename_i v hv
      split at e
      · rename_i tm htm
        injection e with e
        subst e
        obtain ⟨u, hu, hrun⟩ := opPure_ok (P := P) he hv
        unfold Oper.wp
        rw [hrun w]
        exact hK r _ w (Mv.refl h.hp) ⟨h.fr.putD hu htm, h.hp, h.nx⟩
      · cases e
    · split at e
      · rename_i v H' nx' hm
        split at e
        · rename_i tm htm
          injection e with e
          subst e
          refine opMem_ok hext hcall he h.hp h.nx hm K Q fun u w' ⟨r', hmv, hfr, hv⟩ => ?_
          refine hK r' _ w' hmv ⟨?_, hmv.rel, hfr⟩
          rcases hv with ⟨rfl, rfl⟩ | ⟨x, y, rfl, rfl, hxy⟩
          · injection htm with htm
            subst htm
            exact (h.fr.mono hmv.le).loseD _ _
          · exact (h.fr.mono hmv.le).putD hxy htm
        · cases e
      · cases e
theorem runL_ok {N : Nat} {ops : Array Oper} {Q : Exit → Act → World → Prop} : ∀ (l : List Oper) (r : Nm) (s s' : St) (a : Act) (w : World), RelS r N s a w → runL P ext call ops N l s = some s' →
    (∀ r' a' w', Mv s.nx r s.hp w s'.nx r' s'.hp w' → RelS r' N s' a' w' → Q .normal a' w') → wpList P ops Q l a w
  | [], r, s, s', a, w, h, e, hQ => by
    injection e with e
    subst e
    exact hQ r a w (Mv.refl h.hp) h
  | o :: l, r, s, s', a, w, h, e, hQ => by
    unfold runL at e
    split at e
    · rename_i s1 h1
      exact stepR_ok hext hcall h h1 fun r1 a1 w1 m1 k1 => runL_ok l r1 s1 s' a1 w1 k1 e fun r2 a2 w2 m2 k2 => hQ r2 a2 w2 (m1.trans m2) k2
    · cases e
end
/-! ### Code -/
/-- a scope's code, with at most so many jumps -/
def hops (P : Program) (c : Code) (Q : Exit → Act → World → Prop) : Nat → Code → Act → World → Prop
  | 0, _, _, _ => False
  | m + 1, x, a, w => x.wp P (fun e a w => match e with
    | .goto l => ∃ rest, findLabel c l = some rest ∧ hops P c Q m rest a w
    | e => Q e a w) a w
theorem wp_scope_hops {P : Program} {c : Code} {Q : Exit → Act → World → Prop} {a : Act} {w : World} (m : Nat) (h : hops P c Q m c a w) : (Code.scope c).wp P Q a w := by
  intro b k cs
  have key : ∀ m x a w, hops P c Q m x a w → ∃ e a' w', Q e a' w' ∧ Arrives P (lone (b.at a (.code x :: .inScope c :: k)) cs w) b k cs e a' w' := by
    intro m
    induction m with
    | zero => intro x a w h; exact h.elim
    | succ m ih =>
      intro x a w h
      obtain ⟨e, a₁, w₁, hq, harr⟩ := h b (.inScope c :: k) cs
      cases e with
      | normal => exact ⟨.normal, a₁, w₁, hq, Steps.trans harr (.one step_inScope)⟩
      | exit id => exact ⟨.exit id, a₁, w₁, hq, fun k' hk => harr k' (by simp [exitTo, hk])⟩
      | goto l =>
        obtain ⟨rest, hf, hJ⟩ := hq
        have hg : gotoIn l (.inScope c :: k) = some (.code rest :: .inScope c :: k) := by simp [gotoIn, hf]
        obtain ⟨e₂, a₂, w₂, hq₂, harr₂⟩ := ih rest a₁ w₁ hJ
        exact ⟨e₂, a₂, w₂, hq₂, .of_steps (harr _ hg) harr₂⟩
      | ret => exact ⟨_, a₁, w₁, hq, harr⟩
      | panic ch => exact ⟨_, a₁, w₁, hq, harr⟩
      | outgrown => exact ⟨_, a₁, w₁, hq, harr⟩
  obtain ⟨e, a', w', hq, harr⟩ := key m c a w h
  exact ⟨e, a', w', hq, .of_steps (.one step_scope) harr⟩
/-- calls that are known otherwise: they come first -/
abbrev SpF := CallF → CallF
def SpS (P : Program) (sp : SpF) : Prop := ∀ call, CallS P call → CallS P (sp call)
def callS (sp : SpF) (c : CallF) : CallF := fun f xs H nx => match sp c f xs H nx with
  | some z => some z
  | none => c f xs H nx
theorem callS_ok {P : Program} {sp : SpF} (hsp : SpS P sp) {c : CallF} (hc : CallS P c) : CallS P (callS sp c) := by
  intro f xs H nx v H' nx' h r w us hu hH hf
  unfold callS at h
  split at h
  · rename_i z hz
    injection h with h
    subst h
    exact hsp c hc f xs H nx v H' nx' hz r w us hu hH hf
  · exact hc f xs H nx v H' nx' h r w us hu hH hf
inductive Ex where
  | norm
  | exit (id : Nat)
  | ret
  | goto (l : Nat)
def Ex.to : Ex → Exit
  | .norm => .normal
  | .exit id => .exit id
  | .ret => .ret
  | .goto l => .goto l
/-- how a region that draws its order is run (nothing: it is not) -/
abbrev DrawF := CallF → Array Oper → Nat → St → Option St
def DrawS (P : Program) (ext : ExtF) (dr : DrawF) : Prop := ∀ call, CallS P call → ∀ ops N s s', dr call ops N s = some s' → ∀ r a w, RelS r N s a w → ∀ (Q : Exit → Act → World → Prop) id,
  (∀ r' a' w', Mv s.nx r s.hp w s'.nx r' s'.hp w' → RelS r' N s' a' w' → Q .normal a' w') → (Code.region id ops true).wp P Q a w
def resE (P : Program) (s : St) : List ResultVar → Option (List Wv)
  | [] => some []
  | .tmp t :: l => match s.tm.get t, resE P s l with
    | some (.w x), some xs => some (x :: xs)
    | _, _ => none
  | .cell t ty :: l => match s.tm.get t, resE P s l with
    | some (.w (.c (.p (some (k, o))))), some xs => match s.hp.get k with
      | some B => match opLoadB P B ty o with
        | some x => some (x :: xs)
        | none => none
      | none => none
    | _, _ => none
def resV : List Wv → V
  | [x] => .w x
  | xs => .t xs
def callF (P : Program) (R : Nat → Code → St → Option (Ex × St)) : CallF := fun f xs H nx => match P.funcs[f]? with
  | some fn => match fn.body with
    | some c => if xs.length ≤ fn.ntmps then
        match R fn.ntmps c ⟨setV .nil 0 xs, H, nx⟩ with
        | some (.exit _, _) => none
        | some (.goto _, _) => none
        | some (_, s) => match resE P s fn.results.toList with
          | some l => some (resV l, s.hp, s.nx)
          | none => none
        | none => none
      else none
    | none => none
  | none => none
where
  setV : Tr V → Nat → List V → Tr V
    | t, _, [] => t
    | t, i, x :: xs => setV (t.set i x) (i + 1) xs
/-- a scope's jumps -/
def hopR (R : Nat → Code → St → Option (Ex × St)) (c : Code) (N : Nat) : Nat → Code → St → Option (Ex × St)
  | 0, _, _ => none
  | j + 1, x, s => match R N x s with
    | some (.goto l, s') => match findLabel c l with
      | some rest => hopR R c N j rest s'
      | none => none
    | z => z
def run (P : Program) (ext : ExtF) (sp : SpF) (dr : DrawF) : Nat → Nat → Code → St → Option (Ex × St)
  | 0, _, _, _ => none
  | m + 1, N, c, s => match c with
    | .skip => some (.norm, s)
    | .label _ => some (.norm, s)
    | .ret => some (.ret, s)
    | .exit id => some (.exit id, s)
    | .goto l => some (.goto l, s)
    | .scope c => hopR (run P ext sp dr m) c N 64 c s
    | .seq x y => match run P ext sp dr m N x s with
      | some (.norm, s') => run P ext sp dr m N y s'
      | z => z
    | .cond x a b => match evO s.tm x with
      | some (.w (.c (.b true))) => run P ext sp dr m N a s
      | some (.w (.c (.b false))) => run P ext sp dr m N b s
      | _ => none
    | .block id x => match run P ext sp dr m N x s with
      | some (.exit j, s') => if j = id then some (.norm, s') else some (.exit j, s')
      | z => z
    | .loop x => match run P ext sp dr m N x s with
      | some (.norm, s') => run P ext sp dr m N (.loop x) s'
      | z => z
    | .region _ ops false => match runL P ext (callS sp (callF P (run P ext sp dr m))) ops N ops.toList s with
      | some s' => some (.norm, s')
      | none => none
    | .region _ ops true => match dr (callS sp (callF P (run P ext sp dr m))) ops N s with
      | some s' => some (.norm, s')
      | none => none
    | _ => none
end Go.Proofs.YtagajjilccjplaaGreat
end
section
set_option linter.unusedVariables false
set_option linter.unusedSimpArgs false
/- Running closed code: what a run comes to is what the program does. -/
namespace Go.Proofs.YtagajjilccjplaaGreat
open Go.RowKit
set_option linter.unusedVariables false

def RunS (P : Program) (R : Nat → Code → St → Option (Ex × St)) : Prop := ∀ N c s x s', R N c s = some (x, s') → ∀ r a w, RelS r N s a w → ∀ (Q : Exit → Act → World → Prop),
  (∀ r' a' w', Mv s.nx r s.hp w s'.nx r' s'.hp w' → RelS r' N s' a' w' → Q x.to a' w') → c.wp P Q a w
theorem setV_get : ∀ (xs : List V) (t : Tr V) (i j : Nat), (callF.setV t i xs).get j = if i ≤ j ∧ j < i + xs.length then xs[j - i]? else t.get j
  | [], t, i, j => by
    rw [if_neg (by simp)]; rfl
  | x :: xs, t, i, j => by
    show (callF.setV (t.set i x) (i + 1) xs).get j = _
    rw [setV_get xs (t.set i x) (i + 1) j, Tr.get_set, List.length_cons]
    by_cases h1 : j = i
    · subst h1
      rw [if_neg (by omega), if_pos rfl, if_pos (by omega), Nat.sub_self]; rfl
    · rw [if_neg h1]
      by_cases h2 : i ≤ j ∧ j < i + (xs.length + 1)
      · rw [if_pos (by omega), if_pos h2, show j - i = (j - (i + 1)) + 1 by omega, List.getElem?_cons_succ]
      · rw [if_neg (by omega), if_neg h2]
theorem VsR.length {r : Nm} {xs : List V} {us : List Value} (h : VsR r xs us) : us.length = xs.length := by
  induction h with
  | nil => rfl
  | cons _ _ ih => simp [ih]
theorem VsR.get {r : Nm} {xs : List V} {vs : List Value} (h : VsR r xs vs) : ∀ (i : Nat) (c : V), xs[i]? = some c → ∃ v, vs[i]? = some v ∧ VR r c v := by
  induction h with
  | nil => intro i c h; simp at h
  | cons h t ih =>
    intro i c hc
    cases i with
    | zero => simp at hc; subst hc; exact ⟨_, rfl, h⟩
    | succ i => simpa using ih i c (by simpa using hc)
theorem enter_ok {r : Nm} {xs : List V} {us : List Value} (h : VsR r xs us) {n : Nat} (hn : xs.length ≤ n) : RelA r (callF.setV .nil 0 xs) n { tmps := us.toArray ++ Array.replicate (n - us.toArray.size) undef, defers := [] } := by
  have hl := h.length
  refine ⟨by simp; omega, rfl, fun i v hi => ?_⟩
  rw [setV_get] at hi
  split at hi
  · rename_i hb
    rw [Nat.sub_zero] at hi
    obtain ⟨u, hu, hr⟩ := h.get i v hi
    refine ⟨u, ?_, hr⟩
    rw [Array.getElem?_append_left (by simp; omega)]
    simpa using hu
  · cases hi
def resM (tmps : Array Value) : ResultVar → Sem Value
  | .tmp t => pure (tmps.getD t undef)
  | .cell a t => do loadVar t (← asAddr (tmps.getD a undef))
theorem resE_ok {P : Program} {r : Nm} {N : Nat} {s : St} {a : Act} {w : World} (h : RelS r N s a w) : ∀ (l : List ResultVar) (xs : List Wv), resE P s l = some xs → ∃ vs, WsR r xs vs ∧ (l.mapM (resM a.tmps)).run P w = .ok vs w
  | [], xs, e => by injection e with e; subst e; exact ⟨[], .nil, by simp⟩
  | .tmp t :: l, xs, e => by
    unfold resE at e
    split at e
    · rename_i x xs' h1 h2
      injection e with e
      subst e
      obtain ⟨u, hu, hr⟩ := h.fr.val t _ h1
      obtain ⟨vs, k1, k2⟩ := resE_ok h l xs' h2
      cases hr with | w hr =>
      refine ⟨u :: vs, .cons hr k1, ?_⟩
      have e1 : a.tmps.getD t undef = u := by rw [Array.getD_eq_getD_getElem?, hu]; rfl
      simp only [List.mapM_cons, Sem.run_bind, resM, Sem.run_pure, Result.andThen_ok, k2, e1]
    · cases e
  | .cell t ty :: l, xs, e => by
    unfold resE at e
    split at e
    · rename_i k o xs' h1 h2
      split at e
      · rename_i B hB
        split at e
        · rename_i x hx
          injection e with e
          subst e
          obtain ⟨u, hu, hr⟩ := h.fr.val t _ h1
          obtain ⟨vs, k1, k2⟩ := resE_ok h l xs' h2
          cases hr with | w hr => cases hr with | c hr => cases hr with | p rk =>
          rename_i b sz
          obtain ⟨b', sz', rk', hBR⟩ := h.hp.at_ k B hB
          rw [rk] at rk'
          injection rk' with rk'
          injection rk' with e1 e2
          subst e1 e2
          obtain ⟨z, hz, hrun⟩ := opLoadB_ok (P := P) hBR hx
          refine ⟨z :: vs, .cons hz k1, ?_⟩
          have e1 : a.tmps.getD t undef = ptrOf b o := by rw [Array.getD_eq_getD_getElem?, hu]; rfl
          have e2 : (loadVar ty ⟨b, o, none⟩).run P w = .ok z w := by simpa [Instr.loadAt, ptrOf, Instr.sureAddr] using hrun
          simp only [List.mapM_cons, Sem.run_bind, resM, e1, ptrOf, asAddr, Sem.run_pure, Result.andThen_ok, e2, k2]
        · cases e
      · cases e
    · cases e
theorem results_eq (fn : Func) (tmps : Array Value) : Go.results fn tmps = (do
    let vs ← fn.results.mapM (resM tmps)
    pure (if h : vs.size = 1 then vs[0] else .tuple vs)) := by
  unfold Go.results
  congr 1
theorem resV_ok {r : Nm} {xs : List Wv} {vs : List Value} (h : WsR r xs vs) : VR r (resV xs) (if h : vs.toArray.size = 1 then vs.toArray[0] else .tuple vs.toArray) := by
  cases h with
  | nil => exact .t .nil
  | cons h1 t =>
    cases t with
    | nil => exact .w h1
    | cons h2 t =>
      rw [dif_neg (by simp)]
      exact .t (.cons h1 (.cons h2 t))
theorem callF_ok {P : Program} {R : Nat → Code → St → Option (Ex × St)} (hR : RunS P R) : CallS P (callF P R) := by
  intro f xs H nx v H' nx' h r w us hu hH hf
  unfold callF at h
  split at h
  · rename_i fn hfn
    split at h
    · rename_i c hc
      split at h
      · rename_i hn
        have hA := enter_ok hu hn
        have go : ∀ x s, R fn.ntmps c ⟨callF.setV .nil 0 xs, H, nx⟩ = some (x, s) → (x = .norm ∨ x = .ret) → (∀ l, resE P s fn.results.toList = some l → resV l = v ∧ s.hp = H' ∧ s.nx = nx') → (∃ l, resE P s fn.results.toList = some l) → Calls P f us.toArray w fun e w' => ∃ r' u, e = .returned u ∧ VR r' v u ∧ Mv nx r H w nx' r' H' w' ∧ fresh r' nx' := by
          intro x s hr hx hl ⟨l, hle⟩
          obtain ⟨e1, e2, e3⟩ := hl l hle
          refine calls_of_wp hfn hc ?_
          refine hR _ _ _ _ _ hr r _ w ⟨hA, hH, hf⟩ _ fun r' a' w' hmv hS => ?_
          obtain ⟨vs, k1, k2⟩ := resE_ok (P := P) hS fn.results.toList l hle
          have hres : (Go.results fn a'.tmps).run P w' = .ok (if h : vs.toArray.size = 1 then vs.toArray[0] else .tuple vs.toArray) w' := by
            rw [results_eq, Sem.run_bind, Array.mapM_eq_mapM_toList]
            simp [k2]
          have post : a'.defers = [] ∧ ∃ v', (Go.results fn a'.tmps).run P w' = .ok v' w' ∧ ∃ r' u, Ending.returned v' = .returned u ∧ VR r' v u ∧ Mv nx r H w nx' r' H' w' ∧ fresh r' nx' :=
            ⟨hS.fr.defers, _, hres, r', _, rfl, by rw [← e1]; exact resV_ok k1, by rw [← e2, ← e3]; exact hmv, by rw [← e3]; exact hS.nx⟩
          rcases hx with rfl | rfl <;> exact post
        split at h
        · cases h
        · cases h
        · rename_i x s hnx hng hr
          split at h
          · rename_i l hl
            injection h with h
            injection h with h1 h2
            injection h2 with h2 h3
            refine go x s hr ?_ (fun l' hl' => ?_) ⟨l, hl⟩
            · cases x with
              | norm => exact .inl rfl
              | ret => exact .inr rfl
              | exit id => exact absurd rfl (hnx id)
              | goto l => exact absurd rfl (hng l)
            · rw [hl] at hl'
              injection hl' with hl'
              subst hl'
              exact ⟨h1, h2, h3⟩
          · cases h
        · cases h
      · cases h
    · cases h
  · cases h
theorem run_ok {P : Program} {ext : ExtF} {sp : SpF} {dr : DrawF} (hext : ExtS P ext) (hsp : SpS P sp) (hdr : DrawS P ext dr) : ∀ m, RunS P (run P ext sp dr m) ∧
    ∀ N c s x s', run P ext sp dr m N (.loop c) s = some (x, s') → ∀ r a w, RelS r N s a w → ∀ (Q : Exit → Act → World → Prop), (∀ r' a' w', Mv s.nx r s.hp w s'.nx r' s'.hp w' → RelS r' N s' a' w' → Q x.to a' w') → Code.rounds P c Q m a w := by
  intro m
  induction m with
  | zero => exact ⟨fun N c s x s' h => (by cases h), fun N c s x s' h => (by cases h)⟩
  | succ m ih =>
    obtain ⟨ih, ihl⟩ := ih
    have loop : ∀ N c s x s', run P ext sp dr (m + 1) N (.loop c) s = some (x, s') → ∀ r a w, RelS r N s a w → ∀ (Q : Exit → Act → World → Prop), (∀ r' a' w', Mv s.nx r s.hp w s'.nx r' s'.hp w' → RelS r' N s' a' w' → Q x.to a' w') → Code.rounds P c Q (m + 1) a w := by
      intro N c s x s' h r a w hS Q hQ
      have h' : (match run P ext sp dr m N c s with
        | some (.norm, s') => run P ext sp dr m N (.loop c) s'
        | z => z) = some (x, s') := h
      show c.wp P (Exit.then (Code.rounds P c Q m) Q) a w
      split at h'
      · rename_i s1 h1
        exact ih _ _ _ _ _ h1 r a w hS _ fun r1 a1 w1 m1 k1 => ihl _ _ _ _ _ h' r1 a1 w1 k1 Q fun r2 a2 w2 m2 k2 => hQ r2 a2 w2 (m1.trans m2) k2
      · rename_i z hz
        refine ih _ _ _ _ _ h' r a w hS _ fun r1 a1 w1 m1 k1 => ?_
        have := hQ r1 a1 w1 m1 k1
        cases x with
        | norm => exact absurd h' (hz s')
        | exit id => exact this
        | ret => exact this
        | goto l => exact this
    refine ⟨fun N c s x s' h r a w hS Q hQ => ?_, loop⟩
    cases c with
    | skip => injection h with h; injection h with h1 h2; subst h1 h2; exact wp_skip (hQ r a w (Mv.refl hS.hp) hS)
    | label l => injection h with h; injection h with h1 h2; subst h1 h2; exact wp_label (hQ r a w (Mv.refl hS.hp) hS)
    | ret => injection h with h; injection h with h1 h2; subst h1 h2; exact wp_ret (hQ r a w (Mv.refl hS.hp) hS)
    | goto l => injection h with h; injection h with h1 h2; subst h1 h2; exact wp_goto (hQ r a w (Mv.refl hS.hp) hS)
    | scope c =>
      have hop : ∀ (j : Nat) (x0 : Code) (r : Nm) (a : Act) (w : World) (s : St), RelS r N s a w → hopR (run P ext sp dr m) c N j x0 s = some (x, s') → (∀ r' a' w', Mv s.nx r s.hp w s'.nx r' s'.hp w' → RelS r' N s' a' w' → Q x.to a' w') → hops P c Q j x0 a w := by
        intro j
        induction j with
        | zero => intro x0 r a w s hS h; cases h
        | succ j ihj =>
          intro x0 r a w s hS h hQ
          unfold hopR at h
          split at h
          · rename_i l s1 h1
            split at h
            · rename_i rest hf
              exact ih _ _ _ _ _ h1 r a w hS _ fun r1 a1 w1 m1 k1 => ⟨rest, hf, ihj rest r1 a1 w1 s1 k1 h fun r2 a2 w2 m2 k2 => hQ r2 a2 w2 (m1.trans m2) k2⟩
            · cases h
          · rename_i z hz
            refine ih _ _ _ _ _ h r a w hS _ fun r1 a1 w1 m1 k1 => ?_
            have := hQ r1 a1 w1 m1 k1
            cases x with
            | norm => exact this
            | exit id => exact this
            | ret => exact this
            | goto l => exact absurd h (hz l s')
      exact wp_scope_hops 64 (hop 64 c r a w s hS h hQ)
    | exit id => injection h with h; injection h with h1 h2; subst h1 h2; exact wp_exit (hQ r a w (Mv.refl hS.hp) hS)
    | seq y z =>
      have h' : (match run P ext sp dr m N y s with
        | some (.norm, s') => run P ext sp dr m N z s'
        | u => u) = some (x, s') := h
      refine wp_seq ?_
      split at h'
      · rename_i s1 h1
        exact ih _ _ _ _ _ h1 r a w hS _ fun r1 a1 w1 m1 k1 => ih _ _ _ _ _ h' r1 a1 w1 k1 Q fun r2 a2 w2 m2 k2 => hQ r2 a2 w2 (m1.trans m2) k2
      · rename_i u hu
        refine ih _ _ _ _ _ h' r a w hS _ fun r1 a1 w1 m1 k1 => ?_
        have := hQ r1 a1 w1 m1 k1
        cases x with
        | norm => exact absurd h' (hu s')
        | exit id => exact this
        | ret => exact this
        | goto l => exact this
    | cond y b c =>
      have h' : (match evO s.tm y with
        | some (.w (.c (.b true))) => run P ext sp dr m N b s
        | some (.w (.c (.b false))) => run P ext sp dr m N c s
        | _ => none) = some (x, s') := h
      split at h'
      · rename_i hy
        have hv := evO_ok hS.fr hy
        have e : a.eval y = .bool true := by
          generalize a.eval y = u at hv
          cases hv with | w hv => cases hv with | c hv => cases hv with | b => rfl
        exact wp_cond_true e (ih _ _ _ _ _ h' r a w hS Q hQ)
      · rename_i hy
        have hv := evO_ok hS.fr hy
        have e : a.eval y = .bool false := by
          generalize a.eval y = u at hv
          cases hv with | w hv => cases hv with | c hv => cases hv with | b => rfl
        exact wp_cond_false e (ih _ _ _ _ _ h' r a w hS Q hQ)
      · cases h'
    | block id y =>
      have h' : (match run P ext sp dr m N y s with
        | some (.exit j, s') => if j = id then some (.norm, s') else some (.exit j, s')
        | u => u) = some (x, s') := h
      refine wp_block ?_
      split at h'
      · rename_i j s1 h1
        split at h'
        · rename_i hj
          injection h' with h'
          injection h' with e1 e2
          subst e1 e2
          refine ih _ _ _ _ _ h1 r a w hS _ fun r1 a1 w1 m1 k1 => ?_
          show if j = id then Q .normal a1 w1 else Q (.exit j) a1 w1
          rw [if_pos hj]
          exact hQ r1 a1 w1 m1 k1
        · rename_i hj
          injection h' with h'
          injection h' with e1 e2
          subst e1 e2
          refine ih _ _ _ _ _ h1 r a w hS _ fun r1 a1 w1 m1 k1 => ?_
          show if j = id then Q .normal a1 w1 else Q (.exit j) a1 w1
          rw [if_neg hj]
          exact hQ r1 a1 w1 m1 k1
      · rename_i u hu
        refine ih _ _ _ _ _ h' r a w hS _ fun r1 a1 w1 m1 k1 => ?_
        have := hQ r1 a1 w1 m1 k1
        cases x with
        | norm => exact this
        | exit j => exact absurd h' (hu j s')
        | ret => exact this
        | goto l => exact this
    | loop y => exact wp_loop_rounds (m + 1) (loop N y s x s' h r a w hS Q hQ)
    | region id ops d =>
      cases d with
      | false =>
        have h' : (match runL P ext (callS sp (callF P (run P ext sp dr m))) ops N ops.toList s with
          | some s' => some (.norm, s')
          | none => none) = some (x, s') := h
        split at h'
        · rename_i s1 h1
          injection h' with h'
          injection h' with e1 e2
          subst e1 e2
          exact wp_region_list (runL_ok hext (callS_ok hsp (callF_ok ih)) ops.toList r s s1 a w hS h1 hQ)
        · cases h'
      | true =>
        have h' : (match dr (callS sp (callF P (run P ext sp dr m))) ops N s with
          | some s' => some (.norm, s')
          | none => none) = some (x, s') := h
        split at h'
        · rename_i s1 h1
          injection h' with h'
          injection h' with e1 e2
          subst e1 e2
          exact hdr _ (callS_ok hsp (callF_ok ih)) ops N s s1 h1 r a w hS Q id hQ
        · cases h'
    | _ => cases h
end Go.Proofs.YtagajjilccjplaaGreat
end
