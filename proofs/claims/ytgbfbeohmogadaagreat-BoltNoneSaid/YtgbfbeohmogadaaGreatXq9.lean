/- Running closed code: memory: loads, stores, what is made. -/
import Derived.Test.YtgbfbeohmogadaaGreatXq8
namespace Go.Proofs.YtgbfbeohmogadaaGreat
open Go.RowKit
set_option linter.unusedVariables false

/-! ### Memory that turns -/
theorem RelH.upd {r : Nm} {H : Hp} {w w' : World} (h : RelH r H w) {k : Nat} {B B' : Bk} (hk : H.get k = some B) {b sz : Nat} (rk : r k = some (b, sz)) (hB : BR r w' B' b sz) (ho : ∀ c, c ≠ b → w'.heap[c]? = w.heap[c]?) : RelH r (H.set k B') w' := by
  refine ⟨fun j D hj => ?_, fun i j D E c s t hi hj ri rj => ?_⟩
  · rw [Tr.get_set] at hj
    by_cases e : j = k
    · subst e
      rw [if_pos rfl] at hj
      injection hj with hj
      subst hj
      exact ⟨b, sz, rk, hB⟩
    · rw [if_neg e] at hj
      obtain ⟨c, t, rj, hD⟩ := h.at_ j D hj
      refine ⟨c, t, rj, hD.keep (ho c ?_)⟩
      rintro rfl
      exact e (h.inj j k D B _ _ _ hj hk rj rk)
  · have get : ∀ i D, (H.set k B').get i = some D → ∃ D', H.get i = some D' := fun i D hi => by
      rw [Tr.get_set] at hi
      by_cases e : i = k
      · subst e; exact ⟨B, hk⟩
      · rw [if_neg e] at hi; exact ⟨D, hi⟩
    obtain ⟨D', hi'⟩ := get i D hi
    obtain ⟨E', hj'⟩ := get j E hj
    exact h.inj i j D' E' c s t hi' hj' ri rj
/-- one name more -/
def Nm.add (r : Nm) (k : Nat) (x : Nat × Nat) : Nm := fun j => if j = k then some x else r j
theorem Nm.le_add {r : Nm} {k : Nat} (h : r k = none) (x : Nat × Nat) : r.le (r.add k x) := fun j y e => by
  unfold Nm.add
  split
  · rename_i hj; subst hj; rw [h] at e; cases e
  · exact e
theorem Nm.add_at (r : Nm) (k : Nat) (x : Nat × Nat) : r.add k x k = some x := by unfold Nm.add; rw [if_pos rfl]
theorem RelH.new {r : Nm} {H : Hp} {w w' : World} (h : RelH r H w) {k : Nat} (hk : H.get k = none) (rk : r k = none) {B : Bk} {b sz : Nat} (hb : w.heap.size ≤ b) (hB : BR (r.add k (b, sz)) w' B b sz) (ho : ∀ c, c < w.heap.size → w'.heap[c]? = w.heap[c]?) : RelH (r.add k (b, sz)) (H.set k B) w' := by
  have hle := Nm.le_add rk (b, sz)
  refine ⟨fun j D hj => ?_, fun i j D E c s t hi hj ri rj => ?_⟩
  · rw [Tr.get_set] at hj
    by_cases e : j = k
    · subst e
      rw [if_pos rfl] at hj
      injection hj with hj
      subst hj
      exact ⟨b, sz, Nm.add_at _ _ _, hB⟩
    · rw [if_neg e] at hj
      obtain ⟨c, t, rj, hD⟩ := h.at_ j D hj
      exact ⟨c, t, hle _ _ rj, (hD.keep (ho c hD.lt)).mono hle⟩
  · have low : ∀ i D c s, i ≠ k → (H.set k B).get i = some D → (r.add k (b, sz)) i = some (c, s) → H.get i = some D ∧ r i = some (c, s) ∧ c < w.heap.size := fun i D c s e hi ri => by
      rw [Tr.get_set, if_neg e] at hi
      unfold Nm.add at ri
      rw [if_neg e] at ri
      obtain ⟨c', t', rj, hD⟩ := h.at_ i D hi
      rw [ri] at rj
      injection rj with rj
      injection rj with e1 e2
      subst e1
      exact ⟨hi, ri, hD.lt⟩
    have top : ∀ c s, (r.add k (b, sz)) k = some (c, s) → c = b := fun c s e => by
      rw [Nm.add_at] at e
      injection e with e
      injection e with e _
      exact e.symm
    by_cases ei : i = k
    · by_cases ej : j = k
      · rw [ei, ej]
      · subst ei
        have := top c s ri
        have := (low j E c t ej hj rj).2.2
        omega
    · by_cases ej : j = k
      · subst ej
        have := top c t rj
        have := (low i D c s ei hi ri).2.2
        omega
      · obtain ⟨a1, a2, _⟩ := low i D c s ei hi ri
        obtain ⟨b1, b2, _⟩ := low j E c t ej hj rj
        exact h.inj i j D E c s t a1 b1 a2 b2
/-- a name less -/
theorem RelH.del {r : Nm} {H : Hp} {w : World} (h : RelH r H w) (k : Nat) : RelH r (H.del k) w := by
  have get : ∀ i D, (H.del k).get i = some D → H.get i = some D := fun i D hi => by
    rw [Tr.get_del] at hi
    by_cases e : i = k
    · rw [if_pos e] at hi; cases hi
    · rw [if_neg e] at hi; exact hi
  exact ⟨fun j D hj => h.at_ j D (get j D hj), fun i j D E c s t hi hj => h.inj i j D E c s t (get i D hi) (get j E hj)⟩
theorem RelH.world {r : Nm} {H : Hp} {w w' : World} (h : RelH r H w) (e : w'.heap = w.heap) : RelH r H w' := by
  refine ⟨fun j D hj => ?_, h.inj⟩
  obtain ⟨b, sz, h1, h2⟩ := h.at_ j D hj
  exact ⟨b, sz, h1, h2.keep (by rw [e])⟩
/-! ### Loads -/
def loadN (B : Bk) : Nat → Nat → List C
  | _, 0 => []
  | o, n + 1 => B.cell o :: loadN B (o + 1) n
theorem loadN_get (B : Bk) : ∀ (n o j : Nat), (loadN B o n)[j]? = if j < n then some (B.cell (o + j)) else none
  | 0, o, j => by simp [loadN]
  | n + 1, o, j => by
    cases j with
    | zero => simp [loadN]
    | succ j =>
      simp only [loadN, List.getElem?_cons_succ, loadN_get B n (o + 1) j]
      rw [show o + 1 + j = o + (j + 1) by omega]
      by_cases h : j < n
      · rw [if_pos h, if_pos (by omega)]
      · rw [if_neg h, if_neg (by omega)]
theorem CsR.of_get {r : Nm} : ∀ (cs : List C) (vs : List Value), cs.length = vs.length → (∀ (j : Nat) (c : C) (v : Value), cs[j]? = some c → vs[j]? = some v → CR r c v) → CsR r cs vs
  | [], [], _, _ => .nil
  | [], _ :: _, h, _ => by simp at h
  | _ :: _, [], h, _ => by simp at h
  | c :: cs, v :: vs, h, k => .cons (k 0 c v rfl rfl) (CsR.of_get cs vs (by simpa using h) fun j a b ha hb => k (j + 1) a b (by simpa using ha) (by simpa using hb))
theorem loadN_length (B : Bk) : ∀ (n o : Nat), (loadN B o n).length = n
  | 0, _ => rfl
  | n + 1, o => by simp [loadN, loadN_length B n]
def opLoadB (P : Program) (B : Bk) (t : TypeId) (o : Nat) : Option Wv := match aggB P t, szOf P t with
  | some true, some n => if o + n ≤ B.n then some (.a (loadN B o n)) else none
  | some false, some _ => if o < B.n then some (.c (B.cell o)) else none
  | _, _ => none
theorem opLoadB_ok {P : Program} {r : Nm} {w : World} {B : Bk} {b sz : Nat} (h : BR r w B b sz) {t : TypeId} {o : Nat} {x : Wv} (e : opLoadB P B t o = some x) :
    ∃ u, WR r x u ∧ (Instr.loadAt t (ptrOf b o)).run P w = .ok u w := by
  obtain ⟨cs, hg, hsz, hn, hc⟩ := h.ex
  unfold opLoadB at e
  split at e
  · rename_i n h1 h2
    split at e
    · rename_i hb
      injection e with e
      subst e
      have hl : ((List.range n).map fun j => cs.getD (o + j) undef).length = n := by simp
      have hcell : ∀ j v, ((List.range n).map fun j => cs.getD (o + j) undef)[j]? = some v → w.cell? ((⟨b, o, none⟩ : Addr).add j) = some v := fun j v hv => by
        have hj : j < n := by have := (List.getElem?_eq_some_iff.1 hv).1; rw [hl] at this; exact this
        rw [List.getElem?_map, List.getElem?_range hj] at hv
        injection hv with hv
        subst hv
        rw [add_at, cell_of_row w b (o + j) cs B.e (0, 0) hg]
        simp [Array.getD_eq_getD_getElem?, Array.getElem?_eq_getElem (show o + j < cs.size by omega)]
      refine ⟨_, .a (CsR.of_get _ ((List.range n).map fun j => cs.getD (o + j) undef) (by rw [loadN_length, hl]) fun j c v h3 h4 => ?_), ?_⟩
      · rw [loadN_get] at h3
        split at h3
        · rename_i hj
          injection h3 with h3
          subst h3
          rw [List.getElem?_map, List.getElem?_range hj] at h4
          injection h4 with h4
          subst h4
          obtain ⟨v, hv, hr⟩ := hc (o + j) (by omega)
          show CR r (B.cell (o + j)) (cs.getD (o + j) undef)
          rw [Array.getD_eq_getD_getElem?, hv]
          exact hr
        · cases h3
      · have := run_loadCells_list (P := P) w ⟨b, o, none⟩ _ hcell
        rw [hl] at this
        simp only [Instr.loadAt, ptrOf, Instr.sureAddr, Sem.run_bind, Sem.run_pure, Result.andThen_ok, loadVar, run_aggB h1, run_szOf h2, if_true, this]
    · cases e
  · rename_i n h1 h2
    split at e
    · rename_i hb
      injection e with e
      subst e
      obtain ⟨v, hv, hr⟩ := hc o hb
      refine ⟨v, .c hr, ?_⟩
      have hcell : w.cell? ⟨b, o, none⟩ = some v := by rw [cell_of_row w b o cs B.e (0, 0) hg]; exact hv
      simp only [Instr.loadAt, ptrOf, Instr.sureAddr, Sem.run_bind, Sem.run_pure, Result.andThen_ok, loadVar, run_aggB h1, Bool.false_eq_true, if_false, run_load, hcell]
    · cases e
  · cases e
/-! ### Stores -/
def setN (u : Tr C) : Nat → List C → Tr C
  | _, [] => u
  | o, c :: cs => setN (u.set o c) (o + 1) cs
theorem setN_get : ∀ (cs : List C) (u : Tr C) (o j : Nat), (setN u o cs).get j = if o ≤ j ∧ j < o + cs.length then cs[j - o]? else u.get j
  | [], u, o, j => by
    rw [if_neg (by simp)]; rfl
  | c :: cs, u, o, j => by
    show (setN (u.set o c) (o + 1) cs).get j = _
    rw [setN_get cs (u.set o c) (o + 1) j, Tr.get_set, List.length_cons]
    by_cases h1 : j = o
    · subst h1
      rw [if_neg (by omega), if_pos rfl, if_pos (by omega), Nat.sub_self]; rfl
    · rw [if_neg h1]
      by_cases h2 : o ≤ j ∧ j < o + (cs.length + 1)
      · rw [if_pos (by omega), if_pos h2, show j - o = (j - (o + 1)) + 1 by omega, List.getElem?_cons_succ]
      · rw [if_neg (by omega), if_neg h2]
def Bk.put (B : Bk) (o : Nat) (cs : List C) : Bk := ⟨B.e, B.n, B.d, setN B.u o cs⟩
theorem Bk.put_cell (B : Bk) (o : Nat) (cs : List C) (j : Nat) : (B.put o cs).cell j = if o ≤ j ∧ j < o + cs.length then cs.getD (j - o) .ni else B.cell j := by
  unfold Bk.cell Bk.put
  simp only [setN_get]
  by_cases h : o ≤ j ∧ j < o + cs.length
  · have e := List.getElem?_eq_getElem (show j - o < cs.length by omega)
    rw [if_pos h, if_pos h, e, List.getD_eq_getElem?_getD (l := cs), e]
    rfl
  · rw [if_neg h, if_neg h]
theorem CR.one {r : Nm} {c : C} {v : Value} (h : CR r c v) : v.oneCell' = true := by cases h <;> rfl
theorem CsR.one {r : Nm} {cs : List C} {vs : List Value} (h : CsR r cs vs) : ∀ v ∈ vs, v.oneCell' = true := by
  induction h with
  | nil => intro v hv; cases hv
  | cons h t ih =>
    intro v hv
    cases hv with
    | head => exact h.one
    | tail _ hm => exact ih v hm
theorem setRow_other (w : World) (g : Nat) (cs : Array Value) (c : Nat) (h : c ≠ g) : (w.setRow g cs).heap[c]? = w.heap[c]? := by
  simp [World.setRow, Array.getElem?_modify]
  intro e; exact absurd e.symm h
def opStoreB (P : Program) (B : Bk) (t : TypeId) (o : Nat) (x : Wv) : Option Bk := match szOf P t with
  | some n => if (wcells x).length = n ∧ o + n ≤ B.n then some (B.put o (wcells x)) else none
  | none => none
theorem opStoreB_ok {P : Program} {r : Nm} {w : World} {B B' : Bk} {b sz : Nat} (h : BR r w B b sz) {t : TypeId} {o : Nat} {x : Wv} {v : Value} (hx : WR r x v) (e : opStoreB P B t o x = some B') :
    ∃ cs', (Instr.storeAt t (ptrOf b o) v).run P w = .ok () (w.setRow b cs') ∧ BR r (w.setRow b cs') B' b sz := by
  obtain ⟨cs, hg, hsz, hn, hc⟩ := h.ex
  have hw := wcells_ok hx
  have hl := hw.length
  rw [Array.length_toList] at hl
  unfold opStoreB at e
  split at e
  · rename_i n hs
    split at e
    · rename_i hb
      injection e with e
      subst e
      have hst := run_storeCells_at P b o B.e v.cells.toList 0 cs w hg (by rw [Array.length_toList]; omega) hw.one
      simp only [Nat.add_zero, Array.length_toList] at hst
      refine ⟨(cs.toList.take o ++ v.cells.toList ++ cs.toList.drop (o + v.cells.size)).toArray, ?_, ?_⟩
      · have hvn : v.cells.size = n := by omega
        simp only [Instr.storeAt, ptrOf, Instr.sureAddr, Sem.run_bind, Sem.run_pure, Result.andThen_ok, storeVar, run_szOf hs, hvn, ne_eq, not_true, if_false]
        rw [hvn] at hst
        exact hst
      · refine ⟨_, setRow_heap w b cs _ B.e (0, 0) hg, ?_, hn, fun j hj => ?_⟩
        · simp; omega
        · rw [Bk.put_cell]
          simp only [List.getElem?_toArray, List.append_assoc]
          obtain ⟨u, hu, hr⟩ := hc j hj
          split
          · rename_i hjo
            have h5 : (cs.toList.take o).length = o := by simp; omega
            rw [List.getElem?_append_right (by omega), h5, List.getElem?_append_left (by rw [Array.length_toList]; omega)]
            obtain ⟨y, hy, hyr⟩ := hw.get (j - o) ((wcells x).getD (j - o) .ni) (by rw [List.getD_eq_getElem?_getD, List.getElem?_eq_getElem (show j - o < (wcells x).length by omega)]; rfl)
            exact ⟨y, hy, hyr⟩
          · rename_i hjo
            refine ⟨u, ?_, hr⟩
            by_cases h6 : j < o
            · rw [List.getElem?_append_left (by simp; omega), List.getElem?_take, if_pos h6]; simpa using hu
            · have h5 : (cs.toList.take o).length = o := by simp; omega
              rw [List.getElem?_append_right (by omega), h5, List.getElem?_append_right (by rw [Array.length_toList]; omega), List.getElem?_drop, Array.length_toList]
              rw [show o + v.cells.size + (j - o - v.cells.size) = j by omega]
              simpa using hu
    · cases e
  · cases e
end Go.Proofs.YtgbfbeohmogadaaGreat
