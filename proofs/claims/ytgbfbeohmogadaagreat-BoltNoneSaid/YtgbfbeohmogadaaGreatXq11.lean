/- Running closed code: append. The old slice's name dies; the new slice has a name of its own. -/
import Derived.Test.YtgbfbeohmogadaaGreatXq10
import Derived.Maps.AppendAt
namespace Go.Proofs.YtgbfbeohmogadaaGreat
open Go.RowKit
set_option linter.unusedVariables false

/-- one name more, for a block that no other name has -/
theorem RelH.new2 {r : Nm} {H : Hp} {w w' : World} (h : RelH r H w) {k : Nat} (rk : r k = none) {B : Bk} {b sz : Nat} (hB : BR (r.add k (b, sz)) w' B b sz)
    (ho : ∀ j D c s, H.get j = some D → r j = some (c, s) → c ≠ b ∧ w'.heap[c]? = w.heap[c]?) : RelH (r.add k (b, sz)) (H.set k B) w' := by
  have hle := Nm.le_add rk (b, sz)
  refine ⟨fun j D hj => ?_, fun i j D E c s t hi hj ri rj => ?_⟩
  · rw [Tr.get_set] at hj
    by_cases e : j = k
    · subst e
      rw [if_pos rfl] at hj
      injection hj with hj
      subst hj
      exact ⟨b, sz, Nm.add_at _ _ _, hB⟩
    · rw [if_neg e] at hj
      obtain ⟨c, t, rj, hD⟩ := h.at_ j D hj
      exact ⟨c, t, hle _ _ rj, (hD.keep (ho j D c t hj rj).2).mono hle⟩
  · have low : ∀ i D c s, i ≠ k → (H.set k B).get i = some D → (r.add k (b, sz)) i = some (c, s) → H.get i = some D ∧ r i = some (c, s) := fun i D c s e hi ri => by
      rw [Tr.get_set, if_neg e] at hi
      unfold Nm.add at ri
      rw [if_neg e] at ri
      exact ⟨hi, ri⟩
    have top : ∀ c s, (r.add k (b, sz)) k = some (c, s) → c = b := fun c s e => by
      rw [Nm.add_at] at e
      injection e with e
      injection e with e _
      exact e.symm
    by_cases ei : i = k
    · by_cases ej : j = k
      · rw [ei, ej]
      · subst ei
        have h1 := top c s ri
        obtain ⟨a1, a2⟩ := low j E c t ej hj rj
        exact absurd h1 (ho j E c t a1 a2).1
    · by_cases ej : j = k
      · subst ej
        have h1 := top c t rj
        obtain ⟨a1, a2⟩ := low i D c s ei hi ri
        exact absurd h1 (ho i D c s a1 a2).1
      · obtain ⟨a1, a2⟩ := low i D c s ei hi ri
        obtain ⟨b1, b2⟩ := low j E c t ej hj rj
        exact h.inj i j D E c s t a1 b1 a2 b2
/-- the slice that is appended to: its name, what it reads -/
inductive Base where
  | nil
  | at_ (k : Nat) (B : Bk) (n : Nat)
def baseOf (H : Hp) (sz : Nat) (el : TypeId) : V → Option Base
  | .w (.c (.l none 0 (.k 0))) => some .nil
  | .w (.c (.l (some (k, 0)) n (.u es))) => match H.get k with
    | some B => if es = sz ∧ B.e = el ∧ n * sz ≤ B.n then some (.at_ k B n) else none
    | none => none
  | _ => none
def baseCells (sz : Nat) : Base → List C
  | .nil => []
  | .at_ _ B n => loadN B 0 (n * sz)
def baseLen : Base → Nat
  | .nil => 0
  | .at_ _ _ n => n
def baseDel (H : Hp) : Base → Hp
  | .nil => H
  | .at_ k _ _ => H.del k
/-- what is appended -/
def newsOf (H : Hp) (sz : Nat) : V → Option (Nat × List C)
  | .w (.c (.l (some (k, o)) m _)) => match H.get k with
    | some B => if o + m * sz ≤ B.n then some (m, loadN B o (m * sz)) else none
    | none => none
  | _ => none
def opAppend (P : Program) (H : Hp) (nx : Nat) (ts : Array TypeId) (xs : List V) : Option (V × Hp) := match ts.toList, xs with
  | [t, t2], [x, y] => if t = t2 then match P.underlying t with
    | some (.slice el) => match P.info? el, zeroW P el with
      | some i, some z => match baseOf H i.size el x, newsOf H i.size y with
        | some b, some (m, cs) => if 0 < i.size ∧ (wcells z).length = i.size ∧ i.bytes ≤ 10000 ∧ baseLen b + m ≤ 1000000 ∧ 0 < m then
            some (.w (.c (.l (some (nx, 0)) (baseLen b + m) (.u i.size))), (baseDel H b).set nx (bkL el (baseCells i.size b ++ cs)))
          else none
        | _, _ => none
      | _, _ => none
    | _ => none
    else none
  | _, _ => none
theorem loadN_ok {r : Nm} {w : World} {B : Bk} {b sz : Nat} (h : BR r w B b sz) {o n : Nat} (hn : o + n ≤ B.n) :
    ∃ vs, CsR r (loadN B o n) vs ∧ vs.length = n ∧ ∀ j u, vs[j]? = some u → w.cell? ((⟨b, o, none⟩ : Addr).add j) = some u := by
  obtain ⟨cs, hg, hsz, hn', hc⟩ := h.ex
  have hl : ((List.range n).map fun j => cs.getD (o + j) undef).length = n := by simp
  refine ⟨(List.range n).map fun j => cs.getD (o + j) undef, CsR.of_get _ _ (by rw [loadN_length, hl]) fun j c v h3 h4 => ?_, hl, fun j v hv => ?_⟩
  · rw [loadN_get] at h3
    split at h3
    · rename_i hj
      injection h3 with h3
      subst h3
      rw [List.getElem?_map, List.getElem?_range hj] at h4
      injection h4 with h4
      subst h4
      obtain ⟨v, hv, hr⟩ := hc (o + j) (by omega)
      show CR r (B.cell (o + j)) (cs.getD (o + j) undef)
      rw [Array.getD_eq_getD_getElem?, hv]
      exact hr
    · cases h3
  · have hj : j < n := by have := (List.getElem?_eq_some_iff.1 hv).1; rw [hl] at this; exact this
    rw [List.getElem?_map, List.getElem?_range hj] at hv
    injection hv with hv
    subst hv
    rw [add_at, cell_of_row w b (o + j) cs B.e (0, 0) hg]
    simp [Array.getD_eq_getD_getElem?, Array.getElem?_eq_getElem (show o + j < cs.size by omega)]
/-- what a base is in a world -/
theorem baseOf_ok {r : Nm} {H : Hp} {w : World} (h : RelH r H w) {sz : Nat} {el : TypeId} {x : V} {b : Base} (e : baseOf H sz el x = some b) {u : Value} (hu : VR r x u) :
    ∃ vs, CsR r (baseCells sz b) vs ∧ w.ownsRow 0 el sz u (baseLen b) vs ∧ (∀ g, u.ownBlock = some g → ∃ k B n s, b = .at_ k B n ∧ H.get k = some B ∧ r k = some (g, s)) := by
  unfold baseOf at e
  split at e
  · injection e with e
    subst e
    cases hu with | w hu => cases hu with | c hu => cases hu with | l0 =>
      exact ⟨[], .nil, World.ownsRow_nil _ _ _ _, fun g hg => by cases hg⟩
  · rename_i k n es
    split at e
    · rename_i B hk
      split at e
      · rename_i hc
        obtain ⟨rfl, he, hn⟩ := hc
        injection e with e
        subst e
        cases hu with | w hu => cases hu with | c hu => cases hu with | u n' c es' rk h1 h2 h3 =>
        rename_i g s
        obtain ⟨b, t, rk', hB⟩ := h.at_ k B hk
        rw [rk] at rk'
        injection rk' with rk'
        injection rk' with e1 e2
        subst e1 e2
        obtain ⟨vs, q1, q2, q3⟩ := loadN_ok hB (o := 0) (n := n * es) (by omega)
        refine ⟨vs, q1, ⟨by rw [q2]; rfl, .inr ?_⟩, fun g' hg' => ?_⟩
        · obtain ⟨cs, hg, hsz, hn', hc⟩ := hB.ex
          refine ⟨g, c, cs, rfl, Nat.zero_le _, by rw [← he]; exact hg, h1, h2, by omega, ?_⟩
          refine List.ext_getElem? fun j => ?_
          rw [List.getElem?_take]
          split
          · rename_i hj
            obtain ⟨v, hv⟩ : ∃ v, vs[j]? = some v := ⟨vs[j]'(by rw [q2]; exact hj), List.getElem?_eq_getElem _⟩
            have := q3 j v hv
            rw [add_at, Nat.zero_add, cell_of_row w g j cs B.e (0, 0) hg] at this
            rw [hv]
            simpa using this
          · rename_i hj
            rw [List.getElem?_eq_none (by rw [q2]; show n * es ≤ j; have : ¬ j < n * es := hj; omega)]
        · injection hg' with hg'
          exact ⟨k, B, n, s, rfl, hk, by rw [← hg']; exact rk⟩
      · cases e
    · cases e
  · cases e
theorem newsOf_ok {r : Nm} {H : Hp} {w : World} (h : RelH r H w) {sz m : Nat} {y : V} {cs : List C} (e : newsOf H sz y = some (m, cs)) {u : Value} (hu : VR r y u) :
    ∃ vs a c, u = .slice (some a) m c ∧ CsR r cs vs ∧ vs.length = m * sz ∧ ∀ j v, vs[j]? = some v → w.cell? (a.add j) = some v := by
  unfold newsOf at e
  split at e
  · rename_i k o n cp
    split at e
    · rename_i B hk
      split at e
      · rename_i hb
        injection e with e
        injection e with e1 e2
        subst e1 e2
        obtain ⟨b, t, rk', hB⟩ := h.at_ k B hk
        obtain ⟨vs, q1, q2, q3⟩ := loadN_ok hB hb
        cases hu with | w hu => cases hu with | c hu =>
          cases hu with
          | l n' c' rk =>
            rw [rk'] at rk
            injection rk with rk
            injection rk with e1 e2
            subst e1 e2
            exact ⟨vs, _, _, rfl, q1, q2, q3⟩
          | u n' c' es rk h1 h2 h3 =>
            rw [rk'] at rk
            injection rk with rk
            injection rk with e1 e2
            subst e1 e2
            exact ⟨vs, _, _, rfl, q1, q2, q3⟩
      · cases e
    · cases e
  · cases e
set_option maxHeartbeats 1000000 in
theorem opAppend_ok {P : Program} {r : Nm} {H H' : Hp} {w : World} (h : RelH r H w) {nx : Nat} (hx : ∀ j, nx ≤ j → r j = none) {ts : Array TypeId} {xs : List V} {us : Array Value} {v : V} (hu : VsR r xs us.toList) (e : opAppend P H nx ts xs = some (v, H')) (ty : TypeId) :
    ∃ u w' r', (Builtin.append_ ts ty us).run P w = .ok u w' ∧ (∃ x, r' = r.add nx x) ∧ (∀ j, nx + 1 ≤ j → r' j = none) ∧ VR r' v u ∧ RelH r' H' w' ∧ Fr r H w w' ∧ (∀ k B b s, H'.get k = some B → r' k = some (b, s) → w.heap.size ≤ b ∨ ∃ j D t, H.get j = some D ∧ r j = some (b, t)) := by
  unfold opAppend at e
  split at e
  case h_2 => cases e
  rename_i t t2 x y hts
  split at e
  case isFalse => cases e
  rename_i htt
  subst htt
  split at e
  case h_2 => cases e
  rename_i el ht
  split at e
  case h_2 => cases e
  rename_i i z hi hz
  split at e
  case h_2 => cases e
  rename_i b m cs hb hn
  split at e
  case isFalse => cases e
  rename_i hc
  obtain ⟨c1, c2, c3, c4, c5⟩ := hc
  injection e with e
  injection e with e1 e2
  subst e1 e2
  obtain ⟨us⟩ := us
  simp only at hu
  cases hu with | cons hx1 hr => cases hr with | cons hy1 hr2 => cases hr2 with | nil =>
  rename_i u1 u2
  obtain ⟨ts⟩ := ts
  simp only at hts
  subst hts
  obtain ⟨vs, p1, p2, p3⟩ := baseOf_ok h hb hx1
  obtain ⟨ns, a, c, rfl, q1, q2, q3⟩ := newsOf_ok h hn hy1
  obtain ⟨i', zv, hi', hiz, hzr⟩ := zeroW_ok (r := r) hz
  rw [hi] at hi'
  injection hi' with hi'
  subst hi'
  have hzs : zv.cells.size = i.size := by have := (wcells_ok hzr).length; rw [Array.length_toList] at this; omega
  obtain ⟨v', w', hrun, hown, hgrow, hnil, hat⟩ := run_append_own_at (P := P) w 0 t ty el i zv i.size i.bytes ht hi hiz rfl rfl hzs c1 u1 (baseLen b) vs p2 a m c ns q2 q3 q1.one (by unfold maxLen; omega) (by
    have := Nat.mul_le_mul c4 c3; omega) (Nat.zero_le _)
  have hown2 := hown.2
  rcases hown2 with ⟨_, h0⟩ | ⟨g, cap, cur, rfl, _, hg, hnc, hcm, hcs, htk⟩
  · omega
  refine ⟨_, w', r.add nx (g, cap * i.size), hrun, ⟨_, rfl⟩, fun j hj => ?_, ?_, ?_, ?_, fun k D c s hk rk => ?_⟩
  · unfold Nm.add
    rw [if_neg (by omega)]
    exact hx j (by omega)
  · exact .w (.c (.u _ _ _ (Nm.add_at _ _ _) hnc hcm (by rw [Nat.zero_add])))
  · have hle := Nm.le_add (hx nx (Nat.le_refl _)) (g, cap * i.size)
    have hcells := p1.append q1
    have hlen := hcells.length
    have hB : BR (r.add nx (g, cap * i.size)) w' (bkL el (baseCells i.size b ++ cs)) g (cap * i.size) := by
      refine ⟨cur, hg, hcs, ?_, fun j hj => ?_⟩
      · show (baseCells i.size b ++ cs).length ≤ _
        rw [← hlen, ← htk, ← hcs]
        simp
        exact Nat.min_le_right _ _
      · have hj' : j < (baseCells i.size b ++ cs).length := hj
        obtain ⟨u, hu, hr⟩ := hcells.get j _ (List.getElem?_eq_getElem hj')
        refine ⟨u, ?_, by rw [bkL_cell el _ j hj']; exact hr.mono hle⟩
        rw [← htk, List.getElem?_take] at hu
        split at hu
        · simpa using hu
        · cases hu
    have key : ∀ j D c s, (baseDel H b).get j = some D → r j = some (c, s) → c < w.heap.size ∧ some c ≠ u1.ownBlock := fun j D c s hj rj => by
      have hj' : H.get j = some D := by
        cases b with
        | nil => exact hj
        | at_ k B n =>
          have hj2 : (H.del k).get j = some D := hj
          rw [Tr.get_del] at hj2
          split at hj2
          · cases hj2
          · exact hj2
      obtain ⟨c', s', rj', hD⟩ := h.at_ j D hj'
      rw [rj] at rj'
      injection rj' with rj'
      injection rj' with e1 e2
      subst e1 e2
      refine ⟨hD.lt, fun e => ?_⟩
      obtain ⟨k, B, n, s', rfl, hk, rk⟩ := p3 c e.symm
      have hjk : j ≠ k := by
        rintro rfl
        have hj2 : (H.del j).get j = some D := hj
        rw [Tr.get_del, if_pos rfl] at hj2
        cases hj2
      exact hjk (h.inj j k D B c _ _ hj' hk rj rk)
    refine RelH.new2 (w := w) (b := g) (sz := cap * i.size) (H := baseDel H b) ?_ (hx nx (Nat.le_refl _)) hB fun j D c s hj rj => ?_
    · cases b with
      | nil => exact h
      | at_ k B n => exact h.del k
    · obtain ⟨hlt, hne⟩ := key j D c s hj rj
      refine ⟨?_, hgrow.block c hlt hne⟩
      rintro rfl
      rcases hat with hat | hat
      · exact hne hat
      · injection hat with hat; exact absurd hat (Nat.ne_of_lt hlt)
  · exact ⟨hgrow.os, hgrow.tape, hgrow.output, hgrow.size, fun c hc hno => hgrow.block c hc fun e => by
      obtain ⟨k, B, n, s', _, hk, rk⟩ := p3 c e.symm
      exact hno k B s' hk rk⟩
  · unfold Nm.add at rk
    split at rk
    · injection rk with rk
      injection rk with e1 _
      subst e1
      rcases hat with hat | hat
      · obtain ⟨k, B, n, s', _, hk, rk⟩ := p3 g hat.symm
        exact .inr ⟨k, B, s', hk, rk⟩
      · injection hat with hat; exact .inl (by rw [← hat]; exact Nat.le_refl _)
    · rename_i hne
      rw [Tr.get_set, if_neg hne] at hk
      have hk' : H.get k = some D := by
        cases b with
        | nil => exact hk
        | at_ k' B n =>
          have hk2 : (H.del k').get k = some D := hk
          rw [Tr.get_del] at hk2
          split at hk2
          · cases hk2
          · exact hk2
      exact .inr ⟨k, D, s, hk', rk⟩
end Go.Proofs.YtgbfbeohmogadaaGreat
