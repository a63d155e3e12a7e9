/- Running closed code: how memory moves; one operation. -/
import Derived.Test.YtgbfbeohmogadaaGreatXq11
import Derived.Laws.CopyRow
namespace Go.Proofs.YtgbfbeohmogadaaGreat
open Go.RowKit
set_option linter.unusedVariables false

/-- from one memory by names to another -/
structure Mv (nx : Nat) (r : Nm) (H : Hp) (w : World) (nx' : Nat) (r' : Nm) (H' : Hp) (w' : World) : Prop where
  le : r.le r'
  nle : nx ≤ nx'
  low : ∀ k, k < nx → r' k = r k
  rel : RelH r' H' w'
  os : w'.os = w.os
  tape : w'.tape = w.tape
  output : w'.output = w.output
  size : w.heap.size ≤ w'.heap.size
  block : ∀ b, b < w.heap.size → (∀ k B s, H.get k = some B → r k ≠ some (b, s)) → w'.heap[b]? = w.heap[b]?
  own : ∀ k B b s, H'.get k = some B → r' k = some (b, s) → w.heap.size ≤ b ∨ ∃ j D t, H.get j = some D ∧ r j = some (b, t)
theorem Mv.refl {nx : Nat} {r : Nm} {H : Hp} {w : World} (h : RelH r H w) : Mv nx r H w nx r H w := ⟨Nm.le_refl _, Nat.le_refl _, fun _ _ => rfl, h, rfl, rfl, rfl, Nat.le_refl _, fun _ _ _ => rfl, fun k B b s hk rk => .inr ⟨k, B, s, hk, rk⟩⟩
theorem Mv.trans {nx nx' nx'' : Nat} {r r' r'' : Nm} {H H' H'' : Hp} {w w' w'' : World} (h : Mv nx r H w nx' r' H' w') (k : Mv nx' r' H' w' nx'' r'' H'' w'') : Mv nx r H w nx'' r'' H'' w'' := by
  refine ⟨Nm.le_trans h.le k.le, Nat.le_trans h.nle k.nle, fun j hj => (k.low j (Nat.lt_of_lt_of_le hj h.nle)).trans (h.low j hj), k.rel, k.os.trans h.os, k.tape.trans h.tape, k.output.trans h.output, Nat.le_trans h.size k.size, fun b hb hno => ?_, fun i B b s hi ri => ?_⟩
  · refine (k.block b (Nat.lt_of_lt_of_le hb h.size) fun j D t hj rj => ?_).trans (h.block b hb hno)
    rcases h.own j D b t hj rj with e | ⟨j', D', t', a1, a2⟩
    · omega
    · exact hno j' D' t' a1 a2
  · rcases k.own i B b s hi ri with e | ⟨j, D, t, hj, rj⟩
    · exact .inl (Nat.le_trans h.size e)
    · exact h.own j D b t hj rj
theorem Mv.drew {nx nx' : Nat} {r r' : Nm} {H H' : Hp} {w w' : World} (h : Mv nx r H w nx' r' H' w') : Mv nx r H w nx' r' H' w'.drew :=
  ⟨h.le, h.nle, h.low, h.rel.world rfl, h.os, h.tape, h.output, h.size, h.block, h.own⟩
theorem Mv.from_drew {nx nx' : Nat} {r r' : Nm} {H H' : Hp} {w w' : World} (h : Mv nx r H w.drew nx' r' H' w') : Mv nx r H w nx' r' H' w' :=
  ⟨h.le, h.nle, h.low, h.rel, h.os, h.tape, h.output, h.size, h.block, h.own⟩
theorem add_low {r : Nm} {k nx : Nat} (h : k < nx) (x : Nat × Nat) : r.add nx x k = r k := by unfold Nm.add; rw [if_neg (Nat.ne_of_lt h)]
def fresh (r : Nm) (nx : Nat) : Prop := ∀ j, nx ≤ j → r j = none
theorem mv_new {r : Nm} {H : Hp} {w : World} (h : RelH r H w) {nx : Nat} (hf : fresh r nx) {cs : Array Value} {e : TypeId} {B : Bk} (hB : BR r (w.alloc (.cells cs e)) B w.heap.size cs.size) :
    Mv nx r H w (nx + 1) (r.add nx (w.heap.size, cs.size)) (H.set nx B) (w.alloc (.cells cs e)) ∧ fresh (r.add nx (w.heap.size, cs.size)) (nx + 1) := by
  have hn := hf nx (Nat.le_refl _)
  refine ⟨⟨Nm.le_add hn _, Nat.le_succ _, fun k hk => add_low hk _, ?_, rfl, rfl, rfl, by simp, fun b hb _ => heap_alloc_old w _ hb, fun k D b s hk rk => ?_⟩, fun j hj => ?_⟩
  · refine RelH.new2 (w := w) h hn (hB.mono (Nm.le_add hn _)) fun j D c s hj rj => ?_
    obtain ⟨c', s', rj', hD⟩ := h.at_ j D hj
    rw [rj] at rj'
    injection rj' with rj'
    injection rj' with e1 e2
    subst e1 e2
    have := hD.lt
    exact ⟨by omega, heap_alloc_old w _ hD.lt⟩
  · unfold Nm.add at rk
    split at rk
    · injection rk with rk
      injection rk with e1 _
      exact .inl (by omega)
    · rename_i hne
      rw [Tr.get_set, if_neg hne] at hk
      exact .inr ⟨k, D, s, hk, rk⟩
  · unfold Nm.add
    rw [if_neg (by omega)]
    exact hf j (by omega)
theorem mv_row {nx : Nat} {r : Nm} {H : Hp} {w : World} (h : RelH r H w) {k : Nat} {B B' : Bk} (hk : H.get k = some B) {b sz : Nat} (rk : r k = some (b, sz)) {cs : Array Value} (hB : BR r (w.setRow b cs) B' b sz) : Mv nx r H w nx r (H.set k B') (w.setRow b cs) := by
  refine ⟨Nm.le_refl _, Nat.le_refl _, fun _ _ => rfl, h.upd hk rk hB (fun c hc => setRow_other w b cs c hc), rfl, rfl, rfl, by simp [World.setRow], fun c hc hno => ?_, fun j D c s hj rj => ?_⟩
  · refine setRow_other w b cs c ?_
    rintro rfl
    exact hno k B sz hk rk
  · rw [Tr.get_set] at hj
    by_cases e : j = k
    · subst e; exact .inr ⟨j, B, s, hk, rj⟩
    · rw [if_neg e] at hj; exact .inr ⟨j, D, s, hj, rj⟩
theorem opAppend_mv {P : Program} {r : Nm} {H H' : Hp} {w : World} (h : RelH r H w) {nx : Nat} (hx : fresh r nx) {ts : Array TypeId} {xs : List V} {us : Array Value} {v : V} (hu : VsR r xs us.toList) (e : opAppend P H nx ts xs = some (v, H')) (ty : TypeId) :
    ∃ u w' r', (Builtin.append_ ts ty us).run P w = .ok u w' ∧ Mv nx r H w (nx + 1) r' H' w' ∧ fresh r' (nx + 1) ∧ VR r' v u := by
  obtain ⟨u, w', r', h1, ⟨x, rfl⟩, h3, h4, h5, h6, h7⟩ := opAppend_ok h hx hu e ty
  exact ⟨u, w', _, h1, ⟨Nm.le_add (hx nx (Nat.le_refl _)) x, Nat.le_succ _, fun k hk => add_low hk _, h5, h6.os, h6.tape, h6.output, h6.size, h6.block, h7⟩, h3, h4⟩
/-- copy of as many cells as there is room for, of a type of one cell -/
def opCopy (P : Program) (H : Hp) (ts : Array TypeId) (xs : List V) : Option (V × Hp) := match ts.toList, xs with
  | [t, _], [.w (.c (.l (some (k, o)) n _)), y] => match P.underlying t with
    | some (.slice el) => if (P.info? el).map (·.size) = some 1 then match H.get k, newsOf H 1 y with
      | some B, some (m, cs) => if m = n ∧ o + m ≤ B.n ∧ cs.length = m then some (.w (.c (.i .i64 m)), H.set k (B.put o cs)) else none
      | _, _ => none
      else none
    | _ => none
  | _, _ => none
theorem opCopy_mv {P : Program} {r : Nm} {H H' : Hp} {w : World} (h : RelH r H w) {nx : Nat} {ts : Array TypeId} {xs : List V} {us : Array Value} {v : V} (hu : VsR r xs us.toList) (e : opCopy P H ts xs = some (v, H')) (ty : TypeId) :
    ∃ u w', (Builtin.copy_ ts ty us).run P w = .ok u w' ∧ Mv nx r H w nx r H' w' ∧ VR r v u := by
  unfold opCopy at e
  split at e
  case h_2 => cases e
  rename_i t t2 k o n cp y hts
  split at e
  case h_2 => cases e
  rename_i el ht
  split at e
  case isFalse => cases e
  rename_i hsz
  split at e
  case h_2 => cases e
  rename_i B m cs hk hn
  split at e
  case isFalse => cases e
  rename_i hc
  obtain ⟨rfl, hfit, hlen⟩ := hc
  injection e with e
  injection e with e1 e2
  subst e1 e2
  obtain ⟨us⟩ := us
  simp only at hu
  cases hu with | cons hx1 hr => cases hr with | cons hy1 hr2 => cases hr2 with | nil =>
  rename_i u1 u2
  obtain ⟨ts⟩ := ts
  simp only at hts
  subst hts
  obtain ⟨vs, a, c, rfl, q1, q2, q3⟩ := newsOf_ok h hn hy1
  obtain ⟨b, sz, rk, hB⟩ := h.at_ k B hk
  have hdst : ∃ c1, u1 = .slice (some ⟨b, o, none⟩) m c1 := by
    cases hx1 with | w hx1 => cases hx1 with | c hx1 =>
      cases hx1 with
      | l n' c' rk' =>
        rw [rk] at rk'; injection rk' with rk'; injection rk' with e1 e2; subst e1
        exact ⟨_, rfl⟩
      | u n' c' es rk' h1 h2 h3 =>
        rw [rk] at rk'; injection rk' with rk'; injection rk' with e1 e2; subst e1
        exact ⟨_, rfl⟩
  obtain ⟨c1, rfl⟩ := hdst
  obtain ⟨cur, hg, hcs, hbn, hcell⟩ := hB.ex
  have hvl : vs.length = m := by omega
  have hrun := run_copy_row P w t t2 ty el b o m c1 a m c cur B.e vs ht hsz hg (by rw [hvl]; simp) q3 (by omega) q1.one
  have hB' : BR r (w.setRow b (cur.toList.take o ++ vs ++ cur.toList.drop (o + vs.length)).toArray) (B.put o cs) b sz := by
    refine ⟨_, setRow_heap w b cur _ B.e (0, 0) hg, ?_, hbn, fun j hj => ?_⟩
    · simp; omega
    · rw [Bk.put_cell]
      simp only [List.getElem?_toArray, List.append_assoc]
      obtain ⟨u, hu, hr⟩ := hcell j hj
      have h5 : (cur.toList.take o).length = o := by simp; omega
      split
      · rename_i hjo
        rw [List.getElem?_append_right (by omega), h5, List.getElem?_append_left (by omega)]
        obtain ⟨y, hy, hyr⟩ := q1.get (j - o) (cs.getD (j - o) .ni) (by rw [List.getD_eq_getElem?_getD, List.getElem?_eq_getElem (show j - o < cs.length by omega)]; rfl)
        exact ⟨y, hy, hyr⟩
      · rename_i hjo
        refine ⟨u, ?_, hr⟩
        by_cases h6 : j < o
        · rw [List.getElem?_append_left (by omega), List.getElem?_take, if_pos h6]; simpa using hu
        · rw [List.getElem?_append_right (by omega), h5, List.getElem?_append_right (by omega), List.getElem?_drop]
          rw [show o + vs.length + (j - o - vs.length) = j by omega]
          simpa using hu
  refine ⟨_, _, hrun, mv_row h hk rk hB', ?_⟩
  rw [hvl]
  exact .w (.c (.i _ _))
end Go.Proofs.YtgbfbeohmogadaaGreat
