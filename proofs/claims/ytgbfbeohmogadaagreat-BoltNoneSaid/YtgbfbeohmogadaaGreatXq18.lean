/- Running closed code: what the run of a drawn region tells of each operation. -/
import Derived.Test.YtgbfbeohmogadaaGreatXq17
namespace Go.Proofs.YtgbfbeohmogadaaGreat
open Go.RowKit
set_option linter.unusedVariables false

theorem edgesB_congr {anc bnc : Tr Nat} {i : Nat} (h : ∀ j, j < i → anc.get j = bnc.get j) : ∀ (l : List Edge), edgesB l anc i = edgesB l bnc i
  | [] => rfl
  | e :: l => by
    unfold edgesB
    rw [edgesB_congr h l]
    split
    · rfl
    · split
      · split
        · rename_i hlt; rw [h _ hlt]
        · rfl
      · rfl
theorem ancsB_ok : ∀ (l : List Oper) (i : Nat) (anc bnc : Tr Nat), ancsB l i anc = some bnc → (∀ j, j < i → bnc.get j = anc.get j) ∧ ∀ k o, l[k]? = some o → ∃ a, bnc.get (i + k) = some a ∧ edgesB o.after.toList bnc (i + k) = some a
  | [], i, anc, bnc, h => by
    injection h with h
    subst h
    exact ⟨fun _ _ => rfl, fun k o hk => by simp at hk⟩
  | o :: l, i, anc, bnc, h => by
    unfold ancsB at h
    split at h
    · rename_i a ha
      obtain ⟨h1, h2⟩ := ancsB_ok l (i + 1) _ bnc h
      have h0 : ∀ j, j < i → bnc.get j = anc.get j := fun j hj => by
        rw [h1 j (by omega), Tr.get_set, if_neg (by omega)]
      refine ⟨h0, fun k o' hk => ?_⟩
      cases k with
      | zero =>
        simp at hk
        subst hk
        refine ⟨a, by rw [Nat.add_zero, h1 i (by omega), Tr.get_set, if_pos rfl], ?_⟩
        rw [Nat.add_zero, edgesB_congr h0]
        exact ha
      | succ k =>
        have := h2 k o' (by simpa using hk)
        rw [show i + (k + 1) = i + 1 + k by omega]
        exact this
    · cases h
theorem writersB_ok : ∀ (l : List Oper) (i : Nat) (wr wr' : Tr Nat), writersB l i wr = some wr' → (∀ t j, wr.get t = some j → wr'.get t = some j) ∧ (∀ k o d, l[k]? = some o → o.dst = some d → wr'.get d = some (i + k)) ∧ (∀ t j, wr'.get t = some j → wr.get t = some j ∨ ∃ k o, j = i + k ∧ l[k]? = some o ∧ o.dst = some t)
  | [], i, wr, wr', h => by
    injection h with h
    subst h
    exact ⟨fun _ _ e => e, fun k o d hk => by simp at hk, fun t j e => .inl e⟩
  | o :: l, i, wr, wr', h => by
    unfold writersB at h
    split at h
    · rename_i hd
      obtain ⟨h1, h2, h3⟩ := writersB_ok l (i + 1) wr wr' h
      refine ⟨h1, fun k o' d hk hd' => ?_, fun t j e => ?_⟩
      · cases k with
        | zero => simp at hk; subst hk; rw [hd] at hd'; cases hd'
        | succ k => rw [show i + (k + 1) = i + 1 + k by omega]; exact h2 k o' d (by simpa using hk) hd'
      · rcases h3 t j e with e | ⟨k, o', rfl, hk, hd'⟩
        · exact .inl e
        · exact .inr ⟨k + 1, o', by omega, by simpa using hk, hd'⟩
    · rename_i d hd
      split at h
      · cases h
      · rename_i hn
        obtain ⟨h1, h2, h3⟩ := writersB_ok l (i + 1) _ wr' h
        refine ⟨fun t j e => ?_, fun k o' d' hk hd' => ?_, fun t j e => ?_⟩
        · refine h1 t j ?_
          rw [Tr.get_set]
          split
          · rename_i ht; subst ht; rw [hn] at e; cases e
          · exact e
        · cases k with
          | zero =>
            simp at hk
            subst hk
            rw [hd] at hd'
            injection hd' with hd'
            subst hd'
            rw [Nat.add_zero]
            exact h1 d i (by rw [Tr.get_set, if_pos rfl])
          | succ k => rw [show i + (k + 1) = i + 1 + k by omega]; exact h2 k o' d' (by simpa using hk) hd'
        · rcases h3 t j e with e | ⟨k, o', rfl, hk, hd'⟩
          · rw [Tr.get_set] at e
            split at e
            · rename_i ht
              injection e with e
              subst ht e
              exact .inr ⟨0, o, rfl, rfl, hd⟩
            · exact .inl e
          · exact .inr ⟨k + 1, o', by omega, by simpa using hk, hd'⟩
/-- the region's static tables -/
structure EnvOk (E : Env) : Prop where
  anc : ∀ i o, E.ops[i]? = some o → ∃ a, E.anc.get i = some a ∧ edgesB o.after.toList E.anc i = some a
  wr1 : ∀ (i : Nat) (o : Oper) (d : Nat), E.ops[i]? = some o → o.dst = some d → E.wr.get d = some i
  wr2 : ∀ t j, E.wr.get t = some j → ∃ o, E.ops[j]? = some o ∧ o.dst = some t
  dst : ∀ (i : Nat) (o : Oper) (d : Nat), E.ops[i]? = some o → o.dst = some d → d < E.N
section
variable {E : Env} (h : EnvOk E)
include h
theorem isAnc_def {j i : Nat} (e : E.isAnc j i = true) : i < E.ops.size → ∃ o a, E.ops[i]? = some o ∧ E.anc.get i = some a ∧ edgesB o.after.toList E.anc i = some a ∧ a.testBit j = true := by
  intro hi
  have ho : E.ops[i]? = some E.ops[i] := Array.getElem?_eq_getElem hi
  obtain ⟨a, h1, h2⟩ := h.anc i _ ho
  unfold Env.isAnc at e
  rw [h1] at e
  exact ⟨_, a, ho, h1, h2, e⟩
theorem isAnc_lt : ∀ (i j : Nat), i < E.ops.size → E.isAnc j i = true → j < i := by
  intro i
  induction i using Nat.strongRecOn with
  | _ i ih =>
    intro j hi e
    obtain ⟨o, a, ho, ha, hb, hj⟩ := isAnc_def h e hi
    obtain ⟨ed, _, _, hlt, hx⟩ := edgesB_ok _ _ hb j hj
    rcases hx with rfl | ⟨b, hbb, hbj⟩
    · exact hlt
    · have := ih ed.on hlt j (by omega) (by unfold Env.isAnc; rw [hbb]; exact hbj)
      omega
/-- what is closed under edges is closed under ancestors -/
theorem closed_anc {D : Nat → Prop} (hD : ∀ i o, D i → E.ops[i]? = some o → ∀ e ∈ o.after.toList, Region.binds .any e = true → D e.on) : ∀ (i : Nat) (o : Oper), E.ops[i]? = some o → (∀ e ∈ o.after.toList, Region.binds .any e = true → D e.on) → ∀ j, E.isAnc j i = true → D j := by
  intro i
  induction i using Nat.strongRecOn with
  | _ i ih =>
    intro o ho hi j e
    have hsz := (Array.getElem?_eq_some_iff.1 ho).1
    obtain ⟨o', a, ho', ha, hb, hj⟩ := isAnc_def h e hsz
    rw [ho] at ho'
    injection ho' with ho'
    subst ho'
    obtain ⟨ed, hmem, hbind, hlt, hx⟩ := edgesB_ok _ _ hb j hj
    have hon := hi ed hmem hbind
    rcases hx with rfl | ⟨b, hbb, hbj⟩
    · exact hon
    · have hso : E.ops[ed.on]? = some (E.ops[ed.on]'(by omega)) := Array.getElem?_eq_getElem _
      exact ih ed.on hlt _ hso (fun e he hb => hD ed.on _ hon hso e he hb) j (by unfold Env.isAnc; rw [hbb]; exact hbj)
end
/-- two tables of what was run that say the same below i -/
def Same (i : Nat) (rs rt : Tr Rec) : Prop := ∀ j, j < i → rt.get j = rs.get j
section
variable {E : Env} (h : EnvOk E) {rs rt : Tr Rec} {i : Nat} (hi : i < E.ops.size) (hs : Same i rs rt)
include h hi hs
theorem slot_same (t : Nat) : E.slot rt i t = E.slot rs i t := by
  unfold Env.slot
  split
  · rfl
  · split
    · rename_i ha
      rw [hs _ (isAnc_lt h i _ hi ha)]
    · rfl
theorem ev_same : E.ev rt i = E.ev rs i := by
  funext x
  cases x with
  | tmp t => exact slot_same h hi hs t
  | _ => rfl
theorem want_same (o : Oper) : E.want rt i o = E.want rs i o := by
  unfold Env.want
  split
  · rfl
  · split
    · split
      · rw [slot_same h hi hs]
      · rfl
    · rfl
omit h hi in
theorem after_same {p : Option Nat} (hp : ∀ e, p = some e → e < i) : E.after rt p = E.after rs p := by
  cases p with
  | none => rfl
  | some e => unfold Env.after; simp only [hs e (hp e rfl)]
omit h hi in
theorem merge_same {p : Option Nat} (hp : ∀ e, p = some e → e < i) (k : Nat) : ∀ q, q ≤ i → E.merge rt p k q = E.merge rs p k q
  | 0, _ => after_same hs hp
  | q + 1, hq => by
    unfold Env.merge
    rw [hs q (by omega), merge_same hp k q (by omega)]
omit h hi in
theorem find_same {p : Option Nat} (hp : ∀ e, p = some e → e < i) (m k : Nat) : ∀ q, q ≤ i → E.find rt p m k q = E.find rs p m k q
  | 0, _ => by unfold Env.find; rw [after_same hs hp]
  | q + 1, hq => by
    unfold Env.find
    rw [hs q (by omega), find_same hp m k q (by omega), after_same hs hp]
end
end Go.Proofs.YtgbfbeohmogadaaGreat
