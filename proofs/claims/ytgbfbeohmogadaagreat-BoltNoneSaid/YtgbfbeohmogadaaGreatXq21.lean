/- Running closed code: loads and what is made, in a drawn region. -/
import Derived.Test.YtgbfbeohmogadaaGreatXq20
namespace Go.Proofs.YtgbfbeohmogadaaGreat
open Go.RowKit
set_option linter.unusedVariables false
set_option linter.unusedSectionVars false

section
variable {r : Nm} {n : Nat}
theorem blt_of {k n : Nat} (h : Nat.blt k n = true) : k < n := by simpa [Nat.blt_eq] using h
theorem cut_at {k : Nat} {x : Nat × Nat} (h : r k = some x) (hk : Nat.blt k n = true) : (r.cut n) k = some x := by
  unfold Nm.cut
  rw [if_pos (blt_of hk)]
  exact h
theorem AR.cut {l : List (Nat × Nat)} {us : List Value} (h : AR r l us) : bdAs n l = true → AR (r.cut n) l us := by
  induction h with
  | nil => intro _; exact .nil
  | cons e _ ih =>
    intro hb
    simp only [bdAs, Bool.and_eq_true] at hb
    exact .cons (cut_at e hb.1) (ih hb.2)
theorem CR.cut {c : C} {v : Value} (h : CR r c v) (hb : bdC n c = true) : CR (r.cut n) c v := by
  induction h with
  | b => exact .b _
  | i => exact .i _ _
  | s => exact .s _
  | p0 => exact .p0
  | p e => exact .p (cut_at e hb)
  | l0 => exact .l0 _ _
  | l m c e => exact .l m c (cut_at e hb)
  | u m c es e h1 h2 h3 => exact .u m c es (cut_at e hb) h1 h2 h3
  | f fn ha hc =>
    simp only [bdC, Bool.and_eq_true] at hb
    exact .f fn (ha.cut hb.1) (hc.cut hb.2)
  | nf => exact .nf
  | ni => exact .ni
  | d t _ ih => exact .d t (ih hb)
  | da t _ ih => exact .da t (ih hb)
theorem CsR.cut {cs : List C} {vs : List Value} (h : CsR r cs vs) : bdCs n cs = true → CsR (r.cut n) cs vs := by
  induction h with
  | nil => intro _; exact .nil
  | cons e _ ih =>
    intro hb
    simp only [bdCs, Bool.and_eq_true] at hb
    exact .cons (e.cut hb.1) (ih hb.2)
theorem WR.cut {x : Wv} {v : Value} (h : WR r x v) (hb : bdW n x = true) : WR (r.cut n) x v := by
  cases h with
  | c e => exact .c (e.cut hb)
  | a e => exact .a (e.cut hb)
end
/-- what is known of the loads -/
def StabF (E : Env) (rs : Tr Rec) (efs : List Nat) : Prop := ∀ i o R, E.ops[i]? = some o → rs.get i = some R → R.k = .load →
  ∃ t x k off y, o.op = .load t x ∧ E.ev rs i x = some (.w (.c (.p (some (k, off))))) ∧ R.v = some (.w y) ∧ bdW R.nb y = true ∧ E.stable rs i k off t y efs = true
theorem stableAll_ok {E : Env} {rs : Tr Rec} {efs : List Nat} : ∀ (l : List Oper) (i : Nat), E.stableAll rs efs l i = true → ∀ k o R, l[k]? = some o → rs.get (i + k) = some R → R.k = .load →
    ∃ t x n off y, o.op = .load t x ∧ E.ev rs (i + k) x = some (.w (.c (.p (some (n, off))))) ∧ R.v = some (.w y) ∧ bdW R.nb y = true ∧ E.stable rs (i + k) n off t y efs = true
  | [], i, h, k, o, R, hk, _, _ => by simp at hk
  | o :: l, i, h, k, o', R, hk, hR, hL => by
    unfold Env.stableAll at h
    simp only [Bool.and_eq_true] at h
    cases k with
    | zero =>
      simp at hk
      subst hk
      rw [Nat.add_zero] at hR ⊢
      have h1 := h.1
      rw [hR] at h1
      obtain ⟨v, nb, na, kd⟩ := R
      simp only at hL
      subst hL
      split at h1
      · rename_i y nb' na' heq
        injection heq with heq
        injection heq with q1 q2 q3 q4
        subst q1 q2
        simp only [Bool.and_eq_true] at h1
        obtain ⟨hb, h1⟩ := h1
        split at h1
        · rename_i t x hop
          split at h1
          · rename_i n off hx
            exact ⟨t, x, n, off, y, hop, hx, rfl, hb, h1⟩
          · cases h1
        · cases h1
      · cases h1
      · rename_i _ hne
        exact absurd rfl (hne _ _ _)
    | succ k =>
      have := stableAll_ok l (i + 1) h.2 k o' R (by simpa using hk) (by rw [show i + 1 + k = i + (k + 1) by omega]; exact hR) hL
      rw [show i + (k + 1) = i + 1 + k by omega]
      exact this
theorem stable_at {E : Env} {rs : Tr Rec} {i k off t : Nat} {y : Wv} : ∀ (later eD : List Nat), E.stable rs i k off t y (later ++ eD) = true → (∀ e ∈ later, E.isAnc e i = false) → (∀ e, lastE eD = some e → E.isAnc i e = false) →
    ∃ B, E.find rs (lastE eD) i k i = some B ∧ opLoadB E.P B t off = some y
  | [], [], h, _, _ => by
    simp only [List.append_nil, Env.stable] at h
    split at h
    · rename_i B hB
      split at h
      · rename_i z hz; rw [eqWv_ok h] at hz; exact ⟨B, hB, hz⟩
      · cases h
    · cases h
  | [], e :: eD, h, _, h2 => by
    simp only [List.nil_append, Env.stable, Bool.and_eq_true, Bool.or_eq_true] at h
    rcases h.1 with h1 | h1
    · rw [h2 e rfl] at h1; cases h1
    · split at h1
      · rename_i B hB
        split at h1
        · rename_i z hz; rw [eqWv_ok h1] at hz; exact ⟨B, hB, hz⟩
        · cases h1
      · cases h1
  | e :: later, eD, h, h1, h2 => by
    simp only [List.cons_append, Env.stable, Bool.and_eq_true, Bool.or_eq_true] at h
    rcases h.2 with h3 | h3
    · rw [h1 e (by simp)] at h3; cases h3
    · exact stable_at later eD h3 (fun q hq => h1 q (by simp [hq])) h2
section
variable {E : Env} (h : EnvOk E) {rs : Tr Rec} {efs : List Nat} {nxE : Nat} (F : Fx E E.ops.size rs efs nxE) {r0 : Nm} {w0 : World} {listed : Array Bool} {a : Act} {w : World} {r : Nm} {eD later : List Nat}
  (I : Inv E rs efs r0 w0 listed a w r eD later) {i : Nat} {o : Oper} {R : Rec} (ho : E.ops[i]? = some o) (hR : rs.get i = some R) (hn : ¬ Li listed i) (hed : ∀ e ∈ o.after.toList, Region.binds .any e = true → Li listed e.on)
include h F I ho hR hn hed
/-- a block that a load finds is there -/
theorem find_ok {k : Nat} {B : Bk} : ∀ (q : Nat), E.find rs (lastE eD) i k q = some B → ∃ b sz, r k = some (b, sz) ∧ BR r w B b sz
  | 0, e => by
    unfold Env.find at e
    obtain ⟨b, sz, h1, h2⟩ := I.hp.at_ k B e
    exact ⟨b, sz, cut_le_self _ _ _ _ h1, h2.mono (cut_le_self _ _)⟩
  | q + 1, e => by
    unfold Env.find at e
    split at e
    · rename_i B' hB'
      injection e with e
      subst e
      obtain ⟨b, sz, h1, h2⟩ := I.hp.at_ k _ hB'
      exact ⟨b, sz, cut_le_self _ _ _ _ h1, h2.mono (cut_le_self _ _)⟩
    · split at e
      · rename_i v nb na B' hq
        split at e
        · rename_i hc
          injection e with e
          subst e
          obtain ⟨rfl, ha, hp⟩ := hc
          have hlq := closed_anc h (D := Li listed) I.clo i o ho hed q ha
          obtain ⟨b, sz, h1, h2, _⟩ := I.pend q _ B' hlq hq rfl hp
          exact ⟨b, sz, h1, h2.mono (cut_le_self _ _)⟩
        · exact find_ok q e
      · exact find_ok q e
theorem load_ok (S : StabF E rs efs) (hk : R.k = .load) : ∃ t x u, o.op = .load t x ∧ (∀ v, R.v = some v → VR (r.cut R.na) v u) ∧ (execOp a.eval o).run E.P w = .ok (.value u) w := by
  have hi := (Array.getElem?_eq_some_iff.1 ho).1
  obtain ⟨t, x, k, off, y, hop, hx, hv, hb, hst⟩ := S i o R ho hR hk
  rw [I.efs_eq] at hst
  obtain ⟨B, hB, hy⟩ := stable_at later eD hst (fun e he => by
    cases hc : E.isAnc e i with
    | false => rfl
    | true => exact absurd (closed_anc h (D := Li listed) I.clo i o ho hed e hc) (I.later_out e he)) (fun e he => by
    cases hc : E.isAnc i e with
    | false => rfl
    | true =>
      have hle : Li listed e := I.eD_in e (by cases eD with | nil => cases he | cons q l => injection he with he; subst he; simp)
      have hes : e < E.ops.size := (F.eff e (by rw [I.efs_eq]; refine List.mem_append_right _ ?_; cases eD with | nil => cases he | cons q l => injection he with he; subst he; simp)).1
      have hoe : E.ops[e]? = some E.ops[e] := Array.getElem?_eq_getElem hes
      exact absurd (closed_anc h (D := Li listed) I.clo e _ hoe (I.clo e _ hle hoe) i hc) hn)
  obtain ⟨b, sz, rk, hBR⟩ := find_ok h F I ho hR hn hed i hB
  obtain ⟨u, hu, hrun⟩ := opLoadB_ok (P := E.P) hBR hy
  have hxv := ev_ok h F I ho hR hn hed hx
  have hp : a.eval x = ptrOf b off := by
    generalize a.eval x = z at hxv
    cases hxv with | w hxv => cases hxv with | c hxv => cases hxv with | p rk' =>
      have := cut_le_self _ _ _ _ rk'
      rw [rk] at this; injection this with this; injection this with e1 e2; subst e1; rfl
  obtain ⟨R', q1, q2, q3, q4, q5⟩ := F.all i o hi ho
  rw [hR] at q1
  injection q1 with q1
  subst q1
  refine ⟨t, x, u, hop, fun v hv' => ?_, ?_⟩
  · rw [hv] at hv'
    injection hv' with hv'
    subst hv'
    exact .w ((hu.cut hb).mono (cut_le (Nm.le_refl r) q4))
  · unfold execOp
    rw [hop]
    simp only [Sem.run_bind, hp, hrun, Result.andThen_ok, Sem.run_pure]
end
end Go.Proofs.YtgbfbeohmogadaaGreat
