/- Running closed code: regions that draw their order. -/
import Derived.Test.YtgbfbeohmogadaaGreatXq23
namespace Go.Proofs.YtgbfbeohmogadaaGreat
open Go.RowKit
set_option linter.unusedVariables false
set_option linter.unusedSectionVars false

theorem fresh_cut (r : Nm) (n : Nat) : fresh (r.cut n) n := fun j hj => by unfold Nm.cut; rw [if_neg (by omega)]
section
variable {E : Env} (h : EnvOk E) {rs : Tr Rec} {efs : List Nat} {nxE : Nat} (F : Fx E E.ops.size rs efs nxE) {r0 : Nm} {w0 : World}
include h F
/-- one operation, whichever comes up -/
theorem any_step (hext : ExtS E.P E.ext) (hcall : CallS E.P E.call) (S : StabF E rs efs) {listed : Array Bool} {a : Act} {w : World} {r : Nm} {eD later : List Nat}
    (I : Inv E rs efs r0 w0 listed a w r eD later) {i : Nat} {o : Oper} (ho : E.ops[i]? = some o) (hn : ¬ Li listed i) (hed : ∀ e ∈ o.after.toList, Region.binds .any e = true → Li listed e.on) {K : Act → World → Prop} {Q : Exit → Act → World → Prop}
    (hK : ∀ a' w' r' eD' later', Inv E rs efs r0 w0 (listed.setIfInBounds i true) a' w' r' eD' later' → K a' w') : wpOp E.P E.ops Q i K a w := by
  have hi := (Array.getElem?_eq_some_iff.1 ho).1
  obtain ⟨R, hR, hf, q3, q4, q5⟩ := F.all i o hi ho
  have he := fun x v (e : E.ev rs i x = some v) => ev_ok h F I ho hR hn hed e
  unfold wpOp
  rw [ho]
  simp only
  have hf2 := hf
  unfold OpF at hf2
  split at hf2
  · rename_i hk
    rw [if_neg (by rw [want_ok h F I ho hR hn hed hf2.1]; exact Bool.false_ne_true)]
    exact hK _ _ _ _ _ (Inv.quiet h F I ho hR hn hed (fun B e => by rw [hk] at e; cases e) (fun B e => by rw [hk] at e; cases e) undef (fun v hv => by rw [hf2.2.1] at hv; injection hv with hv; subst hv; exact .t .nil))
  · rename_i hk
    obtain ⟨hw, v, hv, hp, hna⟩ := hf2
    rw [if_pos (want_ok h F I ho hR hn hed hw)]
    left
    obtain ⟨u, hu, hrun⟩ := opPure_ok (P := E.P) he hp
    unfold Oper.wp
    rw [hrun w]
    exact hK _ _ _ _ _ (Inv.quiet h F I ho hR hn hed (fun B e => by rw [hk] at e; cases e) (fun B e => by rw [hk] at e; cases e) u (fun v' hv' => by
      rw [hv] at hv'; injection hv' with hv'; subst hv'; rw [hna]; exact hu))
  · rename_i hk
    rw [if_pos (want_ok h F I ho hR hn hed hf2.1)]
    left
    obtain ⟨t, x, u, hop, hu, hrun⟩ := load_ok h F I ho hR hn hed S hk
    unfold Oper.wp
    rw [hrun]
    exact hK _ _ _ _ _ (Inv.quiet h F I ho hR hn hed (fun B e => by rw [hk] at e; cases e) (fun B e => by rw [hk] at e; cases e) u hu)
  · rename_i B hk
    obtain ⟨hw, m, hm, hv, hna⟩ := hf2
    rw [if_pos (want_ok h F I ho hR hn hed hw)]
    left
    obtain ⟨cs, hrun, hB, hmd⟩ := opAlloc_ok he hm w
    unfold Oper.wp
    rw [hrun]
    have hnone : r R.nb = none := nb_fresh h F I ho hR hn hed (by omega) R.nb (Nat.le_refl _) (by omega)
    refine hK _ _ _ _ _ (Inv.make h F I ho hR hn hed hk hna hB _ fun v' hv' => ?_)
    rw [hv] at hv'
    injection hv' with hv'
    subst hv'
    have hat : ((r.add R.nb (w.heap.size, cs.size)).cut R.na) R.nb = some (w.heap.size, cs.size) := cut_at (Nm.add_at _ _ _) (by simp [Nat.blt_eq]; omega)
    exact .w (.c (madeC_ok hat m hmd))
  · rename_i ha hk
    obtain ⟨⟨later', hlat⟩, hch, hm⟩ := eff_rest h F I ho hR hn hed hk
    rw [if_pos (want_ok h F I ho hR hn hed hf2.1)]
    left
    refine opMem_ok hext hcall he (merge_ok h F I ho hR hn hed hch) (fresh_cut r R.nb) hm K Q fun u w' ⟨s, hmv, hfr, hv⟩ => ?_
    refine hK _ _ _ _ _ (Inv.eff h F I ho hR hn hed hk hlat hch hmv hfr _ fun v' hv' => ?_)
    rcases hv with ⟨e1, _⟩ | ⟨x, y, e1, e2, hxy⟩
    · rw [e1] at hv'; cases hv'
    · rw [e1] at hv'; injection hv' with hv'; subst hv' e2; exact hxy
end
/-! ### Counting -/
def unl (listed : Array Bool) : Nat → Nat
  | 0 => 0
  | n + 1 => unl listed n + (if listed.getD n false = true then 0 else 1)
theorem unl_set {listed : Array Bool} {i : Nat} (hi : i < listed.size) (hn : ¬ Li listed i) : ∀ n, (n ≤ i → unl (listed.setIfInBounds i true) n = unl listed n) ∧ (i < n → unl (listed.setIfInBounds i true) n + 1 = unl listed n)
  | 0 => ⟨fun _ => rfl, fun h => by omega⟩
  | n + 1 => by
    obtain ⟨h1, h2⟩ := unl_set hi hn n
    have key : n ≠ i → (listed.setIfInBounds i true).getD n false = listed.getD n false := fun e => getD_set_ne false (Ne.symm e)
    refine ⟨fun h => ?_, fun h => ?_⟩
    · unfold unl
      rw [h1 (by omega), key (by omega)]
    · by_cases e : n = i
      · subst e
        unfold unl
        have e1 : (listed.setIfInBounds n true).getD n false = true := (Li_set hi n).2 (.inl rfl)
        have e2 : ¬ listed.getD n false = true := hn
        rw [h1 (Nat.le_refl _), if_pos e1, if_neg e2]
      · unfold unl
        rw [key e, ← h2 (by omega)]
        omega
theorem unl_zero {listed : Array Bool} : ∀ {n : Nat}, unl listed n = 0 → ∀ j, j < n → Li listed j
  | 0, _, j, hj => by omega
  | n + 1, h, j, hj => by
    unfold unl at h
    by_cases e : j = n
    · subst e
      by_cases hl : listed.getD j false = true
      · exact hl
      · rw [if_neg hl] at h; omega
    · exact unl_zero (n := n) (by omega) j (by omega)
theorem unl_le {listed : Array Bool} : ∀ n, unl listed n ≤ n
  | 0 => Nat.le_refl _
  | n + 1 => by
    have := unl_le (listed := listed) n
    unfold unl
    split <;> omega
section
variable {E : Env} (h : EnvOk E) {rs : Tr Rec} {efs : List Nat} {nxE : Nat} (F : Fx E E.ops.size rs efs nxE) {r0 : Nm} {w0 : World}
include h F
omit F in
theorem none_ready {listed : Array Bool} (hsz : listed.size = E.ops.size) (hr : Region.ready .any E.ops listed = []) : ∀ j, j < E.ops.size → Li listed j := by
  intro j
  induction j using Nat.strongRecOn with
  | _ j ih =>
    intro hj
    have ho : E.ops[j]? = some E.ops[j] := Array.getElem?_eq_getElem hj
    obtain ⟨a, h1, h2⟩ := h.anc j _ ho
    cases hl : listed.getD j true with
    | true =>
      have hjs : j < listed.size := by omega
      unfold Li
      simp [hjs] at hl ⊢
      exact hl
    | false =>
      have : j ∈ Region.ready .any E.ops listed := mem_ready.2 ⟨hl, _, ho, fun e he hb => by
        have hm := edgesB_sup _ _ h2 e (by simpa using he) hb
        have hanc : E.isAnc e.on j = true := by unfold Env.isAnc; rw [h1]; exact hm.1
        have hlt := isAnc_lt h j _ hj hanc
        exact ih e.on hlt (by omega)⟩
      rw [hr] at this
      cases this
theorem any_ok (hext : ExtS E.P E.ext) (hcall : CallS E.P E.call) (S : StabF E rs efs) {Q : Exit → Act → World → Prop}
    (hQ : ∀ listed a w r eD later, Inv E rs efs r0 w0 listed a w r eD later → (∀ j, j < E.ops.size → Li listed j) → Q .normal a w) :
    ∀ (fuel : Nat) (listed : Array Bool) (a : Act) (w : World) (r : Nm) (eD later : List Nat), Inv E rs efs r0 w0 listed a w r eD later → unl listed E.ops.size ≤ fuel → wpAny E.P .any E.ops Q fuel listed a w
  | 0, listed, a, w, r, eD, later, I, hu => by
    have hall := unl_zero (by omega : unl listed E.ops.size = 0)
    refine ⟨?_, hQ _ _ _ _ _ _ I hall⟩
    refine List.eq_nil_iff_forall_not_mem.2 fun j hj => ?_
    obtain ⟨h0, o, ho, _⟩ := mem_ready.1 hj
    have hjo := (Array.getElem?_eq_some_iff.1 ho).1
    have := hall j hjo
    have hjs : j < listed.size := by rw [I.size]; exact hjo
    unfold Li at this
    simp [hjs] at this h0
    rw [this] at h0
    cases h0
  | fuel + 1, listed, a, w, r, eD, later, I, hu => by
    refine ⟨fun hr => hQ _ _ _ _ _ _ I (none_ready h I.size hr), fun i hi => ?_⟩
    obtain ⟨h0, o, ho, hall⟩ := mem_ready.1 hi
    have hio := (Array.getElem?_eq_some_iff.1 ho).1
    have his : i < listed.size := by rw [I.size]; exact hio
    have hn : ¬ Li listed i := fun hl => by
      unfold Li at hl
      simp [his] at hl h0
      rw [hl] at h0
      cases h0
    refine any_step h F hext hcall S I ho hn (fun e he hb => hall e (by simpa using he) hb) fun a' w' r' eD' later' I' => ?_
    refine any_ok hext hcall S hQ fuel _ a' w' r' eD' later' I' ?_
    have := (unl_set his hn E.ops.size).2 hio
    omega
end
end Go.Proofs.YtgbfbeohmogadaaGreat
