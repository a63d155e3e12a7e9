/- Running closed code: what a run comes to is what the program does. -/
import Derived.Test.YtgbfbeohmogadaaGreatXq14
namespace Go.Proofs.YtgbfbeohmogadaaGreat
open Go.RowKit
set_option linter.unusedVariables false

def RunS (P : Program) (R : Nat → Code → St → Option (Ex × St)) : Prop := ∀ N c s x s', R N c s = some (x, s') → ∀ r a w, RelS r N s a w → ∀ (Q : Exit → Act → World → Prop),
  (∀ r' a' w', Mv s.nx r s.hp w s'.nx r' s'.hp w' → RelS r' N s' a' w' → Q x.to a' w') → c.wp P Q a w
theorem setV_get : ∀ (xs : List V) (t : Tr V) (i j : Nat), (callF.setV t i xs).get j = if i ≤ j ∧ j < i + xs.length then xs[j - i]? else t.get j
  | [], t, i, j => by
    rw [if_neg (by simp)]; rfl
  | x :: xs, t, i, j => by
    show (callF.setV (t.set i x) (i + 1) xs).get j = _
    rw [setV_get xs (t.set i x) (i + 1) j, Tr.get_set, List.length_cons]
    by_cases h1 : j = i
    · subst h1
      rw [if_neg (by omega), if_pos rfl, if_pos (by omega), Nat.sub_self]; rfl
    · rw [if_neg h1]
      by_cases h2 : i ≤ j ∧ j < i + (xs.length + 1)
      · rw [if_pos (by omega), if_pos h2, show j - i = (j - (i + 1)) + 1 by omega, List.getElem?_cons_succ]
      · rw [if_neg (by omega), if_neg h2]
theorem VsR.length {r : Nm} {xs : List V} {us : List Value} (h : VsR r xs us) : us.length = xs.length := by
  induction h with
  | nil => rfl
  | cons _ _ ih => simp [ih]
theorem VsR.get {r : Nm} {xs : List V} {vs : List Value} (h : VsR r xs vs) : ∀ (i : Nat) (c : V), xs[i]? = some c → ∃ v, vs[i]? = some v ∧ VR r c v := by
  induction h with
  | nil => intro i c h; simp at h
  | cons h t ih =>
    intro i c hc
    cases i with
    | zero => simp at hc; subst hc; exact ⟨_, rfl, h⟩
    | succ i => simpa using ih i c (by simpa using hc)
theorem enter_ok {r : Nm} {xs : List V} {us : List Value} (h : VsR r xs us) {n : Nat} (hn : xs.length ≤ n) : RelA r (callF.setV .nil 0 xs) n { tmps := us.toArray ++ Array.replicate (n - us.toArray.size) undef, defers := [] } := by
  have hl := h.length
  refine ⟨by simp; omega, rfl, fun i v hi => ?_⟩
  rw [setV_get] at hi
  split at hi
  · rename_i hb
    rw [Nat.sub_zero] at hi
    obtain ⟨u, hu, hr⟩ := h.get i v hi
    refine ⟨u, ?_, hr⟩
    rw [Array.getElem?_append_left (by simp; omega)]
    simpa using hu
  · cases hi
def resM (tmps : Array Value) : ResultVar → Sem Value
  | .tmp t => pure (tmps.getD t undef)
  | .cell a t => do loadVar t (← asAddr (tmps.getD a undef))
theorem resE_ok {P : Program} {r : Nm} {N : Nat} {s : St} {a : Act} {w : World} (h : RelS r N s a w) : ∀ (l : List ResultVar) (xs : List Wv), resE P s l = some xs → ∃ vs, WsR r xs vs ∧ (l.mapM (resM a.tmps)).run P w = .ok vs w
  | [], xs, e => by injection e with e; subst e; exact ⟨[], .nil, by simp⟩
  | .tmp t :: l, xs, e => by
    unfold resE at e
    split at e
    · rename_i x xs' h1 h2
      injection e with e
      subst e
      obtain ⟨u, hu, hr⟩ := h.fr.val t _ h1
      obtain ⟨vs, k1, k2⟩ := resE_ok h l xs' h2
      cases hr with | w hr =>
      refine ⟨u :: vs, .cons hr k1, ?_⟩
      have e1 : a.tmps.getD t undef = u := by rw [Array.getD_eq_getD_getElem?, hu]; rfl
      simp only [List.mapM_cons, Sem.run_bind, resM, Sem.run_pure, Result.andThen_ok, k2, e1]
    · cases e
  | .cell t ty :: l, xs, e => by
    unfold resE at e
    split at e
    · rename_i k o xs' h1 h2
      split at e
      · rename_i B hB
        split at e
        · rename_i x hx
          injection e with e
          subst e
          obtain ⟨u, hu, hr⟩ := h.fr.val t _ h1
          obtain ⟨vs, k1, k2⟩ := resE_ok h l xs' h2
          cases hr with | w hr => cases hr with | c hr => cases hr with | p rk =>
          rename_i b sz
          obtain ⟨b', sz', rk', hBR⟩ := h.hp.at_ k B hB
          rw [rk] at rk'
          injection rk' with rk'
          injection rk' with e1 e2
          subst e1 e2
          obtain ⟨z, hz, hrun⟩ := opLoadB_ok (P := P) hBR hx
          refine ⟨z :: vs, .cons hz k1, ?_⟩
          have e1 : a.tmps.getD t undef = ptrOf b o := by rw [Array.getD_eq_getD_getElem?, hu]; rfl
          have e2 : (loadVar ty ⟨b, o, none⟩).run P w = .ok z w := by simpa [Instr.loadAt, ptrOf, Instr.sureAddr] using hrun
          simp only [List.mapM_cons, Sem.run_bind, resM, e1, ptrOf, asAddr, Sem.run_pure, Result.andThen_ok, e2, k2]
        · cases e
      · cases e
    · cases e
theorem results_eq (fn : Func) (tmps : Array Value) : Go.results fn tmps = (do
    let vs ← fn.results.mapM (resM tmps)
    pure (if h : vs.size = 1 then vs[0] else .tuple vs)) := by
  unfold Go.results
  congr 1
theorem resV_ok {r : Nm} {xs : List Wv} {vs : List Value} (h : WsR r xs vs) : VR r (resV xs) (if h : vs.toArray.size = 1 then vs.toArray[0] else .tuple vs.toArray) := by
  cases h with
  | nil => exact .t .nil
  | cons h1 t =>
    cases t with
    | nil => exact .w h1
    | cons h2 t =>
      rw [dif_neg (by simp)]
      exact .t (.cons h1 (.cons h2 t))
theorem callF_ok {P : Program} {R : Nat → Code → St → Option (Ex × St)} (hR : RunS P R) : CallS P (callF P R) := by
  intro f xs H nx v H' nx' h r w us hu hH hf
  unfold callF at h
  split at h
  · rename_i fn hfn
    split at h
    · rename_i c hc
      split at h
      · rename_i hn
        have hA := enter_ok hu hn
        have go : ∀ x s, R fn.ntmps c ⟨callF.setV .nil 0 xs, H, nx⟩ = some (x, s) → (x = .norm ∨ x = .ret) → (∀ l, resE P s fn.results.toList = some l → resV l = v ∧ s.hp = H' ∧ s.nx = nx') → (∃ l, resE P s fn.results.toList = some l) → Calls P f us.toArray w fun e w' => ∃ r' u, e = .returned u ∧ VR r' v u ∧ Mv nx r H w nx' r' H' w' ∧ fresh r' nx' := by
          intro x s hr hx hl ⟨l, hle⟩
          obtain ⟨e1, e2, e3⟩ := hl l hle
          refine calls_of_wp hfn hc ?_
          refine hR _ _ _ _ _ hr r _ w ⟨hA, hH, hf⟩ _ fun r' a' w' hmv hS => ?_
          obtain ⟨vs, k1, k2⟩ := resE_ok (P := P) hS fn.results.toList l hle
          have hres : (Go.results fn a'.tmps).run P w' = .ok (if h : vs.toArray.size = 1 then vs.toArray[0] else .tuple vs.toArray) w' := by
            rw [results_eq, Sem.run_bind, Array.mapM_eq_mapM_toList]
            simp [k2]
          have post : a'.defers = [] ∧ ∃ v', (Go.results fn a'.tmps).run P w' = .ok v' w' ∧ ∃ r' u, Ending.returned v' = .returned u ∧ VR r' v u ∧ Mv nx r H w nx' r' H' w' ∧ fresh r' nx' :=
            ⟨hS.fr.defers, _, hres, r', _, rfl, by rw [← e1]; exact resV_ok k1, by rw [← e2, ← e3]; exact hmv, by rw [← e3]; exact hS.nx⟩
          rcases hx with rfl | rfl <;> exact post
        split at h
        · cases h
        · cases h
        · rename_i x s hnx hng hr
          split at h
          · rename_i l hl
            injection h with h
            injection h with h1 h2
            injection h2 with h2 h3
            refine go x s hr ?_ (fun l' hl' => ?_) ⟨l, hl⟩
            · cases x with
              | norm => exact .inl rfl
              | ret => exact .inr rfl
              | exit id => exact absurd rfl (hnx id)
              | goto l => exact absurd rfl (hng l)
            · rw [hl] at hl'
              injection hl' with hl'
              subst hl'
              exact ⟨h1, h2, h3⟩
          · cases h
        · cases h
      · cases h
    · cases h
  · cases h
theorem run_ok {P : Program} {ext : ExtF} {sp : SpF} {dr : DrawF} (hext : ExtS P ext) (hsp : SpS P sp) (hdr : DrawS P ext dr) : ∀ m, RunS P (run P ext sp dr m) ∧
    ∀ N c s x s', run P ext sp dr m N (.loop c) s = some (x, s') → ∀ r a w, RelS r N s a w → ∀ (Q : Exit → Act → World → Prop), (∀ r' a' w', Mv s.nx r s.hp w s'.nx r' s'.hp w' → RelS r' N s' a' w' → Q x.to a' w') → Code.rounds P c Q m a w := by
  intro m
  induction m with
  | zero => exact ⟨fun N c s x s' h => (by cases h), fun N c s x s' h => (by cases h)⟩
  | succ m ih =>
    obtain ⟨ih, ihl⟩ := ih
    have loop : ∀ N c s x s', run P ext sp dr (m + 1) N (.loop c) s = some (x, s') → ∀ r a w, RelS r N s a w → ∀ (Q : Exit → Act → World → Prop), (∀ r' a' w', Mv s.nx r s.hp w s'.nx r' s'.hp w' → RelS r' N s' a' w' → Q x.to a' w') → Code.rounds P c Q (m + 1) a w := by
      intro N c s x s' h r a w hS Q hQ
      have h' : (match run P ext sp dr m N c s with
        | some (.norm, s') => run P ext sp dr m N (.loop c) s'
        | z => z) = some (x, s') := h
      show c.wp P (Exit.then (Code.rounds P c Q m) Q) a w
      split at h'
      · rename_i s1 h1
        exact ih _ _ _ _ _ h1 r a w hS _ fun r1 a1 w1 m1 k1 => ihl _ _ _ _ _ h' r1 a1 w1 k1 Q fun r2 a2 w2 m2 k2 => hQ r2 a2 w2 (m1.trans m2) k2
      · rename_i z hz
        refine ih _ _ _ _ _ h' r a w hS _ fun r1 a1 w1 m1 k1 => ?_
        have := hQ r1 a1 w1 m1 k1
        cases x with
        | norm => exact absurd h' (hz s')
        | exit id => exact this
        | ret => exact this
        | goto l => exact this
    refine ⟨fun N c s x s' h r a w hS Q hQ => ?_, loop⟩
    cases c with
    | skip => injection h with h; injection h with h1 h2; subst h1 h2; exact wp_skip (hQ r a w (Mv.refl hS.hp) hS)
    | label l => injection h with h; injection h with h1 h2; subst h1 h2; exact wp_label (hQ r a w (Mv.refl hS.hp) hS)
    | ret => injection h with h; injection h with h1 h2; subst h1 h2; exact wp_ret (hQ r a w (Mv.refl hS.hp) hS)
    | goto l => injection h with h; injection h with h1 h2; subst h1 h2; exact wp_goto (hQ r a w (Mv.refl hS.hp) hS)
    | scope c =>
      have hop : ∀ (j : Nat) (x0 : Code) (r : Nm) (a : Act) (w : World) (s : St), RelS r N s a w → hopR (run P ext sp dr m) c N j x0 s = some (x, s') → (∀ r' a' w', Mv s.nx r s.hp w s'.nx r' s'.hp w' → RelS r' N s' a' w' → Q x.to a' w') → hops P c Q j x0 a w := by
        intro j
        induction j with
        | zero => intro x0 r a w s hS h; cases h
        | succ j ihj =>
          intro x0 r a w s hS h hQ
          unfold hopR at h
          split at h
          · rename_i l s1 h1
            split at h
            · rename_i rest hf
              exact ih _ _ _ _ _ h1 r a w hS _ fun r1 a1 w1 m1 k1 => ⟨rest, hf, ihj rest r1 a1 w1 s1 k1 h fun r2 a2 w2 m2 k2 => hQ r2 a2 w2 (m1.trans m2) k2⟩
            · cases h
          · rename_i z hz
            refine ih _ _ _ _ _ h r a w hS _ fun r1 a1 w1 m1 k1 => ?_
            have := hQ r1 a1 w1 m1 k1
            cases x with
            | norm => exact this
            | exit id => exact this
            | ret => exact this
            | goto l => exact absurd h (hz l s')
      exact wp_scope_hops 64 (hop 64 c r a w s hS h hQ)
    | exit id => injection h with h; injection h with h1 h2; subst h1 h2; exact wp_exit (hQ r a w (Mv.refl hS.hp) hS)
    | seq y z =>
      have h' : (match run P ext sp dr m N y s with
        | some (.norm, s') => run P ext sp dr m N z s'
        | u => u) = some (x, s') := h
      refine wp_seq ?_
      split at h'
      · rename_i s1 h1
        exact ih _ _ _ _ _ h1 r a w hS _ fun r1 a1 w1 m1 k1 => ih _ _ _ _ _ h' r1 a1 w1 k1 Q fun r2 a2 w2 m2 k2 => hQ r2 a2 w2 (m1.trans m2) k2
      · rename_i u hu
        refine ih _ _ _ _ _ h' r a w hS _ fun r1 a1 w1 m1 k1 => ?_
        have := hQ r1 a1 w1 m1 k1
        cases x with
        | norm => exact absurd h' (hu s')
        | exit id => exact this
        | ret => exact this
        | goto l => exact this
    | cond y b c =>
      have h' : (match evO s.tm y with
        | some (.w (.c (.b true))) => run P ext sp dr m N b s
        | some (.w (.c (.b false))) => run P ext sp dr m N c s
        | _ => none) = some (x, s') := h
      split at h'
      · rename_i hy
        have hv := evO_ok hS.fr hy
        have e : a.eval y = .bool true := by
          generalize a.eval y = u at hv
          cases hv with | w hv => cases hv with | c hv => cases hv with | b => rfl
        exact wp_cond_true e (ih _ _ _ _ _ h' r a w hS Q hQ)
      · rename_i hy
        have hv := evO_ok hS.fr hy
        have e : a.eval y = .bool false := by
          generalize a.eval y = u at hv
          cases hv with | w hv => cases hv with | c hv => cases hv with | b => rfl
        exact wp_cond_false e (ih _ _ _ _ _ h' r a w hS Q hQ)
      · cases h'
    | block id y =>
      have h' : (match run P ext sp dr m N y s with
        | some (.exit j, s') => if j = id then some (.norm, s') else some (.exit j, s')
        | u => u) = some (x, s') := h
      refine wp_block ?_
      split at h'
      · rename_i j s1 h1
        split at h'
        · rename_i hj
          injection h' with h'
          injection h' with e1 e2
          subst e1 e2
          refine ih _ _ _ _ _ h1 r a w hS _ fun r1 a1 w1 m1 k1 => ?_
          show if j = id then Q .normal a1 w1 else Q (.exit j) a1 w1
          rw [if_pos hj]
          exact hQ r1 a1 w1 m1 k1
        · rename_i hj
          injection h' with h'
          injection h' with e1 e2
          subst e1 e2
          refine ih _ _ _ _ _ h1 r a w hS _ fun r1 a1 w1 m1 k1 => ?_
          show if j = id then Q .normal a1 w1 else Q (.exit j) a1 w1
          rw [if_neg hj]
          exact hQ r1 a1 w1 m1 k1
      · rename_i u hu
        refine ih _ _ _ _ _ h' r a w hS _ fun r1 a1 w1 m1 k1 => ?_
        have := hQ r1 a1 w1 m1 k1
        cases x with
        | norm => exact this
        | exit j => exact absurd h' (hu j s')
        | ret => exact this
        | goto l => exact this
    | loop y => exact wp_loop_rounds (m + 1) (loop N y s x s' h r a w hS Q hQ)
    | region id ops d =>
      cases d with
      | false =>
        have h' : (match runL P ext (callS sp (callF P (run P ext sp dr m))) ops N ops.toList s with
          | some s' => some (.norm, s')
          | none => none) = some (x, s') := h
        split at h'
        · rename_i s1 h1
          injection h' with h'
          injection h' with e1 e2
          subst e1 e2
          exact wp_region_list (runL_ok hext (callS_ok hsp (callF_ok ih)) ops.toList r s s1 a w hS h1 hQ)
        · cases h'
      | true =>
        have h' : (match dr (callS sp (callF P (run P ext sp dr m))) ops N s with
          | some s' => some (.norm, s')
          | none => none) = some (x, s') := h
        split at h'
        · rename_i s1 h1
          injection h' with h'
          injection h' with e1 e2
          subst e1 e2
          exact hdr _ (callS_ok hsp (callF_ok ih)) ops N s s1 h1 r a w hS Q id hQ
        · cases h'
    | _ => cases h
/-- no region that draws its order is run -/
def noDraw : DrawF := fun _ _ _ _ => none
theorem noDraw_ok (P : Program) (ext : ExtF) : DrawS P ext noDraw := fun _ _ _ _ _ _ h => by cases h
def noExt : ExtF := fun _ _ _ => none
theorem noExt_ok (P : Program) : ExtS P noExt := fun _ _ _ _ _ h => by cases h
/-- a function without arguments, run from nothing -/
def noSp : SpF := fun _ _ _ _ _ => none
theorem noSp_ok (P : Program) : SpS P noSp := fun _ _ _ _ _ _ _ _ _ h => by cases h
def awakes (P : Program) (ext : ExtF) (sp : SpF) (dr : DrawF) (m : Nat) (f : FuncId) : Bool := match callF P (run P ext sp dr m) f [] .nil 0 with
  | some (.w (.c (.b true)), _, _) => true
  | _ => false
theorem awakes_ok {P : Program} {ext : ExtF} {sp : SpF} {dr : DrawF} (hext : ExtS P ext) (hsp : SpS P sp) (hdr : DrawS P ext dr) {m : Nat} {f : FuncId} (h : awakes P ext sp dr m f = true) (w : World) :
    Calls P f #[] w fun e w' => e = .returned (.bool true) ∧ Below w.heap.size w w' := by
  unfold awakes at h
  split at h
  · rename_i H' nx' hc
    have hr0 : RelH (fun _ => none) .nil w := ⟨fun k B hk => (by cases hk), fun k j B D b s t hk => (by cases hk)⟩
    refine (callF_ok (run_ok hext hsp hdr m).1 f [] .nil 0 _ _ _ hc (fun _ => none) w [] .nil hr0 (fun _ _ => rfl)).mono fun e w' ⟨r', u, he, hv, hmv, _⟩ => ?_
    cases hv with | w hv => cases hv with | c hv => cases hv with | b =>
    exact ⟨he, ⟨hmv.os, hmv.tape, hmv.output, hmv.size, fun b hb => hmv.block b hb fun k B s hk => by cases hk⟩⟩
  · cases h
end Go.Proofs.YtgbfbeohmogadaaGreat
