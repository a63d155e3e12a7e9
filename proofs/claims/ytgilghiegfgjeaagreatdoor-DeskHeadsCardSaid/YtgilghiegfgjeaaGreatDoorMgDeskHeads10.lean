/- Joined: Xq14, Xq15, Xq16, Xq17, Xq18, Xq19. -/
import Derived.LoopN
import Derived.ScopeJumps
import Derived.Orders
import Derived.Test.YtgilghiegfgjeaaGreatDoorMgDeskHeads9
section
set_option linter.unusedVariables false
set_option linter.unusedSimpArgs false
/- Running closed code: regions in their order, code, calls. -/
namespace Go.Proofs.YtgilghiegfgjeaaGreatDoor
open Go.RowKit
set_option linter.unusedVariables false

def wantS (ops : Array Oper) (tm : Tr V) (o : Oper) : Option Bool := match o.guard with
  | none => some true
  | some (j, want) => match ops[j]? with
    | some q => match q.dst with
      | some t => match tm.get t with
        | some (.w (.c (.b b))) => some (b == want)
        | some (.t []) => some false
        | _ => none
      | none => none
    | none => none
theorem wantS_ok {r : Nm} {tm : Tr V} {n : Nat} {a : Act} (h : RelA r tm n a) {ops : Array Oper} {o : Oper} {b : Bool} (e : wantS ops tm o = some b) : Region.wanted o (yielded ops a.tmps) = b := by
  unfold wantS at e
  unfold Region.wanted
  split at e
  · rename_i hg; rw [hg]; injection e
  · rename_i j want hg
    rw [hg]
    simp only
    split at e
    · rename_i q hq
      split at e
      · rename_i t ht
        split at e
        · rename_i c hc
          injection e with e
          subst e
          obtain ⟨u, h1, h2⟩ := h.val t _ hc
          cases h2 with | w h2 => cases h2 with | c h2 => cases h2 with | b =>
          have : yielded ops a.tmps j = some c := by
            unfold yielded
            rw [hq]
            simp [ht, h1]
          rw [this]
          cases c <;> cases want <;> rfl
        · rename_i hc
          injection e with e
          subst e
          obtain ⟨u, h1, h2⟩ := h.val t _ hc
          cases h2 with | t h2 => cases h2 with | nil =>
          have : yielded ops a.tmps j = none := by
            unfold yielded
            rw [hq]
            simp [ht, h1]
          rw [this]
          cases want <;> rfl
        · cases e
      · cases e
    · cases e
/-- a frame and a memory -/
structure RelS (r : Nm) (N : Nat) (s : St) (a : Act) (w : World) : Prop where
  fr : RelA r s.tm N a
  hp : RelH r s.hp w
  nx : fresh r s.nx
def stepR (P : Program) (ext : ExtF) (call : CallF) (ops : Array Oper) (N : Nat) (o : Oper) (s : St) : Option St := match wantS ops s.tm o with
  | none => none
  | some false => match putD N o.dst (.t []) s.tm with
    | some tm => some ⟨tm, s.hp, s.nx⟩
    | none => none
  | some true => match opPure P (evO s.tm) o.op with
    | some v => match putD N o.dst v s.tm with
      | some tm => some ⟨tm, s.hp, s.nx⟩
      | none => none
    | none => match opMem P ext call (evO s.tm) s.hp s.nx o.op with
      | some (v, H', nx') => match putO N o.dst v s.tm with
        | some tm => some ⟨tm, H', nx'⟩
        | none => none
      | none => none
def runL (P : Program) (ext : ExtF) (call : CallF) (ops : Array Oper) (N : Nat) : List Oper → St → Option St
  | [], s => some s
  | o :: l, s => match stepR P ext call ops N o s with
    | some s' => runL P ext call ops N l s'
    | none => none
theorem RelA.putD {r : Nm} {tm tm' : Tr V} {N : Nat} {a : Act} (h : RelA r tm N a) {dst : Option Nat} {v : V} {u : Value} (hv : VR r v u) (e : Go.Proofs.YtgilghiegfgjeaaGreatDoor.putD N dst v tm = some tm') : RelA r tm' N (a.put dst u) := by
  unfold Go.Proofs.YtgilghiegfgjeaaGreatDoor.putD at e
  split at e
  · injection e with e; subst e; exact h
  · split at e
    · rename_i hd; injection e with e; subst e; exact h.put hd hv
    · cases e
theorem RelA.loseD {r : Nm} {tm : Tr V} {N : Nat} {a : Act} (h : RelA r tm N a) (dst : Option Nat) (u : Value) : RelA r (Go.Proofs.YtgilghiegfgjeaaGreatDoor.loseD dst tm) N (a.put dst u) := by
  cases dst with
  | none => exact h
  | some d => exact h.lose d u
section
variable {P : Program} {ext : ExtF} {call : CallF} (hext : ExtS P ext) (hcall : CallS P call)
include hext hcall
/-- one operation -/
theorem stepR_ok {r : Nm} {N : Nat} {ops : Array Oper} {o : Oper} {s s' : St} {a : Act} {w : World} (h : RelS r N s a w) (e : stepR P ext call ops N o s = some s') {K : Act → World → Prop} {Q : Exit → Act → World → Prop}
    (hK : ∀ r' a' w', Mv s.nx r s.hp w s'.nx r' s'.hp w' → RelS r' N s' a' w' → K a' w') :
    if Region.wanted o (yielded ops a.tmps) then o.wp P a w K Q ∨ (o.asks P a w ∧ LetsOut Q) else K (a.put o.dst undef) w := by
  have he := fun x v (e : evO s.tm x = some v) => evO_ok h.fr e
  unfold stepR at e
  split at e
  · cases e
  · rename_i hw
    rw [if_neg (by rw [wantS_ok h.fr hw]; exact Bool.false_ne_true)]
    split at e
    · rename_i tm htm
      injection e with e
      subst e
      exact hK r _ w (Mv.refl h.hp) ⟨h.fr.putD (.t .nil) htm, h.hp, h.nx⟩
    · cases e
  · rename_i hw
    rw [if_pos (wantS_ok h.fr hw)]
    left
    split at e
    · rename_i v hv
      split at e
      · rename_i tm htm
        injection e with e
        subst e
        obtain ⟨u, hu, hrun⟩ := opPure_ok (P := P) he hv
        unfold Oper.wp
        rw [hrun w]
        exact hK r _ w (Mv.refl h.hp) ⟨h.fr.putD hu htm, h.hp, h.nx⟩
      · cases e
    · split at e
      · rename_i v H' nx' hm
        split at e
        · rename_i tm htm
          injection e with e
          subst e
          refine opMem_ok hext hcall he h.hp h.nx hm K Q fun u w' ⟨r', hmv, hfr, hv⟩ => ?_
          refine hK r' _ w' hmv ⟨?_, hmv.rel, hfr⟩
          rcases hv with ⟨rfl, rfl⟩ | ⟨x, y, rfl, rfl, hxy⟩
          · injection htm with htm
            subst htm
            exact (h.fr.mono hmv.le).loseD _ _
          · exact (h.fr.mono hmv.le).putD hxy htm
        · cases e
      · cases e
theorem runL_ok {N : Nat} {ops : Array Oper} {Q : Exit → Act → World → Prop} : ∀ (l : List Oper) (r : Nm) (s s' : St) (a : Act) (w : World), RelS r N s a w → runL P ext call ops N l s = some s' →
    (∀ r' a' w', Mv s.nx r s.hp w s'.nx r' s'.hp w' → RelS r' N s' a' w' → Q .normal a' w') → wpList P ops Q l a w
  | [], r, s, s', a, w, h, e, hQ => by
    injection e with e
    subst e
    exact hQ r a w (Mv.refl h.hp) h
  | o :: l, r, s, s', a, w, h, e, hQ => by
    unfold runL at e
    split at e
    · rename_i s1 h1
      exact stepR_ok hext hcall h h1 fun r1 a1 w1 m1 k1 => runL_ok l r1 s1 s' a1 w1 k1 e fun r2 a2 w2 m2 k2 => hQ r2 a2 w2 (m1.trans m2) k2
    · cases e
end
/-! ### Code -/
/-- a scope's code, with at most so many jumps -/
def hops (P : Program) (c : Code) (Q : Exit → Act → World → Prop) : Nat → Code → Act → World → Prop
  | 0, _, _, _ => False
  | m + 1, x, a, w => x.wp P (fun e a w => match e with
    | .goto l => ∃ rest, findLabel c l = some rest ∧ hops P c Q m rest a w
    | e => Q e a w) a w
theorem wp_scope_hops {P : Program} {c : Code} {Q : Exit → Act → World → Prop} {a : Act} {w : World} (m : Nat) (h : hops P c Q m c a w) : (Code.scope c).wp P Q a w := by
  intro b k cs
  have key : ∀ m x a w, hops P c Q m x a w → ∃ e a' w', Q e a' w' ∧ Arrives P (lone (b.at a (.code x :: .inScope c :: k)) cs w) b k cs e a' w' := by
    intro m
    induction m with
    | zero => intro x a w h; exact h.elim
    | succ m ih =>
      intro x a w h
      obtain ⟨e, a₁, w₁, hq, harr⟩ := h b (.inScope c :: k) cs
      cases e with
      | normal => exact ⟨.normal, a₁, w₁, hq, Steps.trans harr (.one step_inScope)⟩
      | exit id => exact ⟨.exit id, a₁, w₁, hq, fun k' hk => harr k' (by simp [exitTo, hk])⟩
      | goto l =>
        obtain ⟨rest, hf, hJ⟩ := hq
        have hg : gotoIn l (.inScope c :: k) = some (.code rest :: .inScope c :: k) := by simp [gotoIn, hf]
        obtain ⟨e₂, a₂, w₂, hq₂, harr₂⟩ := ih rest a₁ w₁ hJ
        exact ⟨e₂, a₂, w₂, hq₂, .of_steps (harr _ hg) harr₂⟩
      | ret => exact ⟨_, a₁, w₁, hq, harr⟩
      | panic ch => exact ⟨_, a₁, w₁, hq, harr⟩
      | outgrown => exact ⟨_, a₁, w₁, hq, harr⟩
  obtain ⟨e, a', w', hq, harr⟩ := key m c a w h
  exact ⟨e, a', w', hq, .of_steps (.one step_scope) harr⟩
/-- calls that are known otherwise: they come first -/
abbrev SpF := CallF → CallF
def SpS (P : Program) (sp : SpF) : Prop := ∀ call, CallS P call → CallS P (sp call)
def callS (sp : SpF) (c : CallF) : CallF := fun f xs H nx => match sp c f xs H nx with
  | some z => some z
  | none => c f xs H nx
theorem callS_ok {P : Program} {sp : SpF} (hsp : SpS P sp) {c : CallF} (hc : CallS P c) : CallS P (callS sp c) := by
  intro f xs H nx v H' nx' h r w us hu hH hf
  unfold callS at h
  split at h
  · rename_i z hz
    injection h with h
    subst h
    exact hsp c hc f xs H nx v H' nx' hz r w us hu hH hf
  · exact hc f xs H nx v H' nx' h r w us hu hH hf
inductive Ex where
  | norm
  | exit (id : Nat)
  | ret
  | goto (l : Nat)
def Ex.to : Ex → Exit
  | .norm => .normal
  | .exit id => .exit id
  | .ret => .ret
  | .goto l => .goto l
/-- how a region that draws its order is run (nothing: it is not) -/
abbrev DrawF := CallF → Array Oper → Nat → St → Option St
def DrawS (P : Program) (ext : ExtF) (dr : DrawF) : Prop := ∀ call, CallS P call → ∀ ops N s s', dr call ops N s = some s' → ∀ r a w, RelS r N s a w → ∀ (Q : Exit → Act → World → Prop) id,
  (∀ r' a' w', Mv s.nx r s.hp w s'.nx r' s'.hp w' → RelS r' N s' a' w' → Q .normal a' w') → (Code.region id ops true).wp P Q a w
def resE (P : Program) (s : St) : List ResultVar → Option (List Wv)
  | [] => some []
  | .tmp t :: l => match s.tm.get t, resE P s l with
    | some (.w x), some xs => some (x :: xs)
    | _, _ => none
  | .cell t ty :: l => match s.tm.get t, resE P s l with
    | some (.w (.c (.p (some (k, o))))), some xs => match s.hp.get k with
      | some B => match opLoadB P B ty o with
        | some x => some (x :: xs)
        | none => none
      | none => none
    | _, _ => none
def resV : List Wv → V
  | [x] => .w x
  | xs => .t xs
def callF (P : Program) (R : Nat → Code → St → Option (Ex × St)) : CallF := fun f xs H nx => match P.funcs[f]? with
  | some fn => match fn.body with
    | some c => if xs.length ≤ fn.ntmps then
        match R fn.ntmps c ⟨setV .nil 0 xs, H, nx⟩ with
        | some (.exit _, _) => none
        | some (.goto _, _) => none
        | some (_, s) => match resE P s fn.results.toList with
          | some l => some (resV l, s.hp, s.nx)
          | none => none
        | none => none
      else none
    | none => none
  | none => none
where
  setV : Tr V → Nat → List V → Tr V
    | t, _, [] => t
    | t, i, x :: xs => setV (t.set i x) (i + 1) xs
/-- a scope's jumps -/
def hopR (R : Nat → Code → St → Option (Ex × St)) (c : Code) (N : Nat) : Nat → Code → St → Option (Ex × St)
  | 0, _, _ => none
  | j + 1, x, s => match R N x s with
    | some (.goto l, s') => match findLabel c l with
      | some rest => hopR R c N j rest s'
      | none => none
    | z => z
def run (P : Program) (ext : ExtF) (sp : SpF) (dr : DrawF) : Nat → Nat → Code → St → Option (Ex × St)
  | 0, _, _, _ => none
  | m + 1, N, c, s => match c with
    | .skip => some (.norm, s)
    | .label _ => some (.norm, s)
    | .ret => some (.ret, s)
    | .exit id => some (.exit id, s)
    | .goto l => some (.goto l, s)
    | .scope c => hopR (run P ext sp dr m) c N 64 c s
    | .seq x y => match run P ext sp dr m N x s with
      | some (.norm, s') => run P ext sp dr m N y s'
      | z => z
    | .cond x a b => match evO s.tm x with
      | some (.w (.c (.b true))) => run P ext sp dr m N a s
      | some (.w (.c (.b false))) => run P ext sp dr m N b s
      | _ => none
    | .block id x => match run P ext sp dr m N x s with
      | some (.exit j, s') => if j = id then some (.norm, s') else some (.exit j, s')
      | z => z
    | .loop x => match run P ext sp dr m N x s with
      | some (.norm, s') => run P ext sp dr m N (.loop x) s'
      | z => z
    | .region _ ops false => match runL P ext (callS sp (callF P (run P ext sp dr m))) ops N ops.toList s with
      | some s' => some (.norm, s')
      | none => none
    | .region _ ops true => match dr (callS sp (callF P (run P ext sp dr m))) ops N s with
      | some s' => some (.norm, s')
      | none => none
    | _ => none
end Go.Proofs.YtgilghiegfgjeaaGreatDoor
end
section
set_option linter.unusedVariables false
set_option linter.unusedSimpArgs false
/- Running closed code: what a run comes to is what the program does. -/
namespace Go.Proofs.YtgilghiegfgjeaaGreatDoor
open Go.RowKit
set_option linter.unusedVariables false

def RunS (P : Program) (R : Nat → Code → St → Option (Ex × St)) : Prop := ∀ N c s x s', R N c s = some (x, s') → ∀ r a w, RelS r N s a w → ∀ (Q : Exit → Act → World → Prop),
  (∀ r' a' w', Mv s.nx r s.hp w s'.nx r' s'.hp w' → RelS r' N s' a' w' → Q x.to a' w') → c.wp P Q a w
theorem setV_get : ∀ (xs : List V) (t : Tr V) (i j : Nat), (callF.setV t i xs).get j = if i ≤ j ∧ j < i + xs.length then xs[j - i]? else t.get j
  | [], t, i, j => by
    rw [if_neg (by simp)]; rfl
  | x :: xs, t, i, j => by
    show (callF.setV (t.set i x) (i + 1) xs).get j = _
    rw [setV_get xs (t.set i x) (i + 1) j, Tr.get_set, List.length_cons]
    by_cases h1 : j = i
    · subst h1
      rw [if_neg (by omega), if_pos rfl, if_pos (by omega), Nat.sub_self]; rfl
    · rw [if_neg h1]
      by_cases h2 : i ≤ j ∧ j < i + (xs.length + 1)
      · rw [if_pos (by omega), if_pos h2, show j - i = (j - (i + 1)) + 1 by omega, List.getElem?_cons_succ]
      · rw [if_neg (by omega), if_neg h2]
theorem VsR.length {r : Nm} {xs : List V} {us : List Value} (h : VsR r xs us) : us.length = xs.length := by
  induction h with
  | nil => rfl
  | cons _ _ ih => simp [ih]
theorem VsR.get {r : Nm} {xs : List V} {vs : List Value} (h : VsR r xs vs) : ∀ (i : Nat) (c : V), xs[i]? = some c → ∃ v, vs[i]? = some v ∧ VR r c v := by
  induction h with
  | nil => intro i c h; simp at h
  | cons h t ih =>
    intro i c hc
    cases i with
    | zero => simp at hc; subst hc; exact ⟨_, rfl, h⟩
    | succ i => simpa using ih i c (by simpa using hc)
theorem enter_ok {r : Nm} {xs : List V} {us : List Value} (h : VsR r xs us) {n : Nat} (hn : xs.length ≤ n) : RelA r (callF.setV .nil 0 xs) n { tmps := us.toArray ++ Array.replicate (n - us.toArray.size) undef, defers := [] } := by
  have hl := h.length
  refine ⟨by simp; omega, rfl, fun i v hi => ?_⟩
  rw [setV_get] at hi
  split at hi
  · rename_i hb
    rw [Nat.sub_zero] at hi
    obtain ⟨u, hu, hr⟩ := h.get i v hi
    refine ⟨u, ?_, hr⟩
    rw [Array.getElem?_append_left (by simp; omega)]
    simpa using hu
  · cases hi
def resM (tmps : Array Value) : ResultVar → Sem Value
  | .tmp t => pure (tmps.getD t undef)
  | .cell a t => do loadVar t (← asAddr (tmps.getD a undef))
theorem resE_ok {P : Program} {r : Nm} {N : Nat} {s : St} {a : Act} {w : World} (h : RelS r N s a w) : ∀ (l : List ResultVar) (xs : List Wv), resE P s l = some xs → ∃ vs, WsR r xs vs ∧ (l.mapM (resM a.tmps)).run P w = .ok vs w
  | [], xs, e => by injection e with e; subst e; exact ⟨[], .nil, by simp⟩
  | .tmp t :: l, xs, e => by
    unfold resE at e
    split at e
    · rename_i x xs' h1 h2
      injection e with e
      subst e
      obtain ⟨u, hu, hr⟩ := h.fr.val t _ h1
      obtain ⟨vs, k1, k2⟩ := resE_ok h l xs' h2
      cases hr with | w hr =>
      refine ⟨u :: vs, .cons hr k1, ?_⟩
      have e1 : a.tmps.getD t undef = u := by rw [Array.getD_eq_getD_getElem?, hu]; rfl
      simp only [List.mapM_cons, Sem.run_bind, resM, Sem.run_pure, Result.andThen_ok, k2, e1]
    · cases e
  | .cell t ty :: l, xs, e => by
    unfold resE at e
    split at e
    · rename_i k o xs' h1 h2
      split at e
      · rename_i B hB
        split at e
        · rename_i x hx
          injection e with e
          subst e
          obtain ⟨u, hu, hr⟩ := h.fr.val t _ h1
          obtain ⟨vs, k1, k2⟩ := resE_ok h l xs' h2
          cases hr with | w hr => cases hr with | c hr => cases hr with | p rk =>
          rename_i b sz
          obtain ⟨b', sz', rk', hBR⟩ := h.hp.at_ k B hB
          rw [rk] at rk'
          injection rk' with rk'
          injection rk' with e1 e2
          subst e1 e2
          obtain ⟨z, hz, hrun⟩ := opLoadB_ok (P := P) hBR hx
          refine ⟨z :: vs, .cons hz k1, ?_⟩
          have e1 : a.tmps.getD t undef = ptrOf b o := by rw [Array.getD_eq_getD_getElem?, hu]; rfl
          have e2 : (loadVar ty ⟨b, o, none⟩).run P w = .ok z w := by simpa [Instr.loadAt, ptrOf, Instr.sureAddr] using hrun
          simp only [List.mapM_cons, Sem.run_bind, resM, e1, ptrOf, asAddr, Sem.run_pure, Result.andThen_ok, e2, k2]
        · cases e
      · cases e
    · cases e
theorem results_eq (fn : Func) (tmps : Array Value) : Go.results fn tmps = (do
    let vs ← fn.results.mapM (resM tmps)
    pure (if h : vs.size = 1 then vs[0] else .tuple vs)) := by
  unfold Go.results
  congr 1
theorem resV_ok {r : Nm} {xs : List Wv} {vs : List Value} (h : WsR r xs vs) : VR r (resV xs) (if h : vs.toArray.size = 1 then vs.toArray[0] else .tuple vs.toArray) := by
  cases h with
  | nil => exact .t .nil
  | cons h1 t =>
    cases t with
    | nil => exact .w h1
    | cons h2 t =>
      rw [dif_neg (by simp)]
      exact .t (.cons h1 (.cons h2 t))
theorem callF_ok {P : Program} {R : Nat → Code → St → Option (Ex × St)} (hR : RunS P R) : CallS P (callF P R) := by
  intro f xs H nx v H' nx' h r w us hu hH hf
  unfold callF at h
  split at h
  · rename_i fn hfn
    split at h
    · rename_i c hc
      split at h
      · rename_i hn
        have hA := enter_ok hu hn
        have go : ∀ x s, R fn.ntmps c ⟨callF.setV .nil 0 xs, H, nx⟩ = some (x, s) → (x = .norm ∨ x = .ret) → (∀ l, resE P s fn.results.toList = some l → resV l = v ∧ s.hp = H' ∧ s.nx = nx') → (∃ l, resE P s fn.results.toList = some l) → Calls P f us.toArray w fun e w' => ∃ r' u, e = .returned u ∧ VR r' v u ∧ Mv nx r H w nx' r' H' w' ∧ fresh r' nx' := by
          intro x s hr hx hl ⟨l, hle⟩
          obtain ⟨e1, e2, e3⟩ := hl l hle
          refine calls_of_wp hfn hc ?_
          refine hR _ _ _ _ _ hr r _ w ⟨hA, hH, hf⟩ _ fun r' a' w' hmv hS => ?_
          obtain ⟨vs, k1, k2⟩ := resE_ok (P := P) hS fn.results.toList l hle
          have hres : (Go.results fn a'.tmps).run P w' = .ok (if h : vs.toArray.size = 1 then vs.toArray[0] else .tuple vs.toArray) w' := by
            rw [results_eq, Sem.run_bind, Array.mapM_eq_mapM_toList]
            simp [k2]
          have post : a'.defers = [] ∧ ∃ v', (Go.results fn a'.tmps).run P w' = .ok v' w' ∧ ∃ r' u, Ending.returned v' = .returned u ∧ VR r' v u ∧ Mv nx r H w nx' r' H' w' ∧ fresh r' nx' :=
            ⟨hS.fr.defers, _, hres, r', _, rfl, by rw [← e1]; exact resV_ok k1, by rw [← e2, ← e3]; exact hmv, by rw [← e3]; exact hS.nx⟩
          rcases hx with rfl | rfl <;> exact post
        split at h
        · cases h
        · cases h
        · rename_i x s hnx hng hr
          split at h
          · rename_i l hl
            injection h with h
            injection h with h1 h2
            injection h2 with h2 h3
            refine go x s hr ?_ (fun l' hl' => ?_) ⟨l, hl⟩
            · cases x with
              | norm => exact .inl rfl
              | ret => exact .inr rfl
              | exit id => exact absurd rfl (hnx id)
              | goto l => exact absurd rfl (hng l)
            · rw [hl] at hl'
              injection hl' with hl'
              subst hl'
              exact ⟨h1, h2, h3⟩
          · cases h
        · cases h
      · cases h
    · cases h
  · cases h
theorem run_ok {P : Program} {ext : ExtF} {sp : SpF} {dr : DrawF} (hext : ExtS P ext) (hsp : SpS P sp) (hdr : DrawS P ext dr) : ∀ m, RunS P (run P ext sp dr m) ∧
    ∀ N c s x s', run P ext sp dr m N (.loop c) s = some (x, s') → ∀ r a w, RelS r N s a w → ∀ (Q : Exit → Act → World → Prop), (∀ r' a' w', Mv s.nx r s.hp w s'.nx r' s'.hp w' → RelS r' N s' a' w' → Q x.to a' w') → Code.rounds P c Q m a w := by
  intro m
  induction m with
  | zero => exact ⟨fun N c s x s' h => (by cases h), fun N c s x s' h => (by cases h)⟩
  | succ m ih =>
    obtain ⟨ih, ihl⟩ := ih
    have loop : ∀ N c s x s', run P ext sp dr (m + 1) N (.loop c) s = some (x, s') → ∀ r a w, RelS r N s a w → ∀ (Q : Exit → Act → World → Prop), (∀ r' a' w', Mv s.nx r s.hp w s'.nx r' s'.hp w' → RelS r' N s' a' w' → Q x.to a' w') → Code.rounds P c Q (m + 1) a w := by
      intro N c s x s' h r a w hS Q hQ
      have h' : (match run P ext sp dr m N c s with
        | some (.norm, s') => run P ext sp dr m N (.loop c) s'
        | z => z) = some (x, s') := h
      show c.wp P (Exit.then (Code.rounds P c Q m) Q) a w
      split at h'
      · rename_i s1 h1
        exact ih _ _ _ _ _ h1 r a w hS _ fun r1 a1 w1 m1 k1 => ihl _ _ _ _ _ h' r1 a1 w1 k1 Q fun r2 a2 w2 m2 k2 => hQ r2 a2 w2 (m1.trans m2) k2
      · rename_i z hz
        refine ih _ _ _ _ _ h' r a w hS _ fun r1 a1 w1 m1 k1 => ?_
        have := hQ r1 a1 w1 m1 k1
        cases x with
        | norm => exact absurd h' (hz s')
        | exit id => exact this
        | ret => exact this
        | goto l => exact this
    refine ⟨fun N c s x s' h r a w hS Q hQ => ?_, loop⟩
    cases c with
    | skip => injection h with h; injection h with h1 h2; subst h1 h2; exact wp_skip (hQ r a w (Mv.refl hS.hp) hS)
    | label l => injection h with h; injection h with h1 h2; subst h1 h2; exact wp_label (hQ r a w (Mv.refl hS.hp) hS)
    | ret => injection h with h; injection h with h1 h2; subst h1 h2; exact wp_ret (hQ r a w (Mv.refl hS.hp) hS)
    | goto l => injection h with h; injection h with h1 h2; subst h1 h2; exact wp_goto (hQ r a w (Mv.refl hS.hp) hS)
    | scope c =>
      have hop : ∀ (j : Nat) (x0 : Code) (r : Nm) (a : Act) (w : World) (s : St), RelS r N s a w → hopR (run P ext sp dr m) c N j x0 s = some (x, s') → (∀ r' a' w', Mv s.nx r s.hp w s'.nx r' s'.hp w' → RelS r' N s' a' w' → Q x.to a' w') → hops P c Q j x0 a w := by
        intro j
        induction j with
        | zero => intro x0 r a w s hS h; cases h
        | succ j ihj =>
          intro x0 r a w s hS h hQ
          unfold hopR at h
          split at h
          · rename_i l s1 h1
            split at h
            · rename_i rest hf
              exact ih _ _ _ _ _ h1 r a w hS _ fun r1 a1 w1 m1 k1 => ⟨rest, hf, ihj rest r1 a1 w1 s1 k1 h fun r2 a2 w2 m2 k2 => hQ r2 a2 w2 (m1.trans m2) k2⟩
            · cases h
          · rename_i z hz
            refine ih _ _ _ _ _ h r a w hS _ fun r1 a1 w1 m1 k1 => ?_
            have := hQ r1 a1 w1 m1 k1
            cases x with
            | norm => exact this
            | exit id => exact this
            | ret => exact this
            | goto l => exact absurd h (hz l s')
      exact wp_scope_hops 64 (hop 64 c r a w s hS h hQ)
    | exit id => injection h with h; injection h with h1 h2; subst h1 h2; exact wp_exit (hQ r a w (Mv.refl hS.hp) hS)
    | seq y z =>
      have h' : (match run P ext sp dr m N y s with
        | some (.norm, s') => run P ext sp dr m N z s'
        | u => u) = some (x, s') := h
      refine wp_seq ?_
      split at h'
      · rename_i s1 h1
        exact ih _ _ _ _ _ h1 r a w hS _ fun r1 a1 w1 m1 k1 => ih _ _ _ _ _ h' r1 a1 w1 k1 Q fun r2 a2 w2 m2 k2 => hQ r2 a2 w2 (m1.trans m2) k2
      · rename_i u hu
        refine ih _ _ _ _ _ h' r a w hS _ fun r1 a1 w1 m1 k1 => ?_
        have := hQ r1 a1 w1 m1 k1
        cases x with
        | norm => exact absurd h' (hu s')
        | exit id => exact this
        | ret => exact this
        | goto l => exact this
    | cond y b c =>
      have h' : (match evO s.tm y with
        | some (.w (.c (.b true))) => run P ext sp dr m N b s
        | some (.w (.c (.b false))) => run P ext sp dr m N c s
        | _ => none) = some (x, s') := h
      split at h'
      · rename_i hy
        have hv := evO_ok hS.fr hy
        have e : a.eval y = .bool true := by
          generalize a.eval y = u at hv
          cases hv with | w hv => cases hv with | c hv => cases hv with | b => rfl
        exact wp_cond_true e (ih _ _ _ _ _ h' r a w hS Q hQ)
      · rename_i hy
        have hv := evO_ok hS.fr hy
        have e : a.eval y = .bool false := by
          generalize a.eval y = u at hv
          cases hv with | w hv => cases hv with | c hv => cases hv with | b => rfl
        exact wp_cond_false e (ih _ _ _ _ _ h' r a w hS Q hQ)
      · cases h'
    | block id y =>
      have h' : (match run P ext sp dr m N y s with
        | some (.exit j, s') => if j = id then some (.norm, s') else some (.exit j, s')
        | u => u) = some (x, s') := h
      refine wp_block ?_
      split at h'
      · rename_i j s1 h1
        split at h'
        · rename_i hj
          injection h' with h'
          injection h' with e1 e2
          subst e1 e2
          refine ih _ _ _ _ _ h1 r a w hS _ fun r1 a1 w1 m1 k1 => ?_
          show if j = id then Q .normal a1 w1 else Q (.exit j) a1 w1
          rw [if_pos hj]
          exact hQ r1 a1 w1 m1 k1
        · rename_i hj
          injection h' with h'
          injection h' with e1 e2
          subst e1 e2
          refine ih _ _ _ _ _ h1 r a w hS _ fun r1 a1 w1 m1 k1 => ?_
          show if j = id then Q .normal a1 w1 else Q (.exit j) a1 w1
          rw [if_neg hj]
          exact hQ r1 a1 w1 m1 k1
      · rename_i u hu
        refine ih _ _ _ _ _ h' r a w hS _ fun r1 a1 w1 m1 k1 => ?_
        have := hQ r1 a1 w1 m1 k1
        cases x with
        | norm => exact this
        | exit j => exact absurd h' (hu j s')
        | ret => exact this
        | goto l => exact this
    | loop y => exact wp_loop_rounds (m + 1) (loop N y s x s' h r a w hS Q hQ)
    | region id ops d =>
      cases d with
      | false =>
        have h' : (match runL P ext (callS sp (callF P (run P ext sp dr m))) ops N ops.toList s with
          | some s' => some (.norm, s')
          | none => none) = some (x, s') := h
        split at h'
        · rename_i s1 h1
          injection h' with h'
          injection h' with e1 e2
          subst e1 e2
          exact wp_region_list (runL_ok hext (callS_ok hsp (callF_ok ih)) ops.toList r s s1 a w hS h1 hQ)
        · cases h'
      | true =>
        have h' : (match dr (callS sp (callF P (run P ext sp dr m))) ops N s with
          | some s' => some (.norm, s')
          | none => none) = some (x, s') := h
        split at h'
        · rename_i s1 h1
          injection h' with h'
          injection h' with e1 e2
          subst e1 e2
          exact hdr _ (callS_ok hsp (callF_ok ih)) ops N s s1 h1 r a w hS Q id hQ
        · cases h'
    | _ => cases h
def awakes (P : Program) (ext : ExtF) (sp : SpF) (dr : DrawF) (m : Nat) (f : FuncId) : Bool := match callF P (run P ext sp dr m) f [] .nil 0 with
  | some (.w (.c (.b true)), _, _) => true
  | _ => false
theorem awakes_ok {P : Program} {ext : ExtF} {sp : SpF} {dr : DrawF} (hext : ExtS P ext) (hsp : SpS P sp) (hdr : DrawS P ext dr) {m : Nat} {f : FuncId} (h : awakes P ext sp dr m f = true) (w : World) :
    Calls P f #[] w fun e w' => e = .returned (.bool true) ∧ Below w.heap.size w w' := by
  unfold awakes at h
  split at h
  · rename_i H' nx' hc
    have hr0 : RelH (fun _ => none) .nil w := ⟨fun k B hk => (by cases hk), fun k j B D b s t hk => (by cases hk)⟩
    refine (callF_ok (run_ok hext hsp hdr m).1 f [] .nil 0 _ _ _ hc (fun _ => none) w [] .nil hr0 (fun _ _ => rfl)).mono fun e w' ⟨r', u, he, hv, hmv, _⟩ => ?_
    cases hv with | w hv => cases hv with | c hv => cases hv with | b =>
    exact ⟨he, ⟨hmv.os, hmv.tape, hmv.output, hmv.size, fun b hb => hmv.block b hb fun k B s hk => by cases hk⟩⟩
  · cases h
end Go.Proofs.YtgilghiegfgjeaaGreatDoor
end
section
set_option linter.unusedVariables false
set_option linter.unusedSimpArgs false
/- Running closed code: a region that draws its order, run in the text's order, with the checks that make every order come to the same. -/
namespace Go.Proofs.YtgilghiegfgjeaaGreatDoor
open Go.RowKit
set_option linter.unusedVariables false

/-! ### Ancestors -/
def edgesB (l : List Edge) (anc : Tr Nat) (i : Nat) : Option Nat := match l with
  | [] => some 0
  | e :: l => match edgesB l anc i with
    | none => none
    | some s => if Region.binds .any e then
        if e.on < i then match anc.get e.on with
          | some a => some (Nat.lor (Nat.lor s (Nat.shiftLeft 1 e.on)) a)
          | none => none
        else none
      else some s
def ancsB : List Oper → Nat → Tr Nat → Option (Tr Nat)
  | [], _, anc => some anc
  | o :: l, i, anc => match edgesB o.after.toList anc i with
    | some a => ancsB l (i + 1) (anc.set i a)
    | none => none
/-- which operation writes a slot: none writes one that another writes -/
def writersB : List Oper → Nat → Tr Nat → Option (Tr Nat)
  | [], _, wr => some wr
  | o :: l, i, wr => match o.dst with
    | none => writersB l (i + 1) wr
    | some d => match wr.get d with
      | some _ => none
      | none => writersB l (i + 1) (wr.set d i)
inductive Kd where
  | skip
  | pure
  | load
  | alloc (B : Bk)
  | eff (ha : Hp)
/-- what is known of an operation that was run -/
structure Rec where
  v : Option V
  nb : Nat
  na : Nat
  k : Kd
structure Env where
  P : Program
  ext : ExtF
  call : CallF
  ops : Array Oper
  N : Nat
  s0 : St
  anc : Tr Nat
  wr : Tr Nat
def Env.isAnc (E : Env) (j i : Nat) : Bool := match E.anc.get i with
  | some a => a.testBit j
  | none => false
/-- the value of a slot, as operation i reads it -/
def Env.slot (E : Env) (rs : Tr Rec) (i t : Nat) : Option V := match E.wr.get t with
  | none => E.s0.tm.get t
  | some j => if E.isAnc j i then match rs.get j with
      | some R => R.v
      | none => none
    else if E.isAnc i j then E.s0.tm.get t else none
def Env.ev (E : Env) (rs : Tr Rec) (i : Nat) : Operand → Option V
  | .tmp t => E.slot rs i t
  | .const v => vOf v
  | .func f => some (.w (.c (.f f [] [])))
  | .global _ => none
def Env.want (E : Env) (rs : Tr Rec) (i : Nat) (o : Oper) : Option Bool := match o.guard with
  | none => some true
  | some (j, want) => match E.ops[j]? with
    | some q => match q.dst with
      | some t => match E.slot rs i t with
        | some (.w (.c (.b b))) => some (b == want)
        | some (.t []) => some false
        | _ => none
      | none => none
    | none => none
/-- the memory behind an effect (behind none: the first) -/
def Env.after (E : Env) (rs : Tr Rec) : Option Nat → Hp
  | none => E.s0.hp
  | some e => match rs.get e with
    | some ⟨_, _, _, .eff ha⟩ => ha
    | _ => .nil
/-- is what operation q made part of the memory behind effect p? -/
def Env.mergedB (E : Env) : Option Nat → Nat → Bool
  | some e, q => E.isAnc q e
  | none, _ => false
/-- the memory ahead of effect i, behind effect p: what was made for it comes in -/
def Env.merge (E : Env) (rs : Tr Rec) (p : Option Nat) (i : Nat) : Nat → Hp
  | 0 => E.after rs p
  | q + 1 => match rs.get q with
    | some ⟨_, nb, _, .alloc B⟩ => if E.isAnc q i && !E.mergedB p q then (E.merge rs p i q).set nb B else E.merge rs p i q
    | _ => E.merge rs p i q
/-- what a load finds at name k behind effect p -/
def Env.find (E : Env) (rs : Tr Rec) (p : Option Nat) (i k : Nat) : Nat → Option Bk
  | 0 => (E.after rs p).get k
  | q + 1 => match (E.after rs p).get k with
    | some B => some B
    | none => match rs.get q with
      | some ⟨_, nb, _, .alloc B⟩ => if nb = k ∧ E.isAnc q i = true ∧ E.mergedB p q = false then some B else E.find rs p i k q
      | _ => E.find rs p i k q
/-- the last effect of a list, run or not -/
def lastE : List Nat → Option Nat
  | [] => none
  | e :: _ => some e
end Go.Proofs.YtgilghiegfgjeaaGreatDoor
end
section
set_option linter.unusedVariables false
set_option linter.unusedSimpArgs false
/- Running closed code: a region that draws its order: the run, and what it tells of each operation. -/
namespace Go.Proofs.YtgilghiegfgjeaaGreatDoor
open Go.RowKit
set_option linter.unusedVariables false

/-! ### Equal values -/
def eqCp : Cp → Cp → Bool
  | .k a, .k b => a == b
  | .u a, .u b => a == b
  | _, _ => false
def eqC : C → C → Bool
  | .b a, .b b => a == b
  | .i k a, .i j b => decide (k = j) && a == b
  | .s a, .s b => a.data.toList == b.data.toList
  | .p a, .p b => a == b
  | .l a n c, .l b m d => a == b && n == m && eqCp c d
  | .f f a c, .f g b d => f == g && a == b && c == d
  | .nf, .nf => true
  | .ni, .ni => true
  | .m a, .m b => a == b
  | .o a f, .o b g => a == b && f == g
  | .d t a c, .d u b e => t == u && a == b && eqC c e
  | _, _ => false
theorem eqCp_ok {a b : Cp} (h : eqCp a b = true) : a = b := by
  cases a <;> cases b <;> simp [eqCp] at h <;> subst h <;> rfl
theorem eqC_ok : ∀ {a b : C}, eqC a b = true → a = b := by
  intro a
  induction a with
  | d t g c ih =>
    intro b h
    cases b <;> simp [eqC] at h
    obtain ⟨⟨rfl, rfl⟩, h⟩ := h
    rw [ih h]
  | b x => intro b h; cases b <;> simp [eqC] at h; subst h; rfl
  | i k n => intro b h; cases b <;> simp [eqC] at h; obtain ⟨rfl, rfl⟩ := h; rfl
  | s x =>
    intro b h
    cases b <;> simp [eqC] at h
    rename_i y
    obtain ⟨⟨x⟩⟩ := x
    obtain ⟨⟨y⟩⟩ := y
    simp at h
    subst h; rfl
  | p x => intro b h; cases b <;> simp [eqC] at h; subst h; rfl
  | l x n c => intro b h; cases b <;> simp [eqC] at h; obtain ⟨⟨rfl, rfl⟩, h⟩ := h; rw [eqCp_ok h]
  | f f a c => intro b h; cases b <;> simp [eqC] at h; obtain ⟨⟨rfl, rfl⟩, rfl⟩ := h; rfl
  | nf => intro b h; cases b <;> simp [eqC] at h; rfl
  | ni => intro b h; cases b <;> simp [eqC] at h; rfl
  | m x => intro b h; cases b <;> simp [eqC] at h; subst h; rfl
  | o k f => intro b h; cases b <;> simp [eqC] at h; obtain ⟨rfl, rfl⟩ := h; rfl
def eqCs : List C → List C → Bool
  | [], [] => true
  | a :: x, b :: y => eqC a b && eqCs x y
  | _, _ => false
theorem eqCs_ok : ∀ {x y : List C}, eqCs x y = true → x = y
  | [], [], _ => rfl
  | [], _ :: _, h => by cases h
  | _ :: _, [], h => by cases h
  | a :: x, b :: y, h => by
    simp only [eqCs, Bool.and_eq_true] at h
    rw [eqC_ok h.1, eqCs_ok h.2]
def eqWv : Wv → Wv → Bool
  | .c a, .c b => eqC a b
  | .a x, .a y => eqCs x y
  | _, _ => false
theorem eqWv_ok {a b : Wv} (h : eqWv a b = true) : a = b := by
  cases a <;> cases b <;> simp only [eqWv] at h
  · rw [eqC_ok h]
  · cases h
  · cases h
  · rw [eqCs_ok h]
/-- all names of a value lie below n -/
def bdAs (n : Nat) : List (Nat × Nat) → Bool
  | [] => true
  | (k, _) :: l => Nat.blt k n && bdAs n l
def bdC (n : Nat) : C → Bool
  | .p (some (k, _)) => Nat.blt k n
  | .l (some (k, _)) _ _ => Nat.blt k n
  | .f _ a c => bdAs n a && bdAs n c
  | .m (some k) => Nat.blt k n
  | .o k _ => Nat.blt k n
  | .d _ _ c => bdC n c
  | _ => true
def bdCs (n : Nat) : List C → Bool
  | [] => true
  | c :: cs => bdC n c && bdCs n cs
def bdW (n : Nat) : Wv → Bool
  | .c c => bdC n c
  | .a cs => bdCs n cs
/-! ### The run -/
def Env.stepD (E : Env) (i : Nat) (o : Oper) (rs : Tr Rec) (efs : List Nat) (nx : Nat) : Option (Rec × List Nat) := match E.want rs i o with
  | none => none
  | some false => some (⟨some (.t []), nx, nx, .skip⟩, efs)
  | some true => match opPure E.P (E.ev rs i) o.op with
    | some v => some (⟨some v, nx, nx, .pure⟩, efs)
    | none => match opAlloc E.P (E.ev rs i) o.op with
      | some (B, m) => some (⟨some (.w (.c (madeC nx m))), nx, nx + 1, .alloc B⟩, efs)
      | none => match o.op with
        | .load t x => match E.ev rs i x with
          | some (.w (.c (.p (some (k, off))))) => match E.find rs (lastE efs) i k i with
            | some B => match opLoadB E.P B t off with
              | some y => some (⟨some (.w y), nx, nx, .load⟩, efs)
              | none => none
            | none => none
          | _ => none
        | _ => match (match lastE efs with | some e => E.isAnc e i | none => true) with
          | true => match opMem E.P E.ext E.call (E.ev rs i) (E.merge rs (lastE efs) i i) nx o.op with
            | some (v, ha, na) => if nx ≤ na then some (⟨v, nx, na, .eff ha⟩, i :: efs) else none
            | none => none
          | false => none
def Env.runD (E : Env) : List Oper → Nat → Tr Rec → List Nat → Nat → Option (Tr Rec × List Nat × Nat)
  | [], _, rs, efs, nx => some (rs, efs, nx)
  | o :: l, i, rs, efs, nx => match E.stepD i o rs efs nx with
    | some (R, efs') => E.runD l (i + 1) (rs.set i R) efs' R.na
    | none => none
/-- a load's value behind each effect that may have been the last one when it comes up -/
def Env.stable (E : Env) (rs : Tr Rec) (i k off t : Nat) (y : Wv) : List Nat → Bool
  | [] => match E.find rs none i k i with
    | some B => match opLoadB E.P B t off with
      | some z => eqWv z y
      | none => false
    | none => false
  | e :: l => (E.isAnc i e || (match E.find rs (some e) i k i with
    | some B => match opLoadB E.P B t off with
      | some z => eqWv z y
      | none => false
    | none => false)) && (E.isAnc e i || E.stable rs i k off t y l)
def Env.stableAll (E : Env) (rs : Tr Rec) (efs : List Nat) : List Oper → Nat → Bool
  | [], _ => true
  | o :: l, i => (match rs.get i with
    | some ⟨some (.w y), nb, _, .load⟩ => bdW nb y && (match o.op with
      | .load t x => match E.ev rs i x with
        | some (.w (.c (.p (some (k, off))))) => E.stable rs i k off t y efs
        | _ => false
      | _ => false)
    | some ⟨_, _, _, .load⟩ => false
    | _ => true) && E.stableAll rs efs l (i + 1)
def endT (rs : Tr Rec) : List Oper → Nat → Tr V → Tr V
  | [], _, tm => tm
  | o :: l, i, tm => endT rs l (i + 1) (match o.dst with
    | none => tm
    | some d => match rs.get i with
      | some ⟨some v, _, _, _⟩ => tm.set d v
      | _ => tm.del d)
def endH (E : Env) (rs : Tr Rec) (p : Option Nat) : Nat → Hp
  | 0 => E.after rs p
  | q + 1 => match rs.get q with
    | some ⟨_, nb, _, .alloc B⟩ => if E.mergedB p q then endH E rs p q else (endH E rs p q).set nb B
    | _ => endH E rs p q
/-- every slot that is written is a slot of the frame; every slot that an operation reads is written by an ancestor, by a descendant, or by none: that is asked for when it is read -/
def dstsB (N : Nat) : List Oper → Bool
  | [] => true
  | o :: l => (match o.dst with
    | some d => d < N
    | none => true) && dstsB N l
def drawR (P : Program) (ext : ExtF) : DrawF := fun call ops N s => if P.follows .mixedOrders && dstsB N ops.toList then
    match ancsB ops.toList 0 .nil, writersB ops.toList 0 .nil with
    | some anc, some wr => match Env.runD ⟨P, ext, call, ops, N, s, anc, wr⟩ ops.toList 0 .nil [] s.nx with
      | some (rs, efs, nx) => if Env.stableAll ⟨P, ext, call, ops, N, s, anc, wr⟩ rs efs ops.toList 0 then
          some ⟨endT rs ops.toList 0 s.tm, endH ⟨P, ext, call, ops, N, s, anc, wr⟩ rs (lastE efs) ops.size, nx⟩
        else none
      | none => none
    | _, _ => none
  else none
/-! ### Ancestors -/
theorem edgesB_ok {anc : Tr Nat} {i : Nat} : ∀ (l : List Edge) (a : Nat), edgesB l anc i = some a → ∀ j, a.testBit j = true → ∃ e ∈ l, Region.binds .any e = true ∧ e.on < i ∧ (j = e.on ∨ ∃ b, anc.get e.on = some b ∧ b.testBit j = true)
  | [], a, h, j, hj => by injection h with h; subst h; simp at hj
  | e :: l, a, h, j, hj => by
    unfold edgesB at h
    split at h
    · cases h
    · rename_i s hs
      split at h
      · rename_i hb
        split at h
        · rename_i hlt
          split at h
          · rename_i b hbb
            injection h with h
            subst h
            have hj' : ((s ||| (1 <<< e.on)) ||| b).testBit j = true := hj
            rw [Nat.testBit_or, Nat.testBit_or, Bool.or_eq_true, Bool.or_eq_true] at hj'
            rcases hj' with (h1 | h1) | h1
            · obtain ⟨e', he', hx⟩ := edgesB_ok l s hs j h1
              exact ⟨e', by simp [he'], hx⟩
            · refine ⟨e, by simp, hb, hlt, .inl ?_⟩
              rw [Nat.testBit_shiftLeft] at h1
              simp at h1
              have h2 := h1.2
              rw [Nat.testBit_one_eq_true_iff_self_eq_zero] at h2
              omega
            · exact ⟨e, by simp, hb, hlt, .inr ⟨b, hbb, h1⟩⟩
          · cases h
        · cases h
      · rename_i hb
        injection h with h
        subst h
        obtain ⟨e', he', hx⟩ := edgesB_ok l s hs j hj
        exact ⟨e', by simp [he'], hx⟩
end Go.Proofs.YtgilghiegfgjeaaGreatDoor
end
section
set_option linter.unusedVariables false
set_option linter.unusedSimpArgs false
/- Running closed code: what the run of a drawn region tells of each operation. -/
namespace Go.Proofs.YtgilghiegfgjeaaGreatDoor
open Go.RowKit
set_option linter.unusedVariables false

theorem edgesB_congr {anc bnc : Tr Nat} {i : Nat} (h : ∀ j, j < i → anc.get j = bnc.get j) : ∀ (l : List Edge), edgesB l anc i = edgesB l bnc i
  | [] => rfl
  | e :: l => by
    unfold edgesB
    rw [edgesB_congr h l]
    split
    · rfl
    · split
      · split
        · rename_i hlt; rw [h _ hlt]
        · rfl
      · rfl
theorem ancsB_ok : ∀ (l : List Oper) (i : Nat) (anc bnc : Tr Nat), ancsB l i anc = some bnc → (∀ j, j < i → bnc.get j = anc.get j) ∧ ∀ k o, l[k]? = some o → ∃ a, bnc.get (i + k) = some a ∧ edgesB o.after.toList bnc (i + k) = some a
  | [], i, anc, bnc, h => by
    injection h with h
    subst h
    exact ⟨fun _ _ => rfl, fun k o hk => by simp at hk⟩
  | o :: l, i, anc, bnc, h => by
    unfold ancsB at h
    split at h
    · rename_i a ha
      obtain ⟨h1, h2⟩ := ancsB_ok l (i + 1) _ bnc h
      have h0 : ∀ j, j < i → bnc.get j = anc.get j := fun j hj => by
        rw [h1 j (by omega), Tr.get_set, if_neg (by omega)]
      refine ⟨h0, fun k o' hk => ?_⟩
      cases k with
      | zero =>
        simp at hk
        subst hk
        refine ⟨a, by rw [Nat.add_zero, h1 i (by omega), Tr.get_set, if_pos rfl], ?_⟩
        rw [Nat.add_zero, edgesB_congr h0]
        exact ha
      | succ k =>
        have := h2 k o' (by simpa using hk)
        rw [show i + (k + 1) = i + 1 + k by omega]
        exact this
    · cases h
theorem writersB_ok : ∀ (l : List Oper) (i : Nat) (wr wr' : Tr Nat), writersB l i wr = some wr' → (∀ t j, wr.get t = some j → wr'.get t = some j) ∧ (∀ k o d, l[k]? = some o → o.dst = some d → wr'.get d = some (i + k)) ∧ (∀ t j, wr'.get t = some j → wr.get t = some j ∨ ∃ k o, j = i + k ∧ l[k]? = some o ∧ o.dst = some t)
  | [], i, wr, wr', h => by
    injection h with h
    subst h
    exact ⟨fun _ _ e => e, fun k o d hk => by simp at hk, fun t j e => .inl e⟩
  | o :: l, i, wr, wr', h => by
    unfold writersB at h
    split at h
    · rename_i hd
      obtain ⟨h1, h2, h3⟩ := writersB_ok l (i + 1) wr wr' h
      refine ⟨h1, fun k o' d hk hd' => ?_, fun t j e => ?_⟩
      · cases k with
        | zero => simp at hk; subst hk; rw [hd] at hd'; cases hd'
        | succ k => rw [show i + (k + 1) = i + 1 + k by omega]; exact h2 k o' d (by simpa using hk) hd'
      · rcases h3 t j e with e | ⟨k, o', rfl, hk, hd'⟩
        · exact .inl e
        · exact .inr ⟨k + 1, o', by omega, by simpa using hk, hd'⟩
    · rename_i d hd
      split at h
      · cases h
      · rename_i hn
        obtain ⟨h1, h2, h3⟩ := writersB_ok l (i + 1) _ wr' h
        refine ⟨fun t j e => ?_, fun k o' d' hk hd' => ?_, fun t j e => ?_⟩
        · refine h1 t j ?_
          rw [Tr.get_set]
          split
          · rename_i ht; subst ht; rw [hn] at e; cases e
          · exact e
        · cases k with
          | zero =>
            simp at hk
            subst hk
            rw [hd] at hd'
            injection hd' with hd'
            subst hd'
            rw [Nat.add_zero]
            exact h1 d i (by rw [Tr.get_set, if_pos rfl])
          | succ k => rw [show i + (k + 1) = i + 1 + k by omega]; exact h2 k o' d' (by simpa using hk) hd'
        · rcases h3 t j e with e | ⟨k, o', rfl, hk, hd'⟩
          · rw [Tr.get_set] at e
            split at e
            · rename_i ht
              injection e with e
              subst ht e
              exact .inr ⟨0, o, rfl, rfl, hd⟩
            · exact .inl e
          · exact .inr ⟨k + 1, o', by omega, by simpa using hk, hd'⟩
/-- the region's static tables -/
structure EnvOk (E : Env) : Prop where
  anc : ∀ i o, E.ops[i]? = some o → ∃ a, E.anc.get i = some a ∧ edgesB o.after.toList E.anc i = some a
  wr1 : ∀ (i : Nat) (o : Oper) (d : Nat), E.ops[i]? = some o → o.dst = some d → E.wr.get d = some i
  wr2 : ∀ t j, E.wr.get t = some j → ∃ o, E.ops[j]? = some o ∧ o.dst = some t
  dst : ∀ (i : Nat) (o : Oper) (d : Nat), E.ops[i]? = some o → o.dst = some d → d < E.N
section
variable {E : Env} (h : EnvOk E)
include h
theorem isAnc_def {j i : Nat} (e : E.isAnc j i = true) : i < E.ops.size → ∃ o a, E.ops[i]? = some o ∧ E.anc.get i = some a ∧ edgesB o.after.toList E.anc i = some a ∧ a.testBit j = true := by
  intro hi
  have ho : E.ops[i]? = some E.ops[i] := Array.getElem?_eq_getElem hi
  obtain ⟨a, h1, h2⟩ := h.anc i _ ho
  unfold Env.isAnc at e
  rw [h1] at e
  exact ⟨_, a, ho, h1, h2, e⟩
theorem isAnc_lt : ∀ (i j : Nat), i < E.ops.size → E.isAnc j i = true → j < i := by
  intro i
  induction i using Nat.strongRecOn with
  | _ i ih =>
    intro j hi e
    obtain ⟨o, a, ho, ha, hb, hj⟩ := isAnc_def h e hi
    obtain ⟨ed, _, _, hlt, hx⟩ := edgesB_ok _ _ hb j hj
    rcases hx with rfl | ⟨b, hbb, hbj⟩
    · exact hlt
    · have := ih ed.on hlt j (by omega) (by unfold Env.isAnc; rw [hbb]; exact hbj)
      omega
/-- what is closed under edges is closed under ancestors -/
theorem closed_anc {D : Nat → Prop} (hD : ∀ i o, D i → E.ops[i]? = some o → ∀ e ∈ o.after.toList, Region.binds .any e = true → D e.on) : ∀ (i : Nat) (o : Oper), E.ops[i]? = some o → (∀ e ∈ o.after.toList, Region.binds .any e = true → D e.on) → ∀ j, E.isAnc j i = true → D j := by
  intro i
  induction i using Nat.strongRecOn with
  | _ i ih =>
    intro o ho hi j e
    have hsz := (Array.getElem?_eq_some_iff.1 ho).1
    obtain ⟨o', a, ho', ha, hb, hj⟩ := isAnc_def h e hsz
    rw [ho] at ho'
    injection ho' with ho'
    subst ho'
    obtain ⟨ed, hmem, hbind, hlt, hx⟩ := edgesB_ok _ _ hb j hj
    have hon := hi ed hmem hbind
    rcases hx with rfl | ⟨b, hbb, hbj⟩
    · exact hon
    · have hso : E.ops[ed.on]? = some (E.ops[ed.on]'(by omega)) := Array.getElem?_eq_getElem _
      exact ih ed.on hlt _ hso (fun e he hb => hD ed.on _ hon hso e he hb) j (by unfold Env.isAnc; rw [hbb]; exact hbj)
end
/-- two tables of what was run that say the same below i -/
def Same (i : Nat) (rs rt : Tr Rec) : Prop := ∀ j, j < i → rt.get j = rs.get j
section
variable {E : Env} (h : EnvOk E) {rs rt : Tr Rec} {i : Nat} (hi : i < E.ops.size) (hs : Same i rs rt)
include h hi hs
theorem slot_same (t : Nat) : E.slot rt i t = E.slot rs i t := by
  unfold Env.slot
  split
  · rfl
  · split
    · rename_i ha
      rw [hs _ (isAnc_lt h i _ hi ha)]
    · rfl
theorem ev_same : E.ev rt i = E.ev rs i := by
  funext x
  cases x with
  | tmp t => exact slot_same h hi hs t
  | _ => rfl
theorem want_same (o : Oper) : E.want rt i o = E.want rs i o := by
  unfold Env.want
  split
  · rfl
  · split
    · split
      · rw [slot_same h hi hs]
      · rfl
    · rfl
omit h hi in
theorem after_same {p : Option Nat} (hp : ∀ e, p = some e → e < i) : E.after rt p = E.after rs p := by
  cases p with
  | none => rfl
  | some e => unfold Env.after; simp only [hs e (hp e rfl)]
omit h hi in
theorem merge_same {p : Option Nat} (hp : ∀ e, p = some e → e < i) (k : Nat) : ∀ q, q ≤ i → E.merge rt p k q = E.merge rs p k q
  | 0, _ => after_same hs hp
  | q + 1, hq => by
    unfold Env.merge
    rw [hs q (by omega), merge_same hp k q (by omega)]
omit h hi in
end
end Go.Proofs.YtgilghiegfgjeaaGreatDoor
end
section
set_option linter.unusedVariables false
set_option linter.unusedSimpArgs false
/- Running closed code: what the run of a drawn region tells of each operation (second part). -/
namespace Go.Proofs.YtgilghiegfgjeaaGreatDoor
open Go.RowKit
set_option linter.unusedVariables false

def OpF (E : Env) (rs : Tr Rec) (efs : List Nat) (i : Nat) (o : Oper) (R : Rec) : Prop := match R.k with
  | .skip => E.want rs i o = some false ∧ R.v = some (.t []) ∧ R.na = R.nb
  | .pure => E.want rs i o = some true ∧ ∃ v, R.v = some v ∧ opPure E.P (E.ev rs i) o.op = some v ∧ R.na = R.nb
  | .load => E.want rs i o = some true ∧ (∃ t x, o.op = .load t x) ∧ R.na = R.nb
  | .alloc B => E.want rs i o = some true ∧ ∃ m, opAlloc E.P (E.ev rs i) o.op = some (B, m) ∧ R.v = some (.w (.c (madeC R.nb m))) ∧ R.na = R.nb + 1
  | .eff ha => E.want rs i o = some true ∧ ∃ rest, (i :: rest) <:+ efs ∧ (∀ e, lastE rest = some e → E.isAnc e i = true) ∧ opMem E.P E.ext E.call (E.ev rs i) (E.merge rs (lastE rest) i i) R.nb o.op = some (R.v, ha, R.na)
theorem OpF.mono {E : Env} (h : EnvOk E) {rs rt : Tr Rec} {efs eft : List Nat} {i : Nat} (hi : i < E.ops.size) {o : Oper} {R : Rec} (hs : Same i rs rt) (he : efs <:+ eft) (k : OpF E rs efs i o R) : OpF E rt eft i o R := by
  have e1 := ev_same h hi hs
  have e2 := want_same h hi hs o
  unfold OpF at *
  split
  all_goals rename_i hk; rw [hk] at k
  · exact ⟨by rw [e2]; exact k.1, k.2⟩
  · exact ⟨by rw [e2]; exact k.1, by rw [e1]; exact k.2⟩
  · exact ⟨by rw [e2]; exact k.1, k.2⟩
  · exact ⟨by rw [e2]; exact k.1, by rw [e1]; exact k.2⟩
  · obtain ⟨k1, rest, k2, k3, k4⟩ := k
    refine ⟨by rw [e2]; exact k1, rest, k2.trans he, k3, ?_⟩
    rw [e1, merge_same hs (fun e hp => isAnc_lt h i e hi (k3 e hp)) i i (Nat.le_refl _)]
    exact k4
/-- all that is known behind the first i operations -/
structure FxQ (E : Env) (i : Nat) (rs : Tr Rec) (efs : List Nat) (nx : Nat) : Prop where
  all : ∀ j o, j < i → E.ops[j]? = some o → ∃ R, rs.get j = some R ∧ OpF E rs efs j o R ∧ E.s0.nx ≤ R.nb ∧ R.nb ≤ R.na ∧ R.na ≤ nx
  ord : ∀ j k R S, j < k → k < i → rs.get j = some R → rs.get k = some S → R.na ≤ S.nb
  eff : ∀ e ∈ efs, e < i ∧ ∃ R ha, rs.get e = some R ∧ R.k = .eff ha
  dec : efs.Pairwise (· > ·)
  lo : E.s0.nx ≤ nx
theorem stepD_ok {E : Env} (h : EnvOk E) {i : Nat} {rs : Tr Rec} {efs efs' : List Nat} {nx : Nat} {o : Oper} (ho : E.ops[i]? = some o) (k : FxQ E i rs efs nx) {R : Rec} (e : E.stepD i o rs efs nx = some (R, efs')) :
    OpF E rs efs' i o R ∧ R.nb = nx ∧ R.nb ≤ R.na ∧ ((efs' = efs ∧ ∀ ha, R.k ≠ .eff ha) ∨ (efs' = i :: efs ∧ ∃ ha, R.k = .eff ha)) := by
  unfold Env.stepD at e
  split at e
  · cases e
  · rename_i hw
    injection e with e
    injection e with e1 e2
    subst e1 e2
    exact ⟨⟨hw, rfl, rfl⟩, rfl, Nat.le_refl _, .inl ⟨rfl, fun ha => (by intro e; cases e)⟩⟩
  · rename_i hw
    split at e
    · rename_i v hv
      injection e with e
      injection e with e1 e2
      subst e1 e2
      exact ⟨⟨hw, v, rfl, hv, rfl⟩, rfl, Nat.le_refl _, .inl ⟨rfl, fun ha => (by intro e; cases e)⟩⟩
    · split at e
      · rename_i B m hm
        injection e with e
        injection e with e1 e2
        subst e1 e2
        exact ⟨⟨hw, m, hm, rfl, rfl⟩, rfl, Nat.le_succ _, .inl ⟨rfl, fun ha => (by intro e; cases e)⟩⟩
      · split at e
        · rename_i t x hop
          split at e
          · split at e
            · split at e
              · injection e with e
                injection e with e1 e2
                subst e1 e2
                exact ⟨⟨hw, ⟨t, x, hop⟩, rfl⟩, rfl, Nat.le_refl _, .inl ⟨rfl, fun ha => (by intro e; cases e)⟩⟩
              · cases e
            · cases e
          · cases e
        · split at e
          · rename_i hch
            split at e
            · rename_i v ha na hm
              split at e
              · rename_i hle
                injection e with e
                injection e with e1 e2
                subst e1 e2
                refine ⟨⟨hw, efs, List.suffix_refl _, fun e he => ?_, hm⟩, rfl, hle, .inr ⟨rfl, ha, rfl⟩⟩
                rw [he] at hch
                exact hch
              · cases e
            · cases e
          · cases e
theorem runD_ok {E : Env} (h : EnvOk E) : ∀ (l : List Oper) (i : Nat) (rs : Tr Rec) (efs : List Nat) (nx : Nat), i ≤ E.ops.size → E.ops.toList.drop i = l → FxQ E i rs efs nx → ∀ rs' efs' nx', E.runD l i rs efs nx = some (rs', efs', nx') → FxQ E E.ops.size rs' efs' nx'
  | [], i, rs, efs, nx, hle, hl, k, rs', efs', nx', e => by
    injection e with e
    injection e with e1 e2
    injection e2 with e2 e3
    subst e1 e2 e3
    have hsz : E.ops.size ≤ i := by
      have := congrArg List.length hl
      simp at this
      omega
    refine ⟨fun j o hj ho => k.all j o (by omega) ho, fun j m R S h1 h2 h3 h4 => k.ord j m R S h1 (by omega) h3 h4, fun e he => ?_, k.dec, k.lo⟩
    obtain ⟨h3, R, ha, h1, h2⟩ := k.eff e he
    exact ⟨by omega, R, ha, h1, h2⟩
  | o :: l, i, rs, efs, nx, hle, hl, k, rs', efs', nx', e => by
    have ho : E.ops[i]? = some o := by
      have h1 : (E.ops.toList.drop i)[0]? = some o := by rw [hl]; rfl
      rw [List.getElem?_drop, Nat.add_zero] at h1
      simpa using h1
    have hi := (Array.getElem?_eq_some_iff.1 ho).1
    have hl' : E.ops.toList.drop (i + 1) = l := by
      rw [← List.drop_drop, hl]; rfl
    unfold Env.runD at e
    split at e
    · rename_i R eft hst
      obtain ⟨f1, f2, f3, f4⟩ := stepD_ok h ho k hst
      have hsuf : efs <:+ eft := by
        rcases f4 with ⟨rfl, _⟩ | ⟨rfl, _⟩
        · exact List.suffix_refl _
        · exact List.suffix_cons _ _
      have hsame : ∀ j, j ≤ i → Same j rs (rs.set i R) := fun j hj q hq => by rw [Tr.get_set, if_neg (by omega)]
      refine runD_ok h l (i + 1) (rs.set i R) eft R.na hi hl' ⟨fun j o' hj ho' => ?_, fun j m S T h1 h2 h3 h4 => ?_, fun q hq => ?_, ?_, ?_⟩ rs' efs' nx' e
      · by_cases hji : j = i
        · subst hji
          rw [ho] at ho'
          injection ho' with ho'
          subst ho'
          refine ⟨R, by rw [Tr.get_set, if_pos rfl], f1.mono h hi (hsame j (Nat.le_refl _)) (List.suffix_refl _), by rw [f2]; exact k.lo, f3, Nat.le_refl _⟩
        · obtain ⟨S, g1, g2, g3, g4, g5⟩ := k.all j o' (by omega) ho'
          exact ⟨S, by rw [Tr.get_set, if_neg hji]; exact g1, g2.mono h (by omega) (hsame j (by omega)) hsuf, g3, g4, by omega⟩
      · rw [Tr.get_set, if_neg (by omega)] at h3
        by_cases hmi : m = i
        · subst hmi
          rw [Tr.get_set, if_pos rfl] at h4
          injection h4 with h4
          subst h4
          have hoj : E.ops[j]? = some (E.ops[j]'(by omega)) := Array.getElem?_eq_getElem _
          obtain ⟨S', g1, g2, g3, g4, g5⟩ := k.all j _ h1 hoj
          rw [h3] at g1
          injection g1 with g1
          subst g1
          omega
        · rw [Tr.get_set, if_neg hmi] at h4
          exact k.ord j m S T h1 (by omega) h3 h4
      · rcases f4 with ⟨rfl, _⟩ | ⟨rfl, ha, hk⟩
        · obtain ⟨a1, S, ha, a2, a3⟩ := k.eff q hq
          exact ⟨by omega, S, ha, by rw [Tr.get_set, if_neg (by omega)]; exact a2, a3⟩
        · rcases List.mem_cons.1 hq with rfl | hq
          · exact ⟨by omega, R, ha, by rw [Tr.get_set, if_pos rfl], hk⟩
          · obtain ⟨a1, S, ha, a2, a3⟩ := k.eff q hq
            exact ⟨by omega, S, ha, by rw [Tr.get_set, if_neg (by omega)]; exact a2, a3⟩
      · rcases f4 with ⟨rfl, _⟩ | ⟨rfl, ha, hk⟩
        · exact k.dec
        · exact List.pairwise_cons.2 ⟨fun q hq => (k.eff q hq).1, k.dec⟩
      · have := k.lo; omega
    · cases e
end Go.Proofs.YtgilghiegfgjeaaGreatDoor
end
