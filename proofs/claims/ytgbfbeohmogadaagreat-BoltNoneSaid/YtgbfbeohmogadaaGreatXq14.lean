/- Running closed code: regions in their order, code, calls. -/
import Derived.Test.YtgbfbeohmogadaaGreatXq13
import Derived.LoopN
import Derived.ScopeJumps
namespace Go.Proofs.YtgbfbeohmogadaaGreat
open Go.RowKit
set_option linter.unusedVariables false

def wantS (ops : Array Oper) (tm : Tr V) (o : Oper) : Option Bool := match o.guard with
  | none => some true
  | some (j, want) => match ops[j]? with
    | some q => match q.dst with
      | some t => match tm.get t with
        | some (.w (.c (.b b))) => some (b == want)
        | some (.t []) => some false
        | _ => none
      | none => none
    | none => none
theorem wantS_ok {r : Nm} {tm : Tr V} {n : Nat} {a : Act} (h : RelA r tm n a) {ops : Array Oper} {o : Oper} {b : Bool} (e : wantS ops tm o = some b) : Region.wanted o (yielded ops a.tmps) = b := by
  unfold wantS at e
  unfold Region.wanted
  split at e
  · rename_i hg; rw [hg]; injection e
  · rename_i j want hg
    rw [hg]
    simp only
    split at e
    · rename_i q hq
      split at e
      · rename_i t ht
        split at e
        · rename_i c hc
          injection e with e
          subst e
          obtain ⟨u, h1, h2⟩ := h.val t _ hc
          cases h2 with | w h2 => cases h2 with | c h2 => cases h2 with | b =>
          have : yielded ops a.tmps j = some c := by
            unfold yielded
            rw [hq]
            simp [ht, h1]
          rw [this]
          cases c <;> cases want <;> rfl
        · rename_i hc
          injection e with e
          subst e
          obtain ⟨u, h1, h2⟩ := h.val t _ hc
          cases h2 with | t h2 => cases h2 with | nil =>
          have : yielded ops a.tmps j = none := by
            unfold yielded
            rw [hq]
            simp [ht, h1]
          rw [this]
          cases want <;> rfl
        · cases e
      · cases e
    · cases e
/-- a frame and a memory -/
structure RelS (r : Nm) (N : Nat) (s : St) (a : Act) (w : World) : Prop where
  fr : RelA r s.tm N a
  hp : RelH r s.hp w
  nx : fresh r s.nx
def stepR (P : Program) (ext : ExtF) (call : CallF) (ops : Array Oper) (N : Nat) (o : Oper) (s : St) : Option St := match wantS ops s.tm o with
  | none => none
  | some false => match putD N o.dst (.t []) s.tm with
    | some tm => some ⟨tm, s.hp, s.nx⟩
    | none => none
  | some true => match opPure P (evO s.tm) o.op with
    | some v => match putD N o.dst v s.tm with
      | some tm => some ⟨tm, s.hp, s.nx⟩
      | none => none
    | none => match opMem P ext call (evO s.tm) s.hp s.nx o.op with
      | some (v, H', nx') => match putO N o.dst v s.tm with
        | some tm => some ⟨tm, H', nx'⟩
        | none => none
      | none => none
def runL (P : Program) (ext : ExtF) (call : CallF) (ops : Array Oper) (N : Nat) : List Oper → St → Option St
  | [], s => some s
  | o :: l, s => match stepR P ext call ops N o s with
    | some s' => runL P ext call ops N l s'
    | none => none
theorem RelA.putD {r : Nm} {tm tm' : Tr V} {N : Nat} {a : Act} (h : RelA r tm N a) {dst : Option Nat} {v : V} {u : Value} (hv : VR r v u) (e : Go.Proofs.YtgbfbeohmogadaaGreat.putD N dst v tm = some tm') : RelA r tm' N (a.put dst u) := by
  unfold Go.Proofs.YtgbfbeohmogadaaGreat.putD at e
  split at e
  · injection e with e; subst e; exact h
  · split at e
    · rename_i hd; injection e with e; subst e; exact h.put hd hv
    · cases e
theorem RelA.loseD {r : Nm} {tm : Tr V} {N : Nat} {a : Act} (h : RelA r tm N a) (dst : Option Nat) (u : Value) : RelA r (Go.Proofs.YtgbfbeohmogadaaGreat.loseD dst tm) N (a.put dst u) := by
  cases dst with
  | none => exact h
  | some d => exact h.lose d u
section
variable {P : Program} {ext : ExtF} {call : CallF} (hext : ExtS P ext) (hcall : CallS P call)
include hext hcall
/-- one operation -/
theorem stepR_ok {r : Nm} {N : Nat} {ops : Array Oper} {o : Oper} {s s' : St} {a : Act} {w : World} (h : RelS r N s a w) (e : stepR P ext call ops N o s = some s') {K : Act → World → Prop} {Q : Exit → Act → World → Prop}
    (hK : ∀ r' a' w', Mv s.nx r s.hp w s'.nx r' s'.hp w' → RelS r' N s' a' w' → K a' w') :
    if Region.wanted o (yielded ops a.tmps) then o.wp P a w K Q ∨ (o.asks P a w ∧ LetsOut Q) else K (a.put o.dst undef) w := by
  have he := fun x v (e : evO s.tm x = some v) => evO_ok h.fr e
  unfold stepR at e
  split at e
  · cases e
  · rename_i hw
    rw [if_neg (by rw [wantS_ok h.fr hw]; exact Bool.false_ne_true)]
    split at e
    · rename_i tm htm
      injection e with e
      subst e
      exact hK r _ w (Mv.refl h.hp) ⟨h.fr.putD (.t .nil) htm, h.hp, h.nx⟩
    · cases e
  · rename_i hw
    rw [if_pos (wantS_ok h.fr hw)]
    left
    split at e
    · rename_i v hv
      split at e
      · rename_i tm htm
        injection e with e
        subst e
        obtain ⟨u, hu, hrun⟩ := opPure_ok (P := P) he hv
        unfold Oper.wp
        rw [hrun w]
        exact hK r _ w (Mv.refl h.hp) ⟨h.fr.putD hu htm, h.hp, h.nx⟩
      · cases e
    · split at e
      · rename_i v H' nx' hm
        split at e
        · rename_i tm htm
          injection e with e
          subst e
          refine opMem_ok hext hcall he h.hp h.nx hm K Q fun u w' ⟨r', hmv, hfr, hv⟩ => ?_
          refine hK r' _ w' hmv ⟨?_, hmv.rel, hfr⟩
          rcases hv with ⟨rfl, rfl⟩ | ⟨x, y, rfl, rfl, hxy⟩
          · injection htm with htm
            subst htm
            exact (h.fr.mono hmv.le).loseD _ _
          · exact (h.fr.mono hmv.le).putD hxy htm
        · cases e
      · cases e
theorem runL_ok {N : Nat} {ops : Array Oper} {Q : Exit → Act → World → Prop} : ∀ (l : List Oper) (r : Nm) (s s' : St) (a : Act) (w : World), RelS r N s a w → runL P ext call ops N l s = some s' →
    (∀ r' a' w', Mv s.nx r s.hp w s'.nx r' s'.hp w' → RelS r' N s' a' w' → Q .normal a' w') → wpList P ops Q l a w
  | [], r, s, s', a, w, h, e, hQ => by
    injection e with e
    subst e
    exact hQ r a w (Mv.refl h.hp) h
  | o :: l, r, s, s', a, w, h, e, hQ => by
    unfold runL at e
    split at e
    · rename_i s1 h1
      exact stepR_ok hext hcall h h1 fun r1 a1 w1 m1 k1 => runL_ok l r1 s1 s' a1 w1 k1 e fun r2 a2 w2 m2 k2 => hQ r2 a2 w2 (m1.trans m2) k2
    · cases e
end
/-! ### Code -/
/-- a scope's code, with at most so many jumps -/
def hops (P : Program) (c : Code) (Q : Exit → Act → World → Prop) : Nat → Code → Act → World → Prop
  | 0, _, _, _ => False
  | m + 1, x, a, w => x.wp P (fun e a w => match e with
    | .goto l => ∃ rest, findLabel c l = some rest ∧ hops P c Q m rest a w
    | e => Q e a w) a w
theorem wp_scope_hops {P : Program} {c : Code} {Q : Exit → Act → World → Prop} {a : Act} {w : World} (m : Nat) (h : hops P c Q m c a w) : (Code.scope c).wp P Q a w := by
  intro b k cs
  have key : ∀ m x a w, hops P c Q m x a w → ∃ e a' w', Q e a' w' ∧ Arrives P (lone (b.at a (.code x :: .inScope c :: k)) cs w) b k cs e a' w' := by
    intro m
    induction m with
    | zero => intro x a w h; exact h.elim
    | succ m ih =>
      intro x a w h
      obtain ⟨e, a₁, w₁, hq, harr⟩ := h b (.inScope c :: k) cs
      cases e with
      | normal => exact ⟨.normal, a₁, w₁, hq, Steps.trans harr (.one step_inScope)⟩
      | exit id => exact ⟨.exit id, a₁, w₁, hq, fun k' hk => harr k' (by simp [exitTo, hk])⟩
      | goto l =>
        obtain ⟨rest, hf, hJ⟩ := hq
        have hg : gotoIn l (.inScope c :: k) = some (.code rest :: .inScope c :: k) := by simp [gotoIn, hf]
        obtain ⟨e₂, a₂, w₂, hq₂, harr₂⟩ := ih rest a₁ w₁ hJ
        exact ⟨e₂, a₂, w₂, hq₂, .of_steps (harr _ hg) harr₂⟩
      | ret => exact ⟨_, a₁, w₁, hq, harr⟩
      | panic ch => exact ⟨_, a₁, w₁, hq, harr⟩
      | outgrown => exact ⟨_, a₁, w₁, hq, harr⟩
  obtain ⟨e, a', w', hq, harr⟩ := key m c a w h
  exact ⟨e, a', w', hq, .of_steps (.one step_scope) harr⟩
/-- calls that are known otherwise: they come first -/
abbrev SpF := CallF → CallF
def SpS (P : Program) (sp : SpF) : Prop := ∀ call, CallS P call → CallS P (sp call)
def callS (sp : SpF) (c : CallF) : CallF := fun f xs H nx => match sp c f xs H nx with
  | some z => some z
  | none => c f xs H nx
theorem callS_ok {P : Program} {sp : SpF} (hsp : SpS P sp) {c : CallF} (hc : CallS P c) : CallS P (callS sp c) := by
  intro f xs H nx v H' nx' h r w us hu hH hf
  unfold callS at h
  split at h
  · rename_i z hz
    injection h with h
    subst h
    exact hsp c hc f xs H nx v H' nx' hz r w us hu hH hf
  · exact hc f xs H nx v H' nx' h r w us hu hH hf
inductive Ex where
  | norm
  | exit (id : Nat)
  | ret
  | goto (l : Nat)
def Ex.to : Ex → Exit
  | .norm => .normal
  | .exit id => .exit id
  | .ret => .ret
  | .goto l => .goto l
/-- how a region that draws its order is run (nothing: it is not) -/
abbrev DrawF := CallF → Array Oper → Nat → St → Option St
def DrawS (P : Program) (ext : ExtF) (dr : DrawF) : Prop := ∀ call, CallS P call → ∀ ops N s s', dr call ops N s = some s' → ∀ r a w, RelS r N s a w → ∀ (Q : Exit → Act → World → Prop) id,
  (∀ r' a' w', Mv s.nx r s.hp w s'.nx r' s'.hp w' → RelS r' N s' a' w' → Q .normal a' w') → (Code.region id ops true).wp P Q a w
def resE (P : Program) (s : St) : List ResultVar → Option (List Wv)
  | [] => some []
  | .tmp t :: l => match s.tm.get t, resE P s l with
    | some (.w x), some xs => some (x :: xs)
    | _, _ => none
  | .cell t ty :: l => match s.tm.get t, resE P s l with
    | some (.w (.c (.p (some (k, o))))), some xs => match s.hp.get k with
      | some B => match opLoadB P B ty o with
        | some x => some (x :: xs)
        | none => none
      | none => none
    | _, _ => none
def resV : List Wv → V
  | [x] => .w x
  | xs => .t xs
def callF (P : Program) (R : Nat → Code → St → Option (Ex × St)) : CallF := fun f xs H nx => match P.funcs[f]? with
  | some fn => match fn.body with
    | some c => if xs.length ≤ fn.ntmps then
        match R fn.ntmps c ⟨setV .nil 0 xs, H, nx⟩ with
        | some (.exit _, _) => none
        | some (.goto _, _) => none
        | some (_, s) => match resE P s fn.results.toList with
          | some l => some (resV l, s.hp, s.nx)
          | none => none
        | none => none
      else none
    | none => none
  | none => none
where
  setV : Tr V → Nat → List V → Tr V
    | t, _, [] => t
    | t, i, x :: xs => setV (t.set i x) (i + 1) xs
/-- a scope's jumps -/
def hopR (R : Nat → Code → St → Option (Ex × St)) (c : Code) (N : Nat) : Nat → Code → St → Option (Ex × St)
  | 0, _, _ => none
  | j + 1, x, s => match R N x s with
    | some (.goto l, s') => match findLabel c l with
      | some rest => hopR R c N j rest s'
      | none => none
    | z => z
def run (P : Program) (ext : ExtF) (sp : SpF) (dr : DrawF) : Nat → Nat → Code → St → Option (Ex × St)
  | 0, _, _, _ => none
  | m + 1, N, c, s => match c with
    | .skip => some (.norm, s)
    | .label _ => some (.norm, s)
    | .ret => some (.ret, s)
    | .exit id => some (.exit id, s)
    | .goto l => some (.goto l, s)
    | .scope c => hopR (run P ext sp dr m) c N 64 c s
    | .seq x y => match run P ext sp dr m N x s with
      | some (.norm, s') => run P ext sp dr m N y s'
      | z => z
    | .cond x a b => match evO s.tm x with
      | some (.w (.c (.b true))) => run P ext sp dr m N a s
      | some (.w (.c (.b false))) => run P ext sp dr m N b s
      | _ => none
    | .block id x => match run P ext sp dr m N x s with
      | some (.exit j, s') => if j = id then some (.norm, s') else some (.exit j, s')
      | z => z
    | .loop x => match run P ext sp dr m N x s with
      | some (.norm, s') => run P ext sp dr m N (.loop x) s'
      | z => z
    | .region _ ops false => match runL P ext (callS sp (callF P (run P ext sp dr m))) ops N ops.toList s with
      | some s' => some (.norm, s')
      | none => none
    | .region _ ops true => match dr (callS sp (callF P (run P ext sp dr m))) ops N s with
      | some s' => some (.norm, s')
      | none => none
    | _ => none
end Go.Proofs.YtgbfbeohmogadaaGreat
