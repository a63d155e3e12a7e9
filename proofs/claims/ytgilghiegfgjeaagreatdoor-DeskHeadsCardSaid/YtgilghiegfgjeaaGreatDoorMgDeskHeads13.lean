/- Joined: Xq30, Xq31, Xq32, Xq33, Dq1, Dq2. -/
import Derived.Lib.Join
import Derived.Test.YtgilghiegfgjeaaGreatDoorRows
import Derived.Tactics
import Derived.Tactics2
import Derived.Defers
import Derived.Recover
import Derived.Laws.Pointers
import Derived.Lib.Bytealg
import Derived.Test.YtgilghiegfgjeaaGreatDoorMgDeskHeads5
import Derived.Test.YtgilghiegfgjeaaGreatDoorMgDeskHeads12
section
set_option linter.unusedVariables false
set_option linter.unusedSimpArgs false
/- Running closed code that ends in a panic. -/
namespace Go.Proofs.YtgilghiegfgjeaaGreatDoor
open Go.RowKit
set_option linter.unusedVariables false

/-- one panic, of a value behind an interface, not yet recovered -/
def OneP (ch : List PanicEntry) : Prop := ∃ t v, ch = [{ v := .iface t v, recovered := false }]
abbrev PanF := FuncId → List V → Hp → Nat → Option (Hp × Nat)
def PanS (P : Program) (pf : PanF) : Prop := ∀ f xs H nx H' nx', pf f xs H nx = some (H', nx') → ∀ r w us, VsR r xs us → RelH r H w → fresh r nx →
  Calls P f us.toArray w fun e w' => ∃ r' ch, e = .panicked ch ∧ OneP ch ∧ Mv nx r H w nx' r' H' w' ∧ fresh r' nx'
def panOp (P : Program) (pan : PanF) (e : Operand → Option V) (H : Hp) (nx : Nat) (op : Op) : Option (Hp × Nat) := match op with
  | .panic x => match e x with
    | some (.w (.c (.d _ _ _))) => some (H, nx)
    | _ => none
  | .call ⟨.value f, args, _⟩ => match e f, valsE e args.toList with
    | some (.w (.c (.f fn first cap))), some l => match P.funcs[fn]? with
      | some g => if g.name == "runtime.NumGoroutine" || g.body.isNone then none else pan fn (ptrsV first ++ l ++ ptrsV cap) H nx
      | none => none
    | _, _ => none
  | _ => none
theorem panOp_ok {P : Program} {pan : PanF} (hpan : PanS P pan) {r : Nm} {a : Act} {e : Operand → Option V} (he : ∀ x v, e x = some v → VR r v (a.eval x))
    {H : Hp} {nx : Nat} {w : World} (hH : RelH r H w) (hf : fresh r nx) {o : Oper} {H' : Hp} {nx' : Nat} (h : panOp P pan e H nx o.op = some (H', nx')) {K : Act → World → Prop} {Q : Exit → Act → World → Prop}
    (hQ : ∀ r' w' ch, OneP ch → Mv nx r H w nx' r' H' w' → fresh r' nx' → Q (.panic ch) a w') : o.wp P a w K Q := by
  unfold panOp at h
  split at h
  · rename_i x ho
    split at h
    · rename_i t b c hx
      injection h with h
      injection h with h1 h2
      subst h1 h2
      have hv := he _ _ hx
      have hi : ∃ z, a.eval x = .iface t z := by
        generalize a.eval x = q at hv
        cases hv with | w hv => cases hv with | c hv =>
        cases hv with
        | d _ hcr => exact ⟨_, rfl⟩
        | da _ hcr => exact ⟨_, rfl⟩
      obtain ⟨z, hz⟩ := hi
      unfold Oper.wp
      have : (execOp a.eval o).run P w = .halt (.panic (.iface t z)) w := by
        unfold execOp
        rw [ho]
        simp only [hz]
        rfl
      rw [this, Oper.upon_panic]
      exact hQ r w _ ⟨t, z, rfl⟩ (Mv.refl hH) hf
    · cases h
  · rename_i f args ts ho
    split at h
    · rename_i fn first cap l hfv hl
      split at h
      · rename_i g hg
        split at h
        · cases h
        · rename_i hcond
          have hp := valsE_ok he _ _ hl
          have hfr := he _ _ hfv
          have hfun : ∃ va vc, AR r first va ∧ AR r cap vc ∧ a.eval f = .func (.func fn) va.toArray vc.toArray := by
            generalize a.eval f = u at hfr
            cases hfr with | w hfr => cases hfr with | c hfr => cases hfr with | f _ ha hcp => exact ⟨_, _, ha, hcp, rfl⟩
          obtain ⟨va, vc, h1, h2, h3⟩ := hfun
          have hargs := ((ptrsV_ok h1).append hp).append (ptrsV_ok h2)
          have harr : (va.toArray ++ args.map a.eval ++ vc.toArray) = (va ++ args.toList.map a.eval ++ vc).toArray := by
            rw [← Array.toList_map]; simp
          have hinv : (execOp a.eval o).run P w = (callFunc fn (va ++ args.toList.map a.eval ++ vc).toArray).run P w := by
            unfold execOp
            rw [ho]
            simp only [resolve, Sem.run_bind, Sem.run_pure, Result.andThen_ok, h3, Deferred.ofValue, invoke, harr]
          simp only [Bool.or_eq_true, not_or, Bool.not_eq_true] at hcond
          have hcf : (callFunc fn (va ++ args.toList.map a.eval ++ vc).toArray).run P w = .ok (.enter fn (va ++ args.toList.map a.eval ++ vc).toArray) w := by
            have hn : ¬ g.name = "runtime.NumGoroutine" := by simpa using hcond.1
            have hb : ¬ g.body = none := by intro e; rw [e] at hcond; simp at hcond
            simp [callFunc, hg, hn, hb]
          unfold Oper.wp
          rw [hinv, hcf, Oper.upon_enter]
          refine (hpan _ _ _ _ _ _ h r w _ hargs hH hf).mono fun e w' ⟨r', ch, heq, ho, hmv, hfr'⟩ => ?_
          subst heq
          exact hQ r' w' ch ho hmv hfr'
      · cases h
    · cases h
  · cases h
def panL (P : Program) (ext : ExtF) (call : CallF) (pan : PanF) (ops : Array Oper) (N : Nat) : List Oper → St → Option St
  | [], _ => none
  | o :: l, s => match stepR P ext call ops N o s with
    | some s' => panL P ext call pan ops N l s'
    | none => match wantS ops s.tm o with
      | some true => match panOp P pan (evO s.tm) s.hp s.nx o.op with
        | some (H', nx') => some ⟨s.tm, H', nx'⟩
        | none => none
      | _ => none
theorem panL_ok {P : Program} {ext : ExtF} {call : CallF} {pan : PanF} (hext : ExtS P ext) (hcall : CallS P call) (hpan : PanS P pan) {N : Nat} {ops : Array Oper} {Q : Exit → Act → World → Prop} : ∀ (l : List Oper) (r : Nm) (s s' : St) (a : Act) (w : World), RelS r N s a w → panL P ext call pan ops N l s = some s' →
    (∀ r' a' w' ch, OneP ch → Mv s.nx r s.hp w s'.nx r' s'.hp w' → fresh r' s'.nx → a'.defers = [] → Q (.panic ch) a' w') → wpList P ops Q l a w
  | [], r, s, s', a, w, h, e, hQ => by cases e
  | o :: l, r, s, s', a, w, h, e, hQ => by
    unfold panL at e
    split at e
    · rename_i s1 h1
      exact stepR_ok hext hcall h h1 fun r1 a1 w1 m1 k1 => panL_ok hext hcall hpan l r1 s1 s' a1 w1 k1 e fun r2 a2 w2 ch ho m2 k2 k3 => hQ r2 a2 w2 ch ho (m1.trans m2) k2 k3
    · split at e
      · rename_i hw
        split at e
        · rename_i H' nx' hm
          injection e with e
          subst e
          have key : if Region.wanted o (yielded ops a.tmps) then o.wp P a w (fun a w => wpList P ops Q l a w) Q ∨ (o.asks P a w ∧ LetsOut Q) else wpList P ops Q l (a.put o.dst undef) w := by
            rw [if_pos (wantS_ok h.fr hw)]
            left
            exact panOp_ok hpan (fun x v (e : evO s.tm x = some v) => evO_ok h.fr e) h.hp h.nx hm fun r' w' ch ho hmv hfr => hQ r' a w' ch ho hmv hfr h.fr.defers
          exact key
        · cases e
      · cases e
mutual
def panC (P : Program) (ext : ExtF) (sp : SpF) (dr : DrawF) : Nat → Nat → Code → St → Option St
  | 0, _, _, _ => none
  | m + 1, N, c, s => match c with
    | .seq x y => match run P ext sp dr m N x s with
      | some (.norm, s1) => panC P ext sp dr m N y s1
      | some _ => none
      | none => panC P ext sp dr m N x s
    | .cond x a b => match evO s.tm x with
      | some (.w (.c (.b true))) => panC P ext sp dr m N a s
      | some (.w (.c (.b false))) => panC P ext sp dr m N b s
      | _ => none
    | .scope x => panC P ext sp dr m N x s
    | .block _ x => panC P ext sp dr m N x s
    | .loop x => match run P ext sp dr m N x s with
      | some (.norm, s1) => panC P ext sp dr m N (.loop x) s1
      | some _ => none
      | none => panC P ext sp dr m N x s
    | .region _ ops false => panL P ext (callS sp (callF P (run P ext sp dr m))) (panF P ext sp dr m) ops N ops.toList s
    | _ => none
def panF (P : Program) (ext : ExtF) (sp : SpF) (dr : DrawF) : Nat → PanF
  | 0, _, _, _, _ => none
  | m + 1, f, xs, H, nx => match P.funcs[f]? with
    | some fn => match fn.body with
      | some c => if xs.length ≤ fn.ntmps then
          match panC P ext sp dr m fn.ntmps c ⟨callF.setV .nil 0 xs, H, nx⟩ with
          | some s => some (s.hp, s.nx)
          | none => none
        else none
      | none => none
    | none => none
end
def PanCS (P : Program) (R : Nat → Code → St → Option St) : Prop := ∀ N c s s', R N c s = some s' → ∀ r a w, RelS r N s a w → ∀ (Q : Exit → Act → World → Prop),
  (∀ r' a' w' ch, OneP ch → Mv s.nx r s.hp w s'.nx r' s'.hp w' → fresh r' s'.nx → a'.defers = [] → Q (.panic ch) a' w') → c.wp P Q a w
theorem pan_ok {P : Program} {ext : ExtF} {sp : SpF} {dr : DrawF} (hext : ExtS P ext) (hsp : SpS P sp) (hdr : DrawS P ext dr) : ∀ m, PanCS P (panC P ext sp dr m) ∧ PanS P (panF P ext sp dr m) ∧
    ∀ N c s s', panC P ext sp dr m N (.loop c) s = some s' → ∀ r a w, RelS r N s a w → ∀ (Q : Exit → Act → World → Prop), (∀ r' a' w' ch, OneP ch → Mv s.nx r s.hp w s'.nx r' s'.hp w' → fresh r' s'.nx → a'.defers = [] → Q (.panic ch) a' w') → Code.rounds P c Q m a w := by
  intro m
  induction m with
  | zero => exact ⟨fun N c s s' h => (by unfold panC at h; cases h), fun f xs H nx H' nx' h => (by unfold panF at h; cases h), fun N c s s' h => (by unfold panC at h; cases h)⟩
  | succ m ih =>
    obtain ⟨ih, ihf, ihl⟩ := ih
    have hrun := (run_ok hext hsp hdr m).1
    have loop : ∀ N c s s', panC P ext sp dr (m + 1) N (.loop c) s = some s' → ∀ r a w, RelS r N s a w → ∀ (Q : Exit → Act → World → Prop), (∀ r' a' w' ch, OneP ch → Mv s.nx r s.hp w s'.nx r' s'.hp w' → fresh r' s'.nx → a'.defers = [] → Q (.panic ch) a' w') → Code.rounds P c Q (m + 1) a w := by
      intro N c s s' h r a w hS Q hQ
      unfold panC at h
      simp only at h
      show c.wp P (Exit.then (Code.rounds P c Q m) Q) a w
      split at h
      · rename_i s1 h1
        exact hrun _ _ _ _ _ h1 r a w hS _ fun r1 a1 w1 m1 k1 => ihl _ _ _ _ h r1 a1 w1 k1 Q fun r2 a2 w2 ch ho m2 k2 k3 => hQ r2 a2 w2 ch ho (m1.trans m2) k2 k3
      · cases h
      · exact ih _ _ _ _ h r a w hS _ fun r1 a1 w1 ch ho m1 k1 k2 => hQ r1 a1 w1 ch ho m1 k1 k2
    refine ⟨fun N c s s' h r a w hS Q hQ => ?_, fun f xs H nx H' nx' h r w us hu hH hf => ?_, loop⟩
    · cases c with
      | loop x => exact wp_loop_rounds (m + 1) (loop N x s s' h r a w hS Q hQ)
      | seq y z =>
        unfold panC at h
        simp only at h
        refine wp_seq ?_
        split at h
        · rename_i s1 h1
          exact hrun _ _ _ _ _ h1 r a w hS _ fun r1 a1 w1 m1 k1 => ih _ _ _ _ h r1 a1 w1 k1 Q fun r2 a2 w2 ch ho m2 k2 k3 => hQ r2 a2 w2 ch ho (m1.trans m2) k2 k3
        · cases h
        · exact ih _ _ _ _ h r a w hS _ fun r1 a1 w1 ch ho m1 k1 k2 => hQ r1 a1 w1 ch ho m1 k1 k2
      | cond y b c =>
        unfold panC at h
        simp only at h
        split at h
        · rename_i hy
          have hv := evO_ok hS.fr hy
          have e : a.eval y = .bool true := by
            generalize a.eval y = u at hv
            cases hv with | w hv => cases hv with | c hv => cases hv with | b => rfl
          exact wp_cond_true e (ih _ _ _ _ h r a w hS Q hQ)
        · rename_i hy
          have hv := evO_ok hS.fr hy
          have e : a.eval y = .bool false := by
            generalize a.eval y = u at hv
            cases hv with | w hv => cases hv with | c hv => cases hv with | b => rfl
          exact wp_cond_false e (ih _ _ _ _ h r a w hS Q hQ)
        · cases h
      | scope y =>
        unfold panC at h
        simp only at h
        exact wp_scope_hops 1 (ih _ _ _ _ h r a w hS _ fun r1 a1 w1 ch ho m1 k1 k2 => hQ r1 a1 w1 ch ho m1 k1 k2)
      | block id y =>
        unfold panC at h
        simp only at h
        exact wp_block (ih _ _ _ _ h r a w hS _ fun r1 a1 w1 ch ho m1 k1 k2 => hQ r1 a1 w1 ch ho m1 k1 k2)
      | region id ops d =>
        cases d with
        | false =>
          unfold panC at h
          simp only at h
          exact wp_region_list (panL_ok hext (callS_ok hsp (callF_ok hrun)) ihf ops.toList r s s' a w hS h hQ)
        | true => unfold panC at h; cases h
      | _ => unfold panC at h; cases h
    · unfold panF at h
      split at h
      · rename_i fn hfn
        split at h
        · rename_i c hc
          split at h
          · rename_i hn
            split at h
            · rename_i s hs
              injection h with h
              injection h with e1 e2
              refine calls_of_wp hfn hc (ih _ _ _ _ hs r _ w ⟨enter_ok hu hn, hH, hf⟩ _ fun r' a' w' ch ho hmv hfr hd => ?_)
              rw [← e1, ← e2]
              exact ⟨hd, r', ch, rfl, ho, hmv, hfr⟩
            · cases h
          · cases h
        · cases h
      · cases h
end Go.Proofs.YtgilghiegfgjeaaGreatDoor
end
section
set_option linter.unusedVariables false
set_option linter.unusedSimpArgs false
/- Functions without a body over a string and a byte (bytealg.CountString, IndexByteString), and how they count. -/
namespace Go.Proofs.YtgilghiegfgjeaaGreatDoor
open Go.RowKit
set_option linter.unusedVariables false

def extB (f0 : FuncId) (g : ByteArray → Int → Int) : ExtF := fun f xs H => if f = f0 then match xs with
  | [.w (.c (.s s)), .w (.c (.i .u8 c))] => some (.w (.c (.i .i64 (g s c))), H)
  | _ => none else none
theorem extB_ok {P : Program} {f0 : FuncId} {g : ByteArray → Int → Int} (hl : ∀ (s : ByteArray) (c : Int) (w : World), (callFunc f0 #[.string s, .int .u8 c]).run P w = .ok (.value (.int .i64 (g s c))) w) : ExtS P (extB f0 g) := by
  intro f xs H v H' h r w us hu hH
  unfold extB at h
  split at h
  case isFalse => cases h
  rename_i hf
  subst hf
  split at h
  case h_2 => cases h
  rename_i s c
  injection h with h
  injection h with h1 h2
  subst h1 h2
  cases hu with | cons x1 hu => cases hu with | cons x2 hu => cases hu with | nil =>
  cases x1 with | w x1 => cases x1 with | c x1 => cases x1 with | s =>
  cases x2 with | w x2 => cases x2 with | c x2 => cases x2 with | i =>
  exact ⟨_, w, hl s c w, .w (.c (.i _ _)), fun nx => Mv.refl hH⟩
/-- a call that leaves what was there (the kit's Below), seen as a move that makes nothing known -/
theorem mv_below {r : Nm} {H : Hp} {w w' : World} (h : RelH r H w) (hb : Below w.heap.size w w') (nx : Nat) : Mv nx r H w nx r H w' := by
  refine ⟨Nm.le_refl _, Nat.le_refl _, fun _ _ => rfl, ⟨fun k B hk => ?_, h.inj⟩, hb.os, hb.tape, hb.output, hb.size, fun b hl _ => hb.block b hl, fun k B b s hk rk => .inr ⟨k, B, s, hk, rk⟩⟩
  obtain ⟨b, sz, rk, hB⟩ := h.at_ k B hk
  exact ⟨b, sz, rk, hB.keep (hb.block b hB.lt)⟩
end Go.Proofs.YtgilghiegfgjeaaGreatDoor
end
section
set_option linter.unusedVariables false
set_option linter.unusedSimpArgs false
/- strings.Join in the runner, by its contract. -/
namespace Go.Proofs.YtgilghiegfgjeaaGreatDoor
open Go.RowKit
set_option linter.unusedVariables false

def strsOf (B : Bk) : Nat → Nat → Option (List ByteArray)
  | _, 0 => some []
  | o, n + 1 => if o < B.n then match B.cell o, strsOf B (o + 1) n with
    | .s x, some l => some (x :: l)
    | _, _ => none else none
theorem strsOf_ok {r : Nm} {w : World} {B : Bk} {b sz : Nat} (h : BR r w B b sz) : ∀ (n o : Nat) (l : List ByteArray), strsOf B o n = some l → l.length = n ∧ ∀ (j : Nat) x, l[j]? = some x → w.cell? ⟨b, o + j, none⟩ = some (.string x)
  | 0, o, l, e => by injection e with e; subst e; exact ⟨rfl, fun j x hx => by simp at hx⟩
  | n + 1, o, l, e => by
    unfold strsOf at e
    split at e
    · rename_i ho
      split at e
      · rename_i x l' hx hl
        injection e with e
        subst e
        obtain ⟨k1, k2⟩ := strsOf_ok h n (o + 1) l' hl
        refine ⟨by simp [k1], fun j y hy => ?_⟩
        cases j with
        | zero =>
          simp at hy
          subst hy
          obtain ⟨v, h1, h2⟩ := h.cell ho
          rw [hx] at h2
          cases h2
          exact h1
        | succ j =>
          have := k2 j y (by simpa using hy)
          rwa [show o + 1 + j = o + (j + 1) by omega] at this
      · cases e
    · cases e
def joinOf (l : List ByteArray) (sep : ByteArray) : ByteArray := ⟨(Lib.join (l.map (·.data.toList)) sep.data.toList).toArray⟩
/-- strings.Join of what is known -/
def spJoin (fJ : Nat) : SpF := fun call f xs H nx => if f = fJ then match xs with
  | [.w (.c (.l (some (k, o)) n c)), .w (.c (.s sep))] => match H.get k with
    | some B => match strsOf B o n with
      | some l => if capOk n c = true ∧ n ≤ 1000000 ∧ (joinOf l sep).data.size ≤ 1000000 then some (.w (.c (.s (joinOf l sep))), H, nx) else none
      | none => none
    | none => none
  | _ => none else none
theorem spJoin_ok {P : Program} {fJ : Nat} (hJ : ∀ (bk o c : Nat) (xs : List ByteArray) (sep : ByteArray) (w : World), (∀ (j : Nat) x, xs[j]? = some x → w.cell? ⟨bk, o + j, none⟩ = some (.string x)) → bk < w.heap.size → xs.length ≤ 140737488355328 → xs.length ≤ c →
    (Lib.join (xs.map (·.data.toList)) sep.data.toList).length ≤ 140737488355328 → Calls P fJ #[.slice (some ⟨bk, o, none⟩) xs.length c, .string sep] w fun e w' => e = .returned (.string (joinOf xs sep)) ∧ Below w.heap.size w w') : SpS P (spJoin fJ) := by
  intro call hcall f xs H nx v H' nx' h r w us hu hH hf
  unfold spJoin at h
  split at h
  case isFalse => cases h
  rename_i hf0
  subst hf0
  split at h
  case h_2 => cases h
  rename_i k o n c sep
  split at h
  case h_2 => cases h
  rename_i B hB
  split at h
  case h_2 => cases h
  rename_i l hl
  split at h
  case isFalse => cases h
  rename_i hc
  injection h with h
  injection h with h1 h2
  injection h2 with h2 h3
  subst h1 h2 h3
  obtain ⟨b, sz, rk, hBR⟩ := hH.at_ k B hB
  obtain ⟨k1, k2⟩ := strsOf_ok hBR n o l hl
  have hlen : (Lib.join (l.map (·.data.toList)) sep.data.toList).length ≤ 140737488355328 := by
    have := hc.2.2
    unfold joinOf at this
    simp at this
    omega
  cases hu with | cons x1 hu => cases hu with | cons x2 hu => cases hu with | nil =>
  cases x2 with | w x2 => cases x2 with | c x2 => cases x2 with | s =>
  cases x1 with | w x1 => cases x1 with | c x1 =>
  have go : ∀ m, n ≤ m → Calls P f (#[.slice (some ⟨b, o, none⟩) n m, .string sep]) w fun e w' => ∃ r' u, e = .returned u ∧ VR r' (.w (.c (.s (joinOf l sep)))) u ∧ Mv nx r H w nx r' H w' ∧ fresh r' nx := by
    intro m hm
    have := hJ b o m l sep w k2 hBR.lt (by omega) (by omega) hlen
    rw [k1] at this
    exact this.mono fun e w' ⟨he, hb⟩ => ⟨r, _, he, .w (.c (.s _)), mv_below hH hb nx, hf⟩
  cases x1 with
  | l n c hr =>
    rw [rk] at hr; injection hr with hr; injection hr with e1 e2; subst e1
    exact go _ (by simpa [capOk] using hc.1)
  | u n c es hr q1 q2 q3 =>
    rw [rk] at hr; injection hr with hr; injection hr with e1 e2; subst e1
    exact go _ q1
end Go.Proofs.YtgilghiegfgjeaaGreatDoor
end
section
set_option linter.unusedVariables false
set_option linter.unusedSimpArgs false
/- A function that defers a closure with recover (desk.does), in the runner, by its contract. -/
namespace Go.Proofs.YtgilghiegfgjeaaGreatDoor
open Go.RowKit
set_option linter.unusedVariables false

/-- what does comes to, given what says comes to: either says returns a slice, or it panics, and bad tells the number -/
def DoesC (P : Program) (fD fS fB : FuncId) (t1 t2 : TypeId) : Prop := ∀ (x s : Value) (n : Int) (w : World) (R : Value → World → Prop),
  Calls P fS #[x, s] ((w.alloc (.cells #[.int .i64 n] t1)).alloc (.cells #[.slice none 0 0] t2)) (fun e w3 =>
    (∃ q m c z, e = .returned (.slice q m c) ∧ w3.cell? ⟨w.heap.size + 1, 0, none⟩ = some z ∧ w3.frozen? ⟨w.heap.size + 1, 0, none⟩ = false ∧ R (.slice q m c) (w3.setCell ⟨w.heap.size + 1, 0, none⟩ (.slice q m c))) ∨
    (∃ ch, e = .panicked ch ∧ OneP ch ∧ w3.cell? ⟨w.heap.size, 0, none⟩ = some (.int .i64 n) ∧ Calls P fB #[.int .i64 n] w3 fun e w4 => ∃ q m c z, e = .returned (.slice q m c) ∧ w4.cell? ⟨w.heap.size + 1, 0, none⟩ = some z ∧
      w4.frozen? ⟨w.heap.size + 1, 0, none⟩ = false ∧ R (.slice q m c) (w4.setCell ⟨w.heap.size + 1, 0, none⟩ (.slice q m c)))) →
  Calls P fD #[x, s, .int .i64 n] w fun e w' => ∃ u, e = .returned u ∧ R u w'
def isL : V → Option C
  | .w (.c (.l a n c)) => some (.l a n c)
  | _ => none
def spDoes (fD fS fB : FuncId) (t1 t2 : TypeId) (pan : PanF) : SpF := fun call f xs H nx => if f = fD then match xs with
  | [x, s, .w (.c (.i .i64 n))] =>
    match call fS [x, s] ((H.set nx (bkL t1 [.i .i64 n])).set (nx + 1) (bkL t2 [.l none 0 (.k 0)])) (nx + 2) with
    | some (v, H3, nx3) => match isL v, H3.get (nx + 1) with
      | some v, some B => if 0 < B.n then some (.w (.c v), H3.set (nx + 1) (B.put 0 [v]), nx3) else none
      | _, _ => none
    | none => match pan fS [x, s] ((H.set nx (bkL t1 [.i .i64 n])).set (nx + 1) (bkL t2 [.l none 0 (.k 0)])) (nx + 2) with
      | some (H3, nx3) => match H3.get nx with
        | some B1 => if 0 < B1.n ∧ isI (B1.cell 0) .i64 n = true then match call fB [.w (.c (.i .i64 n))] H3 nx3 with
          | some (v, H4, nx4) => match isL v, H4.get (nx + 1) with
            | some v, some B => if 0 < B.n then some (.w (.c v), H4.set (nx + 1) (B.put 0 [v]), nx4) else none
            | _, _ => none
          | none => none
          else none
        | none => none
      | none => none
  | _ => none else none
theorem isL_ok {v : V} {c : C} (h : isL v = some c) {r : Nm} {u : Value} (hv : VR r v u) : CR r c u ∧ ∃ q m k, u = .slice q m k := by
  unfold isL at h
  split at h
  · rename_i a n k
    injection h with h
    subst h
    cases hv with | w hv => cases hv with | c hv =>
    refine ⟨hv, ?_⟩
    cases hv with
    | l0 => exact ⟨_, _, _, rfl⟩
    | l => exact ⟨_, _, _, rfl⟩
    | u => exact ⟨_, _, _, rfl⟩
  · cases h
theorem spDoes_ok {P : Program} {fD fS fB : FuncId} {t1 t2 : TypeId} {pan : PanF} (hD : DoesC P fD fS fB t1 t2) (hpan : PanS P pan) : SpS P (spDoes fD fS fB t1 t2 pan) := by
  intro call hcall f xs H nx v H' nx' h r w us hu hH hf
  unfold spDoes at h
  split at h
  case isFalse => cases h
  rename_i hf0
  subst hf0
  split at h
  case h_2 => cases h
  rename_i x s n
  cases hu with | cons x1 hu => cases hu with | cons x2 hu => cases hu with | cons x3 hu => cases hu with | nil =>
  rename_i vx vs vn
  cases x3 with | w x3 => cases x3 with | c x3 => cases x3 with | i =>
  obtain ⟨m1, f1⟩ := mv_new (o := .cells #[.int .i64 n] t1) (B := bkL t1 [.i .i64 n]) hH hf (bkL_new (r := r) (vs := #[.int .i64 n]) (.cons (.i _ _) .nil) w)
  obtain ⟨m2, f2⟩ := mv_new (o := .cells #[.slice none 0 0] t2) (B := bkL t2 [.l none 0 (.k 0)]) m1.rel f1 (bkL_new (r := r.add nx (w.heap.size, 1)) (vs := #[.slice none 0 0]) (.cons (.l0 0 0) .nil) _)
  have m12 := m1.trans m2
  generalize hr2 : ((r.add nx (w.heap.size, (#[Value.int .i64 n]).size)).add (nx + 1) ((w.alloc (.cells #[.int .i64 n] t1)).heap.size, (#[Value.slice none 0 0]).size)) = r2 at m2 f2 m12
  have hs1 : (w.alloc (.cells #[.int .i64 n] t1)).heap.size = w.heap.size + 1 := by simp
  have k1 : r2 nx = some (w.heap.size, 1) := by rw [← hr2]; simp [Nm.add]
  have k2 : r2 (nx + 1) = some (w.heap.size + 1, 1) := by rw [← hr2]; simp [Nm.add]
  have hargs : VsR r2 [x, s] [vx, vs] := .cons (x1.mono m12.le) (.cons (x2.mono m12.le) .nil)
  have hfin : ∀ {r3 : Nm} {H3 : Hp} {w3 : World} {nx3 : Nat} {cv : C} {u : Value} {B : Bk}, Mv nx r H w nx3 r3 H3 w3 → fresh r3 nx3 → r3 (nx + 1) = some (w.heap.size + 1, 1) → CR r3 cv u → H3.get (nx + 1) = some B → 0 < B.n →
      (∃ z, w3.cell? ⟨w.heap.size + 1, 0, none⟩ = some z) ∧ w3.frozen? ⟨w.heap.size + 1, 0, none⟩ = false ∧ VR r3 (.w (.c cv)) u ∧ Mv nx r H w nx3 r3 (H3.set (nx + 1) (B.put 0 [cv])) (w3.setCell ⟨w.heap.size + 1, 0, none⟩ u) := by
    intro r3 H3 w3 nx3 cv u B hm hfr hk hc hB h0
    obtain ⟨b, sz, rk, hBR⟩ := hm.rel.at_ _ _ hB
    rw [hk] at rk
    injection rk with rk
    injection rk with e1 e2
    subst e1 e2
    obtain ⟨z, hz, _⟩ := hBR.cell h0
    exact ⟨⟨z, hz⟩, hBR.frozen 0, .w (.c hc), hm.trans (mv_cell hm.rel hB hk h0 hc)⟩
  refine (hD vx vs n w (fun u w' => ∃ r', VR r' v u ∧ Mv nx r H w nx' r' H' w' ∧ fresh r' nx') ?_).mono fun e w' ⟨u, he, r', h1, h2, h3⟩ => ⟨r', u, he, h1, h2, h3⟩
  split at h
  · rename_i v3 H3 nx3 hcl
    refine (hcall _ _ _ _ _ _ _ hcl r2 _ [vx, vs] hargs m12.rel f2).mono fun e w3 ⟨r3, u, he, hv, hm, hfr⟩ => .inl ?_
    split at h
    case h_2 => cases h
    rename_i cv B hcv hB
    split at h
    case isFalse => cases h
    rename_i h0
    injection h with h
    injection h with e1 e2
    injection e2 with e2 e3
    subst e1 e2 e3
    obtain ⟨hc, q, m, k, rfl⟩ := isL_ok hcv hv
    obtain ⟨⟨z, hz⟩, hfz, hv', hm'⟩ := hfin (m12.trans hm) hfr (hm.le _ _ k2) hc hB h0
    exact ⟨q, m, k, z, he, hz, hfz, r3, hv', hm', hfr⟩
  · split at h
    case h_2 => cases h
    rename_i H3 nx3 hp
    split at h
    case h_2 => cases h
    rename_i B1 hB1
    split at h
    case isFalse => cases h
    rename_i h01
    split at h
    case h_2 => cases h
    rename_i v4 H4 nx4 hcl
    split at h
    case h_2 => cases h
    rename_i cv B hcv hB
    split at h
    case isFalse => cases h
    rename_i h0
    injection h with h
    injection h with e1 e2
    injection e2 with e2 e3
    subst e1 e2 e3
    refine (hpan _ _ _ _ _ _ hp r2 _ [vx, vs] hargs m12.rel f2).mono fun e w3 ⟨r3, ch, he, ho, hm, hfr⟩ => .inr ⟨ch, he, ho, ?_, ?_⟩
    · obtain ⟨b, sz, rk, hBR⟩ := hm.rel.at_ _ _ hB1
      rw [hm.le _ _ k1] at rk
      injection rk with rk
      injection rk with e1 e2
      subst e1 e2
      exact hBR.int h01.1 (isI_ok h01.2)
    · refine (hcall _ _ _ _ _ _ _ hcl r3 w3 [.int .i64 n] (.cons (.w (.c (.i _ _))) .nil) hm.rel hfr).mono fun e w4 ⟨r4, u, he, hv, hm4, hfr4⟩ => ?_
      obtain ⟨hc, q, m, k, rfl⟩ := isL_ok hcv hv
      obtain ⟨⟨z, hz⟩, hfz, hv', hm'⟩ := hfin ((m12.trans hm).trans hm4) hfr4 (hm4.le _ _ (hm.le _ _ k2)) hc hB h0
      exact ⟨q, m, k, z, he, hz, hfz, r4, hv', hm', hfr4⟩
end Go.Proofs.YtgilghiegfgjeaaGreatDoor
end
section
set_option linter.unusedVariables false
set_option linter.unusedSimpArgs false
/- Layer 48: desk.does: what a line comes to, and what is told where it panics. -/
namespace Go.Proofs.YtgilghiegfgjeaaGreatDoor
open Go.RowKit

theorem catch_idle48 (p q : Addr) (w : World) :
    CallsD Tryz.prog 33 #[.pointer (some p), .pointer (some q)] .returning w fun e u' w' => e = .returned (.tuple #[]) ∧ u' = .returning ∧ w' = w := by
  refine callsD_of_wpS Tryz.func33 rfl fun c₀ cs hu => ?_
  apply wpS_seq
  apply wpS_region
  simp [wpOpsS, go_sem, recoverD, hu, Tryz.ntmps33, Exit.thenS]
  refine wpS_cond (t := false) (by simp [Act.eval, Array.replicate]) ?_
  simp only [Bool.false_eq_true, if_false]
  refine wpS_of_wp (wp_skip ?_)
  cases c₀
  simp_all [bodyPostS, results, Tryz.results33]
theorem catch_panicking48 (p q : Addr) (n : Int) (u : TypeId) (pv : Value) (w : World) (R : World → Prop) (hc : w.cell? p = some (.int .i64 n))
    (hb : Calls Tryz.prog 15 #[.int .i64 n] w fun e w4 => ∃ s m c z, e = .returned (.slice s m c) ∧ w4.cell? q = some z ∧ w4.frozen? q = false ∧ R (w4.setCell q (.slice s m c))) :
    CallsD Tryz.prog 33 #[.pointer (some p), .pointer (some q)] (.panicking [{ v := .iface u pv, recovered := false }]) w fun e u' w' =>
      e = .returned (.tuple #[]) ∧ u' = .panicking [{ v := .iface u pv, recovered := true }] ∧ R w' := by
  refine callsD_of_wpS Tryz.func33 rfl fun c₀ cs hu => ?_
  apply wpS_seq
  apply wpS_region
  simp [wpOpsS, go_sem, recoverD, hu, Tryz.ntmps33, Exit.thenS]
  refine wpS_cond (t := true) (by simp [Act.eval, Array.replicate]) ?_
  simp only [if_true]
  apply wpS_region
  simp [wpOpsS, go_sem, hc]
  refine hb.mono ?_
  rintro e w4 ⟨s, m, c, z, rfl, hz, hfz, hR⟩
  simp [go_sem, hz, hfz, bodyPostS, results, Tryz.results33, hR]
set_option maxRecDepth 100000 in
theorem does_any : DoesC Tryz.prog 16 34 15 3 28 := by
  intro x s n w R h
  have hmf : ∀ (fn : Fn) (first cap : Array Value) (w : World), (Instr.makeFunc fn first cap).run Tryz.prog w = .ok (.func fn first cap) w := fun _ _ _ _ => rfl
  go_enter_defers Tryz.func16, Tryz.ntmps16
  go_wp2_with fail
  refine h.mono ?_
  rintro e w3 (⟨q, m, c, z, rfl, hz, hfz, hR⟩ | ⟨ch, rfl, ⟨u, pv, rfl⟩, hc, hb⟩)
  · go_wp2
    refine leaves_cons (f := 33) (args := #[.pointer (some ⟨w.heap.size, 0, none⟩), .pointer (some ⟨w.heap.size + 1, 0, none⟩)]) (by simp) (by simp [go_sem]) ?_
    refine (catch_idle48 _ _ _).mono ?_
    rintro e u' w'' ⟨rfl, rfl, rfl⟩
    simp [Leaves, settle, results, Tryz.results16, go_sem]
    rw [World.cell?_setCell_same _ _ _ hz]
    exact ⟨_, rfl, hR⟩
  · refine leaves_cons (f := 33) (args := #[.pointer (some ⟨w.heap.size, 0, none⟩), .pointer (some ⟨w.heap.size + 1, 0, none⟩)]) (by simp) (by simp [go_sem]) ?_
    refine (catch_panicking48 _ _ n u pv _ (fun w' => ∃ q m c z w4, w4.cell? ⟨w.heap.size + 1, 0, none⟩ = some z ∧ w4.frozen? ⟨w.heap.size + 1, 0, none⟩ = false ∧ w' = w4.setCell ⟨w.heap.size + 1, 0, none⟩ (.slice q m c) ∧ R (.slice q m c) w') hc (hb.mono fun e w4 ⟨q, m, c, z, he, hz, hfz, hR⟩ => ⟨q, m, c, z, he, hz, hfz, q, m, c, z, w4, hz, hfz, rfl, hR⟩)).mono ?_
    rintro e u' w'' ⟨rfl, rfl, q, m, c, z, w4, hz, hfz, rfl, hR⟩
    simp [Leaves, settle, results, Tryz.results16, go_sem]
    rw [World.cell?_setCell_same _ _ _ hz]
    exact ⟨_, rfl, hR⟩
end Go.Proofs.YtgilghiegfgjeaaGreatDoor
end
section
set_option linter.unusedVariables false
set_option linter.unusedSimpArgs false
/- Running closed code: the seat's own functions without a body, its Once, strings.Join, desk.does; awake() of kissgatelaw48. -/
namespace Go.Proofs.YtgilghiegfgjeaaGreatDoor
open Go.RowKit Go.Shelf

def cntB (s : ByteArray) (c : Int) : Int := ((Lib.countByte s.data.toList c.toNat.toUInt8 : Nat) : Int)
def idxB (s : ByteArray) (c : Int) : Int := firstIdx s c.toNat.toUInt8
theorem cntB_ok : ExtS Tryz.prog (extB 107 cntB) := extB_ok fun s c w => by
  rw [run_callFunc_extern (e := Extern.BytealgCount.count) Tryz.func107 (by kernel_rfl) (by kernel_rfl) (by kernel_rfl) (by kernel_rfl), Lib.run_countString]
  rfl
theorem idxB_ok : ExtS Tryz.prog (extB 197 idxB) := extB_ok fun s c w => by
  rw [run_callFunc_extern (e := Extern.BytealgIndexByte.indexByte) Tryz.func197 (by kernel_rfl) (by kernel_rfl) (by kernel_rfl) (by kernel_rfl), run_indexByte_string]
  rfl
theorem join_sp : SpS Tryz.prog (spJoin 23) := spJoin_ok fun bk o c xs sep w h1 h2 h3 h4 h5 => join_any bk o c xs sep w h1 h2 h3 h4 h5
def extA : ExtF := extOr (extB 107 cntB) (extOr (extB 197 idxB) (extOr (extL 221 .u32) (extOr (extL 188 .i64) (extOr (extW 225 .i64) (extOr (extG 335 .i64 (gAdd .i64)) (extOr (extG 305 .i64 (gSwap .i64)) (extG 306 .i64 (gCas .i64))))))))
theorem extA_ok : ExtS Tryz.prog extA := extOr_ok cntB_ok (extOr_ok idxB_ok (extOr_ok (extL_ok fun a x w hc => run_call_load Tryz.func221 (by kernel_rfl) (by kernel_rfl) (by kernel_rfl) .u32 (by kernel_rfl) hc) (extOr_ok (extL_ok fun a x w hc => run_call_load Tryz.func188 (by kernel_rfl) (by kernel_rfl) (by kernel_rfl) .i64 (by kernel_rfl) hc) (extOr_ok (extW_ok fun a u y w hc hz => run_call_store Tryz.func225 (by kernel_rfl) (by kernel_rfl) (by kernel_rfl) (by kernel_rfl) hc hz) (extOr_ok (extG_ok (gAdd_ok Tryz.func335 (by kernel_rfl) (by kernel_rfl) (by kernel_rfl) .i64 (by kernel_rfl))) (extOr_ok (extG_ok (gSwap_ok Tryz.func305 (by kernel_rfl) (by kernel_rfl) (by kernel_rfl) .i64 (by kernel_rfl))) (extG_ok (gCas_ok Tryz.func306 (by kernel_rfl) (by kernel_rfl) (by kernel_rfl) .i64 (by kernel_rfl)))))))))
def spA0 : SpF := spOr (spOnce 214 196) (spJoin 23)
theorem spA0_ok : SpS Tryz.prog spA0 := spOr_ok (spOnce_ok once_find) join_sp
def spD (P : Program) : SpF := spOr spA0 (spDoes 16 34 15 3 28 (panF P extA spA0 (drawR P extA) 3000))
theorem spD_ok : SpS Tryz.prog (spD Tryz.prog) := spOr_ok spA0_ok (spDoes_ok does_any (pan_ok extA_ok spA0_ok (drawR_ok _ _ extA_ok) 3000).2.1)
end Go.Proofs.YtgilghiegfgjeaaGreatDoor
end
