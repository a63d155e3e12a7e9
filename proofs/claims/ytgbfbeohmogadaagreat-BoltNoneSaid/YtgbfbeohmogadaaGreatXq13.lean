/- Running closed code: one operation of a region. -/
import Derived.Test.YtgbfbeohmogadaaGreatXq12
namespace Go.Proofs.YtgbfbeohmogadaaGreat
open Go.RowKit
set_option linter.unusedVariables false

structure St where
  tm : Tr V
  hp : Hp
  nx : Nat
/-- a call, run: its value, the memory behind it -/
abbrev CallF := FuncId → List V → Hp → Nat → Option (V × Hp × Nat)
def CallS (P : Program) (call : CallF) : Prop := ∀ f xs H nx v H' nx', call f xs H nx = some (v, H', nx') → ∀ r w us, VsR r xs us → RelH r H w → fresh r nx →
  Calls P f us.toArray w fun e w' => ∃ r' u, e = .returned u ∧ VR r' v u ∧ Mv nx r H w nx' r' H' w' ∧ fresh r' nx'
/-- functions without a body -/
abbrev ExtF := FuncId → List V → Hp → Option (V × Hp)
def ExtS (P : Program) (ext : ExtF) : Prop := ∀ f xs H v H', ext f xs H = some (v, H') → ∀ r w us, VsR r xs us → RelH r H w →
  ∃ u w', (callFunc f us.toArray).run P w = .ok (.value u) w' ∧ VR r v u ∧ ∀ nx, Mv nx r H w nx r H' w'
def ptrsV (l : List (Nat × Nat)) : List V := l.map fun a => .w (.c (.p (some a)))
theorem ptrsV_ok {r : Nm} {l : List (Nat × Nat)} {us : List Value} (h : AR r l us) : VsR r (ptrsV l) us := by
  induction h with
  | nil => exact .nil
  | cons e _ ih => exact .cons (.w (.c (.p e))) ih
theorem VsR.append {r : Nm} {xs ys : List V} {us vs : List Value} (h : VsR r xs us) (k : VsR r ys vs) : VsR r (xs ++ ys) (us ++ vs) := by
  induction h with
  | nil => exact k
  | cons e _ ih => exact .cons e ih
def opEnter (P : Program) (ext : ExtF) (call : CallF) (H : Hp) (nx : Nat) (fn : FuncId) (args : List V) : Option (V × Hp × Nat) := match ext fn args H with
  | some (v, H') => some (v, H', nx)
  | none => match P.funcs[fn]? with
    | some g => if g.name == "runtime.NumGoroutine" || g.body.isNone then none else call fn args H nx
    | none => none
def opCall (P : Program) (ext : ExtF) (call : CallF) (H : Hp) (nx : Nat) (f : V) (args : List V) : Option (V × Hp × Nat) := match f with
  | .w (.c (.f fn first cap)) => opEnter P ext call H nx fn (ptrsV first ++ args ++ ptrsV cap)
  | _ => none
def followP (P : Program) : List FieldStep → TypeId → Wv → Option (TypeId × Wv)
  | [], t, x => some (t, x)
  | s :: rest, _, x => if s.deref then none else match P.underlying s.struct, x with
    | some (.struct fields), .a cs => match fields[s.index]? with
      | some f => match partC P f.type cs f.offset with
        | some y => followP P rest f.type y
        | none => none
      | none => none
    | _, _ => none
/-- the function behind a method of an interface's value, and its receiver -/
def methR (P : Program) : Nat → TypeId → Wv → String → Option (FuncId × Wv)
  | 0, _, _, _ => none
  | n + 1, t, x, name => match P.info? t with
    | some i => match i.methods.find? (·.name == name) with
      | some m => match followP P m.path.toList t x with
        | some (xt, y) => match m.func with
          | none => match y with
            | .c (.d u false c) => methR P n u (.c c) name
            | .c (.d u true c) => methR P n u (.a [c]) name
            | _ => none
          | some (f, pr) => match P.underlying xt, pr with
            | some (.pointer _), true => some (f, y)
            | some (.struct _), false => some (f, y)
            | _, _ => none
        | none => none
      | none => none
    | none => none
theorem followP_ok {P : Program} {r : Nm} : ∀ (l : List FieldStep) (t : TypeId) (x : Wv) (xt : TypeId) (y : Wv) (v : Value), followP P l t x = some (xt, y) → WR r x v → ∃ u, WR r y u ∧ ∀ w, (follow l t (.val v)).run P w = .ok (xt, .val u) w
  | [], t, x, xt, y, v, h, hx => by
    injection h with h
    injection h with h1 h2
    subst h1 h2
    exact ⟨v, hx, fun w => rfl⟩
  | s :: rest, t, x, xt, y, v, h, hx => by
    unfold followP at h
    split at h
    · cases h
    · rename_i hd
      split at h
      · rename_i fields cs hs
        split at h
        · rename_i f hf
          split at h
          · rename_i z hz
            cases hx with | a hx =>
            obtain ⟨u, hu, hp⟩ := partC_ok (P := P) hx hz
            obtain ⟨u2, h1, h2⟩ := followP_ok rest f.type z xt y u h hu
            refine ⟨u2, h1, fun w => ?_⟩
            unfold follow
            simp only [Sem.run_bind, run_underlying hs, Result.andThen_ok, hf, hd, Bool.false_eq_true, if_false, hp w, h2 w]
          · cases h
        · cases h
      · cases h
theorem methR_ok {P : Program} {r : Nm} {name : String} : ∀ (n : Nat) (t : TypeId) (x : Wv) (f : FuncId) (y : Wv) (v : Value), methR P n t x name = some (f, y) → WR r x v → ∃ u, WR r y u ∧ ∀ m, n ≤ m → ∀ w, (method m t v name).run P w = .ok (f, u) w
  | 0, t, x, f, y, v, h, hx => by cases h
  | n + 1, t, x, f, y, v, h, hx => by
    unfold methR at h
    split at h
    case h_2 => cases h
    rename_i i hi
    split at h
    case h_2 => cases h
    rename_i m hm
    split at h
    case h_2 => cases h
    rename_i xt z hz
    obtain ⟨u, hu, hfol⟩ := followP_ok m.path.toList t x xt z v hz hx
    have start : ∀ (k : Nat) (w : World) (X : Result (FuncId × Value)), ((match m.func with
        | none => do
          match ← Place.get xt (.val u) with
          | .iface t' v' => method k t' v' name
          | .nilIface => runtimePanic .nilDeref
          | _ => stuck "method row: interface value expected"
        | some (f, pointerReceiver) => do
          pure (f, ← receiverAt xt (.val u) pointerReceiver (if m.path.isEmpty then some ((name.splitOn ".").getLastD name) else none)) : Sem (FuncId × Value))).run P w = X → (method (k + 1) t v name).run P w = X := fun k w X h => by
      unfold method
      simp only [typeInfo, Sem.run_bind, show program.run P w = .ok P w from rfl, Result.andThen_ok, hi, Sem.run_pure, hm, hfol w]
      rw [← h]
      cases m.func <;> rfl
    split at h
    · rename_i hmf
      have again : ∀ (t' : TypeId) (x' : Wv) (v' : Value), u = .iface t' v' → WR r x' v' → methR P n t' x' name = some (f, y) → ∃ u, WR r y u ∧ ∀ m, n + 1 ≤ m → ∀ w, (method m t v name).run P w = .ok (f, u) w := fun t' x' v' hu' hx' h' => by
        obtain ⟨u2, h1, h2⟩ := methR_ok n t' x' f y v' h' hx'
        refine ⟨u2, h1, fun k hk w => ?_⟩
        obtain ⟨k, rfl⟩ : ∃ j, k = j + 1 := ⟨k - 1, by omega⟩
        refine start k w _ ?_
        rw [hmf, hu']
        simp only [Place.get, Sem.run_bind, Sem.run_pure, Result.andThen_ok]
        exact h2 k (by omega) w
      split at h
      · cases hu with | c hu => cases hu with | d _ hc => exact again _ _ _ rfl (.c hc) h
      · cases hu with | c hu => cases hu with | da _ hc => exact again _ _ _ rfl (.a (.cons hc .nil)) h
      · cases h
    · rename_i f' pr hmf
      have fin : ∀ (hd : ∀ (o : Option String) w, (receiverAt xt (.val u) pr o).run P w = .ok u w), f' = f → z = y → ∃ u, WR r y u ∧ ∀ m, n + 1 ≤ m → ∀ w, (method m t v name).run P w = .ok (f, u) w := fun hd e1 e2 => by
        subst e1 e2
        refine ⟨u, hu, fun k hk w => ?_⟩
        obtain ⟨k, rfl⟩ : ∃ j, k = j + 1 := ⟨k - 1, by omega⟩
        refine start k w _ ?_
        rw [hmf]
        simp only [Sem.run_bind, hd, Result.andThen_ok, Sem.run_pure]
      split at h
      · rename_i el ht
        injection h with h
        injection h with h1 h2
        exact fin (fun o w => by simp [receiverAt, run_underlying ht, Place.get]) h1 h2
      · rename_i fs ht
        injection h with h
        injection h with h1 h2
        exact fin (fun o w => by simp [receiverAt, run_underlying ht, Place.get]) h1 h2
      · cases h
theorem callMethod_ok {P : Program} {r : Nm} {n : Nat} {t : TypeId} {x y : Wv} {name : String} {f : FuncId} {v : Value} (h : methR P n t x name = some (f, y)) (hn : n ≤ 100) (hx : WR r x v) : ∃ u, WR r y u ∧ ∀ args w, (callMethod (.iface t v) name args).run P w = (callFunc f (#[u] ++ args)).run P w := by
  obtain ⟨u, h1, h2⟩ := methR_ok n t x f y v h hx
  refine ⟨u, h1, fun args w => ?_⟩
  have hprog : program.run P w = .ok P w := rfl
  unfold callMethod
  rw [Sem.run_bind, hprog, Result.andThen_ok, Sem.run_bind, h2 (P.types.size + Made.depth) (Nat.le_trans hn (Nat.le_add_left 100 _)) w]
  rfl
def putD (N : Nat) (dst : Option Nat) (v : V) (tm : Tr V) : Option (Tr V) := match dst with
  | none => some tm
  | some d => if d < N then some (tm.set d v) else none
def loseD (dst : Option Nat) (tm : Tr V) : Tr V := match dst with
  | none => tm
  | some d => tm.del d
/-- what an operation does to memory: its value (none: no value), the memory behind it -/
def opMem (P : Program) (ext : ExtF) (call : CallF) (e : Operand → Option V) (H : Hp) (nx : Nat) (op : Op) : Option (Option V × Hp × Nat) :=
  match opAlloc P e op with
  | some (B, m) => some (some (.w (.c (madeC nx m))), H.set nx B, nx + 1)
  | none => match op with
    | .load t x => match e x with
      | some (.w (.c (.p (some (k, o))))) => match H.get k with
        | some B => match opLoadB P B t o with
          | some y => some (some (.w y), H, nx)
          | none => none
        | none => none
      | _ => none
    | .store t x y => match e x, e y with
      | some (.w (.c (.p (some (k, o))))), some (.w z) => match H.get k with
        | some B => match opStoreB P B t o z with
          | some B' => some (none, H.set k B', nx)
          | none => none
        | none => none
      | _, _ => none
    | .call ⟨.builtin .append, args, ts⟩ => match valsE e args.toList with
      | some l => match opAppend P H nx ts l with
        | some (v, H') => some (some v, H', nx + 1)
        | none => none
      | none => none
    | .call ⟨.builtin .copy, args, ts⟩ => match valsE e args.toList with
      | some l => match opCopy P H ts l with
        | some (v, H') => some (some v, H', nx)
        | none => none
      | none => none
    | .call ⟨.value f, args, _⟩ => match e f, valsE e args.toList with
      | some fv, some l => match opCall P ext call H nx fv l with
        | some (v, H', nx') => some (some v, H', nx')
        | none => none
      | _, _ => none
    | .call ⟨.invoke x name, args, _⟩ => match (match e x with
        | some (.w (.c (.d t false c))) => methR P 8 t (.c c) name
        | some (.w (.c (.d t true c))) => methR P 8 t (.a [c]) name
        | _ => none), valsE e args.toList with
      | some (fn, y), some l => match opEnter P ext call H nx fn (.w y :: l) with
        | some (v, H', nx') => some (some v, H', nx')
        | none => none
      | _, _ => none
    | _ => none
def putO (N : Nat) (dst : Option Nat) (v : Option V) (tm : Tr V) : Option (Tr V) := match v with
  | some v => putD N dst v tm
  | none => some (loseD dst tm)
/-- what the world does at an operation, whatever follows -/
def OpOk (P : Program) (o : Oper) (a : Act) (w : World) (R : Option Value → World → Prop) : Prop :=
  ∀ (K : Act → World → Prop) (Q : Exit → Act → World → Prop), (∀ u w', R u w' → K (a.put o.dst (u.getD undef)) w') → o.wp P a w K Q
theorem extract_tail (x : Value) (A : Array Value) : (#[x] ++ A).extract 1 (#[x] ++ A).size = A := by
  obtain ⟨l⟩ := A
  simp
theorem head_zero (x : Value) (A : Array Value) : (#[x] ++ A)[0]? = some x := by
  obtain ⟨l⟩ := A
  simp
theorem opEnter_ok {P : Program} {ext : ExtF} {call : CallF} (hext : ExtS P ext) (hcall : CallS P call) {r : Nm} {H : Hp} {nx : Nat} {w : World} {fn : FuncId} {l : List V} {us : List Value} (hargs : VsR r l us) (hH : RelH r H w) (hf : fresh r nx)
    {a : Act} {o : Oper} (hinv : (execOp a.eval o).run P w = (callFunc fn us.toArray).run P w) {v : V} {H' : Hp} {nx' : Nat} (hc : opEnter P ext call H nx fn l = some (v, H', nx')) :
    OpOk P o a w fun u w' => ∃ r', Mv nx r H w nx' r' H' w' ∧ fresh r' nx' ∧ ((some v = none ∧ u = none) ∨ ∃ x y, some v = some x ∧ u = some y ∧ VR r' x y) := by
  intro K Q hK
  unfold opEnter at hc
  split at hc
  · rename_i v1 H1 he1
    injection hc with hc
    injection hc with e1 e2
    injection e2 with e2 e3
    subst e1 e2 e3
    obtain ⟨u, w', hrun, hvr, hmv⟩ := hext _ _ _ _ _ he1 r w _ hargs hH
    unfold Oper.wp
    rw [hinv, hrun]
    exact hK (some u) w' ⟨r, hmv nx, hf, .inr ⟨_, _, rfl, rfl, hvr⟩⟩
  · split at hc
    · rename_i g hg
      split at hc
      · cases hc
      · rename_i hcond
        simp only [Bool.or_eq_true, not_or, Bool.not_eq_true] at hcond
        have hcf : (callFunc fn us.toArray).run P w = .ok (.enter fn us.toArray) w := by
          have hn : ¬ g.name = "runtime.NumGoroutine" := by simpa using hcond.1
          have hb : ¬ g.body = none := by intro e; rw [e] at hcond; simp at hcond
          simp [callFunc, hg, hn, hb]
        unfold Oper.wp
        rw [hinv, hcf, Oper.upon_enter]
        refine (hcall _ _ _ _ _ _ _ hc r w _ hargs hH hf).mono fun e w' ⟨r', u, heq, hvr, hmv, hfr'⟩ => ?_
        subst heq
        exact hK (some u) w' ⟨r', hmv, hfr', .inr ⟨_, _, rfl, rfl, hvr⟩⟩
    · cases hc
theorem opMem_ok {P : Program} {ext : ExtF} {call : CallF} (hext : ExtS P ext) (hcall : CallS P call) {r : Nm} {a : Act} {e : Operand → Option V} (he : ∀ x v, e x = some v → VR r v (a.eval x))
    {H : Hp} {nx : Nat} {w : World} (hH : RelH r H w) (hf : fresh r nx) {o : Oper} {v : Option V} {H' : Hp} {nx' : Nat} (h : opMem P ext call e H nx o.op = some (v, H', nx')) :
    OpOk P o a w fun u w' => ∃ r', Mv nx r H w nx' r' H' w' ∧ fresh r' nx' ∧ ((v = none ∧ u = none) ∨ ∃ x y, v = some x ∧ u = some y ∧ VR r' x y) := by
  intro K Q hK
  unfold opMem at h
  split at h
  · rename_i B m hm
    injection h with h
    injection h with h1 h2
    injection h2 with h2 h3
    subst h1 h2 h3
    obtain ⟨cs, hrun, hB, hmd⟩ := opAlloc_ok he hm w
    obtain ⟨hmv, hfr⟩ := mv_new hH hf hB
    unfold Oper.wp
    rw [hrun]
    exact hK (some _) _ ⟨_, hmv, hfr, .inr ⟨_, _, rfl, rfl, .w (.c (madeC_ok (Nm.add_at _ _ _) m hmd))⟩⟩
  · split at h
    · rename_i t x ho
      split at h
      · rename_i k off hx
        split at h
        · rename_i B hk
          split at h
          · rename_i y hy
            injection h with h
            injection h with h1 h2
            injection h2 with h2 h3
            subst h1 h2 h3
            obtain ⟨b, sz, rk, hB⟩ := hH.at_ k B hk
            obtain ⟨z, hz, hrun⟩ := opLoadB_ok hB hy
            have hv := he _ _ hx
            have hp : a.eval x = ptrOf b off := by
              generalize a.eval x = u at hv
              cases hv with | w hv => cases hv with | c hv => cases hv with | p rk' =>
                rw [rk] at rk'; injection rk' with rk'; injection rk' with e1 e2; subst e1; rfl
            unfold Oper.wp
            have : (execOp a.eval o).run P w = .ok (.value z) w := by
              unfold execOp
              rw [ho]
              simp only [Sem.run_bind, hp, hrun, Result.andThen_ok, Sem.run_pure]
            rw [this]
            exact hK (some z) w ⟨r, Mv.refl hH, hf, .inr ⟨_, _, rfl, rfl, .w hz⟩⟩
          · cases h
        · cases h
      · cases h
    · rename_i t x y ho
      split at h
      · rename_i k off z hx hy
        split at h
        · rename_i B hk
          split at h
          · rename_i B' hB'
            injection h with h
            injection h with h1 h2
            injection h2 with h2 h3
            subst h1 h2 h3
            obtain ⟨b, sz, rk, hB⟩ := hH.at_ k B hk
            have hv := he _ _ hx
            have hz := he _ _ hy
            have hp : a.eval x = ptrOf b off := by
              generalize a.eval x = u at hv
              cases hv with | w hv => cases hv with | c hv => cases hv with | p rk' =>
                rw [rk] at rk'; injection rk' with rk'; injection rk' with e1 e2; subst e1; rfl
            cases hz with | w hz =>
            obtain ⟨cs', hrun, hBR⟩ := opStoreB_ok hB hz hB'
            unfold Oper.wp
            have : (execOp a.eval o).run P w = .ok .skip (w.setRow b cs') := by
              unfold execOp
              rw [ho]
              simp only [Sem.run_bind, hp, hrun, Result.andThen_ok, Sem.run_pure]
            rw [this]
            exact hK none _ ⟨r, mv_row hH hk rk hBR, hf, .inl ⟨rfl, rfl⟩⟩
          · cases h
        · cases h
      · cases h
    · rename_i args ts ho
      split at h
      · rename_i l hl
        split at h
        · rename_i v' H'' ha
          injection h with h
          injection h with h1 h2
          injection h2 with h2 h3
          subst h1 h2 h3
          have hp := valsE_ok he _ _ hl
          rw [← Array.toList_map] at hp
          obtain ⟨u, w', r', hrun, hmv, hfr, hvr⟩ := opAppend_mv hH hf hp ha o.type
          unfold Oper.wp
          have : (execOp a.eval o).run P w = .ok (.value u) w' := by
            unfold execOp
            rw [ho]
            simp only [resolve, Sem.run_bind, Sem.run_pure, Result.andThen_ok, invoke, builtin, hrun]
          rw [this]
          exact hK (some u) w' ⟨r', hmv, hfr, .inr ⟨_, _, rfl, rfl, hvr⟩⟩
        · cases h
      · cases h
    · rename_i args ts ho
      split at h
      · rename_i l hl
        split at h
        · rename_i v' H'' ha
          injection h with h
          injection h with h1 h2
          injection h2 with h2 h3
          subst h1 h2 h3
          have hp := valsE_ok he _ _ hl
          rw [← Array.toList_map] at hp
          obtain ⟨u, w', hrun, hmv, hvr⟩ := opCopy_mv (nx := nx) hH hp ha o.type
          unfold Oper.wp
          have : (execOp a.eval o).run P w = .ok (.value u) w' := by
            unfold execOp
            rw [ho]
            simp only [resolve, Sem.run_bind, Sem.run_pure, Result.andThen_ok, invoke, builtin, hrun]
          rw [this]
          exact hK (some u) w' ⟨r, hmv, hf, .inr ⟨_, _, rfl, rfl, hvr⟩⟩
        · cases h
      · cases h
    · rename_i f args ts ho
      split at h
      · rename_i fv l hfv hl
        split at h
        · rename_i v' H'' nx'' hc
          injection h with h
          injection h with h1 h2
          injection h2 with h2 h3
          subst h1 h2 h3
          have hp := valsE_ok he _ _ hl
          have hfr := he _ _ hfv
          unfold opCall at hc
          split at hc
          · rename_i fn first cap
            have hfun : ∃ va vc, AR r first va ∧ AR r cap vc ∧ a.eval f = .func (.func fn) va.toArray vc.toArray := by
              generalize a.eval f = u at hfr
              cases hfr with | w hfr => cases hfr with | c hfr => cases hfr with | f _ ha hcp => exact ⟨_, _, ha, hcp, rfl⟩
            obtain ⟨va, vc, h1, h2, h3⟩ := hfun
            have hargs := ((ptrsV_ok h1).append hp).append (ptrsV_ok h2)
            have harr : (va.toArray ++ args.map a.eval ++ vc.toArray) = (va ++ args.toList.map a.eval ++ vc).toArray := by
              rw [← Array.toList_map]; simp
            have hinv : (execOp a.eval o).run P w = (callFunc fn (va ++ args.toList.map a.eval ++ vc).toArray).run P w := by
              unfold execOp
              rw [ho]
              simp only [resolve, Sem.run_bind, Sem.run_pure, Result.andThen_ok, h3, Deferred.ofValue, invoke, harr]
            exact opEnter_ok hext hcall hargs hH hf hinv hc K Q hK
          · cases hc
        · cases h
      · cases h
    · rename_i x name args ts ho
      split at h
      · rename_i fn y l hm hl
        split at h
        · rename_i v' H'' nx'' hc
          injection h with h
          injection h with h1 h2
          injection h2 with h2 h3
          subst h1 h2 h3
          have hp := valsE_ok he _ _ hl
          have hrecv : ∃ t z u, a.eval x = .iface t z ∧ WR r y u ∧ ∀ args w, (callMethod (.iface t z) name args).run P w = (callFunc fn (#[u] ++ args)).run P w := by
            split at hm
            · rename_i t c hx
              have hv := he _ _ hx
              generalize a.eval x = q at hv
              cases hv with | w hv => cases hv with | c hv => cases hv with | d _ hcr =>
              obtain ⟨u, h1, h2⟩ := callMethod_ok hm (by omega) (.c hcr)
              exact ⟨_, _, u, rfl, h1, h2⟩
            · rename_i t c hx
              have hv := he _ _ hx
              generalize a.eval x = q at hv
              cases hv with | w hv => cases hv with | c hv => cases hv with | da _ hcr =>
              obtain ⟨u, h1, h2⟩ := callMethod_ok hm (by omega) (.a (.cons hcr .nil))
              exact ⟨_, _, u, rfl, h1, h2⟩
            · cases hm
          obtain ⟨t, z, u, hev, hyr, hcm⟩ := hrecv
          have hargs : VsR r (.w y :: l) (u :: args.toList.map a.eval) := .cons (.w hyr) hp
          have hinv : (execOp a.eval o).run P w = (callFunc fn (u :: args.toList.map a.eval).toArray).run P w := by
            unfold execOp
            rw [ho]
            simp only [resolve, Sem.run_bind, Sem.run_pure, Result.andThen_ok, invoke, hev]
            have e0 := head_zero (Value.iface t z) (args.map a.eval)
            have e1 := extract_tail (Value.iface t z) (args.map a.eval)
            have e2 : #[u] ++ args.map a.eval = (u :: args.toList.map a.eval).toArray := by
              apply Array.ext'; simp
            rw [e0]
            simp only [e1]
            rw [hcm, e2]
          exact opEnter_ok hext hcall hargs hH hf hinv hc K Q hK
        · cases h
      · cases h
    · cases h
end Go.Proofs.YtgbfbeohmogadaaGreat
