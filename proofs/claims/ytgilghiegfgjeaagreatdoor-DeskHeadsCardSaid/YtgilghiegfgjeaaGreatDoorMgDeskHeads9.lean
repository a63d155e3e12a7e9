/- Joined: Xq13. -/
import Derived.Laws.BytesString
import Derived.Test.YtgilghiegfgjeaaGreatDoorMgDeskHeads8
section
set_option linter.unusedVariables false
set_option linter.unusedSimpArgs false
/- Running closed code: one operation of a region. -/
namespace Go.Proofs.YtgilghiegfgjeaaGreatDoor
open Go.RowKit
set_option linter.unusedVariables false

structure St where
  tm : Tr V
  hp : Hp
  nx : Nat
/-- a call, run: its value, the memory behind it -/
abbrev CallF := FuncId → List V → Hp → Nat → Option (V × Hp × Nat)
def CallS (P : Program) (call : CallF) : Prop := ∀ f xs H nx v H' nx', call f xs H nx = some (v, H', nx') → ∀ r w us, VsR r xs us → RelH r H w → fresh r nx →
  Calls P f us.toArray w fun e w' => ∃ r' u, e = .returned u ∧ VR r' v u ∧ Mv nx r H w nx' r' H' w' ∧ fresh r' nx'
/-- functions without a body -/
abbrev ExtF := FuncId → List V → Hp → Option (V × Hp)
def ExtS (P : Program) (ext : ExtF) : Prop := ∀ f xs H v H', ext f xs H = some (v, H') → ∀ r w us, VsR r xs us → RelH r H w →
  ∃ u w', (callFunc f us.toArray).run P w = .ok (.value u) w' ∧ VR r v u ∧ ∀ nx, Mv nx r H w nx r H' w'
def ptrsV (l : List (Nat × Nat)) : List V := l.map fun a => .w (.c (.p (some a)))
theorem ptrsV_ok {r : Nm} {l : List (Nat × Nat)} {us : List Value} (h : AR r l us) : VsR r (ptrsV l) us := by
  induction h with
  | nil => exact .nil
  | cons e _ ih => exact .cons (.w (.c (.p e))) ih
theorem VsR.append {r : Nm} {xs ys : List V} {us vs : List Value} (h : VsR r xs us) (k : VsR r ys vs) : VsR r (xs ++ ys) (us ++ vs) := by
  induction h with
  | nil => exact k
  | cons e _ ih => exact .cons e ih
def opEnter (P : Program) (ext : ExtF) (call : CallF) (H : Hp) (nx : Nat) (fn : FuncId) (args : List V) : Option (V × Hp × Nat) := match ext fn args H with
  | some (v, H') => some (v, H', nx)
  | none => match P.funcs[fn]? with
    | some g => if g.name == "runtime.NumGoroutine" || g.body.isNone then none else call fn args H nx
    | none => none
def opCall (P : Program) (ext : ExtF) (call : CallF) (H : Hp) (nx : Nat) (f : V) (args : List V) : Option (V × Hp × Nat) := match f with
  | .w (.c (.f fn first cap)) => opEnter P ext call H nx fn (ptrsV first ++ args ++ ptrsV cap)
  | _ => none
def followP (P : Program) : List FieldStep → TypeId → Wv → Option (TypeId × Wv)
  | [], t, x => some (t, x)
  | s :: rest, _, x => if s.deref then none else match P.underlying s.struct, x with
    | some (.struct fields), .a cs => match fields[s.index]? with
      | some f => match partC P f.type cs f.offset with
        | some y => followP P rest f.type y
        | none => none
      | none => none
    | _, _ => none
/-- the function behind a method of an interface's value, and its receiver -/
def methR (P : Program) : Nat → TypeId → Wv → String → Option (FuncId × Wv)
  | 0, _, _, _ => none
  | n + 1, t, x, name => match P.info? t with
    | some i => match i.methods.find? (·.name == name) with
      | some m => match followP P m.path.toList t x with
        | some (xt, y) => match m.func with
          | none => match y with
            | .c (.d u false c) => methR P n u (.c c) name
            | .c (.d u true c) => methR P n u (.a [c]) name
            | _ => none
          | some (f, pr) => match P.underlying xt, pr with
            | some (.pointer _), true => some (f, y)
            | some (.struct _), false => some (f, y)
            | _, _ => none
        | none => none
      | none => none
    | none => none
theorem followP_ok {P : Program} {r : Nm} : ∀ (l : List FieldStep) (t : TypeId) (x : Wv) (xt : TypeId) (y : Wv) (v : Value), followP P l t x = some (xt, y) → WR r x v → ∃ u, WR r y u ∧ ∀ w, (follow l t (.val v)).run P w = .ok (xt, .val u) w
  | [], t, x, xt, y, v, h, hx => by
    injection h with h
    injection h with h1 h2
    subst h1 h2
    exact ⟨v, hx, fun w => rfl⟩
  | s :: rest, t, x, xt, y, v, h, hx => by
    unfold followP at h
    split at h
    · cases h
    · rename_i hd
      split at h
      · rename_i fields cs hs
        split at h
        · rename_i f hf
          split at h
          · rename_i z hz
            cases hx with | a hx =>
            obtain ⟨u, hu, hp⟩ := partC_ok (P := P) hx hz
            obtain ⟨u2, h1, h2⟩ := followP_ok rest f.type z xt y u h hu
            refine ⟨u2, h1, fun w => ?_⟩
            unfold follow
            simp only [Sem.run_bind, run_underlying hs, Result.andThen_ok, hf, hd, Bool.false_eq_true, if_false, hp w, h2 w]
          · cases h
        · cases h
      · cases h
theorem methR_ok {P : Program} {r : Nm} {name : String} : ∀ (n : Nat) (t : TypeId) (x : Wv) (f : FuncId) (y : Wv) (v : Value), methR P n t x name = some (f, y) → WR r x v → ∃ u, WR r y u ∧ ∀ m, n ≤ m → ∀ w, (method m t v name).run P w = .ok (f, u) w
  | 0, t, x, f, y, v, h, hx => by cases h
  | n + 1, t, x, f, y, v, h, hx => by
    unfold methR at h
    split at h
    case h_2 => cases h
    rename_i i hi
    split at h
    case h_2 => cases h
    rename_i m hm
    split at h
    case h_2 => cases h
    rename_i xt z hz
    obtain ⟨u, hu, hfol⟩ := followP_ok m.path.toList t x xt z v hz hx
    have start : ∀ (k : Nat) (w : World) (X : Result (FuncId × Value)), ((match m.func with
        | none => do
          match ← Place.get xt (.val u) with
          | .iface t' v' => method k t' v' name
          | .nilIface => runtimePanic .nilDeref
          | _ => stuck "method row: interface value expected"
        | some (f, pointerReceiver) => do
          pure (f, ← receiverAt xt (.val u) pointerReceiver (if m.path.isEmpty then some ((name.splitOn ".").getLastD name) else none)) : Sem (FuncId × Value))).run P w = X → (method (k + 1) t v name).run P w = X := fun k w X h => by
      unfold method
      simp only [typeInfo, Sem.run_bind, show program.run P w = .ok P w from rfl, Result.andThen_ok, hi, Sem.run_pure, hm, hfol w]
      rw [← h]
      cases m.func <;> rfl
    split at h
    · rename_i hmf
      have again : ∀ (t' : TypeId) (x' : Wv) (v' : Value), u = .iface t' v' → WR r x' v' → methR P n t' x' name = some (f, y) → ∃ u, WR r y u ∧ ∀ m, n + 1 ≤ m → ∀ w, (method m t v name).run P w = .ok (f, u) w := fun t' x' v' hu' hx' h' => by
        obtain ⟨u2, h1, h2⟩ := methR_ok n t' x' f y v' h' hx'
        refine ⟨u2, h1, fun k hk w => ?_⟩
        obtain ⟨k, rfl⟩ : ∃ j, k = j + 1 := ⟨k - 1, by omega⟩
        refine start k w _ ?_
        rw [hmf, hu']
        simp only [Place.get, Sem.run_bind, Sem.run_pure, Result.andThen_ok]
        exact h2 k (by omega) w
      split at h
      · cases hu with | c hu => cases hu with | d _ hc => exact again _ _ _ rfl (.c hc) h
      · cases hu with | c hu => cases hu with | da _ hc => exact again _ _ _ rfl (.a (.cons hc .nil)) h
      · cases h
    · rename_i f' pr hmf
      have fin : ∀ (hd : ∀ (o : Option String) w, (receiverAt xt (.val u) pr o).run P w = .ok u w), f' = f → z = y → ∃ u, WR r y u ∧ ∀ m, n + 1 ≤ m → ∀ w, (method m t v name).run P w = .ok (f, u) w := fun hd e1 e2 => by
        subst e1 e2
        refine ⟨u, hu, fun k hk w => ?_⟩
        obtain ⟨k, rfl⟩ : ∃ j, k = j + 1 := ⟨k - 1, by omega⟩
        refine start k w _ ?_
        rw [hmf]
        simp only [Sem.run_bind, hd, Result.andThen_ok, Sem.run_pure]
      split at h
      · rename_i el ht
        injection h with h
        injection h with h1 h2
        exact fin (fun o w => by simp [receiverAt, run_underlying ht, Place.get]) h1 h2
      · rename_i fs ht
        injection h with h
        injection h with h1 h2
        exact fin (fun o w => by simp [receiverAt, run_underlying ht, Place.get]) h1 h2
      · cases h
theorem callMethod_ok {P : Program} {r : Nm} {n : Nat} {t : TypeId} {x y : Wv} {name : String} {f : FuncId} {v : Value} (h : methR P n t x name = some (f, y)) (hn : n ≤ 100) (hx : WR r x v) : ∃ u, WR r y u ∧ ∀ args w, (callMethod (.iface t v) name args).run P w = (callFunc f (#[u] ++ args)).run P w := by
  obtain ⟨u, h1, h2⟩ := methR_ok n t x f y v h hx
  refine ⟨u, h1, fun args w => ?_⟩
  have hprog : program.run P w = .ok P w := rfl
  unfold callMethod
  rw [Sem.run_bind, hprog, Result.andThen_ok, Sem.run_bind, h2 (P.types.size + Made.depth) (Nat.le_trans hn (Nat.le_add_left 100 _)) w]
  rfl
/-! ### Maps from whole numbers -/
def keyEq : C → C → Option Bool
  | .i .i64 a, .i .i64 b => some (a == b)
  | .o k _, .o j _ => if k = j then some true else none
  | _, _ => none
theorem keyEq_ok {r : Nm} {x y : C} {u v : Value} {b : Bool} (h : keyEq x y = some b) (hx : CR r x u) (hy : CR r y v) : Instr.sameNow (.int .i64) u v = some b := by
  unfold keyEq at h
  split at h
  · cases hx; cases hy
    simpa [Instr.sameNow] using h
  · split at h
    · rename_i hk
      subst hk
      injection h with h
      subst h
      cases hx with | o e1 => cases hy with | o e2 =>
        rw [e1] at e2
        injection e2 with e2
        injection e2 with e2 e3
        subst e2 e3
        simp [Instr.sameNow]
    · cases h
  · cases h
def isKey : C → Bool
  | .i .i64 _ => true
  | .o _ _ => true
  | _ => false
theorem isKey_ok {r : Nm} {x : C} {u : Value} (h : isKey x = true) (hx : CR r x u) : ∃ n, u = .int .i64 n := by
  unfold isKey at h
  split at h
  · cases hx; exact ⟨_, rfl⟩
  · cases hx; exact ⟨_, rfl⟩
  · cases h
def lk : List (C × C) → C → Option (Option C)
  | [], _ => some none
  | (k, c) :: l, n => match keyEq n k with
    | some true => some (some c)
    | some false => lk l n
    | none => none
theorem findNow_none {r : Nm} {l : List (C × C)} {es : List MapEntry} (h : MR r l es) {n : C} {u : Value} (hn : CR r n u) (hl : lk l n = some none) : ∀ i, Instr.findNow (.int .i64) u es i = some none := by
  induction h with
  | nil => intro i; rfl
  | cons hk h t ih =>
    intro i
    unfold lk at hl
    split at hl
    · cases hl
    · rename_i he
      simp only [Instr.findNow, keyEq_ok he hn hk]
      exact ih hl (i + 1)
    · cases hl
theorem findNow_some {r : Nm} {l : List (C × C)} {es : List MapEntry} (h : MR r l es) {n : C} {u : Value} (hn : CR r n u) {c : C} (hl : lk l n = some (some c)) : ∀ i, ∃ j v, Instr.findNow (.int .i64) u es i = some (some (j, v)) ∧ CR r c v := by
  induction h with
  | nil => cases hl
  | cons hk h t ih =>
    rename_i k0 c0 e0 l0 es0
    intro i
    unfold lk at hl
    split at hl
    · rename_i he
      injection hl with hl
      injection hl with hl
      subst hl
      exact ⟨i, e0.val, by simp only [Instr.findNow, keyEq_ok he hn hk], h⟩
    · rename_i he
      simp only [Instr.findNow, keyEq_ok he hn hk]
      exact ih hl (i + 1)
    · cases hl
theorem checkKey_int' {P : Program} {kt : TypeId} (hk : P.underlying kt = some (.int .i64)) (b : Bool) (m : Nat) (n : Int) (w : World) : (Instr.checkKey b (m + 1) kt (.int .i64 n)).run P w = .ok () w := by
  simp only [Instr.checkKey, Sem.run_bind, run_underlying hk, Result.andThen_ok, Sem.run_pure]
theorem checkKey_int {P : Program} {kt : TypeId} (hk : P.underlying kt = some (.int .i64)) (b : Bool) (n : Int) (w : World) : (Instr.checkKey b 10000 kt (.int .i64 n)).run P w = .ok () w := checkKey_int' hk b 9999 n w
theorem run_getMap {P : Program} {w : World} {b : Nat} {es : Array MapEntry} {clk : Nat} (h : w.heap[b]? = some (.map es clk)) : (getObj b).run P w = .ok (.map es clk) w := by
  simp [getObj, Sem.run, h]
theorem run_setMap {P : Program} {w : World} {b : Nat} {es : Array MapEntry} {clk : Nat} (h : w.heap[b]? = some (.map es clk)) (o : Obj) : (setObj b o).run P w = .ok () { w with heap := w.heap.setIfInBounds b o } := by
  simp [setObj, Sem.run, h]
def opLook (P : Program) (H : Hp) (t : TypeId) (x i : V) (ok : Bool) : Option V := match x, i with
  | .w (.c (.m (some k))), .w (.c n) => match P.underlying t, H.get k with
    | some (.map kt et), some B => match P.underlying kt, B.mp with
      | some (.int .i64), some (.mp l) => if isKey n then match lk l n with
        | some (some c) => some (if ok then .t [.c c, .c (.b true)] else .w (.c c))
        | some none => match zeroW P et with
          | some z => some (if ok then .t [z, .c (.b false)] else .w z)
          | none => none
        | none => none
        else none
      | _, _ => none
    | _, _ => none
  | _, _ => none
theorem opLook_ok {P : Program} {r : Nm} {H : Hp} {w : World} (h : RelH r H w) {t : TypeId} {x i v : V} {ok : Bool} {u ui : Value} (e : opLook P H t x i ok = some v) (hx : VR r x u) (hi : VR r i ui) :
    ∃ z, VR r v z ∧ (Instr.lookup t u ui ok).run P w = .ok z w := by
  unfold opLook at e
  split at e
  case h_2 => cases e
  rename_i k n
  split at e
  case h_2 => cases e
  rename_i kt et B ht hB
  split at e
  case h_2 => cases e
  rename_i l hk hl
  split at e
  case isFalse => cases e
  rename_i hn
  cases hx with | w hx => cases hx with | c hx => cases hx with | m rk =>
  cases hi with | w hi => cases hi with | c hi =>
  obtain ⟨nn, rfl⟩ := isKey_ok hn hi
  obtain ⟨b, sz, rk', hBR⟩ := h.at_ k B hB
  rw [rk] at rk'
  injection rk' with rk'
  injection rk' with e1 e2
  subst e1 e2
  obtain ⟨_, es, clk, hg, hm⟩ := hBR.mx (.mp l) hl
  split at e
  · rename_i c hc
    obtain ⟨j, y, hf, hy⟩ := findNow_some hm hi hc 0
    injection e with e
    subst e
    refine ⟨if ok then .tuple #[y, .bool true] else y, ?_, ?_⟩
    · cases ok
      · exact .w (.c hy)
      · exact .t (.cons (.c hy) (.cons (.c (.b _)) .nil))
    · simp only [Instr.lookup, Sem.run_bind, run_underlying ht, Result.andThen_ok, run_getMap hg, Sem.run_pure, checkKey_int hk, Instr.findKey, run_underlying hk, hf]
  · rename_i hc
    have hf := findNow_none hm hi hc 0
    split at e
    case h_2 => cases e
    rename_i z hz
    obtain ⟨inf, y, hinf, hiz, hy⟩ := zeroW_ok (r := r) hz
    injection e with e
    subst e
    refine ⟨if ok then .tuple #[y, .bool false] else y, ?_, ?_⟩
    · cases ok
      · exact .w hy
      · exact .t (.cons hy (.cons (.c (.b _)) .nil))
    · simp only [Instr.lookup, Sem.run_bind, run_underlying ht, Result.andThen_ok, run_getMap hg, Sem.run_pure, checkKey_int hk, Instr.findKey, run_underlying hk, hf]
      simp [zeroValue, typeInfo, hinf, hiz, go_sem]
  · cases e
theorem MR.snoc {r : Nm} {l : List (C × C)} {es : List MapEntry} (h : MR r l es) {n c : C} {e : MapEntry} (hk : CR r n e.key) (hc : CR r c e.val) : MR r (l ++ [(n, c)]) (es ++ [e]) := by
  induction h with
  | nil => exact .cons hk hc .nil
  | cons a b _ ih => exact .cons a b ih
def opMapPut (P : Program) (H : Hp) (t : TypeId) (x i v : V) : Option Hp := match x, i, v with
  | .w (.c (.m (some k))), .w (.c n), .w (.c c) => match P.underlying t, H.get k with
    | some (.map kt _), some B => match P.underlying kt, B.mp with
      | some (.int .i64), some (.mp l) => if isKey n then match lk l n with
        | some none => some (H.set k ⟨B.e, B.n, B.d, B.u, some (.mp (l ++ [(n, c)]))⟩)
        | _ => none
        else none
      | _, _ => none
    | _, _ => none
  | _, _, _ => none
theorem opMapPut_ok {P : Program} {r : Nm} {H H' : Hp} {w : World} {nx : Nat} (h : RelH r H w) {t : TypeId} {x i v : V} {u ui uv : Value} (e : opMapPut P H t x i v = some H') (hx : VR r x u) (hi : VR r i ui) (hv : VR r v uv) :
    ∃ w', (Instr.mapUpdate t u ui uv).run P w = .ok () w' ∧ Mv nx r H w nx r H' w' := by
  unfold opMapPut at e
  split at e
  case h_2 => cases e
  rename_i k n c
  split at e
  case h_2 => cases e
  rename_i kt et B ht hB
  split at e
  case h_2 => cases e
  rename_i l hk hl
  split at e
  case isFalse => cases e
  rename_i hn
  cases hx with | w hx => cases hx with | c hx => cases hx with | m rk =>
  cases hi with | w hi => cases hi with | c hi =>
  obtain ⟨nn, rfl⟩ := isKey_ok hn hi
  cases hv with | w hv => cases hv with | c hv =>
  rename_i b sz
  obtain ⟨b', sz', rk', hBR⟩ := h.at_ k B hB
  rw [rk] at rk'
  injection rk' with rk'
  injection rk' with e1 e2
  subst e1 e2
  obtain ⟨h0, es, clk, hg, hm⟩ := hBR.mx (.mp l) hl
  split at e
  case h_2 => cases e
  rename_i hc
  injection e with e
  subst e
  have hf := findNow_none hm hi hc 0
  have hlt := hBR.lt
  refine ⟨{ w with heap := w.heap.setIfInBounds b (.map (es.push { key := .int .i64 nn, val := uv, born := clk }) (clk + 1)) }, ?_, ?_⟩
  · simp only [Instr.mapUpdate, Sem.run_bind, run_underlying ht, Result.andThen_ok, run_getMap hg, Sem.run_pure, checkKey_int hk, Instr.findKey, run_underlying hk, hf, run_setMap hg]
  · refine mv_upd h hB rk ⟨fun l' hl' => ?_, fun hm => (by cases hm)⟩ (fun c hc => ?_) rfl rfl rfl (by simp)
    · injection hl' with hl'
      subst hl'
      refine ⟨h0, _, _, by show (w.heap.setIfInBounds b _)[b]? = _; rw [Array.getElem?_setIfInBounds_self_of_lt hlt], ?_⟩
      rw [Array.toList_push]
      exact hm.snoc hi hv
    · show (w.heap.setIfInBounds b _)[c]? = _
      rw [Array.getElem?_setIfInBounds_ne (fun e => hc e.symm)]
/-- without an entry -/
def dl : List (C × C) → C → List (C × C)
  | [], _ => []
  | (k, c) :: l, n => match keyEq n k with
    | some true => l
    | _ => (k, c) :: dl l n
theorem findNow_del {r : Nm} {l : List (C × C)} {es : List MapEntry} (h : MR r l es) {n : C} {u : Value} (hn : CR r n u) {c : C} (hl : lk l n = some (some c)) : ∀ i, ∃ d v, Instr.findNow (.int .i64) u es i = some (some (i + d, v)) ∧ MR r (dl l n) (es.eraseIdx d) := by
  induction h with
  | nil => cases hl
  | cons hk h t ih =>
    rename_i k0 c0 e0 l0 es0
    intro i
    unfold lk at hl
    unfold dl
    split at hl
    · rename_i he
      rw [he]
      exact ⟨0, e0.val, by simp only [Instr.findNow, keyEq_ok he hn hk, Nat.add_zero], t⟩
    · rename_i he
      rw [he]
      obtain ⟨d, v, h1, h2⟩ := ih hl (i + 1)
      refine ⟨d + 1, v, ?_, .cons hk h h2⟩
      simp only [Instr.findNow, keyEq_ok he hn hk]
      rw [h1, show i + 1 + d = i + (d + 1) by omega]
    · cases hl
def opDel (P : Program) (H : Hp) (t : TypeId) (x i : V) : Option Hp := match x, i with
  | .w (.c (.m (some k))), .w (.c n) => match P.underlying t, H.get k with
    | some (.map kt _), some B => match P.underlying kt, B.mp with
      | some (.int .i64), some (.mp l) => if isKey n then match lk l n with
        | some (some _) => some (H.set k ⟨B.e, B.n, B.d, B.u, some (.mp (dl l n))⟩)
        | _ => none
        else none
      | _, _ => none
    | _, _ => none
  | _, _ => none
theorem opDel_ok {P : Program} {r : Nm} {H H' : Hp} {w : World} {nx : Nat} (h : RelH r H w) {t : TypeId} {x i : V} {u ui : Value} (e : opDel P H t x i = some H') (hx : VR r x u) (hi : VR r i ui) {ts : Array TypeId} (hts : ts[0]? = some t) (ty : TypeId) :
    ∃ w', (Builtin.delete_ ts ty #[u, ui]).run P w = .ok (.tuple #[]) w' ∧ Mv nx r H w nx r H' w' := by
  unfold opDel at e
  split at e
  case h_2 => cases e
  rename_i k n
  split at e
  case h_2 => cases e
  rename_i kt et B ht hB
  split at e
  case h_2 => cases e
  rename_i l hk hl
  split at e
  case isFalse => cases e
  rename_i hn
  cases hx with | w hx => cases hx with | c hx => cases hx with | m rk =>
  cases hi with | w hi => cases hi with | c hi =>
  obtain ⟨nn, rfl⟩ := isKey_ok hn hi
  rename_i b sz
  obtain ⟨b', sz', rk', hBR⟩ := h.at_ k B hB
  rw [rk] at rk'
  injection rk' with rk'
  injection rk' with e1 e2
  subst e1 e2
  obtain ⟨h0, es, clk, hg, hm⟩ := hBR.mx (.mp l) hl
  split at e
  case h_2 => cases e
  rename_i c hc
  injection e with e
  subst e
  obtain ⟨d, v, hf, hd⟩ := findNow_del hm hi hc 0
  rw [Nat.zero_add] at hf
  have hlt := hBR.lt
  refine ⟨{ w with heap := w.heap.setIfInBounds b (.map (es.eraseIdxIfInBounds d) clk) }, ?_, ?_⟩
  · have g0 : (#[Value.map (some b), Value.int .i64 nn] : Array Value)[0]? = some (.map (some b)) := rfl
    have g1 : (#[Value.map (some b), Value.int .i64 nn] : Array Value)[1]? = some (.int .i64 nn) := rfl
    simp only [Builtin.delete_, hts, g0, g1, Sem.run_bind, run_underlying ht, Result.andThen_ok, run_getMap hg, Sem.run_pure, checkKey_int hk, Instr.findKey, run_underlying hk, hf, run_setMap hg]
  · refine mv_upd h hB rk ⟨fun l' hl' => ?_, fun hm => (by cases hm)⟩ (fun c hc => ?_) rfl rfl rfl (by simp)
    · injection hl' with hl'
      subst hl'
      refine ⟨h0, _, _, by show (w.heap.setIfInBounds b _)[b]? = _; rw [Array.getElem?_setIfInBounds_self_of_lt hlt], ?_⟩
      have : (es.eraseIdxIfInBounds d).toList = es.toList.eraseIdx d := by
        unfold Array.eraseIdxIfInBounds
        split
        · simp
        · rename_i hn
          rw [List.eraseIdx_of_length_le (by rw [Array.length_toList]; omega)]
      rw [this]
      exact hd
    · show (w.heap.setIfInBounds b _)[c]? = _
      rw [Array.getElem?_setIfInBounds_ne (fun e => hc e.symm)]
theorem bkM_new (r : Nm) (t : TypeId) (w : World) : BR r (w.alloc (.map #[] 0)) ⟨t, 0, [], .nil, some (.mp [])⟩ w.heap.size 0 :=
  ⟨fun l hl => by injection hl with hl; subst hl; exact ⟨rfl, #[], 0, heap_alloc_new w _, .nil⟩, fun h => by cases h⟩
/-! ### Ranges over strings, strings out of bytes -/
theorem bkI_new (r : Nm) (t : TypeId) (s : ByteArray) (w : World) : BR r (w.alloc (.stringIter s 0)) ⟨t, 0, [], .nil, some (.it s 0)⟩ w.heap.size 0 :=
  ⟨fun l hl => by injection hl with hl; subst hl; exact ⟨rfl, heap_alloc_new w _⟩, fun h => by cases h⟩
theorem run_getIter {P : Program} {w : World} {b : Nat} {s : ByteArray} {p : Nat} (h : w.heap[b]? = some (.stringIter s p)) : (getObj b).run P w = .ok (.stringIter s p) w := by
  simp [getObj, Sem.run, h]
theorem run_setIter {P : Program} {w : World} {b : Nat} {s : ByteArray} {p : Nat} (h : w.heap[b]? = some (.stringIter s p)) (o : Obj) : (setObj b o).run P w = .ok () { w with heap := w.heap.setIfInBounds b o } := by
  simp [setObj, Sem.run, h]
def opNext (H : Hp) (x : V) : Option (V × Hp) := match x with
  | .w (.c (.p (some (k, 0)))) => match H.get k with
    | some B => match B.mp with
      | some (.it s p) => if p < s.size then some (.t [.c (.b true), .c (.i .i64 p), .c (.i .i32 (Utf8.decode s p).1)], H.set k ⟨B.e, B.n, B.d, B.u, some (.it s (p + (Utf8.decode s p).2))⟩) else some (.t [.c (.b false)], H)
      | _ => none
    | none => none
  | _ => none
theorem opNext_ok {P : Program} {r : Nm} {H H' : Hp} {w : World} {nx : Nat} (h : RelH r H w) {x v : V} {u : Value} (e : opNext H x = some (v, H')) (hx : VR r x u) (ty : TypeId) :
    ∃ z w', (Instr.next u true ty).run P w = .ok z w' ∧ VR r v z ∧ Mv nx r H w nx r H' w' := by
  unfold opNext at e
  split at e
  case h_2 => cases e
  rename_i k
  split at e
  case h_2 => cases e
  rename_i B hB
  split at e
  case h_2 => cases e
  rename_i s p hm
  cases hx with | w hx => cases hx with | c hx => cases hx with | p rk =>
  rename_i b sz
  obtain ⟨b', sz', rk', hBR⟩ := h.at_ k B hB
  rw [rk] at rk'
  injection rk' with rk'
  injection rk' with e1 e2
  subst e1 e2
  obtain ⟨h0, hg⟩ := hBR.mx (.it s p) hm
  have hg : w.heap[b]? = some (.stringIter s p) := hg
  have hlt := hBR.lt
  split at e
  · rename_i hp
    injection e with e
    injection e with e1 e2
    subst e1 e2
    refine ⟨_, { w with heap := w.heap.setIfInBounds b (.stringIter s (p + (Utf8.decode s p).2)) }, ?_, .t (.cons (.c (.b _)) (.cons (.c (.i _ _)) (.cons (.c (.i _ _)) .nil))), ?_⟩
    · simp only [Instr.next, ptrOf, Sem.run_bind, run_getIter hg, Result.andThen_ok, hp, if_true, run_setIter hg, Sem.run_pure, goInt]
    · refine mv_upd h hB rk ⟨fun l hl => ?_, fun hm => (by cases hm)⟩ (fun c hc => ?_) rfl rfl rfl (by simp)
      · injection hl with hl
        subst hl
        exact ⟨h0, by show (w.heap.setIfInBounds b _)[b]? = _; rw [Array.getElem?_setIfInBounds_self_of_lt hlt]⟩
      · show (w.heap.setIfInBounds b _)[c]? = _
        rw [Array.getElem?_setIfInBounds_ne (fun e => hc e.symm)]
  · rename_i hp
    injection e with e
    injection e with e1 e2
    subst e1 e2
    refine ⟨_, w, ?_, .t (.cons (.c (.b _)) .nil), Mv.refl h⟩
    simp only [Instr.next, ptrOf, Sem.run_bind, run_getIter hg, Result.andThen_ok, hp, if_false, Sem.run_pure]
def bytesOf : List C → Option (List Int)
  | [] => some []
  | .i .u8 n :: l => match bytesOf l with
    | some ns => some (n :: ns)
    | none => none
  | _ => none
theorem bytesOf_ok {r : Nm} {cs : List C} {vs : List Value} (h : CsR r cs vs) : ∀ {ns : List Int}, bytesOf cs = some ns → vs = ns.map (Value.int .u8) := by
  induction h with
  | nil => intro ns e; injection e with e; subst e; rfl
  | cons hx _ ih =>
    intro ns e
    unfold bytesOf at e
    split at e
    · rename_i heq; cases heq
    · rename_i n l heq
      injection heq with h1 h2
      subst h1 h2
      split at e
      · rename_i ns' hns
        injection e with e
        subst e
        cases hx
        rw [ih hns]; rfl
      · cases e
    · cases e
def strOf (ns : List Int) : ByteArray := ns.foldl (fun r n => r.push (UInt8.ofNat n.toNat)) ByteArray.empty
def opStr (P : Program) (H : Hp) (s d : TypeId) (x : V) : Option C := match P.underlying s, P.underlying d, x with
  | some (.slice el), some .string, .w (.c (.l (some (k, o)) n _)) => match P.underlying el, H.get k with
    | some (.int .u8), some B => if o + n ≤ B.n ∧ B.mp.isNone = true then match bytesOf (loadN B o n) with
      | some ns => some (.s (strOf ns))
      | none => none
      else none
    | _, _ => none
  | _, _, _ => none
theorem opStr_ok {P : Program} {r : Nm} {H : Hp} {w : World} (h : RelH r H w) {s d : TypeId} {x : V} {c : C} {u : Value} (e : opStr P H s d x = some c) (hx : VR r x u) : ∃ z, CR r c z ∧ (convert s d u).run P w = .ok z w := by
  unfold opStr at e
  split at e
  case h_2 => cases e
  rename_i el k o n cp hs hd
  split at e
  case h_2 => cases e
  rename_i B he hB
  split at e
  case isFalse => cases e
  rename_i hc
  split at e
  case h_2 => cases e
  rename_i ns hns
  injection e with e
  subst e
  obtain ⟨b, sz, rk, hBR⟩ := h.at_ k B hB
  obtain ⟨vs, q1, q2, q3⟩ := loadN_ok hBR (by simpa using hc.2) hc.1
  have hu : ∃ c', u = .slice (some ⟨b, o, none⟩) n c' := by
    cases hx with | w hx => cases hx with | c hx =>
      cases hx with
      | l _ _ rk' => rw [rk] at rk'; injection rk' with rk'; injection rk' with e1 e2; subst e1; exact ⟨_, rfl⟩
      | u _ _ _ rk' _ _ _ => rw [rk] at rk'; injection rk' with rk'; injection rk' with e1 e2; subst e1; exact ⟨_, rfl⟩
  obtain ⟨c', rfl⟩ := hu
  have hv := bytesOf_ok q1 hns
  have hl := run_loadCells_list (P := P) w ⟨b, o, none⟩ vs q3
  rw [q2, hv] at hl
  refine ⟨.string (strOf ns), .s _, ?_⟩
  rw [run_convert_bytes_string w s d el _ _ _ hs he hd]
  exact run_bytesToString w _ _ _ ns hl
def putD (N : Nat) (dst : Option Nat) (v : V) (tm : Tr V) : Option (Tr V) := match dst with
  | none => some tm
  | some d => if d < N then some (tm.set d v) else none
def loseD (dst : Option Nat) (tm : Tr V) : Tr V := match dst with
  | none => tm
  | some d => tm.del d
/-- what an operation does to memory: its value (none: no value), the memory behind it -/
def capOk (n : Nat) : Cp → Bool
  | .k c => decide (n ≤ c)
  | .u _ => true
def nilAdd (P : Program) (ts : Array TypeId) : List V → Option V
  | [.w (.c (.l x n c)), .w (.c (.l none 0 (.k 0)))] => match ts.toList with
    | [t, t'] => match P.underlying t, P.underlying t' with
      | some (.slice el), some (.slice _) => match szOf P el with
        | some _ => if capOk n c then some (.w (.c (.l x n c))) else none
        | none => none
      | _, _ => none
    | _ => none
  | _ => none
theorem nilAdd_ok {P : Program} {r : Nm} {ts : Array TypeId} {xs : List V} {us : Array Value} {v : V} (hu : VsR r xs us.toList) (e : nilAdd P ts xs = some v) (ty : TypeId) (w : World) :
    ∃ u, (Builtin.append_ ts ty us).run P w = .ok u w ∧ VR r v u := by
  unfold nilAdd at e
  split at e
  · rename_i x n c
    split at e
    · rename_i t t' hts
      split at e
      · rename_i el el' ht ht'
        split at e
        · rename_i sz hsz
          split at e
          · rename_i hc
            injection e with e
            subst e
            obtain ⟨us⟩ := us
            obtain ⟨ts⟩ := ts
            simp only at hts hu
            subst hts
            cases hu with | cons h1 hu => cases hu with | cons h2 hu => cases hu with | nil =>
            cases h2 with | w h2 => cases h2 with | c h2 => cases h2 with | l0 =>
            have key : ∀ (b : Option Addr) (m : Nat), n ≤ m → (Builtin.append_ #[t, t'] ty #[.slice b n m, .slice none 0 0]).run P w = .ok (.slice b n m) w := by
              intro b m hm
              cases b <;> simp [Builtin.append_, run_underlying ht, run_underlying ht', run_szOf hsz, Builtin.lenOf, Builtin.firstCells, storeCells, hm]
            cases h1 with | w h1 => cases h1 with | c h1 =>
            cases h1 with
            | l0 n c => exact ⟨_, key _ _ (by simpa [capOk] using hc), .w (.c (.l0 n c))⟩
            | l n c hr => exact ⟨_, key _ _ (by simpa [capOk] using hc), .w (.c (.l n c hr))⟩
            | u n c es hr k1 k2 k3 => exact ⟨_, key _ _ k1, .w (.c (.u n c es hr k1 k2 k3))⟩
          · cases e
        · cases e
      · cases e
    · cases e
  · cases e
def opMem (P : Program) (ext : ExtF) (call : CallF) (e : Operand → Option V) (H : Hp) (nx : Nat) (op : Op) : Option (Option V × Hp × Nat) :=
  match opAlloc P e op with
  | some (B, m) => some (some (.w (.c (madeC nx m))), H.set nx B, nx + 1)
  | none => match op with
    | .load t x => match e x with
      | some (.w (.c (.p (some (k, o))))) => match H.get k with
        | some B => match opLoadB P B t o with
          | some y => some (some (.w y), H, nx)
          | none => none
        | none => none
      | _ => none
    | .store t x y => match e x, e y with
      | some (.w (.c (.p (some (k, o))))), some (.w z) => match H.get k with
        | some B => match opStoreB P B t o z with
          | some B' => some (none, H.set k B', nx)
          | none => none
        | none => none
      | _, _ => none
    | .call ⟨.builtin .append, args, ts⟩ => match valsE e args.toList with
      | some l => match nilAdd P ts l with
        | some v => some (some v, H, nx)
        | none => match opAppend P H nx ts l with
          | some (v, H') => some (some v, H', nx + 1)
          | none => none
      | none => none
    | .call ⟨.builtin .copy, args, ts⟩ => match valsE e args.toList with
      | some l => match opCopy P H ts l with
        | some (v, H') => some (some v, H', nx)
        | none => none
      | none => none
    | .call ⟨.value f, args, _⟩ => match e f, valsE e args.toList with
      | some fv, some l => match opCall P ext call H nx fv l with
        | some (v, H', nx') => some (some v, H', nx')
        | none => none
      | _, _ => none
    | .call ⟨.invoke x name, args, _⟩ => match (match e x with
        | some (.w (.c (.d t false c))) => methR P 8 t (.c c) name
        | some (.w (.c (.d t true c))) => methR P 8 t (.a [c]) name
        | _ => none), valsE e args.toList with
      | some (fn, y), some l => match opEnter P ext call H nx fn (.w y :: l) with
        | some (v, H', nx') => some (some v, H', nx')
        | none => none
      | _, _ => none
    | .call ⟨.builtin .delete, args, ts⟩ => match ts[0]?, valsE e args.toList with
      | some t, some [x, i] => match opDel P H t x i with
        | some H' => some (some (.t []), H', nx)
        | none => none
      | _, _ => none
    | .range t x => match P.underlying t, e x with
      | some .string, some (.w (.c (.s s))) => some (some (.w (.c (.p (some (nx, 0))))), H.set nx ⟨t, 0, [], .nil, some (.it s 0)⟩, nx + 1)
      | _, _ => none
    | .next x true => match e x with
      | some a => match opNext H a with
        | some (v, H') => some (some v, H', nx)
        | none => none
      | none => none
    | .convert s d x => match e x with
      | some a => match opStr P H s d a with
        | some c => some (some (.w (.c c)), H, nx)
        | none => none
      | none => none
    | .makeMap t none => some (some (.w (.c (.m (some nx)))), H.set nx ⟨t, 0, [], .nil, some (.mp [])⟩, nx + 1)
    | .lookup t x i ok => match e x, e i with
      | some a, some b => match opLook P H t a b ok with
        | some v => some (some v, H, nx)
        | none => none
      | _, _ => none
    | .mapUpdate t x i y => match e x, e i, e y with
      | some a, some b, some c => match opMapPut P H t a b c with
        | some H' => some (none, H', nx)
        | none => none
      | _, _, _ => none
    | _ => none
def putO (N : Nat) (dst : Option Nat) (v : Option V) (tm : Tr V) : Option (Tr V) := match v with
  | some v => putD N dst v tm
  | none => some (loseD dst tm)
/-- what the world does at an operation, whatever follows -/
def OpOk (P : Program) (o : Oper) (a : Act) (w : World) (R : Option Value → World → Prop) : Prop :=
  ∀ (K : Act → World → Prop) (Q : Exit → Act → World → Prop), (∀ u w', R u w' → K (a.put o.dst (u.getD undef)) w') → o.wp P a w K Q
theorem extract_tail (x : Value) (A : Array Value) : (#[x] ++ A).extract 1 (#[x] ++ A).size = A := by
  obtain ⟨l⟩ := A
  simp
theorem head_zero (x : Value) (A : Array Value) : (#[x] ++ A)[0]? = some x := by
  obtain ⟨l⟩ := A
  simp
theorem opEnter_ok {P : Program} {ext : ExtF} {call : CallF} (hext : ExtS P ext) (hcall : CallS P call) {r : Nm} {H : Hp} {nx : Nat} {w : World} {fn : FuncId} {l : List V} {us : List Value} (hargs : VsR r l us) (hH : RelH r H w) (hf : fresh r nx)
    {a : Act} {o : Oper} (hinv : (execOp a.eval o).run P w = (callFunc fn us.toArray).run P w) {v : V} {H' : Hp} {nx' : Nat} (hc : opEnter P ext call H nx fn l = some (v, H', nx')) :
    OpOk P o a w fun u w' => ∃ r', Mv nx r H w nx' r' H' w' ∧ fresh r' nx' ∧ ((some v = none ∧ u = none) ∨ ∃ x y, some v = some x ∧ u = some y ∧ VR r' x y) := by
  intro K Q hK
  unfold opEnter at hc
  split at hc
  · rename_i v1 H1 he1
    injection hc with hc
    injection hc with e1 e2
    injection e2 with e2 e3
    subst e1 e2 e3
    obtain ⟨u, w', hrun, hvr, hmv⟩ := hext _ _ _ _ _ he1 r w _ hargs hH
    unfold Oper.wp
    rw [hinv, hrun]
    exact hK (some u) w' ⟨r, hmv nx, hf, .inr ⟨_, _, rfl, rfl, hvr⟩⟩
  · split at hc
    · rename_i g hg
      split at hc
      · cases hc
      · rename_i hcond
        simp only [Bool.or_eq_true, not_or, Bool.not_eq_true] at hcond
        have hcf : (callFunc fn us.toArray).run P w = .ok (.enter fn us.toArray) w := by
          have hn : ¬ g.name = "runtime.NumGoroutine" := by simpa using hcond.1
          have hb : ¬ g.body = none := by intro e; rw [e] at hcond; simp at hcond
          simp [callFunc, hg, hn, hb]
        unfold Oper.wp
        rw [hinv, hcf, Oper.upon_enter]
        refine (hcall _ _ _ _ _ _ _ hc r w _ hargs hH hf).mono fun e w' ⟨r', u, heq, hvr, hmv, hfr'⟩ => ?_
        subst heq
        exact hK (some u) w' ⟨r', hmv, hfr', .inr ⟨_, _, rfl, rfl, hvr⟩⟩
    · cases hc
theorem opMem_ok {P : Program} {ext : ExtF} {call : CallF} (hext : ExtS P ext) (hcall : CallS P call) {r : Nm} {a : Act} {e : Operand → Option V} (he : ∀ x v, e x = some v → VR r v (a.eval x))
    {H : Hp} {nx : Nat} {w : World} (hH : RelH r H w) (hf : fresh r nx) {o : Oper} {v : Option V} {H' : Hp} {nx' : Nat} (h : opMem P ext call e H nx o.op = some (v, H', nx')) :
    OpOk P o a w fun u w' => ∃ r', Mv nx r H w nx' r' H' w' ∧ fresh r' nx' ∧ ((v = none ∧ u = none) ∨ ∃ x y, v = some x ∧ u = some y ∧ VR r' x y) := by
  intro K Q hK
  unfold opMem at h
  split at h
  · rename_i B m hm
    injection h with h
    injection h with h1 h2
    injection h2 with h2 h3
    subst h1 h2 h3
    obtain ⟨cs, hrun, hB, hmd⟩ := opAlloc_ok he hm w
    obtain ⟨hmv, hfr⟩ := mv_new hH hf hB
    unfold Oper.wp
    rw [hrun]
    exact hK (some _) _ ⟨_, hmv, hfr, .inr ⟨_, _, rfl, rfl, .w (.c (madeC_ok (Nm.add_at _ _ _) m hmd))⟩⟩
  · split at h
    · rename_i t x ho
      split at h
      · rename_i k off hx
        split at h
        · rename_i B hk
          split at h
          · rename_i y hy
            injection h with h
            injection h with h1 h2
            injection h2 with h2 h3
            subst h1 h2 h3
            obtain ⟨b, sz, rk, hB⟩ := hH.at_ k B hk
            obtain ⟨z, hz, hrun⟩ := opLoadB_ok hB hy
            have hv := he _ _ hx
            have hp : a.eval x = ptrOf b off := by
              generalize a.eval x = u at hv
              cases hv with | w hv => cases hv with | c hv => cases hv with | p rk' =>
                rw [rk] at rk'; injection rk' with rk'; injection rk' with e1 e2; subst e1; rfl
            unfold Oper.wp
            have : (execOp a.eval o).run P w = .ok (.value z) w := by
              unfold execOp
              rw [ho]
              simp only [Sem.run_bind, hp, hrun, Result.andThen_ok, Sem.run_pure]
            rw [this]
            exact hK (some z) w ⟨r, Mv.refl hH, hf, .inr ⟨_, _, rfl, rfl, .w hz⟩⟩
          · cases h
        · cases h
      · cases h
    · rename_i t x y ho
      split at h
      · rename_i k off z hx hy
        split at h
        · rename_i B hk
          split at h
          · rename_i B' hB'
            injection h with h
            injection h with h1 h2
            injection h2 with h2 h3
            subst h1 h2 h3
            obtain ⟨b, sz, rk, hB⟩ := hH.at_ k B hk
            have hv := he _ _ hx
            have hz := he _ _ hy
            have hp : a.eval x = ptrOf b off := by
              generalize a.eval x = u at hv
              cases hv with | w hv => cases hv with | c hv => cases hv with | p rk' =>
                rw [rk] at rk'; injection rk' with rk'; injection rk' with e1 e2; subst e1; rfl
            cases hz with | w hz =>
            obtain ⟨cs', hrun, hBR⟩ := opStoreB_ok hB hz hB'
            unfold Oper.wp
            have : (execOp a.eval o).run P w = .ok .skip (w.setRow b cs') := by
              unfold execOp
              rw [ho]
              simp only [Sem.run_bind, hp, hrun, Result.andThen_ok, Sem.run_pure]
            rw [this]
            exact hK none _ ⟨r, mv_row hH hk rk hBR, hf, .inl ⟨rfl, rfl⟩⟩
          · cases h
        · cases h
      · cases h
    · rename_i args ts ho
      split at h
      · rename_i l hl
        split at h
        · rename_i v' ha
          injection h with h
          injection h with h1 h2
          injection h2 with h2 h3
          subst h1 h2 h3
          have hp := valsE_ok he _ _ hl
          rw [← Array.toList_map] at hp
          obtain ⟨u, hrun, hvr⟩ := nilAdd_ok hp ha o.type w
          unfold Oper.wp
          have : (execOp a.eval o).run P w = .ok (.value u) w := by
            unfold execOp
            rw [ho]
            simp only [resolve, Sem.run_bind, Sem.run_pure, Result.andThen_ok, invoke, builtin, hrun]
          rw [this]
          exact hK (some u) w ⟨r, Mv.refl hH, hf, .inr ⟨_, _, rfl, rfl, hvr⟩⟩
        · split at h
          · rename_i v' H'' ha
            injection h with h
            injection h with h1 h2
            injection h2 with h2 h3
            subst h1 h2 h3
            have hp := valsE_ok he _ _ hl
            rw [← Array.toList_map] at hp
            obtain ⟨u, w', r', hrun, hmv, hfr, hvr⟩ := opAppend_mv hH hf hp ha o.type
            unfold Oper.wp
            have : (execOp a.eval o).run P w = .ok (.value u) w' := by
              unfold execOp
              rw [ho]
              simp only [resolve, Sem.run_bind, Sem.run_pure, Result.andThen_ok, invoke, builtin, hrun]
            rw [this]
            exact hK (some u) w' ⟨r', hmv, hfr, .inr ⟨_, _, rfl, rfl, hvr⟩⟩
          · cases h
      · cases h
    · rename_i args ts ho
      split at h
      · rename_i l hl
        split at h
        · rename_i v' H'' ha
          injection h with h
          injection h with h1 h2
          injection h2 with h2 h3
          subst h1 h2 h3
          have hp := valsE_ok he _ _ hl
          rw [← Array.toList_map] at hp
          obtain ⟨u, w', hrun, hmv, hvr⟩ := opCopy_mv (nx := nx) hH hp ha o.type
          unfold Oper.wp
          have : (execOp a.eval o).run P w = .ok (.value u) w' := by
            unfold execOp
            rw [ho]
            simp only [resolve, Sem.run_bind, Sem.run_pure, Result.andThen_ok, invoke, builtin, hrun]
          rw [this]
          exact hK (some u) w' ⟨r, hmv, hf, .inr ⟨_, _, rfl, rfl, hvr⟩⟩
        · cases h
      · cases h
    · rename_i f args ts ho
      split at h
      · rename_i fv l hfv hl
        split at h
        · rename_i v' H'' nx'' hc
          injection h with h
          injection h with h1 h2
          injection h2 with h2 h3
          subst h1 h2 h3
          have hp := valsE_ok he _ _ hl
          have hfr := he _ _ hfv
          unfold opCall at hc
          split at hc
          · rename_i fn first cap
            have hfun : ∃ va vc, AR r first va ∧ AR r cap vc ∧ a.eval f = .func (.func fn) va.toArray vc.toArray := by
              generalize a.eval f = u at hfr
              cases hfr with | w hfr => cases hfr with | c hfr => cases hfr with | f _ ha hcp => exact ⟨_, _, ha, hcp, rfl⟩
            obtain ⟨va, vc, h1, h2, h3⟩ := hfun
            have hargs := ((ptrsV_ok h1).append hp).append (ptrsV_ok h2)
            have harr : (va.toArray ++ args.map a.eval ++ vc.toArray) = (va ++ args.toList.map a.eval ++ vc).toArray := by
              rw [← Array.toList_map]; simp
            have hinv : (execOp a.eval o).run P w = (callFunc fn (va ++ args.toList.map a.eval ++ vc).toArray).run P w := by
              unfold execOp
              rw [ho]
              simp only [resolve, Sem.run_bind, Sem.run_pure, Result.andThen_ok, h3, Deferred.ofValue, invoke, harr]
            exact opEnter_ok hext hcall hargs hH hf hinv hc K Q hK
          · cases hc
        · cases h
      · cases h
    · rename_i x name args ts ho
      split at h
      · rename_i fn y l hm hl
        split at h
        · rename_i v' H'' nx'' hc
          injection h with h
          injection h with h1 h2
          injection h2 with h2 h3
          subst h1 h2 h3
          have hp := valsE_ok he _ _ hl
          have hrecv : ∃ t z u, a.eval x = .iface t z ∧ WR r y u ∧ ∀ args w, (callMethod (.iface t z) name args).run P w = (callFunc fn (#[u] ++ args)).run P w := by
            split at hm
            · rename_i t c hx
              have hv := he _ _ hx
              generalize a.eval x = q at hv
              cases hv with | w hv => cases hv with | c hv => cases hv with | d _ hcr =>
              obtain ⟨u, h1, h2⟩ := callMethod_ok hm (by omega) (.c hcr)
              exact ⟨_, _, u, rfl, h1, h2⟩
            · rename_i t c hx
              have hv := he _ _ hx
              generalize a.eval x = q at hv
              cases hv with | w hv => cases hv with | c hv => cases hv with | da _ hcr =>
              obtain ⟨u, h1, h2⟩ := callMethod_ok hm (by omega) (.a (.cons hcr .nil))
              exact ⟨_, _, u, rfl, h1, h2⟩
            · cases hm
          obtain ⟨t, z, u, hev, hyr, hcm⟩ := hrecv
          have hargs : VsR r (.w y :: l) (u :: args.toList.map a.eval) := .cons (.w hyr) hp
          have hinv : (execOp a.eval o).run P w = (callFunc fn (u :: args.toList.map a.eval).toArray).run P w := by
            unfold execOp
            rw [ho]
            simp only [resolve, Sem.run_bind, Sem.run_pure, Result.andThen_ok, invoke, hev]
            have e0 := head_zero (Value.iface t z) (args.map a.eval)
            have e1 := extract_tail (Value.iface t z) (args.map a.eval)
            have e2 : #[u] ++ args.map a.eval = (u :: args.toList.map a.eval).toArray := by
              apply Array.ext'; simp
            rw [e0]
            simp only [e1]
            rw [hcm, e2]
          exact opEnter_ok hext hcall hargs hH hf hinv hc K Q hK
        · cases h
      · cases h
    · rename_i args ts ho
      split at h
      · rename_i t x i ht hl
        split at h
        · rename_i H'' hd
          injection h with h
          injection h with h1 h2
          injection h2 with h2 h3
          subst h1 h2 h3
          have hp := valsE_ok he _ _ hl
          rw [← Array.toList_map] at hp
          obtain ⟨us, hus⟩ : ∃ us, us = args.map a.eval := ⟨_, rfl⟩
          rw [← hus] at hp
          obtain ⟨us⟩ := us
          cases hp with | cons hx hp => cases hp with | cons hi hp => cases hp with | nil =>
          obtain ⟨w', hrun, hmv⟩ := opDel_ok (nx := nx) hH hd hx hi ht o.type
          unfold Oper.wp
          have : (execOp a.eval o).run P w = .ok (.value (.tuple #[])) w' := by
            unfold execOp
            rw [ho]
            simp only [resolve, Sem.run_bind, Sem.run_pure, Result.andThen_ok, invoke, builtin, ← hus, hrun]
          rw [this]
          exact hK (some _) w' ⟨r, hmv, hf, .inr ⟨_, _, rfl, rfl, .t .nil⟩⟩
        · cases h
      · cases h
    · rename_i t x ho
      split at h
      · rename_i s ht hx
        injection h with h
        injection h with h1 h2
        injection h2 with h2 h3
        subst h1 h2 h3
        have hv := he _ _ hx
        obtain ⟨hmv, hfr⟩ := mv_new hH hf (bkI_new _ t s w)
        unfold Oper.wp
        have : (execOp a.eval o).run P w = .ok (.value (ptrOf w.heap.size 0)) (w.alloc (.stringIter s 0)) := by
          have hev : a.eval x = .string s := by
            generalize a.eval x = u at hv
            cases hv with | w hv => cases hv with | c hv => cases hv with | s => rfl
          unfold execOp
          rw [ho]
          simp only [hev, Instr.range, Sem.run_bind, run_underlying ht, Result.andThen_ok, Sem.run_pure, run_newObj_alloc]
          rfl
        rw [this]
        exact hK (some _) _ ⟨_, hmv, hfr, .inr ⟨_, _, rfl, rfl, .w (.c (.p (Nm.add_at _ _ _)))⟩⟩
      · cases h
    · rename_i x ho
      split at h
      · rename_i xa ha
        split at h
        · rename_i v' H'' hn
          injection h with h
          injection h with h1 h2
          injection h2 with h2 h3
          subst h1 h2 h3
          obtain ⟨z, w', hrun, hz, hmv⟩ := opNext_ok (P := P) (nx := nx) hH hn (he _ _ ha) o.type
          unfold Oper.wp
          have : (execOp a.eval o).run P w = .ok (.value z) w' := by
            unfold execOp
            rw [ho]
            simp only [Sem.run_bind, hrun, Result.andThen_ok, Sem.run_pure]
          rw [this]
          exact hK (some z) w' ⟨r, hmv, hf, .inr ⟨_, _, rfl, rfl, hz⟩⟩
        · cases h
      · cases h
    · rename_i s d x ho
      split at h
      · rename_i xa ha
        split at h
        · rename_i c hc
          injection h with h
          injection h with h1 h2
          injection h2 with h2 h3
          subst h1 h2 h3
          obtain ⟨z, hz, hrun⟩ := opStr_ok hH hc (he _ _ ha)
          unfold Oper.wp
          have : (execOp a.eval o).run P w = .ok (.value z) w := by
            unfold execOp
            rw [ho]
            simp only [Sem.run_bind, hrun, Result.andThen_ok, Sem.run_pure]
          rw [this]
          exact hK (some z) w ⟨r, Mv.refl hH, hf, .inr ⟨_, _, rfl, rfl, .w (.c hz)⟩⟩
        · cases h
      · cases h
    · rename_i t ho
      injection h with h
      injection h with h1 h2
      injection h2 with h2 h3
      subst h1 h2 h3
      obtain ⟨hmv, hfr⟩ := mv_new hH hf (bkM_new _ t w)
      unfold Oper.wp
      have : (execOp a.eval o).run P w = .ok (.value (.map (some w.heap.size))) (w.alloc (.map #[] 0)) := by
        unfold execOp
        rw [ho]
        rfl
      rw [this]
      exact hK (some _) _ ⟨_, hmv, hfr, .inr ⟨_, _, rfl, rfl, .w (.c (.m (Nm.add_at _ _ _)))⟩⟩
    · rename_i t x i ok ho
      split at h
      · rename_i xa xb ha hb
        split at h
        · rename_i v' hl
          injection h with h
          injection h with h1 h2
          injection h2 with h2 h3
          subst h1 h2 h3
          obtain ⟨z, hz, hrun⟩ := opLook_ok hH hl (he _ _ ha) (he _ _ hb)
          unfold Oper.wp
          have : (execOp a.eval o).run P w = .ok (.value z) w := by
            unfold execOp
            rw [ho]
            simp only [Sem.run_bind, hrun, Result.andThen_ok, Sem.run_pure]
          rw [this]
          exact hK (some z) w ⟨r, Mv.refl hH, hf, .inr ⟨_, _, rfl, rfl, hz⟩⟩
        · cases h
      · cases h
    · rename_i t x i y ho
      split at h
      · rename_i xa xb xc ha hb hc
        split at h
        · rename_i H'' hl
          injection h with h
          injection h with h1 h2
          injection h2 with h2 h3
          subst h1 h2 h3
          obtain ⟨w', hrun, hmv⟩ := opMapPut_ok (nx := nx) hH hl (he _ _ ha) (he _ _ hb) (he _ _ hc)
          unfold Oper.wp
          have : (execOp a.eval o).run P w = .ok .skip w' := by
            unfold execOp
            rw [ho]
            simp only [Sem.run_bind, hrun, Result.andThen_ok, Sem.run_pure]
          rw [this]
          exact hK none w' ⟨r, hmv, hf, .inl ⟨rfl, rfl⟩⟩
        · cases h
      · cases h
    · cases h
end Go.Proofs.YtgilghiegfgjeaaGreatDoor
end
