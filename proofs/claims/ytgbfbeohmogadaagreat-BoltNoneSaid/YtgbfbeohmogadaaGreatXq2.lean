/- Running closed code: operations that touch no memory. -/
import Derived.Test.YtgbfbeohmogadaaGreatXq1
namespace Go.Proofs.YtgbfbeohmogadaaGreat
open Go.RowKit

/-! ### Constants -/
def cOf : Value → Option C
  | .bool b => some (.b b)
  | .int k n => some (.i k n)
  | .string s => some (.s s)
  | .pointer none => some (.p none)
  | .slice none n c => some (.l none n (.k c))
  | .nilFunc => some .nf
  | .nilIface => some .ni
  | _ => none
theorem cOf_ok {r : Nm} {v : Value} {c : C} (h : cOf v = some c) : CR r c v := by
  unfold cOf at h
  split at h <;> (try (injection h with h; subst h)) <;> first | exact .b _ | exact .i _ _ | exact .s _ | exact .p0 | exact .l0 _ _ | exact .nf | exact .ni | cases h
def csOf : List Value → Option (List C)
  | [] => some []
  | v :: vs => match cOf v, csOf vs with
    | some c, some cs => some (c :: cs)
    | _, _ => none
theorem csOf_ok {r : Nm} : ∀ {vs : List Value} {cs : List C}, csOf vs = some cs → CsR r cs vs
  | [], cs, h => by injection h with h; subst h; exact .nil
  | v :: vs, cs, h => by
    unfold csOf at h
    split at h
    · rename_i c cs' h1 h2
      injection h with h
      subst h
      exact .cons (cOf_ok h1) (csOf_ok h2)
    · cases h
def wOf : Value → Option Wv
  | .agg cs => (csOf cs.toList).map .a
  | v => (cOf v).map .c
theorem wOf_ok {r : Nm} {v : Value} {x : Wv} (h : wOf v = some x) : WR r x v := by
  unfold wOf at h
  split at h
  · rename_i cs
    cases hc : csOf cs.toList with
    | none => rw [hc] at h; cases h
    | some l =>
      rw [hc] at h
      injection h with h
      subst h
      have := WR.a (csOf_ok (r := r) hc)
      simpa using this
  · cases hc : cOf v with
    | none => rw [hc] at h; cases h
    | some l =>
      rw [hc] at h
      injection h with h
      subst h
      exact .c (cOf_ok hc)
def vOf : Value → Option V
  | .tuple vs => if vs.size = 0 then some (.t []) else none
  | v => (wOf v).map .w
theorem vOf_ok {r : Nm} {v : Value} {x : V} (h : vOf v = some x) : VR r x v := by
  unfold vOf at h
  split at h
  · rename_i vs
    split at h
    · rename_i hz
      injection h with h
      subst h
      have : vs = #[] := Array.eq_empty_of_size_eq_zero hz
      subst this
      exact .t .nil
    · cases h
  · cases hc : wOf v with
    | none => rw [hc] at h; cases h
    | some l =>
      rw [hc] at h
      injection h with h
      subst h
      exact .w (wOf_ok hc)
/-! ### Operands -/
def evO (tm : Tr V) : Operand → Option V
  | .tmp t => tm.get t
  | .const v => vOf v
  | .func f => some (.w (.c (.f f [] [])))
  | .global _ => none
/-- a frame -/
structure RelA (r : Nm) (tm : Tr V) (n : Nat) (a : Act) : Prop where
  size : a.tmps.size = n
  defers : a.defers = []
  val : ∀ i v, tm.get i = some v → ∃ u, a.tmps[i]? = some u ∧ VR r v u
theorem evO_ok {r : Nm} {tm : Tr V} {n : Nat} {a : Act} (h : RelA r tm n a) {x : Operand} {v : V} (e : evO tm x = some v) : VR r v (a.eval x) := by
  cases x with
  | tmp t =>
    obtain ⟨u, h1, h2⟩ := h.val t v e
    show VR r v (a.tmps.getD t undef)
    rw [Array.getD_eq_getD_getElem?, h1]
    exact h2
  | const u => exact vOf_ok e
  | func f =>
    injection e with e
    subst e
    exact .w (.c (.f f .nil .nil))
  | global g => cases e
theorem RelA.mono {r s : Nm} {tm : Tr V} {n : Nat} {a : Act} (h : RelA r tm n a) (k : r.le s) : RelA s tm n a :=
  ⟨h.size, h.defers, fun i v e => by obtain ⟨u, h1, h2⟩ := h.val i v e; exact ⟨u, h1, h2.mono k⟩⟩
theorem RelA.put {r : Nm} {tm : Tr V} {n : Nat} {a : Act} (h : RelA r tm n a) {d : Nat} (hd : d < n) {v : V} {u : Value} (hv : VR r v u) : RelA r (tm.set d v) n (a.put (some d) u) := by
  refine ⟨by simp [Act.put, h.size], h.defers, fun i x hx => ?_⟩
  rw [Tr.get_set] at hx
  show ∃ y, (a.tmps.setIfInBounds d u)[i]? = some y ∧ VR r x y
  by_cases e : i = d
  · subst e
    rw [if_pos rfl] at hx
    injection hx with hx
    subst hx
    exact ⟨u, by simp [h.size, hd], hv⟩
  · rw [if_neg e] at hx
    obtain ⟨y, h1, h2⟩ := h.val i x hx
    exact ⟨y, by rw [Array.getElem?_setIfInBounds_ne (fun e' => e e'.symm)]; exact h1, h2⟩
theorem RelA.lose {r : Nm} {tm : Tr V} {n : Nat} {a : Act} (h : RelA r tm n a) (d : Nat) (u : Value) : RelA r (tm.del d) n (a.put (some d) u) := by
  refine ⟨by simp [Act.put, h.size], h.defers, fun i x hx => ?_⟩
  rw [Tr.get_del] at hx
  show ∃ y, (a.tmps.setIfInBounds d u)[i]? = some y ∧ VR r x y
  by_cases e : i = d
  · rw [if_pos e] at hx; cases hx
  · rw [if_neg e] at hx
    obtain ⟨y, h1, h2⟩ := h.val i x hx
    exact ⟨y, by rw [Array.getElem?_setIfInBounds_ne (fun e' => e e'.symm)]; exact h1, h2⟩
theorem RelA.same {r : Nm} {tm : Tr V} {n : Nat} {a : Act} (h : RelA r tm n a) (u : Value) : RelA r tm n (a.put none u) := h
/-! ### Types -/
def szOf (P : Program) (t : TypeId) : Option Nat := (P.info? t).map (·.size)
def aggB (P : Program) (t : TypeId) : Option Bool := match P.underlying t with
  | some (.struct _) => some true
  | some (.array _ _) => some true
  | some _ => some false
  | none => none
theorem run_szOf {P : Program} {t : TypeId} {n : Nat} (h : szOf P t = some n) (w : World) : (sizeOf t).run P w = .ok n w := by
  unfold szOf at h
  cases hi : P.info? t with
  | none => rw [hi] at h; cases h
  | some i =>
    rw [hi] at h
    injection h with h
    subst h
    simp [sizeOf, typeInfo, hi, go_sem]
theorem run_aggB {P : Program} {t : TypeId} {b : Bool} (h : aggB P t = some b) (w : World) : (isAgg t).run P w = .ok b w := by
  unfold aggB at h
  cases hu : P.underlying t with
  | none => rw [hu] at h; cases h
  | some d =>
    rw [hu] at h
    have := run_underlying hu w
    cases d <;> simp at h <;> subst h <;> simp [isAgg, go_sem, this]
theorem CsR.length {r : Nm} {cs : List C} {vs : List Value} (h : CsR r cs vs) : vs.length = cs.length := by
  induction h with
  | nil => rfl
  | cons _ _ ih => simp [ih]
theorem CsR.get {r : Nm} {cs : List C} {vs : List Value} (h : CsR r cs vs) : ∀ (i : Nat) (c : C), cs[i]? = some c → ∃ v, vs[i]? = some v ∧ CR r c v := by
  induction h with
  | nil => intro i c h; simp at h
  | cons h t ih =>
    intro i c hc
    cases i with
    | zero => simp at hc; subst hc; exact ⟨_, rfl, h⟩
    | succ i => simpa using ih i c (by simpa using hc)
theorem CsR.drop {r : Nm} {cs : List C} {vs : List Value} (h : CsR r cs vs) : ∀ n, CsR r (cs.drop n) (vs.drop n) := by
  induction h with
  | nil => intro n; simp; exact .nil
  | cons h t ih =>
    intro n
    cases n with
    | zero => exact .cons h t
    | succ n => simpa using ih n
theorem CsR.take {r : Nm} {cs : List C} {vs : List Value} (h : CsR r cs vs) : ∀ n, CsR r (cs.take n) (vs.take n) := by
  induction h with
  | nil => intro n; simp; exact .nil
  | cons h t ih =>
    intro n
    cases n with
    | zero => exact .nil
    | succ n => simpa using .cons h (ih n)
theorem CsR.append {r : Nm} {cs ds : List C} {vs us : List Value} (h : CsR r cs vs) (k : CsR r ds us) : CsR r (cs ++ ds) (vs ++ us) := by
  induction h with
  | nil => exact k
  | cons h t ih => exact .cons h ih
/-- a part of a struct's or an array's cells -/
def partC (P : Program) (t : TypeId) (cs : List C) (off : Nat) : Option Wv := match aggB P t, szOf P t with
  | some true, some n => some (.a ((cs.drop off).take n))
  | some false, some _ => (cs[off]?).map .c
  | _, _ => none
theorem partC_ok {P : Program} {r : Nm} {t : TypeId} {cs : List C} {vs : List Value} {off : Nat} {x : Wv} (h : CsR r cs vs) (e : partC P t cs off = some x) :
    ∃ u, WR r x u ∧ ∀ w, (part t vs.toArray off).run P w = .ok u w := by
  unfold partC at e
  split at e
  · rename_i n h1 h2
    injection e with e
    subst e
    refine ⟨_, .a ((h.drop off).take n), fun w => ?_⟩
    have e1 := run_aggB h1 w
    have e2 := run_szOf h2 w
    simp [part, go_sem, e1, e2, List.extract_eq_take_drop]
  · rename_i n h1 h2
    cases hc : cs[off]? with
    | none => rw [hc] at e; cases e
    | some c =>
      rw [hc] at e
      injection e with e
      subst e
      obtain ⟨v, hv, hr⟩ := h.get off c hc
      refine ⟨v, .c hr, fun w => ?_⟩
      have e1 := run_aggB h1 w
      simp [part, go_sem, e1, hv]
  · cases e
end Go.Proofs.YtgbfbeohmogadaaGreat
