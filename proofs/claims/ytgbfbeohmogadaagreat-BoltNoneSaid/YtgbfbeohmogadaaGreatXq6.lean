/- Running closed code: addresses, parts, slices of slices, lengths; every operation that touches no memory. -/
import Derived.Test.YtgbfbeohmogadaaGreatXq5
namespace Go.Proofs.YtgbfbeohmogadaaGreat
open Go.RowKit
set_option linter.unusedVariables false

theorem add_at (b o n : Nat) : (⟨b, o, none⟩ : Addr).add n = ⟨b, o + n, none⟩ := by
  unfold Addr.add
  split
  · rename_i h; subst h; rfl
  · rfl
def opFieldAddr (P : Program) (s : TypeId) (x : V) (f : Nat) : Option C := match x, P.underlying s with
  | .w (.c (.p (some (k, o)))), some (.struct fs) => match fs[f]? with
    | some fd => match szOf P fd.type with
      | some (n + 1) => some (.p (some (k, o + fd.offset)))
      | _ => none
    | none => none
  | _, _ => none
theorem opFieldAddr_ok {P : Program} {r : Nm} {s : TypeId} {x : V} {f : Nat} {c : C} {u : Value} (h : opFieldAddr P s x f = some c) (hu : VR r x u) : ∃ z, CR r c z ∧ ∀ w, (Instr.fieldAt s u f).run P w = .ok z w := by
  unfold opFieldAddr at h
  split at h
  · rename_i k o fs ht
    split at h
    · rename_i fd hf
      split at h
      · rename_i n hn
        injection h with h
        subst h
        cases hu with | w hu => cases hu with | c hu => cases hu with | p hk =>
          refine ⟨_, .p hk, fun w => ?_⟩
          have e1 := run_underlying ht w
          have e2 := run_szOf hn w
          simp only [Instr.fieldAt, ptrOf, Sem.run_bind, e1, Result.andThen_ok, hf]
          simp only [Instr.sureAddr, fieldPlace, Sem.run_bind, e2, Result.andThen_ok, Sem.run_pure, Nat.succ_ne_zero, if_false, add_at]
      · cases h
    · cases h
  · cases h
def opField (P : Program) (t : TypeId) (x : V) (f : Nat) : Option Wv := match x, P.underlying t with
  | .w (.a cs), some (.struct fs) => match fs[f]? with
    | some fd => partC P fd.type cs fd.offset
    | none => none
  | _, _ => none
theorem opField_ok {P : Program} {r : Nm} {t : TypeId} {x : V} {f : Nat} {c : Wv} {u : Value} (h : opField P t x f = some c) (hu : VR r x u) : ∃ z, WR r c z ∧ ∀ w, (Instr.field t u f).run P w = .ok z w := by
  unfold opField at h
  split at h
  · rename_i cs fs ht
    split at h
    · rename_i fd hf
      cases hu with | w hu => cases hu with | a hu =>
        obtain ⟨z, h1, h2⟩ := partC_ok hu h
        refine ⟨z, h1, fun w => ?_⟩
        simp only [Instr.field, Sem.run_bind, run_underlying ht w, Result.andThen_ok, hf, asAgg, Sem.run_pure, h2]
    · cases h
  · cases h
def opIndexAddr (P : Program) (t : TypeId) (x i : V) : Option C := match i with
  | .w (.c (.i _ n)) => match P.underlying t, x with
    | some (.slice e), .w (.c (.l (some (k, o)) len _)) => match szOf P e with
      | some sz => if 0 ≤ n ∧ n < len then some (.p (some (k, o + n.toNat * sz))) else none
      | none => none
    | some (.array len e), .w (.c (.p (some (k, o)))) => match szOf P e with
      | some sz => if 0 ≤ n ∧ n < len then some (.p (some (k, o + n.toNat * sz))) else none
      | none => none
    | _, _ => none
  | _ => none
theorem opIndexAddr_ok {P : Program} {r : Nm} {t : TypeId} {x i : V} {c : C} {u v : Value} (h : opIndexAddr P t x i = some c) (hu : VR r x u) (hv : VR r i v) : ∃ z, CR r c z ∧ ∀ w, (Instr.indexAt t u v).run P w = .ok z w := by
  unfold opIndexAddr at h
  split at h
  · rename_i ik n
    cases hv with | w hv => cases hv with | c hv => cases hv with | i =>
    split at h
    · rename_i e k o len cp ht
      split at h
      · rename_i sz hs
        split at h
        · rename_i hb
          injection h with h
          subst h
          cases hu with | w hu => cases hu with | c hu =>
            cases hu with
            | l n' c' hk =>
              refine ⟨_, .p hk, fun w => ?_⟩
              simp only [Instr.indexAt, asIntOf, Sem.run_bind, run_underlying ht, Result.andThen_ok, Sem.run_pure, hb, and_self, if_true, run_szOf hs, add_at]; rfl
            | u n' c' es hk h1 h2 h3 =>
              refine ⟨_, .p hk, fun w => ?_⟩
              simp only [Instr.indexAt, asIntOf, Sem.run_bind, run_underlying ht, Result.andThen_ok, Sem.run_pure, hb, and_self, if_true, run_szOf hs, add_at]; rfl
        · cases h
      · cases h
    · rename_i len e k o ht
      split at h
      · rename_i sz hs
        split at h
        · rename_i hb
          injection h with h
          subst h
          cases hu with | w hu => cases hu with | c hu => cases hu with | p hk =>
            refine ⟨_, .p hk, fun w => ?_⟩
            simp only [Instr.indexAt, ptrOf, Instr.sureAddr, asIntOf, Sem.run_bind, run_underlying ht, Result.andThen_ok, Sem.run_pure, hb, and_self, if_true, run_szOf hs, add_at]
        · cases h
      · cases h
    · cases h
  · cases h
def opIndex (P : Program) (t : TypeId) (x i : V) : Option Wv := match i with
  | .w (.c (.i _ n)) => match P.underlying t, x with
    | some (.array len e), .w (.a cs) => match szOf P e with
      | some sz => if 0 ≤ n ∧ n < len then partC P e cs (n.toNat * sz) else none
      | none => none
    | some .string, .w (.c (.s s)) => if 0 ≤ n then match s[n.toNat]? with
      | some b => some (.c (.i .u8 b.toNat))
      | none => none
      else none
    | _, _ => none
  | _ => none
theorem opIndex_ok {P : Program} {r : Nm} {t : TypeId} {x i : V} {c : Wv} {u v : Value} (h : opIndex P t x i = some c) (hu : VR r x u) (hv : VR r i v) : ∃ z, WR r c z ∧ ∀ w, (Instr.index t u v).run P w = .ok z w := by
  unfold opIndex at h
  split at h
  · rename_i ik n
    cases hv with | w hv => cases hv with | c hv => cases hv with | i =>
    split at h
    · rename_i len e cs ht
      split at h
      · rename_i sz hs
        split at h
        · rename_i hb
          cases hu with | w hu => cases hu with | a hu =>
            obtain ⟨z, h1, h2⟩ := partC_ok hu h
            refine ⟨z, h1, fun w => ?_⟩
            simp only [Instr.index, asIntOf, Sem.run_bind, run_underlying ht, Result.andThen_ok, Sem.run_pure, hb, and_self, if_true, run_szOf hs, h2]
        · cases h
      · cases h
    · rename_i s ht
      split at h
      · rename_i h0
        split at h
        · rename_i b hb
          injection h with h
          subst h
          cases hu with | w hu => cases hu with | c hu => cases hu with | s =>
            refine ⟨_, .c (.i _ _), fun w => ?_⟩
            simp only [Instr.index, asIntOf, Sem.run_bind, run_underlying ht, Result.andThen_ok, Sem.run_pure, h0, if_true, hb]
        · cases h
      · cases h
    · cases h
  · cases h
def opExtract (x : V) (i : Nat) : Option Wv := match x with
  | .t xs => xs[i]?
  | _ => none
theorem WsR.get {r : Nm} {xs : List Wv} {vs : List Value} (h : WsR r xs vs) : ∀ (i : Nat) (c : Wv), xs[i]? = some c → ∃ v, vs[i]? = some v ∧ WR r c v := by
  induction h with
  | nil => intro i c h; simp at h
  | cons h t ih =>
    intro i c hc
    cases i with
    | zero => simp at hc; subst hc; exact ⟨_, rfl, h⟩
    | succ i => simpa using ih i c (by simpa using hc)
theorem opExtract_ok {P : Program} {r : Nm} {x : V} {i : Nat} {c : Wv} {u : Value} (h : opExtract x i = some c) (hu : VR r x u) : ∃ z, WR r c z ∧ ∀ w, (Instr.extract u i).run P w = .ok z w := by
  unfold opExtract at h
  split at h
  · cases hu with | t hu =>
      obtain ⟨z, h1, h2⟩ := hu.get i c h
      refine ⟨z, h2, fun w => ?_⟩
      simp [Instr.extract, h1]
  · cases h
/-- a bound of a slice expression -/
def bnd (x : Option V) (d : Nat) (y : Nat) : Option Nat := match x with
  | none => some d
  | some (.w (.c (.i _ n))) => if 0 ≤ n ∧ n ≤ y then some n.toNat else none
  | some _ => none
inductive OR (r : Nm) : Option V → Option Value → Prop where
  | none : OR r none none
  | some {x u} (h : VR r x u) : OR r (some x) (some u)
def opSlice (P : Program) (t : TypeId) (x : V) (lo hi mx : Option V) : Option C := match mx with
  | some _ => none
  | none => match P.underlying t, x with
    | some .string, .w (.c (.s s)) => match bnd hi s.size s.size with
      | none => none
      | some h => match bnd lo 0 h with
        | none => none
        | some l => some (.s (s.extract l h))
    | some (.slice e), .w (.c (.l a n (.k c))) => match szOf P e with
      | none => none
      | some sz => match bnd hi n c with
        | none => none
        | some h => match bnd lo 0 h with
          | none => none
          | some l => some (.l (if c = l then a else a.map fun (k, o) => (k, o + l * sz)) (h - l) (.k (c - l)))
    | some (.slice e), .w (.c (.l (some (k, o)) n (.u es))) => match szOf P e with
      | none => none
      | some sz => match bnd hi n n with
        | none => none
        | some h => match bnd lo 0 h with
          | none => none
          | some l => if l = 0 then some (.l (some (k, o)) h (.u es)) else if l < n ∧ es = sz then some (.l (some (k, o + l * sz)) (h - l) (.u es)) else none
    | some (.array n e), .w (.c (.p (some (k, o)))) => match szOf P e with
      | none => none
      | some sz => match bnd hi n n with
        | none => none
        | some h => match bnd lo 0 h with
          | none => none
          | some l => some (.l (some (k, if n = l then o else o + l * sz)) (h - l) (.k (n - l)))
    | _, _ => none
theorem bnd_ok {P : Program} {r : Nm} {x : Option V} {u : Option Value} {d y m : Nat} {code : BoundsCode} (h : bnd x d y = some m) (hu : OR r x u) (w : World) (z : Nat) (hz : y ≤ z) :
    ((match u with | some v => Instr.sliceBound v z code | none => pure d) : Sem Nat).run P w = .ok m w ∧ (u ≠ none → m ≤ y) := by
  unfold bnd at h
  split at h
  · injection h with h
    subst h
    cases hu with | none => exact ⟨rfl, fun h => absurd rfl h⟩
  · rename_i k n
    split at h
    · rename_i hb
      injection h with h
      subst h
      cases hu with | some hu => cases hu with | w hu => cases hu with | c hu => cases hu with | i =>
        refine ⟨?_, fun _ => by omega⟩
        have : (0 ≤ n ∧ n ≤ (z : Int)) := ⟨hb.1, by have := hb.2; omega⟩
        simp only [Instr.sliceBound, asIntOf, Sem.run_bind, Sem.run_pure, Result.andThen_ok, this, and_self, if_true]
    · cases h
  · cases h
theorem bounds_ok {P : Program} {r : Nm} {lo hi : Option V} {ul uh : Option Value} {b : Bool} {len cap h l : Nat} (e1 : bnd hi len cap = some h) (e2 : bnd lo 0 h = some l) (h1 : OR r lo ul) (h2 : OR r hi uh) (w : World) {c : Nat} (hc : cap ≤ c) :
    (Instr.sliceBounds b len c ul uh none).run P w = .ok (l, h, c) w := by
  have a1 := (bnd_ok (P := P) (code := if b then .sliceAcap else .sliceAlen) e1 h2 w c hc).1
  have a2 := (bnd_ok (P := P) (code := .sliceB) e2 h1 w h (Nat.le_refl _)).1
  unfold Instr.sliceBounds
  cases uh <;> cases ul <;> simp_all [Sem.run_bind]
end Go.Proofs.YtgbfbeohmogadaaGreat
