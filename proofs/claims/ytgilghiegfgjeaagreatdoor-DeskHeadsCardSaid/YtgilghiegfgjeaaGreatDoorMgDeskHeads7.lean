/- Joined: Xq5, Xq6, Xq7, Xq8, Xq9. -/
import Derived.Great.BuildSlice
import Derived.Test.YtgilghiegfgjeaaGreatDoorMgDeskHeads6
section
set_option linter.unusedVariables false
set_option linter.unusedSimpArgs false
/- Running closed code: structs and arrays that are built, addresses, parts, slices of slices, lengths. -/
namespace Go.Proofs.YtgilghiegfgjeaaGreatDoor
open Go.RowKit
set_option linter.unusedVariables false

/-! ### Filling -/
def wcells : Wv → List C
  | .c x => [x]
  | .a cs => cs
theorem CR.notAgg {r : Nm} {c : C} {v : Value} (h : CR r c v) : v.cells = #[v] := by cases h <;> rfl
theorem wcells_ok {r : Nm} {x : Wv} {v : Value} (h : WR r x v) : CsR r (wcells x) v.cells.toList := by
  cases h with
  | c h => rw [h.notAgg]; exact .cons h .nil
  | a h => simpa [Value.cells, wcells] using h
theorem CsR.set {r : Nm} {cs : List C} {vs : List Value} (h : CsR r cs vs) {c : C} {v : Value} (k : CR r c v) : ∀ i, CsR r (cs.set i c) (vs.set i v) := by
  induction h with
  | nil => intro i; simp; exact .nil
  | cons h t ih =>
    intro i
    cases i with
    | zero => exact .cons k t
    | succ i => exact .cons h (ih i)
def putAll (off : Nat) : List C → List C → List C
  | [], cs => cs
  | x :: xs, cs => putAll (off + 1) xs (cs.set off x)
theorem putAll_ok {r : Nm} : ∀ (xs : List C) (us : List Value), CsR r xs us → ∀ (k off : Nat) (cs : List C) (vs : Array Value), CsR r cs vs.toList →
    CsR r (putAll (off + k) xs cs) ((us.zipIdx k).foldl (fun cs (p : Value × Nat) => cs.setIfInBounds (off + p.2) p.1) vs).toList := by
  intro xs us h
  induction h with
  | nil => intro k off cs vs hc; exact hc
  | cons h t ih =>
    intro k off cs vs hc
    rw [List.zipIdx_cons, List.foldl_cons]
    show CsR r (putAll (off + k + 1) _ (cs.set (off + k) _)) _
    exact ih (k + 1) off _ _ (by rw [Array.toList_setIfInBounds]; exact hc.set h _)
def fillC (place : Nat → Option (Nat × Nat)) : List C → List (Nat × Wv) → Option (List C)
  | cs, [] => some cs
  | cs, (i, x) :: rest => match place i with
    | none => none
    | some (off, size) => if (wcells x).length ≠ size ∨ off + (wcells x).length > cs.length then none else fillC place (putAll off (wcells x) cs) rest
inductive PsR (r : Nm) : List (Nat × Wv) → List (Nat × Value) → Prop where
  | nil : PsR r [] []
  | cons {i x v xs vs} (h : WR r x v) (t : PsR r xs vs) : PsR r ((i, x) :: xs) ((i, v) :: vs)
theorem fillC_ok {r : Nm} {place : Nat → Option (Nat × Nat)} : ∀ (ps : List (Nat × Wv)) (qs : List (Nat × Value)), PsR r ps qs → ∀ (cs : List C) (vs : Array Value) (ds : List C), CsR r cs vs.toList → fillC place cs ps = some ds →
    ∃ us : Array Value, Instr.fill place vs qs = some us ∧ CsR r ds us.toList := by
  intro ps qs h
  induction h with
  | nil => intro cs vs ds hc hf; injection hf with hf; subst hf; exact ⟨vs, rfl, hc⟩
  | cons hw t ih =>
    rename_i i x v xs rest
    intro cs vs ds hc hf
    unfold fillC at hf
    unfold Instr.fill
    cases hp : place i with
    | none => rw [hp] at hf; cases hf
    | some os =>
      obtain ⟨off, size⟩ := os
      rw [hp] at hf
      simp only at hf
      have hwc := wcells_ok hw
      have l1 := hwc.length
      have l2 := hc.length
      rw [Array.length_toList] at l1 l2
      split at hf
      · cases hf
      · rename_i hn
        have e : (v.cells.size ≠ size || off + v.cells.size > vs.size) = false := by
          rw [l1, l2]
          simp only [not_or] at hn
          simp
          omega
        simp only [e]
        have hz : (v.cells.zipIdx.foldl (fun cs (p : Value × Nat) => cs.setIfInBounds (off + p.2) p.1) vs) = ((v.cells.toList.zipIdx 0).foldl (fun cs (p : Value × Nat) => cs.setIfInBounds (off + p.2) p.1) vs) := by
          rw [← Array.foldl_toList, Array.toList_zipIdx]
        have hq := putAll_ok _ _ hwc 0 off cs vs hc
        obtain ⟨us, h1, h2⟩ := ih _ _ ds (by rw [Nat.add_zero] at hq; exact hq) hf
        refine ⟨us, ?_, h2⟩
        rw [← h1]
        simp only [Bool.false_eq_true, if_false]
        congr 1
/-- the zero of a type, by cells -/
def zeroW (P : Program) (t : TypeId) : Option Wv := match P.info? t with
  | some i => match i.zero with
    | some z => wOf z
    | none => none
  | none => none
theorem zeroW_ok {P : Program} {r : Nm} {t : TypeId} {x : Wv} (h : zeroW P t = some x) : ∃ i z, P.info? t = some i ∧ i.zero = some z ∧ WR r x z := by
  unfold zeroW at h
  split at h
  · rename_i i hi
    split at h
    · rename_i z hz; exact ⟨i, z, hi, hz, wOf_ok h⟩
    · cases h
  · cases h
def placesOf (P : Program) : List Field → Option (List (Nat × Nat))
  | [] => some []
  | f :: fs => match szOf P f.type, placesOf P fs with
    | some n, some l => some ((f.offset, n) :: l)
    | _, _ => none
theorem placesOf_ok {P : Program} : ∀ (fs : List Field) (l : List (Nat × Nat)), placesOf P fs = some l → fs.mapM (fun f => (P.info? f.type).map fun i => (f.offset, i.size)) = some l
  | [], l, h => by injection h with h; subst h; rfl
  | f :: fs, l, h => by
    unfold placesOf at h
    split at h
    · rename_i n l' h1 h2
      injection h with h
      subst h
      unfold szOf at h1
      cases hi : P.info? f.type with
      | none => rw [hi] at h1; cases h1
      | some i =>
        rw [hi] at h1
        injection h1 with h1
        subst h1
        simp [List.mapM_cons, hi, placesOf_ok fs l' h2]
    · cases h
def partsE (e : Operand → Option V) : List (Nat × Operand) → Option (List (Nat × Wv))
  | [] => some []
  | (i, x) :: rest => match e x, partsE e rest with
    | some (.w w), some l => some ((i, w) :: l)
    | _, _ => none
theorem partsE_ok {r : Nm} {e : Operand → Option V} {g : Operand → Value} (h : ∀ x v, e x = some v → VR r v (g x)) : ∀ (ps : List (Nat × Operand)) (l : List (Nat × Wv)), partsE e ps = some l → PsR r l (ps.map fun (i, x) => (i, g x))
  | [], l, k => by injection k with k; subst k; exact .nil
  | (i, x) :: rest, l, k => by
    unfold partsE at k
    split at k
    · rename_i w l' h1 h2
      injection k with k
      subst k
      have := h _ _ h1
      cases this with
      | w hw => exact .cons hw (partsE_ok h rest l' h2)
    · cases k
def opBuild (P : Program) (t : TypeId) (ps : List (Nat × Wv)) : Option (List C) := match zeroW P t with
  | none => none
  | some z => match P.underlying t with
    | some (.struct fs) => match placesOf P fs.toList with
      | some pl => fillC (pl.toArray[·]?) (wcells z) ps
      | none => none
    | some (.array _ e) => match szOf P e with
      | some n => fillC (fun i => some (i * n, n)) (wcells z) ps
      | none => none
    | _ => none
theorem opBuild_ok {P : Program} {r : Nm} {t : TypeId} {ps : List (Nat × Wv)} {qs : Array (Nat × Value)} {cs : List C} (h : opBuild P t ps = some cs) (hp : PsR r ps qs.toList) :
    ∃ vs : List Value, CsR r cs vs ∧ ∀ w, (Instr.build t qs).run P w = .ok (.agg vs.toArray) w := by
  unfold opBuild at h
  cases hz : zeroW P t with
  | none => rw [hz] at h; cases h
  | some z =>
    rw [hz] at h
    obtain ⟨i, zv, hi, hiz, hzr⟩ := zeroW_ok (r := r) hz
    simp only at h
    split at h
    · rename_i fs hu
      cases hpl : placesOf P fs.toList with
      | none => rw [hpl] at h; cases h
      | some pl =>
        rw [hpl] at h
        obtain ⟨us, h1, h2⟩ := fillC_ok _ _ hp _ _ _ (wcells_ok hzr) h
        refine ⟨us.toList, h2, fun w => ?_⟩
        have := run_build (P := P) w t qs us (by unfold Program.built; simp only [hi, hu, hiz, placesOf_ok _ _ hpl]; exact h1)
        simpa using this
    · rename_i n e hu
      cases hs : szOf P e with
      | none => rw [hs] at h; cases h
      | some sz =>
        rw [hs] at h
        unfold szOf at hs
        cases hie : P.info? e with
        | none => rw [hie] at hs; cases hs
        | some ie =>
          rw [hie] at hs
          injection hs with hs
          subst hs
          obtain ⟨us, h1, h2⟩ := fillC_ok _ _ hp _ _ _ (wcells_ok hzr) h
          refine ⟨us.toList, h2, fun w => ?_⟩
          have := run_build (P := P) w t qs us (by unfold Program.built; simp only [hi, hu, hiz, hie]; exact h1)
          simpa using this
    · cases h
end Go.Proofs.YtgilghiegfgjeaaGreatDoor
end
section
set_option linter.unusedVariables false
set_option linter.unusedSimpArgs false
/- Running closed code: addresses, parts, slices of slices, lengths; every operation that touches no memory. -/
namespace Go.Proofs.YtgilghiegfgjeaaGreatDoor
open Go.RowKit
set_option linter.unusedVariables false

theorem add_at (b o n : Nat) : (⟨b, o, none⟩ : Addr).add n = ⟨b, o + n, none⟩ := by
  unfold Addr.add
  split
  · rename_i h; subst h; rfl
  · rfl
def opFieldAddr (P : Program) (s : TypeId) (x : V) (f : Nat) : Option C := match x, P.underlying s with
  | .w (.c (.p (some (k, o)))), some (.struct fs) => match fs[f]? with
    | some fd => match szOf P fd.type with
      | some (n + 1) => some (.p (some (k, o + fd.offset)))
      | _ => none
    | none => none
  | _, _ => none
theorem opFieldAddr_ok {P : Program} {r : Nm} {s : TypeId} {x : V} {f : Nat} {c : C} {u : Value} (h : opFieldAddr P s x f = some c) (hu : VR r x u) : ∃ z, CR r c z ∧ ∀ w, (Instr.fieldAt s u f).run P w = .ok z w := by
  unfold opFieldAddr at h
  split at h
  · rename_i k o fs ht
    split at h
    · rename_i fd hf
      split at h
      · rename_i n hn
        injection h with h
        subst h
        cases hu with | w hu => cases hu with | c hu => cases hu with | p hk =>
          refine ⟨_, .p hk, fun w => ?_⟩
          have e1 := run_underlying ht w
          have e2 := run_szOf hn w
          simp only [Instr.fieldAt, ptrOf, Sem.run_bind, e1, Result.andThen_ok, hf]
          simp only [Instr.sureAddr, fieldPlace, Sem.run_bind, e2, Result.andThen_ok, Sem.run_pure, Nat.succ_ne_zero, if_false, add_at]
      · cases h
    · cases h
  · cases h
def opField (P : Program) (t : TypeId) (x : V) (f : Nat) : Option Wv := match x, P.underlying t with
  | .w (.a cs), some (.struct fs) => match fs[f]? with
    | some fd => partC P fd.type cs fd.offset
    | none => none
  | _, _ => none
theorem opField_ok {P : Program} {r : Nm} {t : TypeId} {x : V} {f : Nat} {c : Wv} {u : Value} (h : opField P t x f = some c) (hu : VR r x u) : ∃ z, WR r c z ∧ ∀ w, (Instr.field t u f).run P w = .ok z w := by
  unfold opField at h
  split at h
  · rename_i cs fs ht
    split at h
    · rename_i fd hf
      cases hu with | w hu => cases hu with | a hu =>
        obtain ⟨z, h1, h2⟩ := partC_ok hu h
        refine ⟨z, h1, fun w => ?_⟩
        simp only [Instr.field, Sem.run_bind, run_underlying ht w, Result.andThen_ok, hf, asAgg, Sem.run_pure, h2]
    · cases h
  · cases h
def opIndexAddr (P : Program) (t : TypeId) (x i : V) : Option C := match i with
  | .w (.c (.i _ n)) => match P.underlying t, x with
    | some (.slice e), .w (.c (.l (some (k, o)) len _)) => match szOf P e with
      | some sz => if 0 ≤ n ∧ n < len then some (.p (some (k, o + n.toNat * sz))) else none
      | none => none
    | some (.array len e), .w (.c (.p (some (k, o)))) => match szOf P e with
      | some sz => if 0 ≤ n ∧ n < len then some (.p (some (k, o + n.toNat * sz))) else none
      | none => none
    | _, _ => none
  | _ => none
theorem opIndexAddr_ok {P : Program} {r : Nm} {t : TypeId} {x i : V} {c : C} {u v : Value} (h : opIndexAddr P t x i = some c) (hu : VR r x u) (hv : VR r i v) : ∃ z, CR r c z ∧ ∀ w, (Instr.indexAt t u v).run P w = .ok z w := by
  unfold opIndexAddr at h
  split at h
  · rename_i ik n
    cases hv with | w hv => cases hv with | c hv => cases hv with | i =>
    split at h
    · rename_i e k o len cp ht
      split at h
      · rename_i sz hs
        split at h
        · rename_i hb
          injection h with h
          subst h
          cases hu with | w hu => cases hu with | c hu =>
            cases hu with
            | l n' c' hk =>
              refine ⟨_, .p hk, fun w => ?_⟩
              simp only [Instr.indexAt, asIntOf, Sem.run_bind, run_underlying ht, Result.andThen_ok, Sem.run_pure, hb, and_self, if_true, run_szOf hs, add_at]; rfl
            | u n' c' es hk h1 h2 h3 =>
              refine ⟨_, .p hk, fun w => ?_⟩
              simp only [Instr.indexAt, asIntOf, Sem.run_bind, run_underlying ht, Result.andThen_ok, Sem.run_pure, hb, and_self, if_true, run_szOf hs, add_at]; rfl
        · cases h
      · cases h
    · rename_i len e k o ht
      split at h
      · rename_i sz hs
        split at h
        · rename_i hb
          injection h with h
          subst h
          cases hu with | w hu => cases hu with | c hu => cases hu with | p hk =>
            refine ⟨_, .p hk, fun w => ?_⟩
            simp only [Instr.indexAt, ptrOf, Instr.sureAddr, asIntOf, Sem.run_bind, run_underlying ht, Result.andThen_ok, Sem.run_pure, hb, and_self, if_true, run_szOf hs, add_at]
        · cases h
      · cases h
    · cases h
  · cases h
def opIndex (P : Program) (t : TypeId) (x i : V) : Option Wv := match i with
  | .w (.c (.i _ n)) => match P.underlying t, x with
    | some (.array len e), .w (.a cs) => match szOf P e with
      | some sz => if 0 ≤ n ∧ n < len then partC P e cs (n.toNat * sz) else none
      | none => none
    | some .string, .w (.c (.s s)) => if 0 ≤ n then match s[n.toNat]? with
      | some b => some (.c (.i .u8 b.toNat))
      | none => none
      else none
    | _, _ => none
  | _ => none
theorem opIndex_ok {P : Program} {r : Nm} {t : TypeId} {x i : V} {c : Wv} {u v : Value} (h : opIndex P t x i = some c) (hu : VR r x u) (hv : VR r i v) : ∃ z, WR r c z ∧ ∀ w, (Instr.index t u v).run P w = .ok z w := by
  unfold opIndex at h
  split at h
  · rename_i ik n
    cases hv with | w hv => cases hv with | c hv => cases hv with | i =>
    split at h
    · rename_i len e cs ht
      split at h
      · rename_i sz hs
        split at h
        · rename_i hb
          cases hu with | w hu => cases hu with | a hu =>
            obtain ⟨z, h1, h2⟩ := partC_ok hu h
            refine ⟨z, h1, fun w => ?_⟩
            simp only [Instr.index, asIntOf, Sem.run_bind, run_underlying ht, Result.andThen_ok, Sem.run_pure, hb, and_self, if_true, run_szOf hs, h2]
        · cases h
      · cases h
    · rename_i s ht
      split at h
      · rename_i h0
        split at h
        · rename_i b hb
          injection h with h
          subst h
          cases hu with | w hu => cases hu with | c hu => cases hu with | s =>
            refine ⟨_, .c (.i _ _), fun w => ?_⟩
            simp only [Instr.index, asIntOf, Sem.run_bind, run_underlying ht, Result.andThen_ok, Sem.run_pure, h0, if_true, hb]
        · cases h
      · cases h
    · cases h
  · cases h
def opExtract (x : V) (i : Nat) : Option Wv := match x with
  | .t xs => xs[i]?
  | _ => none
theorem WsR.get {r : Nm} {xs : List Wv} {vs : List Value} (h : WsR r xs vs) : ∀ (i : Nat) (c : Wv), xs[i]? = some c → ∃ v, vs[i]? = some v ∧ WR r c v := by
  induction h with
  | nil => intro i c h; simp at h
  | cons h t ih =>
    intro i c hc
    cases i with
    | zero => simp at hc; subst hc; exact ⟨_, rfl, h⟩
    | succ i => simpa using ih i c (by simpa using hc)
theorem opExtract_ok {P : Program} {r : Nm} {x : V} {i : Nat} {c : Wv} {u : Value} (h : opExtract x i = some c) (hu : VR r x u) : ∃ z, WR r c z ∧ ∀ w, (Instr.extract u i).run P w = .ok z w := by
  unfold opExtract at h
  split at h
  · cases hu with | t hu =>
      obtain ⟨z, h1, h2⟩ := hu.get i c h
      refine ⟨z, h2, fun w => ?_⟩
      simp [Instr.extract, h1]
  · cases h
/-- a bound of a slice expression -/
def bnd (x : Option V) (d : Nat) (y : Nat) : Option Nat := match x with
  | none => some d
  | some (.w (.c (.i _ n))) => if 0 ≤ n ∧ n ≤ y then some n.toNat else none
  | some _ => none
inductive OR (r : Nm) : Option V → Option Value → Prop where
  | none : OR r none none
  | some {x u} (h : VR r x u) : OR r (some x) (some u)
def opSlice (P : Program) (t : TypeId) (x : V) (lo hi mx : Option V) : Option C := match mx with
  | some _ => none
  | none => match P.underlying t, x with
    | some .string, .w (.c (.s s)) => match bnd hi s.size s.size with
      | none => none
      | some h => match bnd lo 0 h with
        | none => none
        | some l => some (.s (s.extract l h))
    | some (.slice e), .w (.c (.l a n (.k c))) => match szOf P e with
      | none => none
      | some sz => match bnd hi n c with
        | none => none
        | some h => match bnd lo 0 h with
          | none => none
          | some l => some (.l (if c = l then a else a.map fun (k, o) => (k, o + l * sz)) (h - l) (.k (c - l)))
    | some (.slice e), .w (.c (.l (some (k, o)) n (.u es))) => match szOf P e with
      | none => none
      | some sz => match bnd hi n n with
        | none => none
        | some h => match bnd lo 0 h with
          | none => none
          | some l => if l = 0 then some (.l (some (k, o)) h (.u es)) else if l < n ∧ es = sz then some (.l (some (k, o + l * sz)) (h - l) (.u es)) else none
    | some (.array n e), .w (.c (.p (some (k, o)))) => match szOf P e with
      | none => none
      | some sz => match bnd hi n n with
        | none => none
        | some h => match bnd lo 0 h with
          | none => none
          | some l => some (.l (some (k, if n = l then o else o + l * sz)) (h - l) (.k (n - l)))
    | _, _ => none
theorem bnd_ok {P : Program} {r : Nm} {x : Option V} {u : Option Value} {d y m : Nat} {code : BoundsCode} (h : bnd x d y = some m) (hu : OR r x u) (w : World) (z : Nat) (hz : y ≤ z) :
    ((match u with | some v => Instr.sliceBound v z code | none => pure d) : Sem Nat).run P w = .ok m w ∧ (u ≠ none → m ≤ y) := by
  unfold bnd at h
  split at h
  · injection h with h
    subst h
    cases hu with | none => exact ⟨rfl, fun h => absurd rfl h⟩
  · rename_i k n
    split at h
    · rename_i hb
      injection h with h
      subst h
      cases hu with | some hu => cases hu with | w hu => cases hu with | c hu => cases hu with | i =>
        refine ⟨?_, fun _ => by omega⟩
        have : (0 ≤ n ∧ n ≤ (z : Int)) := ⟨hb.1, by have := hb.2; omega⟩
        simp only [Instr.sliceBound, asIntOf, Sem.run_bind, Sem.run_pure, Result.andThen_ok, this, and_self, if_true]
    · cases h
  · cases h
theorem bounds_ok {P : Program} {r : Nm} {lo hi : Option V} {ul uh : Option Value} {b : Bool} {len cap h l : Nat} (e1 : bnd hi len cap = some h) (e2 : bnd lo 0 h = some l) (h1 : OR r lo ul) (h2 : OR r hi uh) (w : World) {c : Nat} (hc : cap ≤ c) :
    (Instr.sliceBounds b len c ul uh none).run P w = .ok (l, h, c) w := by
  have a1 := (bnd_ok (P := P) (code := if b then .sliceAcap else .sliceAlen) e1 h2 w c hc).1
  have a2 := (bnd_ok (P := P) (code := .sliceB) e2 h1 w h (Nat.le_refl _)).1
  unfold Instr.sliceBounds
  cases uh <;> cases ul <;> simp_all [Sem.run_bind]
end Go.Proofs.YtgilghiegfgjeaaGreatDoor
end
section
set_option linter.unusedVariables false
set_option linter.unusedSimpArgs false
/- Running closed code: slices of slices, functions, lengths; every operation that touches no memory. -/
namespace Go.Proofs.YtgilghiegfgjeaaGreatDoor
open Go.RowKit
set_option linter.unusedVariables false

theorem opSlice_ok {P : Program} {r : Nm} {t : TypeId} {x : V} {lo hi mx : Option V} {c : C} {u : Value} {ul uh um : Option Value} (h : opSlice P t x lo hi mx = some c) (hu : VR r x u) (hl : OR r lo ul) (hh : OR r hi uh) (hm : OR r mx um) :
    ∃ z, CR r c z ∧ ∀ w, (Instr.sliceAt t u ul uh um).run P w = .ok z w := by
  unfold opSlice at h
  split at h
  · cases h
  · cases hm
    split at h
    · rename_i s ht
      cases hu with | w hu => cases hu with | c hu => cases hu with | s =>
      split at h
      · cases h
      · rename_i y hy
        split at h
        · cases h
        · rename_i l hl'
          injection h with h
          subst h
          refine ⟨_, .s _, fun w => ?_⟩
          have hb := bounds_ok (P := P) (b := false) hy hl' hl hh w (Nat.le_refl _)
          simp only [Instr.sliceAt, Instr.slice, Sem.run_bind, run_underlying ht, Result.andThen_ok, Option.isSome_none, Bool.false_eq_true, if_false, Sem.run_pure, hb]
    · rename_i e a n cp ht
      split at h
      · cases h
      · rename_i sz hs
        split at h
        · cases h
        · rename_i y hy
          split at h
          · cases h
          · rename_i l hl'
            injection h with h
            subst h
            cases hu with | w hu => cases hu with | c hu =>
            have hb := fun w => bounds_ok (P := P) (b := true) hy hl' hl hh w (Nat.le_refl _)
            cases hu with
            | l0 =>
              refine ⟨.slice none (y - l) (cp - l), by split <;> exact .l0 _ _, fun w => ?_⟩
              simp only [Instr.sliceAt, Instr.slice, Sem.run_bind, run_underlying ht, Result.andThen_ok, hb, run_szOf hs, Sem.run_pure, Option.map_none, ite_self]
            | l n' c' hk =>
              rename_i k o b s
              refine ⟨.slice (some (if cp = l then ⟨b, o, none⟩ else ⟨b, o + l * sz, none⟩)) (y - l) (cp - l), by split <;> exact .l _ _ hk, fun w => ?_⟩
              simp only [Instr.sliceAt, Instr.slice, Sem.run_bind, run_underlying ht, Result.andThen_ok, hb, run_szOf hs, Sem.run_pure, Option.map_some, add_at]
              split <;> rfl
    · rename_i e k o n es ht
      split at h
      · cases h
      · rename_i sz hs
        split at h
        · cases h
        · rename_i y hy
          split at h
          · cases h
          · rename_i l hl'
            cases hu with | w hu => cases hu with | c hu => cases hu with | u n' c' es' hk h1 h2 h3 =>
            rename_i b s
            have hb := fun w => bounds_ok (P := P) (b := true) hy hl' hl hh w h1
            have hyn : y ≤ n := by
              unfold bnd at hy
              split at hy
              · injection hy with hy; omega
              · split at hy
                · injection hy with hy; omega
                · cases hy
              · cases hy
            split at h
            · rename_i hl0
              subst hl0
              injection h with h
              subst h
              refine ⟨.slice (some ⟨b, o, none⟩) y c', .u y c' es hk (by omega) h2 h3, fun w => ?_⟩
              simp only [Instr.sliceAt, Instr.slice, Sem.run_bind, run_underlying ht, Result.andThen_ok, hb, run_szOf hs, Sem.run_pure, Option.map_some, add_at, Nat.zero_mul, Nat.add_zero, ite_self, Nat.sub_zero]
            · rename_i hl0
              split at h
              · rename_i hc
                obtain ⟨hc1, rfl⟩ := hc
                injection h with h
                subst h
                have hly : l ≤ y := by
                  unfold bnd at hl'
                  split at hl'
                  · injection hl' with hl'; omega
                  · split at hl'
                    · injection hl' with hl'; omega
                    · cases hl'
                  · cases hl'
                refine ⟨.slice (some ⟨b, o + l * es, none⟩) (y - l) (c' - l), .u _ _ es hk (by omega) (by omega) (by rw [Nat.add_assoc, ← Nat.add_mul, show l + (c' - l) = c' by omega]; exact h3), fun w => ?_⟩
                have hne : ¬ c' = l := by omega
                simp only [Instr.sliceAt, Instr.slice, Sem.run_bind, run_underlying ht, Result.andThen_ok, hb, run_szOf hs, Sem.run_pure, Option.map_some, add_at, hne, if_false]
              · cases h
    · rename_i n e k o ht
      split at h
      · cases h
      · rename_i sz hs
        split at h
        · cases h
        · rename_i y hy
          split at h
          · cases h
          · rename_i l hl'
            injection h with h
            subst h
            cases hu with | w hu => cases hu with | c hu => cases hu with | p hk =>
            rename_i b s
            have hb := fun w => bounds_ok (P := P) (b := false) hy hl' hl hh w (Nat.le_refl _)
            refine ⟨.slice (some ⟨b, if n = l then o else o + l * sz, none⟩) (y - l) (n - l), .l _ _ hk, fun w => ?_⟩
            simp only [Instr.sliceAt, ptrOf, Instr.sureAddr, Sem.run_bind, run_underlying ht, Result.andThen_ok, hb, run_szOf hs, Sem.run_pure, add_at]
            split <;> rfl
    · cases h
/-- a list of addresses -/
def addrsE (e : Operand → Option V) : List Operand → Option (List (Nat × Nat))
  | [] => some []
  | x :: rest => match e x, addrsE e rest with
    | some (.w (.c (.p (some a)))), some l => some (a :: l)
    | _, _ => none
theorem addrsE_ok {r : Nm} {e : Operand → Option V} {g : Operand → Value} (h : ∀ x v, e x = some v → VR r v (g x)) : ∀ (ps : List Operand) (l : List (Nat × Nat)), addrsE e ps = some l → AR r l (ps.map g)
  | [], l, k => by injection k with k; subst k; exact .nil
  | x :: rest, l, k => by
    unfold addrsE at k
    split at k
    · rename_i a l' h1 h2
      injection k with k
      subst k
      have hx := h _ _ h1
      have ht := addrsE_ok h rest l' h2
      obtain ⟨k, o⟩ := a
      rw [List.map_cons]
      generalize g x = u at hx
      cases hx with | w hw => cases hw with | c hc => cases hc with | p hk => exact .cons hk ht
    · cases k
def valsE (e : Operand → Option V) : List Operand → Option (List V)
  | [] => some []
  | x :: rest => match e x, valsE e rest with
    | some v, some l => some (v :: l)
    | _, _ => none
inductive VsR (r : Nm) : List V → List Value → Prop where
  | nil : VsR r [] []
  | cons {x v xs vs} (h : VR r x v) (t : VsR r xs vs) : VsR r (x :: xs) (v :: vs)
theorem valsE_ok {r : Nm} {e : Operand → Option V} {g : Operand → Value} (h : ∀ x v, e x = some v → VR r v (g x)) : ∀ (ps : List Operand) (l : List V), valsE e ps = some l → VsR r l (ps.map g)
  | [], l, k => by injection k with k; subst k; exact .nil
  | x :: rest, l, k => by
    unfold valsE at k
    split at k
    · rename_i v l' h1 h2
      injection k with k
      subst k
      exact .cons (h _ _ h1) (valsE_ok h rest l' h2)
    · cases k
/-- builtins that touch no memory -/
def opBuiltin (P : Program) (b : Builtin) (ts : Array TypeId) (xs : List V) : Option C := match b with
  | .len => match ts[0]?, xs with
    | some t, x :: _ => match P.underlying t, x with
      | some .string, .w (.c (.s s)) => some (.i .i64 s.size)
      | some (.array n _), _ => some (.i .i64 n)
      | some (.slice _), .w (.c (.l _ n _)) => some (.i .i64 n)
      | _, _ => none
    | _, _ => none
  | .cap => match ts[0]?, xs with
    | some t, x :: _ => match P.underlying t, x with
      | some (.array n _), _ => some (.i .i64 n)
      | some (.slice _), .w (.c (.l _ _ (.k n))) => some (.i .i64 n)
      | _, _ => none
    | _, _ => none
  | .max => match xs with
    | [.w (.c (.i k x)), .w (.c (.i _ y))] => some (.i k (if y > x then y else x))
    | _ => none
  | .min => match xs with
    | [.w (.c (.i k x)), .w (.c (.i _ y))] => some (.i k (if y < x then y else x))
    | _ => none
  | _ => none
theorem opBuiltin_ok {P : Program} {r : Nm} {b : Builtin} {ts : Array TypeId} {ty : TypeId} {cs : Array Bool} {xs : List V} {us : Array Value} {c : C} (h : opBuiltin P b ts xs = some c) (hu : VsR r xs us.toList) :
    ∃ z, CR r c z ∧ ∀ w, (builtin b ts ty cs us).run P w = .ok (.value z) w := by
  obtain ⟨us⟩ := us
  simp only at hu
  unfold opBuiltin at h
  split at h
  · split at h
    · rename_i t x rest ht
      cases hu with | cons hx hr =>
      split at h
      · rename_i s hd
        injection h with h; subst h
        cases hx with | w hx => cases hx with | c hx => cases hx with | s =>
          exact ⟨_, .i _ _, fun w => by simp [builtin, Builtin.len_, ht, run_underlying hd, goInt]⟩
      · rename_i n e hd
        injection h with h; subst h
        exact ⟨_, .i _ _, fun w => by simp [builtin, Builtin.len_, ht, run_underlying hd, goInt]⟩
      · rename_i e a n cp hd
        injection h with h; subst h
        cases hx with | w hx => cases hx with | c hx =>
          cases hx with
          | l0 => exact ⟨_, .i _ _, fun w => by simp [builtin, Builtin.len_, ht, run_underlying hd, goInt]⟩
          | l => exact ⟨_, .i _ _, fun w => by simp [builtin, Builtin.len_, ht, run_underlying hd, goInt]⟩
          | u => exact ⟨_, .i _ _, fun w => by simp [builtin, Builtin.len_, ht, run_underlying hd, goInt]⟩
      · cases h
    · cases h
  · split at h
    · rename_i t x rest ht
      cases hu with | cons hx hr =>
      split at h
      · rename_i n e hd
        injection h with h; subst h
        exact ⟨_, .i _ _, fun w => by simp [builtin, Builtin.cap_, ht, run_underlying hd, goInt]⟩
      · rename_i e a n cp hd
        injection h with h; subst h
        cases hx with | w hx => cases hx with | c hx =>
          cases hx with
          | l0 => exact ⟨_, .i _ _, fun w => by simp [builtin, Builtin.cap_, ht, run_underlying hd, goInt]⟩
          | l => exact ⟨_, .i _ _, fun w => by simp [builtin, Builtin.cap_, ht, run_underlying hd, goInt]⟩
      · cases h
    · cases h
  · split at h
    · injection h with h; subst h
      cases hu with | cons hx hr => cases hr with | cons hy hr2 =>
        cases hr2
        cases hx with | w hx => cases hx with | c hx => cases hx with | i => cases hy with | w hy => cases hy with | c hy => cases hy with | i =>
          exact ⟨_, .i _ _, fun w => by simp [builtin, Builtin.max_, Builtin.max2]⟩
    · cases h
  · split at h
    · injection h with h; subst h
      cases hu with | cons hx hr => cases hr with | cons hy hr2 =>
        cases hr2
        cases hx with | w hx => cases hx with | c hx => cases hx with | i => cases hy with | w hy => cases hy with | c hy => cases hy with | i =>
          exact ⟨_, .i _ _, fun w => by simp [builtin, Builtin.min_, Builtin.min2]⟩
    · cases h
  · cases h
def optE (e : Operand → Option V) : Option Operand → Option (Option V)
  | none => some none
  | some x => match e x with
    | some v => some (some v)
    | none => none
theorem optE_ok {r : Nm} {e : Operand → Option V} {g : Operand → Value} (h : ∀ x v, e x = some v → VR r v (g x)) {x : Option Operand} {y : Option V} (k : optE e x = some y) : OR r y (x.map g) := by
  unfold optE at k
  split at k
  · injection k with k; subst k; exact .none
  · split at k
    · rename_i hv; injection k with k; subst k; exact .some (h _ _ hv)
    · cases k
def wc (x : Option C) : Option V := x.map fun c => .w (.c c)
def ww (x : Option Wv) : Option V := x.map .w
/-- the operations that touch no memory -/
def opPure (P : Program) (e : Operand → Option V) : Op → Option V
  | .move x => e x
  | .assign x => e x
  | .pick c a b => match e c with
    | some (.w (.c (.b true))) => e a
    | some (.w (.c (.b false))) => e b
    | _ => none
  | .nilCheck x => match e x with
    | some (.w (.c (.p (some a)))) => some (.w (.c (.p (some a))))
    | some (.w (.c (.f f a c))) => some (.w (.c (.f f a c)))
    | _ => none
  | .binOp op t x y _ => match e x, e y with
    | some a, some b => wc (opBin P op t a b)
    | _, _ => none
  | .unOp op _ x => match e x with
    | some a => wc (opUn op a)
    | _ => none
  | .convert s d x => match e x with
    | some a => wc (opConv P s d a)
    | _ => none
  | .makeInterface t x => match P.underlying t with
    | some (.interface _) => none
    | some _ => match e x with
      | some (.w (.c c)) => some (.w (.c (.d t false c)))
      | some (.w (.a [c])) => some (.w (.c (.d t true c)))
      | _ => none
    | none => none
  | .makeFunc (.func f) first cap => match addrsE e first.toList, addrsE e cap.toList with
    | some a, some b => some (.w (.c (.f f a b)))
    | _, _ => none
  | .slice t x lo hi mx => match e x, optE e lo, optE e hi, optE e mx with
    | some a, some l, some h, some m => wc (opSlice P t a l h m)
    | _, _, _, _ => none
  | .fieldAddr s x f => match e x with
    | some a => wc (opFieldAddr P s a f)
    | _ => none
  | .field t x f => match e x with
    | some a => ww (opField P t a f)
    | _ => none
  | .indexAddr t x i => match e x, e i with
    | some a, some b => wc (opIndexAddr P t a b)
    | _, _ => none
  | .index t x i => match e x, e i with
    | some a, some b => ww (opIndex P t a b)
    | _, _ => none
  | .extract x i => match e x with
    | some a => ww (opExtract a i)
    | _ => none
  | .build t ps => match partsE e ps.toList with
    | some l => match opBuild P t l with
      | some cs => some (.w (.a cs))
      | none => none
    | none => none
  | .call ⟨.builtin b, args, ts⟩ => match valsE e args.toList with
    | some l => wc (opBuiltin P b ts l)
    | none => none
  | _ => none
theorem wc_ok {x : Option C} {v : V} (h : wc x = some v) : ∃ c, x = some c ∧ v = .w (.c c) := by
  cases x with
  | none => cases h
  | some c => injection h with h; exact ⟨c, rfl, h.symm⟩
theorem ww_ok {x : Option Wv} {v : V} (h : ww x = some v) : ∃ c, x = some c ∧ v = .w c := by
  cases x with
  | none => cases h
  | some c => injection h with h; exact ⟨c, rfl, h.symm⟩
end Go.Proofs.YtgilghiegfgjeaaGreatDoor
end
section
set_option linter.unusedVariables false
set_option linter.unusedSimpArgs false
/- Running closed code: what the operations that touch no memory come to; loads. -/
namespace Go.Proofs.YtgilghiegfgjeaaGreatDoor
open Go.RowKit
set_option linter.unusedVariables false

theorem map_parts (g : Operand → Value) (ps : Array (Nat × Operand)) : (ps.map fun (i, x) => (i, g x)).toList = ps.toList.map fun (i, x) => (i, g x) := by rw [Array.toList_map]
set_option maxHeartbeats 1000000 in
theorem opPure_ok {P : Program} {r : Nm} {e : Operand → Option V} {g : Operand → Value} (he : ∀ x v, e x = some v → VR r v (g x)) {o : Oper} {v : V} (h : opPure P e o.op = some v) :
    ∃ u, VR r v u ∧ ∀ w, (execOp g o).run P w = .ok (.value u) w := by
  obtain ⟨dst, op, ty, pos, after, guard⟩ := o
  simp only at h
  have fin : ∀ {s : Sem Value} {u : Value}, (∀ w, s.run P w = .ok u w) → ∀ w, ((do pure (.value (← s))) : Sem Next).run P w = .ok (.value u) w := fun h w => by
    rw [Sem.run_bind, h w, Result.andThen_ok]; rfl
  unfold opPure at h
  split at h
  · rename_i x; exact ⟨_, he _ _ h, fun w => rfl⟩
  · rename_i x; exact ⟨_, he _ _ h, fun w => rfl⟩
  · rename_i c a b
    split at h
    · rename_i hc
      have h1 := he _ _ hc
      refine ⟨_, he _ _ h, fun w => ?_⟩
      simp only [execOp]
      generalize g c = u at h1
      cases h1 with | w h1 => cases h1 with | c h1 => cases h1 with | b => rfl
    · rename_i hc
      have h1 := he _ _ hc
      refine ⟨_, he _ _ h, fun w => ?_⟩
      simp only [execOp]
      generalize g c = u at h1
      cases h1 with | w h1 => cases h1 with | c h1 => cases h1 with | b => rfl
    · cases h
  · rename_i x
    split at h
    · rename_i a hc
      injection h with h
      subst h
      have h1 := he _ _ hc
      refine ⟨_, h1, fun w => ?_⟩
      obtain ⟨k, o⟩ := a
      simp only [execOp]
      generalize g x = u at h1
      cases h1 with | w h1 => cases h1 with | c h1 => cases h1 with | p hk => rfl
    · rename_i f a c hc
      injection h with h
      subst h
      have h1 := he _ _ hc
      refine ⟨_, h1, fun w => ?_⟩
      simp only [execOp]
      generalize g x = u at h1
      cases h1 with | w h1 => cases h1 with | c h1 => cases h1 with | f => rfl
    · cases h
  · rename_i op t x y yt
    split at h
    · rename_i a b ha hb
      obtain ⟨c, hc, rfl⟩ := wc_ok h
      obtain ⟨z, h1, h2⟩ := opBin_ok hc (he _ _ ha) (he _ _ hb)
      exact ⟨z, .w (.c h1), fun w => fin (h2 x y) w⟩
    · cases h
  · rename_i op t x
    split at h
    · rename_i a ha
      obtain ⟨c, hc, rfl⟩ := wc_ok h
      obtain ⟨z, h1, h2⟩ := opUn_ok (P := P) hc (he _ _ ha)
      exact ⟨z, .w (.c h1), fun w => fin h2 w⟩
    · cases h
  · rename_i s d x
    split at h
    · rename_i a ha
      obtain ⟨c, hc, rfl⟩ := wc_ok h
      obtain ⟨z, h1, h2⟩ := opConv_ok hc (he _ _ ha)
      exact ⟨z, .w (.c h1), fun w => fin h2 w⟩
    · cases h
  · rename_i t x
    split at h
    · cases h
    · rename_i de hne ht
      have hm : ∀ w, (Instr.makeInterface t (g x)).run P w = .ok (.iface t (g x)) w := fun w => by
        simp only [Instr.makeInterface, Sem.run_bind, run_underlying ht, Result.andThen_ok]
        cases de <;> first | rfl | exact absurd ht (hne _)
      refine ⟨.iface t (g x), ?_, fun w => fin hm w⟩
      split at h
      · rename_i c hc
        injection h with h
        subst h
        have h1 := he _ _ hc
        generalize g x = u at h1
        cases h1 with | w h1 => cases h1 with | c h1 => exact .w (.c (.d t h1))
      · rename_i c hc
        injection h with h
        subst h
        have h1 := he _ _ hc
        generalize g x = u at h1
        cases h1 with | w h1 => cases h1 with | a h1 => cases h1 with | cons h1 h2 => cases h2 with | nil => exact .w (.c (.da t h1))
      · cases h
    · cases h
  · rename_i f first cap
    split at h
    · rename_i a b ha hb
      injection h with h
      subst h
      have h1 := addrsE_ok he _ _ ha
      have h2 := addrsE_ok he _ _ hb
      refine ⟨.func (.func f) (first.map g) (cap.map g), .w (.c ?_), fun w => rfl⟩
      have e1 : first.map g = (first.toList.map g).toArray := by rw [← Array.toList_map]
      have e2 : cap.map g = (cap.toList.map g).toArray := by rw [← Array.toList_map]
      rw [e1, e2]
      exact .f f h1 h2
    · cases h
  · rename_i t x lo hi mx
    split at h
    · rename_i a l hh m ha hl hhi hm
      obtain ⟨c, hc, rfl⟩ := wc_ok h
      obtain ⟨z, h1, h2⟩ := opSlice_ok hc (he _ _ ha) (optE_ok he hl) (optE_ok he hhi) (optE_ok he hm)
      exact ⟨z, .w (.c h1), fun w => fin h2 w⟩
    · cases h
  · rename_i s x f
    split at h
    · rename_i a ha
      obtain ⟨c, hc, rfl⟩ := wc_ok h
      obtain ⟨z, h1, h2⟩ := opFieldAddr_ok hc (he _ _ ha)
      exact ⟨z, .w (.c h1), fun w => fin h2 w⟩
    · cases h
  · rename_i t x f
    split at h
    · rename_i a ha
      obtain ⟨c, hc, rfl⟩ := ww_ok h
      obtain ⟨z, h1, h2⟩ := opField_ok hc (he _ _ ha)
      exact ⟨z, .w h1, fun w => fin h2 w⟩
    · cases h
  · rename_i t x i
    split at h
    · rename_i a b ha hb
      obtain ⟨c, hc, rfl⟩ := wc_ok h
      obtain ⟨z, h1, h2⟩ := opIndexAddr_ok hc (he _ _ ha) (he _ _ hb)
      exact ⟨z, .w (.c h1), fun w => fin h2 w⟩
    · cases h
  · rename_i t x i
    split at h
    · rename_i a b ha hb
      obtain ⟨c, hc, rfl⟩ := ww_ok h
      obtain ⟨z, h1, h2⟩ := opIndex_ok hc (he _ _ ha) (he _ _ hb)
      exact ⟨z, .w h1, fun w => fin h2 w⟩
    · cases h
  · rename_i x i
    split at h
    · rename_i a ha
      obtain ⟨c, hc, rfl⟩ := ww_ok h
      obtain ⟨z, h1, h2⟩ := opExtract_ok (P := P) hc (he _ _ ha)
      exact ⟨z, .w h1, fun w => fin h2 w⟩
    · cases h
  · rename_i t ps
    split at h
    · rename_i l hl
      split at h
      · rename_i cs hcs
        injection h with h
        subst h
        have hp := partsE_ok he _ _ hl
        rw [← map_parts] at hp
        obtain ⟨vs, h1, h2⟩ := opBuild_ok hcs hp
        exact ⟨_, .w (.a h1), fun w => fin h2 w⟩
      · cases h
    · cases h
  · rename_i b args ts
    split at h
    · rename_i l hl
      obtain ⟨c, hc, rfl⟩ := wc_ok h
      have hp := valsE_ok he _ _ hl
      rw [← Array.toList_map] at hp
      obtain ⟨z, h1, h2⟩ := opBuiltin_ok (P := P) (ty := ty) (cs := args.map fun | .const _ => true | _ => false) hc hp
      refine ⟨z, .w (.c h1), fun w => ?_⟩
      simp only [execOp, resolve, Sem.run_bind, Sem.run_pure, Result.andThen_ok, invoke]
      exact h2 w
    · cases h
  · cases h
end Go.Proofs.YtgilghiegfgjeaaGreatDoor
end
section
set_option linter.unusedVariables false
set_option linter.unusedSimpArgs false
/- Running closed code: memory: loads, stores, what is made. -/
namespace Go.Proofs.YtgilghiegfgjeaaGreatDoor
open Go.RowKit
set_option linter.unusedVariables false

/-! ### Memory that turns -/
theorem RelH.upd {r : Nm} {H : Hp} {w w' : World} (h : RelH r H w) {k : Nat} {B B' : Bk} (hk : H.get k = some B) {b sz : Nat} (rk : r k = some (b, sz)) (hB : BR r w' B' b sz) (ho : ∀ c, c ≠ b → w'.heap[c]? = w.heap[c]?) : RelH r (H.set k B') w' := by
  refine ⟨fun j D hj => ?_, fun i j D E c s t hi hj ri rj => ?_⟩
  · rw [Tr.get_set] at hj
    by_cases e : j = k
    · subst e
      rw [if_pos rfl] at hj
      injection hj with hj
      subst hj
      exact ⟨b, sz, rk, hB⟩
    · rw [if_neg e] at hj
      obtain ⟨c, t, rj, hD⟩ := h.at_ j D hj
      refine ⟨c, t, rj, hD.keep (ho c ?_)⟩
      rintro rfl
      exact e (h.inj j k D B _ _ _ hj hk rj rk)
  · have get : ∀ i D, (H.set k B').get i = some D → ∃ D', H.get i = some D' := fun i D hi => by
      rw [Tr.get_set] at hi
      by_cases e : i = k
      · subst e; exact ⟨B, hk⟩
      · rw [if_neg e] at hi; exact ⟨D, hi⟩
    obtain ⟨D', hi'⟩ := get i D hi
    obtain ⟨E', hj'⟩ := get j E hj
    exact h.inj i j D' E' c s t hi' hj' ri rj
/-- one name more -/
def Nm.add (r : Nm) (k : Nat) (x : Nat × Nat) : Nm := fun j => if j = k then some x else r j
theorem Nm.le_add {r : Nm} {k : Nat} (h : r k = none) (x : Nat × Nat) : r.le (r.add k x) := fun j y e => by
  unfold Nm.add
  split
  · rename_i hj; subst hj; rw [h] at e; cases e
  · exact e
theorem Nm.add_at (r : Nm) (k : Nat) (x : Nat × Nat) : r.add k x k = some x := by unfold Nm.add; rw [if_pos rfl]
theorem RelH.new {r : Nm} {H : Hp} {w w' : World} (h : RelH r H w) {k : Nat} (hk : H.get k = none) (rk : r k = none) {B : Bk} {b sz : Nat} (hb : w.heap.size ≤ b) (hB : BR (r.add k (b, sz)) w' B b sz) (ho : ∀ c, c < w.heap.size → w'.heap[c]? = w.heap[c]?) : RelH (r.add k (b, sz)) (H.set k B) w' := by
  have hle := Nm.le_add rk (b, sz)
  refine ⟨fun j D hj => ?_, fun i j D E c s t hi hj ri rj => ?_⟩
  · rw [Tr.get_set] at hj
    by_cases e : j = k
    · subst e
      rw [if_pos rfl] at hj
      injection hj with hj
      subst hj
      exact ⟨b, sz, Nm.add_at _ _ _, hB⟩
    · rw [if_neg e] at hj
      obtain ⟨c, t, rj, hD⟩ := h.at_ j D hj
      exact ⟨c, t, hle _ _ rj, (hD.keep (ho c hD.lt)).mono hle⟩
  · have low : ∀ i D c s, i ≠ k → (H.set k B).get i = some D → (r.add k (b, sz)) i = some (c, s) → H.get i = some D ∧ r i = some (c, s) ∧ c < w.heap.size := fun i D c s e hi ri => by
      rw [Tr.get_set, if_neg e] at hi
      unfold Nm.add at ri
      rw [if_neg e] at ri
      obtain ⟨c', t', rj, hD⟩ := h.at_ i D hi
      rw [ri] at rj
      injection rj with rj
      injection rj with e1 e2
      subst e1
      exact ⟨hi, ri, hD.lt⟩
    have top : ∀ c s, (r.add k (b, sz)) k = some (c, s) → c = b := fun c s e => by
      rw [Nm.add_at] at e
      injection e with e
      injection e with e _
      exact e.symm
    by_cases ei : i = k
    · by_cases ej : j = k
      · rw [ei, ej]
      · subst ei
        have := top c s ri
        have := (low j E c t ej hj rj).2.2
        omega
    · by_cases ej : j = k
      · subst ej
        have := top c t rj
        have := (low i D c s ei hi ri).2.2
        omega
      · obtain ⟨a1, a2, _⟩ := low i D c s ei hi ri
        obtain ⟨b1, b2, _⟩ := low j E c t ej hj rj
        exact h.inj i j D E c s t a1 b1 a2 b2
/-- a name less -/
theorem RelH.del {r : Nm} {H : Hp} {w : World} (h : RelH r H w) (k : Nat) : RelH r (H.del k) w := by
  have get : ∀ i D, (H.del k).get i = some D → H.get i = some D := fun i D hi => by
    rw [Tr.get_del] at hi
    by_cases e : i = k
    · rw [if_pos e] at hi; cases hi
    · rw [if_neg e] at hi; exact hi
  exact ⟨fun j D hj => h.at_ j D (get j D hj), fun i j D E c s t hi hj => h.inj i j D E c s t (get i D hi) (get j E hj)⟩
theorem RelH.world {r : Nm} {H : Hp} {w w' : World} (h : RelH r H w) (e : w'.heap = w.heap) : RelH r H w' := by
  refine ⟨fun j D hj => ?_, h.inj⟩
  obtain ⟨b, sz, h1, h2⟩ := h.at_ j D hj
  exact ⟨b, sz, h1, h2.keep (by rw [e])⟩
/-! ### Loads -/
def loadN (B : Bk) : Nat → Nat → List C
  | _, 0 => []
  | o, n + 1 => B.cell o :: loadN B (o + 1) n
theorem loadN_get (B : Bk) : ∀ (n o j : Nat), (loadN B o n)[j]? = if j < n then some (B.cell (o + j)) else none
  | 0, o, j => by simp [loadN]
  | n + 1, o, j => by
    cases j with
    | zero => simp [loadN]
    | succ j =>
      simp only [loadN, List.getElem?_cons_succ, loadN_get B n (o + 1) j]
      rw [show o + 1 + j = o + (j + 1) by omega]
      by_cases h : j < n
      · rw [if_pos h, if_pos (by omega)]
      · rw [if_neg h, if_neg (by omega)]
theorem CsR.of_get {r : Nm} : ∀ (cs : List C) (vs : List Value), cs.length = vs.length → (∀ (j : Nat) (c : C) (v : Value), cs[j]? = some c → vs[j]? = some v → CR r c v) → CsR r cs vs
  | [], [], _, _ => .nil
  | [], _ :: _, h, _ => by simp at h
  | _ :: _, [], h, _ => by simp at h
  | c :: cs, v :: vs, h, k => .cons (k 0 c v rfl rfl) (CsR.of_get cs vs (by simpa using h) fun j a b ha hb => k (j + 1) a b (by simpa using ha) (by simpa using hb))
theorem loadN_length (B : Bk) : ∀ (n o : Nat), (loadN B o n).length = n
  | 0, _ => rfl
  | n + 1, o => by simp [loadN, loadN_length B n]
def opLoadB (P : Program) (B : Bk) (t : TypeId) (o : Nat) : Option Wv := if B.mp.isSome then none else match aggB P t, szOf P t with
  | some true, some n => if o + n ≤ B.n then some (.a (loadN B o n)) else none
  | some false, some _ => if o < B.n then some (.c (B.cell o)) else none
  | _, _ => none
theorem opLoadB_ok {P : Program} {r : Nm} {w : World} {B : Bk} {b sz : Nat} (h : BR r w B b sz) {t : TypeId} {o : Nat} {x : Wv} (e : opLoadB P B t o = some x) :
    ∃ u, WR r x u ∧ (Instr.loadAt t (ptrOf b o)).run P w = .ok u w := by
  unfold opLoadB at e
  split at e
  · cases e
  rename_i hm
  obtain ⟨cs, hg, hsz, hn, hc⟩ := h.ex (by simpa using hm)
  split at e
  · rename_i n h1 h2
    split at e
    · rename_i hb
      injection e with e
      subst e
      have hl : ((List.range n).map fun j => cs.getD (o + j) undef).length = n := by simp
      have hcell : ∀ j v, ((List.range n).map fun j => cs.getD (o + j) undef)[j]? = some v → w.cell? ((⟨b, o, none⟩ : Addr).add j) = some v := fun j v hv => by
        have hj : j < n := by have := (List.getElem?_eq_some_iff.1 hv).1; rw [hl] at this; exact this
        rw [List.getElem?_map, List.getElem?_range hj] at hv
        injection hv with hv
        subst hv
        rw [add_at, cell_of_row w b (o + j) cs B.e (0, 0) hg]
        simp [Array.getD_eq_getD_getElem?, Array.getElem?_eq_getElem (show o + j < cs.size by omega)]
      refine ⟨_, .a (CsR.of_get _ ((List.range n).map fun j => cs.getD (o + j) undef) (by rw [loadN_length, hl]) fun j c v h3 h4 => ?_), ?_⟩
      · rw [loadN_get] at h3
        split at h3
        · rename_i hj
          injection h3 with h3
          subst h3
          rw [List.getElem?_map, List.getElem?_range hj] at h4
          injection h4 with h4
          subst h4
          obtain ⟨v, hv, hr⟩ := hc (o + j) (by omega)
          show CR r (B.cell (o + j)) (cs.getD (o + j) undef)
          rw [Array.getD_eq_getD_getElem?, hv]
          exact hr
        · cases h3
      · have := run_loadCells_list (P := P) w ⟨b, o, none⟩ _ hcell
        rw [hl] at this
        simp only [Instr.loadAt, ptrOf, Instr.sureAddr, Sem.run_bind, Sem.run_pure, Result.andThen_ok, loadVar, run_aggB h1, run_szOf h2, if_true, this]
    · cases e
  · rename_i n h1 h2
    split at e
    · rename_i hb
      injection e with e
      subst e
      obtain ⟨v, hv, hr⟩ := hc o hb
      refine ⟨v, .c hr, ?_⟩
      have hcell : w.cell? ⟨b, o, none⟩ = some v := by rw [cell_of_row w b o cs B.e (0, 0) hg]; exact hv
      simp only [Instr.loadAt, ptrOf, Instr.sureAddr, Sem.run_bind, Sem.run_pure, Result.andThen_ok, loadVar, run_aggB h1, Bool.false_eq_true, if_false, run_load, hcell]
    · cases e
  · cases e
/-! ### Stores -/
def setN (u : Tr C) : Nat → List C → Tr C
  | _, [] => u
  | o, c :: cs => setN (u.set o c) (o + 1) cs
theorem setN_get : ∀ (cs : List C) (u : Tr C) (o j : Nat), (setN u o cs).get j = if o ≤ j ∧ j < o + cs.length then cs[j - o]? else u.get j
  | [], u, o, j => by
    rw [if_neg (by simp)]; rfl
  | c :: cs, u, o, j => by
    show (setN (u.set o c) (o + 1) cs).get j = _
    rw [setN_get cs (u.set o c) (o + 1) j, Tr.get_set, List.length_cons]
    by_cases h1 : j = o
    · subst h1
      rw [if_neg (by omega), if_pos rfl, if_pos (by omega), Nat.sub_self]; rfl
    · rw [if_neg h1]
      by_cases h2 : o ≤ j ∧ j < o + (cs.length + 1)
      · rw [if_pos (by omega), if_pos h2, show j - o = (j - (o + 1)) + 1 by omega, List.getElem?_cons_succ]
      · rw [if_neg (by omega), if_neg h2]
def Bk.put (B : Bk) (o : Nat) (cs : List C) : Bk := ⟨B.e, B.n, B.d, setN B.u o cs, B.mp⟩
theorem Bk.put_cell (B : Bk) (o : Nat) (cs : List C) (j : Nat) : (B.put o cs).cell j = if o ≤ j ∧ j < o + cs.length then cs.getD (j - o) .ni else B.cell j := by
  unfold Bk.cell Bk.put
  simp only [setN_get]
  by_cases h : o ≤ j ∧ j < o + cs.length
  · have e := List.getElem?_eq_getElem (show j - o < cs.length by omega)
    rw [if_pos h, if_pos h, e, List.getD_eq_getElem?_getD (l := cs), e]
    rfl
  · rw [if_neg h, if_neg h]
theorem CR.one {r : Nm} {c : C} {v : Value} (h : CR r c v) : v.oneCell' = true := by cases h <;> rfl
theorem CsR.one {r : Nm} {cs : List C} {vs : List Value} (h : CsR r cs vs) : ∀ v ∈ vs, v.oneCell' = true := by
  induction h with
  | nil => intro v hv; cases hv
  | cons h t ih =>
    intro v hv
    cases hv with
    | head => exact h.one
    | tail _ hm => exact ih v hm
theorem setRow_other (w : World) (g : Nat) (cs : Array Value) (c : Nat) (h : c ≠ g) : (w.setRow g cs).heap[c]? = w.heap[c]? := by
  simp [World.setRow, Array.getElem?_modify]
  intro e; exact absurd e.symm h
def opStoreB (P : Program) (B : Bk) (t : TypeId) (o : Nat) (x : Wv) : Option Bk := if B.mp.isSome then none else match szOf P t with
  | some n => if (wcells x).length = n ∧ o + n ≤ B.n then some (B.put o (wcells x)) else none
  | none => none
theorem opStoreB_ok {P : Program} {r : Nm} {w : World} {B B' : Bk} {b sz : Nat} (h : BR r w B b sz) {t : TypeId} {o : Nat} {x : Wv} {v : Value} (hx : WR r x v) (e : opStoreB P B t o x = some B') :
    ∃ cs', (Instr.storeAt t (ptrOf b o) v).run P w = .ok () (w.setRow b cs') ∧ BR r (w.setRow b cs') B' b sz := by
  have hw := wcells_ok hx
  have hl := hw.length
  rw [Array.length_toList] at hl
  unfold opStoreB at e
  split at e
  · cases e
  rename_i hm
  have hm : B.mp = none := by simpa using hm
  obtain ⟨cs, hg, hsz, hn, hc⟩ := h.ex hm
  split at e
  · rename_i n hs
    split at e
    · rename_i hb
      injection e with e
      subst e
      have hst := run_storeCells_at P b o B.e v.cells.toList 0 cs w hg (by rw [Array.length_toList]; omega) hw.one
      simp only [Nat.add_zero, Array.length_toList] at hst
      refine ⟨(cs.toList.take o ++ v.cells.toList ++ cs.toList.drop (o + v.cells.size)).toArray, ?_, ?_⟩
      · have hvn : v.cells.size = n := by omega
        simp only [Instr.storeAt, ptrOf, Instr.sureAddr, Sem.run_bind, Sem.run_pure, Result.andThen_ok, storeVar, run_szOf hs, hvn, ne_eq, not_true, if_false]
        rw [hvn] at hst
        exact hst
      · refine ⟨fun l hl => absurd (hm.symm.trans hl) (by simp), fun _ => ⟨_, setRow_heap w b cs _ B.e (0, 0) hg, ?_, hn, fun j hj => ?_⟩⟩
        · simp; omega
        · rw [Bk.put_cell]
          simp only [List.getElem?_toArray, List.append_assoc]
          obtain ⟨u, hu, hr⟩ := hc j hj
          split
          · rename_i hjo
            have h5 : (cs.toList.take o).length = o := by simp; omega
            rw [List.getElem?_append_right (by omega), h5, List.getElem?_append_left (by rw [Array.length_toList]; omega)]
            obtain ⟨y, hy, hyr⟩ := hw.get (j - o) ((wcells x).getD (j - o) .ni) (by rw [List.getD_eq_getElem?_getD, List.getElem?_eq_getElem (show j - o < (wcells x).length by omega)]; rfl)
            exact ⟨y, hy, hyr⟩
          · rename_i hjo
            refine ⟨u, ?_, hr⟩
            by_cases h6 : j < o
            · rw [List.getElem?_append_left (by simp; omega), List.getElem?_take, if_pos h6]; simpa using hu
            · have h5 : (cs.toList.take o).length = o := by simp; omega
              rw [List.getElem?_append_right (by omega), h5, List.getElem?_append_right (by rw [Array.length_toList]; omega), List.getElem?_drop, Array.length_toList]
              rw [show o + v.cells.size + (j - o - v.cells.size) = j by omega]
              simpa using hu
    · cases e
  · cases e
end Go.Proofs.YtgilghiegfgjeaaGreatDoor
end
