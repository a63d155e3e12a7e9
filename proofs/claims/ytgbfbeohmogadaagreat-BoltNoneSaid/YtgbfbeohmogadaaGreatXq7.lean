/- Running closed code: slices of slices, functions, lengths; every operation that touches no memory. -/
import Derived.Test.YtgbfbeohmogadaaGreatXq6
namespace Go.Proofs.YtgbfbeohmogadaaGreat
open Go.RowKit
set_option linter.unusedVariables false

theorem opSlice_ok {P : Program} {r : Nm} {t : TypeId} {x : V} {lo hi mx : Option V} {c : C} {u : Value} {ul uh um : Option Value} (h : opSlice P t x lo hi mx = some c) (hu : VR r x u) (hl : OR r lo ul) (hh : OR r hi uh) (hm : OR r mx um) :
    ∃ z, CR r c z ∧ ∀ w, (Instr.sliceAt t u ul uh um).run P w = .ok z w := by
  unfold opSlice at h
  split at h
  · cases h
  · cases hm
    split at h
    · rename_i s ht
      cases hu with | w hu => cases hu with | c hu => cases hu with | s =>
      split at h
      · cases h
      · rename_i y hy
        split at h
        · cases h
        · rename_i l hl'
          injection h with h
          subst h
          refine ⟨_, .s _, fun w => ?_⟩
          have hb := bounds_ok (P := P) (b := false) hy hl' hl hh w (Nat.le_refl _)
          simp only [Instr.sliceAt, Instr.slice, Sem.run_bind, run_underlying ht, Result.andThen_ok, Option.isSome_none, Bool.false_eq_true, if_false, Sem.run_pure, hb]
    · rename_i e a n cp ht
      split at h
      · cases h
      · rename_i sz hs
        split at h
        · cases h
        · rename_i y hy
          split at h
          · cases h
          · rename_i l hl'
            injection h with h
            subst h
            cases hu with | w hu => cases hu with | c hu =>
            have hb := fun w => bounds_ok (P := P) (b := true) hy hl' hl hh w (Nat.le_refl _)
            cases hu with
            | l0 =>
              refine ⟨.slice none (y - l) (cp - l), by split <;> exact .l0 _ _, fun w => ?_⟩
              simp only [Instr.sliceAt, Instr.slice, Sem.run_bind, run_underlying ht, Result.andThen_ok, hb, run_szOf hs, Sem.run_pure, Option.map_none, ite_self]
            | l n' c' hk =>
              rename_i k o b s
              refine ⟨.slice (some (if cp = l then ⟨b, o, none⟩ else ⟨b, o + l * sz, none⟩)) (y - l) (cp - l), by split <;> exact .l _ _ hk, fun w => ?_⟩
              simp only [Instr.sliceAt, Instr.slice, Sem.run_bind, run_underlying ht, Result.andThen_ok, hb, run_szOf hs, Sem.run_pure, Option.map_some, add_at]
              split <;> rfl
    · rename_i e k o n es ht
      split at h
      · cases h
      · rename_i sz hs
        split at h
        · cases h
        · rename_i y hy
          split at h
          · cases h
          · rename_i l hl'
            cases hu with | w hu => cases hu with | c hu => cases hu with | u n' c' es' hk h1 h2 h3 =>
            rename_i b s
            have hb := fun w => bounds_ok (P := P) (b := true) hy hl' hl hh w h1
            have hyn : y ≤ n := by
              unfold bnd at hy
              split at hy
              · injection hy with hy; omega
              · split at hy
                · injection hy with hy; omega
                · cases hy
              · cases hy
            split at h
            · rename_i hl0
              subst hl0
              injection h with h
              subst h
              refine ⟨.slice (some ⟨b, o, none⟩) y c', .u y c' es hk (by omega) h2 h3, fun w => ?_⟩
              simp only [Instr.sliceAt, Instr.slice, Sem.run_bind, run_underlying ht, Result.andThen_ok, hb, run_szOf hs, Sem.run_pure, Option.map_some, add_at, Nat.zero_mul, Nat.add_zero, ite_self, Nat.sub_zero]
            · rename_i hl0
              split at h
              · rename_i hc
                obtain ⟨hc1, rfl⟩ := hc
                injection h with h
                subst h
                have hly : l ≤ y := by
                  unfold bnd at hl'
                  split at hl'
                  · injection hl' with hl'; omega
                  · split at hl'
                    · injection hl' with hl'; omega
                    · cases hl'
                  · cases hl'
                refine ⟨.slice (some ⟨b, o + l * es, none⟩) (y - l) (c' - l), .u _ _ es hk (by omega) (by omega) (by rw [Nat.add_assoc, ← Nat.add_mul, show l + (c' - l) = c' by omega]; exact h3), fun w => ?_⟩
                have hne : ¬ c' = l := by omega
                simp only [Instr.sliceAt, Instr.slice, Sem.run_bind, run_underlying ht, Result.andThen_ok, hb, run_szOf hs, Sem.run_pure, Option.map_some, add_at, hne, if_false]
              · cases h
    · rename_i n e k o ht
      split at h
      · cases h
      · rename_i sz hs
        split at h
        · cases h
        · rename_i y hy
          split at h
          · cases h
          · rename_i l hl'
            injection h with h
            subst h
            cases hu with | w hu => cases hu with | c hu => cases hu with | p hk =>
            rename_i b s
            have hb := fun w => bounds_ok (P := P) (b := false) hy hl' hl hh w (Nat.le_refl _)
            refine ⟨.slice (some ⟨b, if n = l then o else o + l * sz, none⟩) (y - l) (n - l), .l _ _ hk, fun w => ?_⟩
            simp only [Instr.sliceAt, ptrOf, Instr.sureAddr, Sem.run_bind, run_underlying ht, Result.andThen_ok, hb, run_szOf hs, Sem.run_pure, add_at]
            split <;> rfl
    · cases h
/-- a list of addresses -/
def addrsE (e : Operand → Option V) : List Operand → Option (List (Nat × Nat))
  | [] => some []
  | x :: rest => match e x, addrsE e rest with
    | some (.w (.c (.p (some a)))), some l => some (a :: l)
    | _, _ => none
theorem addrsE_ok {r : Nm} {e : Operand → Option V} {g : Operand → Value} (h : ∀ x v, e x = some v → VR r v (g x)) : ∀ (ps : List Operand) (l : List (Nat × Nat)), addrsE e ps = some l → AR r l (ps.map g)
  | [], l, k => by injection k with k; subst k; exact .nil
  | x :: rest, l, k => by
    unfold addrsE at k
    split at k
    · rename_i a l' h1 h2
      injection k with k
      subst k
      have hx := h _ _ h1
      have ht := addrsE_ok h rest l' h2
      obtain ⟨k, o⟩ := a
      rw [List.map_cons]
      generalize g x = u at hx
      cases hx with | w hw => cases hw with | c hc => cases hc with | p hk => exact .cons hk ht
    · cases k
def valsE (e : Operand → Option V) : List Operand → Option (List V)
  | [] => some []
  | x :: rest => match e x, valsE e rest with
    | some v, some l => some (v :: l)
    | _, _ => none
inductive VsR (r : Nm) : List V → List Value → Prop where
  | nil : VsR r [] []
  | cons {x v xs vs} (h : VR r x v) (t : VsR r xs vs) : VsR r (x :: xs) (v :: vs)
theorem valsE_ok {r : Nm} {e : Operand → Option V} {g : Operand → Value} (h : ∀ x v, e x = some v → VR r v (g x)) : ∀ (ps : List Operand) (l : List V), valsE e ps = some l → VsR r l (ps.map g)
  | [], l, k => by injection k with k; subst k; exact .nil
  | x :: rest, l, k => by
    unfold valsE at k
    split at k
    · rename_i v l' h1 h2
      injection k with k
      subst k
      exact .cons (h _ _ h1) (valsE_ok h rest l' h2)
    · cases k
/-- builtins that touch no memory -/
def opBuiltin (P : Program) (b : Builtin) (ts : Array TypeId) (xs : List V) : Option C := match b with
  | .len => match ts[0]?, xs with
    | some t, x :: _ => match P.underlying t, x with
      | some .string, .w (.c (.s s)) => some (.i .i64 s.size)
      | some (.array n _), _ => some (.i .i64 n)
      | some (.slice _), .w (.c (.l _ n _)) => some (.i .i64 n)
      | _, _ => none
    | _, _ => none
  | .cap => match ts[0]?, xs with
    | some t, x :: _ => match P.underlying t, x with
      | some (.array n _), _ => some (.i .i64 n)
      | some (.slice _), .w (.c (.l _ _ (.k n))) => some (.i .i64 n)
      | _, _ => none
    | _, _ => none
  | .max => match xs with
    | [.w (.c (.i k x)), .w (.c (.i _ y))] => some (.i k (if y > x then y else x))
    | _ => none
  | .min => match xs with
    | [.w (.c (.i k x)), .w (.c (.i _ y))] => some (.i k (if y < x then y else x))
    | _ => none
  | _ => none
theorem opBuiltin_ok {P : Program} {r : Nm} {b : Builtin} {ts : Array TypeId} {ty : TypeId} {cs : Array Bool} {xs : List V} {us : Array Value} {c : C} (h : opBuiltin P b ts xs = some c) (hu : VsR r xs us.toList) :
    ∃ z, CR r c z ∧ ∀ w, (builtin b ts ty cs us).run P w = .ok (.value z) w := by
  obtain ⟨us⟩ := us
  simp only at hu
  unfold opBuiltin at h
  split at h
  · split at h
    · rename_i t x rest ht
      cases hu with | cons hx hr =>
      split at h
      · rename_i s hd
        injection h with h; subst h
        cases hx with | w hx => cases hx with | c hx => cases hx with | s =>
          exact ⟨_, .i _ _, fun w => by simp [builtin, Builtin.len_, ht, run_underlying hd, goInt]⟩
      · rename_i n e hd
        injection h with h; subst h
        exact ⟨_, .i _ _, fun w => by simp [builtin, Builtin.len_, ht, run_underlying hd, goInt]⟩
      · rename_i e a n cp hd
        injection h with h; subst h
        cases hx with | w hx => cases hx with | c hx =>
          cases hx with
          | l0 => exact ⟨_, .i _ _, fun w => by simp [builtin, Builtin.len_, ht, run_underlying hd, goInt]⟩
          | l => exact ⟨_, .i _ _, fun w => by simp [builtin, Builtin.len_, ht, run_underlying hd, goInt]⟩
          | u => exact ⟨_, .i _ _, fun w => by simp [builtin, Builtin.len_, ht, run_underlying hd, goInt]⟩
      · cases h
    · cases h
  · split at h
    · rename_i t x rest ht
      cases hu with | cons hx hr =>
      split at h
      · rename_i n e hd
        injection h with h; subst h
        exact ⟨_, .i _ _, fun w => by simp [builtin, Builtin.cap_, ht, run_underlying hd, goInt]⟩
      · rename_i e a n cp hd
        injection h with h; subst h
        cases hx with | w hx => cases hx with | c hx =>
          cases hx with
          | l0 => exact ⟨_, .i _ _, fun w => by simp [builtin, Builtin.cap_, ht, run_underlying hd, goInt]⟩
          | l => exact ⟨_, .i _ _, fun w => by simp [builtin, Builtin.cap_, ht, run_underlying hd, goInt]⟩
      · cases h
    · cases h
  · split at h
    · injection h with h; subst h
      cases hu with | cons hx hr => cases hr with | cons hy hr2 =>
        cases hr2
        cases hx with | w hx => cases hx with | c hx => cases hx with | i => cases hy with | w hy => cases hy with | c hy => cases hy with | i =>
          exact ⟨_, .i _ _, fun w => by simp [builtin, Builtin.max_, Builtin.max2]⟩
    · cases h
  · split at h
    · injection h with h; subst h
      cases hu with | cons hx hr => cases hr with | cons hy hr2 =>
        cases hr2
        cases hx with | w hx => cases hx with | c hx => cases hx with | i => cases hy with | w hy => cases hy with | c hy => cases hy with | i =>
          exact ⟨_, .i _ _, fun w => by simp [builtin, Builtin.min_, Builtin.min2]⟩
    · cases h
  · cases h
def optE (e : Operand → Option V) : Option Operand → Option (Option V)
  | none => some none
  | some x => match e x with
    | some v => some (some v)
    | none => none
theorem optE_ok {r : Nm} {e : Operand → Option V} {g : Operand → Value} (h : ∀ x v, e x = some v → VR r v (g x)) {x : Option Operand} {y : Option V} (k : optE e x = some y) : OR r y (x.map g) := by
  unfold optE at k
  split at k
  · injection k with k; subst k; exact .none
  · split at k
    · rename_i hv; injection k with k; subst k; exact .some (h _ _ hv)
    · cases k
def wc (x : Option C) : Option V := x.map fun c => .w (.c c)
def ww (x : Option Wv) : Option V := x.map .w
/-- the operations that touch no memory -/
def opPure (P : Program) (e : Operand → Option V) : Op → Option V
  | .move x => e x
  | .assign x => e x
  | .pick c a b => match e c with
    | some (.w (.c (.b true))) => e a
    | some (.w (.c (.b false))) => e b
    | _ => none
  | .nilCheck x => match e x with
    | some (.w (.c (.p (some a)))) => some (.w (.c (.p (some a))))
    | some (.w (.c (.f f a c))) => some (.w (.c (.f f a c)))
    | _ => none
  | .binOp op t x y _ => match e x, e y with
    | some a, some b => wc (opBin P op t a b)
    | _, _ => none
  | .unOp op _ x => match e x with
    | some a => wc (opUn op a)
    | _ => none
  | .convert s d x => match e x with
    | some a => wc (opConv P s d a)
    | _ => none
  | .makeInterface t x => match P.underlying t with
    | some (.interface _) => none
    | some _ => match e x with
      | some (.w (.c c)) => some (.w (.c (.d t false c)))
      | some (.w (.a [c])) => some (.w (.c (.d t true c)))
      | _ => none
    | none => none
  | .makeFunc (.func f) first cap => match addrsE e first.toList, addrsE e cap.toList with
    | some a, some b => some (.w (.c (.f f a b)))
    | _, _ => none
  | .slice t x lo hi mx => match e x, optE e lo, optE e hi, optE e mx with
    | some a, some l, some h, some m => wc (opSlice P t a l h m)
    | _, _, _, _ => none
  | .fieldAddr s x f => match e x with
    | some a => wc (opFieldAddr P s a f)
    | _ => none
  | .field t x f => match e x with
    | some a => ww (opField P t a f)
    | _ => none
  | .indexAddr t x i => match e x, e i with
    | some a, some b => wc (opIndexAddr P t a b)
    | _, _ => none
  | .index t x i => match e x, e i with
    | some a, some b => ww (opIndex P t a b)
    | _, _ => none
  | .extract x i => match e x with
    | some a => ww (opExtract a i)
    | _ => none
  | .build t ps => match partsE e ps.toList with
    | some l => match opBuild P t l with
      | some cs => some (.w (.a cs))
      | none => none
    | none => none
  | .call ⟨.builtin b, args, ts⟩ => match valsE e args.toList with
    | some l => wc (opBuiltin P b ts l)
    | none => none
  | _ => none
theorem wc_ok {x : Option C} {v : V} (h : wc x = some v) : ∃ c, x = some c ∧ v = .w (.c c) := by
  cases x with
  | none => cases h
  | some c => injection h with h; exact ⟨c, rfl, h.symm⟩
theorem ww_ok {x : Option Wv} {v : V} (h : ww x = some v) : ∃ c, x = some c ∧ v = .w c := by
  cases x with
  | none => cases h
  | some c => injection h with h; exact ⟨c, rfl, h.symm⟩
end Go.Proofs.YtgbfbeohmogadaaGreat
