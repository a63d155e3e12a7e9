/- Running closed code: a region that draws its order: the run, and what it tells of each operation. -/
import Derived.Test.YtgbfbeohmogadaaGreatXq16
namespace Go.Proofs.YtgbfbeohmogadaaGreat
open Go.RowKit
set_option linter.unusedVariables false

/-! ### Equal values -/
def eqCp : Cp → Cp → Bool
  | .k a, .k b => a == b
  | .u a, .u b => a == b
  | _, _ => false
def eqC : C → C → Bool
  | .b a, .b b => a == b
  | .i k a, .i j b => decide (k = j) && a == b
  | .s a, .s b => a.data.toList == b.data.toList
  | .p a, .p b => a == b
  | .l a n c, .l b m d => a == b && n == m && eqCp c d
  | .f f a c, .f g b d => f == g && a == b && c == d
  | .nf, .nf => true
  | .ni, .ni => true
  | .d t a c, .d u b e => t == u && a == b && eqC c e
  | _, _ => false
theorem eqCp_ok {a b : Cp} (h : eqCp a b = true) : a = b := by
  cases a <;> cases b <;> simp [eqCp] at h <;> subst h <;> rfl
theorem eqC_ok : ∀ {a b : C}, eqC a b = true → a = b := by
  intro a
  induction a with
  | d t g c ih =>
    intro b h
    cases b <;> simp [eqC] at h
    obtain ⟨⟨rfl, rfl⟩, h⟩ := h
    rw [ih h]
  | b x => intro b h; cases b <;> simp [eqC] at h; subst h; rfl
  | i k n => intro b h; cases b <;> simp [eqC] at h; obtain ⟨rfl, rfl⟩ := h; rfl
  | s x =>
    intro b h
    cases b <;> simp [eqC] at h
    rename_i y
    obtain ⟨⟨x⟩⟩ := x
    obtain ⟨⟨y⟩⟩ := y
    simp at h
    subst h; rfl
  | p x => intro b h; cases b <;> simp [eqC] at h; subst h; rfl
  | l x n c => intro b h; cases b <;> simp [eqC] at h; obtain ⟨⟨rfl, rfl⟩, h⟩ := h; rw [eqCp_ok h]
  | f f a c => intro b h; cases b <;> simp [eqC] at h; obtain ⟨⟨rfl, rfl⟩, rfl⟩ := h; rfl
  | nf => intro b h; cases b <;> simp [eqC] at h; rfl
  | ni => intro b h; cases b <;> simp [eqC] at h; rfl
def eqCs : List C → List C → Bool
  | [], [] => true
  | a :: x, b :: y => eqC a b && eqCs x y
  | _, _ => false
theorem eqCs_ok : ∀ {x y : List C}, eqCs x y = true → x = y
  | [], [], _ => rfl
  | [], _ :: _, h => by cases h
  | _ :: _, [], h => by cases h
  | a :: x, b :: y, h => by
    simp only [eqCs, Bool.and_eq_true] at h
    rw [eqC_ok h.1, eqCs_ok h.2]
def eqWv : Wv → Wv → Bool
  | .c a, .c b => eqC a b
  | .a x, .a y => eqCs x y
  | _, _ => false
theorem eqWv_ok {a b : Wv} (h : eqWv a b = true) : a = b := by
  cases a <;> cases b <;> simp only [eqWv] at h
  · rw [eqC_ok h]
  · cases h
  · cases h
  · rw [eqCs_ok h]
/-- all names of a value lie below n -/
def bdAs (n : Nat) : List (Nat × Nat) → Bool
  | [] => true
  | (k, _) :: l => Nat.blt k n && bdAs n l
def bdC (n : Nat) : C → Bool
  | .p (some (k, _)) => Nat.blt k n
  | .l (some (k, _)) _ _ => Nat.blt k n
  | .f _ a c => bdAs n a && bdAs n c
  | .d _ _ c => bdC n c
  | _ => true
def bdCs (n : Nat) : List C → Bool
  | [] => true
  | c :: cs => bdC n c && bdCs n cs
def bdW (n : Nat) : Wv → Bool
  | .c c => bdC n c
  | .a cs => bdCs n cs
/-! ### The run -/
def Env.stepD (E : Env) (i : Nat) (o : Oper) (rs : Tr Rec) (efs : List Nat) (nx : Nat) : Option (Rec × List Nat) := match E.want rs i o with
  | none => none
  | some false => some (⟨some (.t []), nx, nx, .skip⟩, efs)
  | some true => match opPure E.P (E.ev rs i) o.op with
    | some v => some (⟨some v, nx, nx, .pure⟩, efs)
    | none => match opAlloc E.P (E.ev rs i) o.op with
      | some (B, m) => some (⟨some (.w (.c (madeC nx m))), nx, nx + 1, .alloc B⟩, efs)
      | none => match o.op with
        | .load t x => match E.ev rs i x with
          | some (.w (.c (.p (some (k, off))))) => match E.find rs (lastE efs) i k i with
            | some B => match opLoadB E.P B t off with
              | some y => some (⟨some (.w y), nx, nx, .load⟩, efs)
              | none => none
            | none => none
          | _ => none
        | _ => match (match lastE efs with | some e => E.isAnc e i | none => true) with
          | true => match opMem E.P E.ext E.call (E.ev rs i) (E.merge rs (lastE efs) i i) nx o.op with
            | some (v, ha, na) => if nx ≤ na then some (⟨v, nx, na, .eff ha⟩, i :: efs) else none
            | none => none
          | false => none
def Env.runD (E : Env) : List Oper → Nat → Tr Rec → List Nat → Nat → Option (Tr Rec × List Nat × Nat)
  | [], _, rs, efs, nx => some (rs, efs, nx)
  | o :: l, i, rs, efs, nx => match E.stepD i o rs efs nx with
    | some (R, efs') => E.runD l (i + 1) (rs.set i R) efs' R.na
    | none => none
/-- a load's value behind each effect that may have been the last one when it comes up -/
def Env.stable (E : Env) (rs : Tr Rec) (i k off t : Nat) (y : Wv) : List Nat → Bool
  | [] => match E.find rs none i k i with
    | some B => match opLoadB E.P B t off with
      | some z => eqWv z y
      | none => false
    | none => false
  | e :: l => (E.isAnc i e || (match E.find rs (some e) i k i with
    | some B => match opLoadB E.P B t off with
      | some z => eqWv z y
      | none => false
    | none => false)) && (E.isAnc e i || E.stable rs i k off t y l)
def Env.stableAll (E : Env) (rs : Tr Rec) (efs : List Nat) : List Oper → Nat → Bool
  | [], _ => true
  | o :: l, i => (match rs.get i with
    | some ⟨some (.w y), nb, _, .load⟩ => bdW nb y && (match o.op with
      | .load t x => match E.ev rs i x with
        | some (.w (.c (.p (some (k, off))))) => E.stable rs i k off t y efs
        | _ => false
      | _ => false)
    | some ⟨_, _, _, .load⟩ => false
    | _ => true) && E.stableAll rs efs l (i + 1)
def endT (rs : Tr Rec) : List Oper → Nat → Tr V → Tr V
  | [], _, tm => tm
  | o :: l, i, tm => endT rs l (i + 1) (match o.dst with
    | none => tm
    | some d => match rs.get i with
      | some ⟨some v, _, _, _⟩ => tm.set d v
      | _ => tm.del d)
def endH (E : Env) (rs : Tr Rec) (p : Option Nat) : Nat → Hp
  | 0 => E.after rs p
  | q + 1 => match rs.get q with
    | some ⟨_, nb, _, .alloc B⟩ => if E.mergedB p q then endH E rs p q else (endH E rs p q).set nb B
    | _ => endH E rs p q
/-- every slot that is written is a slot of the frame; every slot that an operation reads is written by an ancestor, by a descendant, or by none: that is asked for when it is read -/
def dstsB (N : Nat) : List Oper → Bool
  | [] => true
  | o :: l => (match o.dst with
    | some d => d < N
    | none => true) && dstsB N l
def drawR (P : Program) (ext : ExtF) : DrawF := fun call ops N s => if P.follows .mixedOrders && dstsB N ops.toList then
    match ancsB ops.toList 0 .nil, writersB ops.toList 0 .nil with
    | some anc, some wr => match Env.runD ⟨P, ext, call, ops, N, s, anc, wr⟩ ops.toList 0 .nil [] s.nx with
      | some (rs, efs, nx) => if Env.stableAll ⟨P, ext, call, ops, N, s, anc, wr⟩ rs efs ops.toList 0 then
          some ⟨endT rs ops.toList 0 s.tm, endH ⟨P, ext, call, ops, N, s, anc, wr⟩ rs (lastE efs) ops.size, nx⟩
        else none
      | none => none
    | _, _ => none
  else none
/-! ### Ancestors -/
theorem edgesB_ok {anc : Tr Nat} {i : Nat} : ∀ (l : List Edge) (a : Nat), edgesB l anc i = some a → ∀ j, a.testBit j = true → ∃ e ∈ l, Region.binds .any e = true ∧ e.on < i ∧ (j = e.on ∨ ∃ b, anc.get e.on = some b ∧ b.testBit j = true)
  | [], a, h, j, hj => by injection h with h; subst h; simp at hj
  | e :: l, a, h, j, hj => by
    unfold edgesB at h
    split at h
    · cases h
    · rename_i s hs
      split at h
      · rename_i hb
        split at h
        · rename_i hlt
          split at h
          · rename_i b hbb
            injection h with h
            subst h
            have hj' : ((s ||| (1 <<< e.on)) ||| b).testBit j = true := hj
            rw [Nat.testBit_or, Nat.testBit_or, Bool.or_eq_true, Bool.or_eq_true] at hj'
            rcases hj' with (h1 | h1) | h1
            · obtain ⟨e', he', hx⟩ := edgesB_ok l s hs j h1
              exact ⟨e', by simp [he'], hx⟩
            · refine ⟨e, by simp, hb, hlt, .inl ?_⟩
              rw [Nat.testBit_shiftLeft] at h1
              simp at h1
              have h2 := h1.2
              rw [Nat.testBit_one_eq_true_iff_self_eq_zero] at h2
              omega
            · exact ⟨e, by simp, hb, hlt, .inr ⟨b, hbb, h1⟩⟩
          · cases h
        · cases h
      · rename_i hb
        injection h with h
        subst h
        obtain ⟨e', he', hx⟩ := edgesB_ok l s hs j hj
        exact ⟨e', by simp [he'], hx⟩
end Go.Proofs.YtgbfbeohmogadaaGreat
