/- Joined: Xq17, Xq18, Xq19, Xq20, Xq21, Xq22. -/
import Derived.Test.YtmlcfmickonfbaaGreatMgReadersAll22
section
set_option linter.unusedVariables false
set_option linter.unusedSimpArgs false
/- Running closed code: a region that draws its order: the run, and what it tells of each operation. -/
namespace Go.Proofs.YtmlcfmickonfbaaGreat
open Go.RowKit
set_option linter.unusedVariables false

/-! ### Equal values -/
def eqCp : Cp → Cp → Bool
  | .k a, .k b => a == b
  | .u a, .u b => a == b
  | _, _ => false
def eqC : C → C → Bool
  | .b a, .b b => a == b
  | .i k a, .i j b => decide (k = j) && a == b
  | .s a, .s b => a.data.toList == b.data.toList
  | .p a, .p b => a == b
  | .l a n c, .l b m d => a == b && n == m && eqCp c d
  | .f f a c, .f g b d => f == g && a == b && c == d
  | .nf, .nf => true
  | .ni, .ni => true
  | .d t a c, .d u b e => t == u && a == b && eqC c e
  | _, _ => false
theorem eqCp_ok {a b : Cp} (h : eqCp a b = true) : a = b := by
  cases a <;> cases b <;> simp [eqCp] at h <;> subst h <;> rfl
theorem eqC_ok : ∀ {a b : C}, eqC a b = true → a = b := by
  intro a
  induction a with
  | d t g c ih =>
    intro b h
    cases b <;> simp [eqC] at h
    obtain ⟨⟨rfl, rfl⟩, h⟩ := h
    rw [ih h]
  | b x => intro b h; cases b <;> simp [eqC] at h; subst h; rfl
  | i k n => intro b h; cases b <;> simp [eqC] at h; obtain ⟨rfl, rfl⟩ := h; rfl
  | s x =>
    intro b h
    cases b <;> simp [eqC] at h
    rename_i y
    obtain ⟨⟨x⟩⟩ := x
    obtain ⟨⟨y⟩⟩ := y
    simp at h
    subst h; rfl
  | p x => intro b h; cases b <;> simp [eqC] at h; subst h; rfl
  | l x n c => intro b h; cases b <;> simp [eqC] at h; obtain ⟨⟨rfl, rfl⟩, h⟩ := h; rw [eqCp_ok h]
  | f f a c => intro b h; cases b <;> simp [eqC] at h; obtain ⟨⟨rfl, rfl⟩, rfl⟩ := h; rfl
  | nf => intro b h; cases b <;> simp [eqC] at h; rfl
  | ni => intro b h; cases b <;> simp [eqC] at h; rfl
def eqCs : List C → List C → Bool
  | [], [] => true
  | a :: x, b :: y => eqC a b && eqCs x y
  | _, _ => false
theorem eqCs_ok : ∀ {x y : List C}, eqCs x y = true → x = y
  | [], [], _ => rfl
  | [], _ :: _, h => by cases h
  | _ :: _, [], h => by cases h
  | a :: x, b :: y, h => by
    simp only [eqCs, Bool.and_eq_true] at h
    rw [eqC_ok h.1, eqCs_ok h.2]
def eqWv : Wv → Wv → Bool
  | .c a, .c b => eqC a b
  | .a x, .a y => eqCs x y
  | _, _ => false
theorem eqWv_ok {a b : Wv} (h : eqWv a b = true) : a = b := by
  cases a <;> cases b <;> simp only [eqWv] at h
  · rw [eqC_ok h]
  · cases h
  · cases h
  · rw [eqCs_ok h]
/-- all names of a value lie below n -/
def bdAs (n : Nat) : List (Nat × Nat) → Bool
  | [] => true
  | (k, _) :: l => Nat.blt k n && bdAs n l
def bdC (n : Nat) : C → Bool
  | .p (some (k, _)) => Nat.blt k n
  | .l (some (k, _)) _ _ => Nat.blt k n
  | .f _ a c => bdAs n a && bdAs n c
  | .d _ _ c => bdC n c
  | _ => true
def bdCs (n : Nat) : List C → Bool
  | [] => true
  | c :: cs => bdC n c && bdCs n cs
def bdW (n : Nat) : Wv → Bool
  | .c c => bdC n c
  | .a cs => bdCs n cs
/-! ### The run -/
def Env.stepD (E : Env) (i : Nat) (o : Oper) (rs : Tr Rec) (efs : List Nat) (nx : Nat) : Option (Rec × List Nat) := match E.want rs i o with
  | none => none
  | some false => some (⟨some (.t []), nx, nx, .skip⟩, efs)
  | some true => match opPure E.P (E.ev rs i) o.op with
    | some v => some (⟨some v, nx, nx, .pure⟩, efs)
    | none => match opAlloc E.P (E.ev rs i) o.op with
      | some (B, m) => some (⟨some (.w (.c (madeC nx m))), nx, nx + 1, .alloc B⟩, efs)
      | none => match o.op with
        | .load t x => match E.ev rs i x with
          | some (.w (.c (.p (some (k, off))))) => match E.find rs (lastE efs) i k i with
            | some B => match opLoadB E.P B t off with
              | some y => some (⟨some (.w y), nx, nx, .load⟩, efs)
              | none => none
            | none => none
          | _ => none
        | _ => match (match lastE efs with | some e => E.isAnc e i | none => true) with
          | true => match opMem E.P E.ext E.call (E.ev rs i) (E.merge rs (lastE efs) i i) nx o.op with
            | some (v, ha, na) => if nx ≤ na then some (⟨v, nx, na, .eff ha⟩, i :: efs) else none
            | none => none
          | false => none
def Env.runD (E : Env) : List Oper → Nat → Tr Rec → List Nat → Nat → Option (Tr Rec × List Nat × Nat)
  | [], _, rs, efs, nx => some (rs, efs, nx)
  | o :: l, i, rs, efs, nx => match E.stepD i o rs efs nx with
    | some (R, efs') => E.runD l (i + 1) (rs.set i R) efs' R.na
    | none => none
/-- a load's value behind each effect that may have been the last one when it comes up -/
def Env.stable (E : Env) (rs : Tr Rec) (i k off t : Nat) (y : Wv) : List Nat → Bool
  | [] => match E.find rs none i k i with
    | some B => match opLoadB E.P B t off with
      | some z => eqWv z y
      | none => false
    | none => false
  | e :: l => (E.isAnc i e || (match E.find rs (some e) i k i with
    | some B => match opLoadB E.P B t off with
      | some z => eqWv z y
      | none => false
    | none => false)) && (E.isAnc e i || E.stable rs i k off t y l)
def Env.stableAll (E : Env) (rs : Tr Rec) (efs : List Nat) : List Oper → Nat → Bool
  | [], _ => true
  | o :: l, i => (match rs.get i with
    | some ⟨some (.w y), nb, _, .load⟩ => bdW nb y && (match o.op with
      | .load t x => match E.ev rs i x with
        | some (.w (.c (.p (some (k, off))))) => E.stable rs i k off t y efs
        | _ => false
      | _ => false)
    | some ⟨_, _, _, .load⟩ => false
    | _ => true) && E.stableAll rs efs l (i + 1)
def endT (rs : Tr Rec) : List Oper → Nat → Tr V → Tr V
  | [], _, tm => tm
  | o :: l, i, tm => endT rs l (i + 1) (match o.dst with
    | none => tm
    | some d => match rs.get i with
      | some ⟨some v, _, _, _⟩ => tm.set d v
      | _ => tm.del d)
def endH (E : Env) (rs : Tr Rec) (p : Option Nat) : Nat → Hp
  | 0 => E.after rs p
  | q + 1 => match rs.get q with
    | some ⟨_, nb, _, .alloc B⟩ => if E.mergedB p q then endH E rs p q else (endH E rs p q).set nb B
    | _ => endH E rs p q
/-- every slot that is written is a slot of the frame; every slot that an operation reads is written by an ancestor, by a descendant, or by none: that is asked for when it is read -/
def dstsB (N : Nat) : List Oper → Bool
  | [] => true
  | o :: l => (match o.dst with
    | some d => d < N
    | none => true) && dstsB N l
def drawR (P : Program) (ext : ExtF) : DrawF := fun call ops N s => if P.follows .mixedOrders && dstsB N ops.toList then
    match ancsB ops.toList 0 .nil, writersB ops.toList 0 .nil with
    | some anc, some wr => match Env.runD ⟨P, ext, call, ops, N, s, anc, wr⟩ ops.toList 0 .nil [] s.nx with
      | some (rs, efs, nx) => if Env.stableAll ⟨P, ext, call, ops, N, s, anc, wr⟩ rs efs ops.toList 0 then
          some ⟨endT rs ops.toList 0 s.tm, endH ⟨P, ext, call, ops, N, s, anc, wr⟩ rs (lastE efs) ops.size, nx⟩
        else none
      | none => none
    | _, _ => none
  else none
/-! ### Ancestors -/
theorem edgesB_ok {anc : Tr Nat} {i : Nat} : ∀ (l : List Edge) (a : Nat), edgesB l anc i = some a → ∀ j, a.testBit j = true → ∃ e ∈ l, Region.binds .any e = true ∧ e.on < i ∧ (j = e.on ∨ ∃ b, anc.get e.on = some b ∧ b.testBit j = true)
  | [], a, h, j, hj => by injection h with h; subst h; simp at hj
  | e :: l, a, h, j, hj => by
    unfold edgesB at h
    split at h
    · cases h
    · rename_i s hs
      split at h
      · rename_i hb
        split at h
        · rename_i hlt
          split at h
          · rename_i b hbb
            injection h with h
            subst h
            have hj' : ((s ||| (1 <<< e.on)) ||| b).testBit j = true := hj
            rw [Nat.testBit_or, Nat.testBit_or, Bool.or_eq_true, Bool.or_eq_true] at hj'
            rcases hj' with (h1 | h1) | h1
            · obtain ⟨e', he', hx⟩ := edgesB_ok l s hs j h1
              exact ⟨e', by simp [he'], hx⟩
            · refine ⟨e, by simp, hb, hlt, .inl ?_⟩
              rw [Nat.testBit_shiftLeft] at h1
              simp at h1
              have h2 := h1.2
              rw [Nat.testBit_one_eq_true_iff_self_eq_zero] at h2
              omega
            · exact ⟨e, by simp, hb, hlt, .inr ⟨b, hbb, h1⟩⟩
          · cases h
        · cases h
      · rename_i hb
        injection h with h
        subst h
        obtain ⟨e', he', hx⟩ := edgesB_ok l s hs j hj
        exact ⟨e', by simp [he'], hx⟩
end Go.Proofs.YtmlcfmickonfbaaGreat
end
section
set_option linter.unusedVariables false
set_option linter.unusedSimpArgs false
/- Running closed code: what the run of a drawn region tells of each operation. -/
namespace Go.Proofs.YtmlcfmickonfbaaGreat
open Go.RowKit
set_option linter.unusedVariables false

theorem edgesB_congr {anc bnc : Tr Nat} {i : Nat} (h : ∀ j, j < i → anc.get j = bnc.get j) : ∀ (l : List Edge), edgesB l anc i = edgesB l bnc i
  | [] => rfl
  | e :: l => by
    unfold edgesB
    rw [edgesB_congr h l]
    split
    · rfl
    · split
      · split
        · rename_i hlt; rw [h _ hlt]
        · rfl
      · rfl
theorem ancsB_ok : ∀ (l : List Oper) (i : Nat) (anc bnc : Tr Nat), ancsB l i anc = some bnc → (∀ j, j < i → bnc.get j = anc.get j) ∧ ∀ k o, l[k]? = some o → ∃ a, bnc.get (i + k) = some a ∧ edgesB o.after.toList bnc (i + k) = some a
  | [], i, anc, bnc, h => by
    injection h with h
    subst h
    exact ⟨fun _ _ => rfl, fun k o hk => by simp at hk⟩
  | o :: l, i, anc, bnc, h => by
    unfold ancsB at h
    split at h
    · rename_i a ha
      obtain ⟨h1, h2⟩ := ancsB_ok l (i + 1) _ bnc h
      have h0 : ∀ j, j < i → bnc.get j = anc.get j := fun j hj => by
        rw [h1 j (by omega), Tr.get_set, if_neg (by omega)]
      refine ⟨h0, fun k o' hk => ?_⟩
      cases k with
      | zero =>
        simp at hk
        subst hk
        refine ⟨a, by rw [Nat.add_zero, h1 i (by omega), Tr.get_set, if_pos rfl], ?_⟩
        rw [Nat.add_zero, edgesB_congr h0]
        exact ha
      | succ k =>
        have := h2 k o' (by simpa using hk)
        rw [show i + (k + 1) = i + 1 + k by omega]
        exact this
    · cases h
theorem writersB_ok : ∀ (l : List Oper) (i : Nat) (wr wr' : Tr Nat), writersB l i wr = some wr' → (∀ t j, wr.get t = some j → wr'.get t = some j) ∧ (∀ k o d, l[k]? = some o → o.dst = some d → wr'.get d = some (i + k)) ∧ (∀ t j, wr'.get t = some j → wr.get t = some j ∨ ∃ k o, j = i + k ∧ l[k]? = some o ∧ o.dst = some t)
  | [], i, wr, wr', h => by
    injection h with h
    subst h
    exact ⟨fun _ _ e => e, fun k o d hk => by simp at hk, fun t j e => .inl e⟩
  | o :: l, i, wr, wr', h => by
    unfold writersB at h
    split at h
    · rename_i hd
      obtain ⟨h1, h2, h3⟩ := writersB_ok l (i + 1) wr wr' h
      refine ⟨h1, fun k o' d hk hd' => ?_, fun t j e => ?_⟩
      · cases k with
        | zero => simp at hk; subst hk; rw [hd] at hd'; cases hd'
        | succ k => rw [show i + (k + 1) = i + 1 + k by omega]; exact h2 k o' d (by simpa using hk) hd'
      · rcases h3 t j e with e | ⟨k, o', rfl, hk, hd'⟩
        · exact .inl e
        · exact .inr ⟨k + 1, o', by omega, by simpa using hk, hd'⟩
    · rename_i d hd
      split at h
      · cases h
      · rename_i hn
        obtain ⟨h1, h2, h3⟩ := writersB_ok l (i + 1) _ wr' h
        refine ⟨fun t j e => ?_, fun k o' d' hk hd' => ?_, fun t j e => ?_⟩
        · refine h1 t j ?_
          rw [Tr.get_set]
          split
          · rename_i ht; subst ht; rw [hn] at e; cases e
          · exact e
        · cases k with
          | zero =>
            simp at hk
            subst hk
            rw [hd] at hd'
            injection hd' with hd'
            subst hd'
            rw [Nat.add_zero]
            exact h1 d i (by rw [Tr.get_set, if_pos rfl])
          | succ k => rw [show i + (k + 1) = i + 1 + k by omega]; exact h2 k o' d' (by simpa using hk) hd'
        · rcases h3 t j e with e | ⟨k, o', rfl, hk, hd'⟩
          · rw [Tr.get_set] at e
            split at e
            · rename_i ht
              injection e with e
              subst ht e
              exact .inr ⟨0, o, rfl, rfl, hd⟩
            · exact .inl e
          · exact .inr ⟨k + 1, o', by omega, by simpa using hk, hd'⟩
/-- the region's static tables -/
structure EnvOk (E : Env) : Prop where
  anc : ∀ i o, E.ops[i]? = some o → ∃ a, E.anc.get i = some a ∧ edgesB o.after.toList E.anc i = some a
  wr1 : ∀ (i : Nat) (o : Oper) (d : Nat), E.ops[i]? = some o → o.dst = some d → E.wr.get d = some i
  wr2 : ∀ t j, E.wr.get t = some j → ∃ o, E.ops[j]? = some o ∧ o.dst = some t
  dst : ∀ (i : Nat) (o : Oper) (d : Nat), E.ops[i]? = some o → o.dst = some d → d < E.N
section
variable {E : Env} (h : EnvOk E)
include h
theorem isAnc_def {j i : Nat} (e : E.isAnc j i = true) : i < E.ops.size → ∃ o a, E.ops[i]? = some o ∧ E.anc.get i = some a ∧ edgesB o.after.toList E.anc i = some a ∧ a.testBit j = true := by
  intro hi
  have ho : E.ops[i]? = some E.ops[i] := Array.getElem?_eq_getElem hi
  obtain ⟨a, h1, h2⟩ := h.anc i _ ho
  unfold Env.isAnc at e
  rw [h1] at e
  exact ⟨_, a, ho, h1, h2, e⟩
theorem isAnc_lt : ∀ (i j : Nat), i < E.ops.size → E.isAnc j i = true → j < i := by
  intro i
  induction i using Nat.strongRecOn with
  | _ i ih =>
    intro j hi e
    obtain ⟨o, a, ho, ha, hb, hj⟩ := isAnc_def h e hi
    obtain ⟨ed, _, _, hlt, hx⟩ := edgesB_ok _ _ hb j hj
    rcases hx with rfl | ⟨b, hbb, hbj⟩
    · exact hlt
    · have := ih ed.on hlt j (by omega) (by unfold Env.isAnc; rw [hbb]; exact hbj)
      omega
/-- what is closed under edges is closed under ancestors -/
theorem closed_anc {D : Nat → Prop} (hD : ∀ i o, D i → E.ops[i]? = some o → ∀ e ∈ o.after.toList, Region.binds .any e = true → D e.on) : ∀ (i : Nat) (o : Oper), E.ops[i]? = some o → (∀ e ∈ o.after.toList, Region.binds .any e = true → D e.on) → ∀ j, E.isAnc j i = true → D j := by
  intro i
  induction i using Nat.strongRecOn with
  | _ i ih =>
    intro o ho hi j e
    have hsz := (Array.getElem?_eq_some_iff.1 ho).1
    obtain ⟨o', a, ho', ha, hb, hj⟩ := isAnc_def h e hsz
    rw [ho] at ho'
    injection ho' with ho'
    subst ho'
    obtain ⟨ed, hmem, hbind, hlt, hx⟩ := edgesB_ok _ _ hb j hj
    have hon := hi ed hmem hbind
    rcases hx with rfl | ⟨b, hbb, hbj⟩
    · exact hon
    · have hso : E.ops[ed.on]? = some (E.ops[ed.on]'(by omega)) := Array.getElem?_eq_getElem _
      exact ih ed.on hlt _ hso (fun e he hb => hD ed.on _ hon hso e he hb) j (by unfold Env.isAnc; rw [hbb]; exact hbj)
end
/-- two tables of what was run that say the same below i -/
def Same (i : Nat) (rs rt : Tr Rec) : Prop := ∀ j, j < i → rt.get j = rs.get j
section
variable {E : Env} (h : EnvOk E) {rs rt : Tr Rec} {i : Nat} (hi : i < E.ops.size) (hs : Same i rs rt)
include h hi hs
theorem slot_same (t : Nat) : E.slot rt i t = E.slot rs i t := by
  unfold Env.slot
  split
  · rfl
  · split
    · rename_i ha
      rw [hs _ (isAnc_lt h i _ hi ha)]
    · rfl
theorem ev_same : E.ev rt i = E.ev rs i := by
  funext x
  cases x with
  | tmp t => exact slot_same h hi hs t
  | _ => rfl
theorem want_same (o : Oper) : E.want rt i o = E.want rs i o := by
  unfold Env.want
  split
  · rfl
  · split
    · split
      · rw [slot_same h hi hs]
      · rfl
    · rfl
omit h hi in
theorem after_same {p : Option Nat} (hp : ∀ e, p = some e → e < i) : E.after rt p = E.after rs p := by
  cases p with
  | none => rfl
  | some e => unfold Env.after; simp only [hs e (hp e rfl)]
omit h hi in
theorem merge_same {p : Option Nat} (hp : ∀ e, p = some e → e < i) (k : Nat) : ∀ q, q ≤ i → E.merge rt p k q = E.merge rs p k q
  | 0, _ => after_same hs hp
  | q + 1, hq => by
    unfold Env.merge
    rw [hs q (by omega), merge_same hp k q (by omega)]
omit h hi in
end
end Go.Proofs.YtmlcfmickonfbaaGreat
end
section
set_option linter.unusedVariables false
set_option linter.unusedSimpArgs false
/- Running closed code: what the run of a drawn region tells of each operation (second part). -/
namespace Go.Proofs.YtmlcfmickonfbaaGreat
open Go.RowKit
set_option linter.unusedVariables false

def OpF (E : Env) (rs : Tr Rec) (efs : List Nat) (i : Nat) (o : Oper) (R : Rec) : Prop := match R.k with
  | .skip => E.want rs i o = some false ∧ R.v = some (.t []) ∧ R.na = R.nb
  | .pure => E.want rs i o = some true ∧ ∃ v, R.v = some v ∧ opPure E.P (E.ev rs i) o.op = some v ∧ R.na = R.nb
  | .load => E.want rs i o = some true ∧ (∃ t x, o.op = .load t x) ∧ R.na = R.nb
  | .alloc B => E.want rs i o = some true ∧ ∃ m, opAlloc E.P (E.ev rs i) o.op = some (B, m) ∧ R.v = some (.w (.c (madeC R.nb m))) ∧ R.na = R.nb + 1
  | .eff ha => E.want rs i o = some true ∧ ∃ rest, (i :: rest) <:+ efs ∧ (∀ e, lastE rest = some e → E.isAnc e i = true) ∧ opMem E.P E.ext E.call (E.ev rs i) (E.merge rs (lastE rest) i i) R.nb o.op = some (R.v, ha, R.na)
theorem OpF.mono {E : Env} (h : EnvOk E) {rs rt : Tr Rec} {efs eft : List Nat} {i : Nat} (hi : i < E.ops.size) {o : Oper} {R : Rec} (hs : Same i rs rt) (he : efs <:+ eft) (k : OpF E rs efs i o R) : OpF E rt eft i o R := by
  have e1 := ev_same h hi hs
  have e2 := want_same h hi hs o
  unfold OpF at *
  split
  all_goals rename_i hk; rw [hk] at k
  · exact ⟨by rw [e2]; exact k.1, k.2⟩
  · exact ⟨by rw [e2]; exact k.1, by rw [e1]; exact k.2⟩
  · exact ⟨by rw [e2]; exact k.1, k.2⟩
  · exact ⟨by rw [e2]; exact k.1, by rw [e1]; exact k.2⟩
  · obtain ⟨k1, rest, k2, k3, k4⟩ := k
    refine ⟨by rw [e2]; exact k1, rest, k2.trans he, k3, ?_⟩
    rw [e1, merge_same hs (fun e hp => isAnc_lt h i e hi (k3 e hp)) i i (Nat.le_refl _)]
    exact k4
/-- all that is known behind the first i operations -/
structure FxQ (E : Env) (i : Nat) (rs : Tr Rec) (efs : List Nat) (nx : Nat) : Prop where
  all : ∀ j o, j < i → E.ops[j]? = some o → ∃ R, rs.get j = some R ∧ OpF E rs efs j o R ∧ E.s0.nx ≤ R.nb ∧ R.nb ≤ R.na ∧ R.na ≤ nx
  ord : ∀ j k R S, j < k → k < i → rs.get j = some R → rs.get k = some S → R.na ≤ S.nb
  eff : ∀ e ∈ efs, e < i ∧ ∃ R ha, rs.get e = some R ∧ R.k = .eff ha
  dec : efs.Pairwise (· > ·)
  lo : E.s0.nx ≤ nx
theorem stepD_ok {E : Env} (h : EnvOk E) {i : Nat} {rs : Tr Rec} {efs efs' : List Nat} {nx : Nat} {o : Oper} (ho : E.ops[i]? = some o) (k : FxQ E i rs efs nx) {R : Rec} (e : E.stepD i o rs efs nx = some (R, efs')) :
    OpF E rs efs' i o R ∧ R.nb = nx ∧ R.nb ≤ R.na ∧ ((efs' = efs ∧ ∀ ha, R.k ≠ .eff ha) ∨ (efs' = i :: efs ∧ ∃ ha, R.k = .eff ha)) := by
  unfold Env.stepD at e
  split at e
  · cases e
  · rename_i hw
    injection e with e
    injection e with e1 e2
    subst e1 e2
    exact ⟨⟨hw, rfl, rfl⟩, rfl, Nat.le_refl _, .inl ⟨rfl, fun ha => (by intro e; cases e)⟩⟩
  · rename_i hw
    split at e
    · rename_i v hv
      injection e with e
      injection e with e1 e2
      subst e1 e2
      exact ⟨⟨hw, v, rfl, hv, rfl⟩, rfl, Nat.le_refl _, .inl ⟨rfl, fun ha => (by intro e; cases e)⟩⟩
    · split at e
      · rename_i B m hm
        injection e with e
        injection e with e1 e2
        subst e1 e2
        exact ⟨⟨hw, m, hm, rfl, rfl⟩, rfl, Nat.le_succ _, .inl ⟨rfl, fun ha => (by intro e; cases e)⟩⟩
      · split at e
        · rename_i t x hop
          split at e
          · split at e
            · split at e
              · injection e with e
                injection e with e1 e2
                subst e1 e2
                exact ⟨⟨hw, ⟨t, x, hop⟩, rfl⟩, rfl, Nat.le_refl _, .inl ⟨rfl, fun ha => (by intro e; cases e)⟩⟩
              · cases e
            · cases e
          · cases e
        · split at e
          · rename_i hch
            split at e
            · rename_i v ha na hm
              split at e
              · rename_i hle
                injection e with e
                injection e with e1 e2
                subst e1 e2
                refine ⟨⟨hw, efs, List.suffix_refl _, fun e he => ?_, hm⟩, rfl, hle, .inr ⟨rfl, ha, rfl⟩⟩
                rw [he] at hch
                exact hch
              · cases e
            · cases e
          · cases e
theorem runD_ok {E : Env} (h : EnvOk E) : ∀ (l : List Oper) (i : Nat) (rs : Tr Rec) (efs : List Nat) (nx : Nat), i ≤ E.ops.size → E.ops.toList.drop i = l → FxQ E i rs efs nx → ∀ rs' efs' nx', E.runD l i rs efs nx = some (rs', efs', nx') → FxQ E E.ops.size rs' efs' nx'
  | [], i, rs, efs, nx, hle, hl, k, rs', efs', nx', e => by
    injection e with e
    injection e with e1 e2
    injection e2 with e2 e3
    subst e1 e2 e3
    have hsz : E.ops.size ≤ i := by
      have := congrArg List.length hl
      simp at this
      omega
    refine ⟨fun j o hj ho => k.all j o (by omega) ho, fun j m R S h1 h2 h3 h4 => k.ord j m R S h1 (by omega) h3 h4, fun e he => ?_, k.dec, k.lo⟩
    obtain ⟨h3, R, ha, h1, h2⟩ := k.eff e he
    exact ⟨by omega, R, ha, h1, h2⟩
  | o :: l, i, rs, efs, nx, hle, hl, k, rs', efs', nx', e => by
    have ho : E.ops[i]? = some o := by
      have h1 : (E.ops.toList.drop i)[0]? = some o := by rw [hl]; rfl
      rw [List.getElem?_drop, Nat.add_zero] at h1
      simpa using h1
    have hi := (Array.getElem?_eq_some_iff.1 ho).1
    have hl' : E.ops.toList.drop (i + 1) = l := by
      rw [← List.drop_drop, hl]; rfl
    unfold Env.runD at e
    split at e
    · rename_i R eft hst
      obtain ⟨f1, f2, f3, f4⟩ := stepD_ok h ho k hst
      have hsuf : efs <:+ eft := by
        rcases f4 with ⟨rfl, _⟩ | ⟨rfl, _⟩
        · exact List.suffix_refl _
        · exact List.suffix_cons _ _
      have hsame : ∀ j, j ≤ i → Same j rs (rs.set i R) := fun j hj q hq => by rw [Tr.get_set, if_neg (by omega)]
      refine runD_ok h l (i + 1) (rs.set i R) eft R.na hi hl' ⟨fun j o' hj ho' => ?_, fun j m S T h1 h2 h3 h4 => ?_, fun q hq => ?_, ?_, ?_⟩ rs' efs' nx' e
      · by_cases hji : j = i
        · subst hji
          rw [ho] at ho'
          injection ho' with ho'
          subst ho'
          refine ⟨R, by rw [Tr.get_set, if_pos rfl], f1.mono h hi (hsame j (Nat.le_refl _)) (List.suffix_refl _), by rw [f2]; exact k.lo, f3, Nat.le_refl _⟩
        · obtain ⟨S, g1, g2, g3, g4, g5⟩ := k.all j o' (by omega) ho'
          exact ⟨S, by rw [Tr.get_set, if_neg hji]; exact g1, g2.mono h (by omega) (hsame j (by omega)) hsuf, g3, g4, by omega⟩
      · rw [Tr.get_set, if_neg (by omega)] at h3
        by_cases hmi : m = i
        · subst hmi
          rw [Tr.get_set, if_pos rfl] at h4
          injection h4 with h4
          subst h4
          have hoj : E.ops[j]? = some (E.ops[j]'(by omega)) := Array.getElem?_eq_getElem _
          obtain ⟨S', g1, g2, g3, g4, g5⟩ := k.all j _ h1 hoj
          rw [h3] at g1
          injection g1 with g1
          subst g1
          omega
        · rw [Tr.get_set, if_neg hmi] at h4
          exact k.ord j m S T h1 (by omega) h3 h4
      · rcases f4 with ⟨rfl, _⟩ | ⟨rfl, ha, hk⟩
        · obtain ⟨a1, S, ha, a2, a3⟩ := k.eff q hq
          exact ⟨by omega, S, ha, by rw [Tr.get_set, if_neg (by omega)]; exact a2, a3⟩
        · rcases List.mem_cons.1 hq with rfl | hq
          · exact ⟨by omega, R, ha, by rw [Tr.get_set, if_pos rfl], hk⟩
          · obtain ⟨a1, S, ha, a2, a3⟩ := k.eff q hq
            exact ⟨by omega, S, ha, by rw [Tr.get_set, if_neg (by omega)]; exact a2, a3⟩
      · rcases f4 with ⟨rfl, _⟩ | ⟨rfl, ha, hk⟩
        · exact k.dec
        · exact List.pairwise_cons.2 ⟨fun q hq => (k.eff q hq).1, k.dec⟩
      · have := k.lo; omega
    · cases e
end Go.Proofs.YtmlcfmickonfbaaGreat
end
section
set_option linter.unusedVariables false
set_option linter.unusedSimpArgs false
/- Running closed code: the state in the middle of a drawn region, whatever order was drawn; operations that make no effect. -/
namespace Go.Proofs.YtmlcfmickonfbaaGreat
open Go.RowKit
set_option linter.unusedVariables false
set_option linter.unusedSectionVars false

def Nm.cut (r : Nm) (n : Nat) : Nm := fun k => if k < n then r k else none
theorem cut_le {r s : Nm} (h : r.le s) {n m : Nat} (hn : n ≤ m) : (r.cut n).le (s.cut m) := fun k x e => by
  unfold Nm.cut at *
  split at e
  · rw [if_pos (by omega)]; exact h k x e
  · cases e
theorem cut_le_self (r : Nm) (n : Nat) : (r.cut n).le r := fun k x e => by
  unfold Nm.cut at e
  split at e
  · exact e
  · cases e
theorem RelH.mono {r s : Nm} {H : Hp} {w : World} (h : RelH r H w) (k : r.le s) : RelH s H w := by
  refine ⟨fun j B hj => ?_, fun i j B D b x y hi hj si sj => ?_⟩
  · obtain ⟨b, sz, h1, h2⟩ := h.at_ j B hj
    exact ⟨b, sz, k _ _ h1, h2.mono k⟩
  · obtain ⟨b1, s1, h1, _⟩ := h.at_ i B hi
    obtain ⟨b2, s2, h2, _⟩ := h.at_ j D hj
    have e1 := k _ _ h1
    have e2 := k _ _ h2
    rw [si] at e1
    rw [sj] at e2
    injection e1 with e1
    injection e2 with e2
    exact h.inj i j B D b x y hi hj (by rw [h1, e1]) (by rw [h2, e2])
def naOf (E : Env) (rs : Tr Rec) : Option Nat → Nat
  | none => E.s0.nx
  | some e => match rs.get e with
    | some R => R.na
    | none => 0
def Li (listed : Array Bool) (i : Nat) : Prop := listed.getD i false = true
/-- which allocs are not yet part of the memory behind effect p -/
def pendB (E : Env) (p : Option Nat) (q : Nat) : Prop := E.mergedB p q = false
structure Inv (E : Env) (rs : Tr Rec) (efs : List Nat) (r0 : Nm) (w0 : World) (listed : Array Bool) (a : Act) (w : World) (r : Nm) (eD later : List Nat) : Prop where
  size : listed.size = E.ops.size
  clo : ∀ i o, Li listed i → E.ops[i]? = some o → ∀ e ∈ o.after.toList, Region.binds .any e = true → Li listed e.on
  efs_eq : efs = later ++ eD
  eD_in : ∀ e ∈ eD, Li listed e
  later_out : ∀ e ∈ later, ¬ Li listed e
  fr0 : ∀ t v, E.s0.tm.get t = some v → (∀ j, E.wr.get t = some j → ¬ Li listed j) → ∃ u, a.tmps[t]? = some u ∧ VR (r.cut E.s0.nx) v u
  frD : ∀ (i : Nat) (o : Oper) (R : Rec) (v : V) (t : Nat), Li listed i → E.ops[i]? = some o → rs.get i = some R → R.v = some v → o.dst = some t → ∃ u, a.tmps[t]? = some u ∧ VR (r.cut R.na) v u
  asz : a.tmps.size = E.N
  adf : a.defers = []
  hp : RelH (r.cut (naOf E rs (lastE eD))) (E.after rs (lastE eD)) w
  pend : ∀ q R B, Li listed q → rs.get q = some R → R.k = .alloc B → pendB E (lastE eD) q → ∃ b sz, r R.nb = some (b, sz) ∧ BR (r.cut R.na) w B b sz ∧ w0.heap.size ≤ b ∧ ∀ k D s, (E.after rs (lastE eD)).get k = some D → r k ≠ some (b, s)
  pinj : ∀ q R B q' R' B' b s s', Li listed q → rs.get q = some R → R.k = .alloc B → pendB E (lastE eD) q → Li listed q' → rs.get q' = some R' → R'.k = .alloc B' → pendB E (lastE eD) q' → r R.nb = some (b, s) → r R'.nb = some (b, s') → q = q'
  born : ∀ k x, r k = some x → k < E.s0.nx ∨ ∃ i R, Li listed i ∧ rs.get i = some R ∧ R.nb ≤ k ∧ k < R.na
  le0 : r0.le r
  low0 : ∀ k, k < E.s0.nx → r k = r0 k
  os : w.os = w0.os
  tape : w.tape = w0.tape
  output : w.output = w0.output
  wsz : w0.heap.size ≤ w.heap.size
  blk : ∀ b, b < w0.heap.size → (∀ k B s, E.s0.hp.get k = some B → r0 k ≠ some (b, s)) → w.heap[b]? = w0.heap[b]?
  own : ∀ k B b s, (E.after rs (lastE eD)).get k = some B → r k = some (b, s) → w0.heap.size ≤ b ∨ ∃ j D t, E.s0.hp.get j = some D ∧ r0 j = some (b, t)
theorem Li_set {listed : Array Bool} {i : Nat} (hi : i < listed.size) (j : Nat) : Li (listed.setIfInBounds i true) j ↔ j = i ∨ Li listed j := by
  unfold Li
  by_cases e : j = i
  · subst e
    simp [hi]
  · rw [Go.getD_set_ne false (Ne.symm e)]
    simp [e]
section
variable {E : Env} (h : EnvOk E) {rs : Tr Rec} {efs : List Nat} {nxE : Nat} (F : FxQ E E.ops.size rs efs nxE) {r0 : Nm} {w0 : World} {listed : Array Bool} {a : Act} {w : World} {r : Nm} {eD later : List Nat}
  (I : Inv E rs efs r0 w0 listed a w r eD later) {i : Nat} {o : Oper} {R : Rec} (ho : E.ops[i]? = some o) (hR : rs.get i = some R) (hn : ¬ Li listed i) (hed : ∀ e ∈ o.after.toList, Region.binds .any e = true → Li listed e.on)
include h F I ho hR hn hed
theorem slot_ok {t : Nat} {v : V} (e : E.slot rs i t = some v) : ∃ u, a.tmps[t]? = some u ∧ VR (r.cut R.nb) v u := by
  have hi := (Array.getElem?_eq_some_iff.1 ho).1
  obtain ⟨R', q1, _, q3, q4, q5⟩ := F.all i o hi ho
  rw [hR] at q1
  injection q1 with q1
  subst q1
  unfold Env.slot at e
  split at e
  · rename_i hw
    obtain ⟨u, h1, h2⟩ := I.fr0 t v e (fun j hj => by rw [hw] at hj; cases hj)
    exact ⟨u, h1, h2.mono (cut_le (Nm.le_refl r) q3)⟩
  · rename_i j hj
    split at e
    · rename_i ha
      split at e
      · rename_i S hS
        have hlj := closed_anc h (D := Li listed) I.clo i o ho hed j ha
        have hlt := isAnc_lt h i j hi ha
        obtain ⟨o', ho', hd⟩ := h.wr2 t j hj
        obtain ⟨u, h1, h2⟩ := I.frD j o' S v t hlj ho' hS e hd
        exact ⟨u, h1, h2.mono (cut_le (Nm.le_refl r) (F.ord j i S R hlt hi hS hR))⟩
      · cases e
    · split at e
      · rename_i ha
        have hnj : ¬ Li listed j := fun hlj => by
          obtain ⟨o', ho', _⟩ := h.wr2 t j hj
          exact hn (closed_anc h (D := Li listed) I.clo j o' ho' (I.clo j o' hlj ho') i ha)
        obtain ⟨u, h1, h2⟩ := I.fr0 t v e (fun j' hj' => by rw [hj] at hj'; injection hj' with hj'; subst hj'; exact hnj)
        exact ⟨u, h1, h2.mono (cut_le (Nm.le_refl r) q3)⟩
      · cases e
theorem ev_ok {x : Operand} {v : V} (e : E.ev rs i x = some v) : VR (r.cut R.nb) v (a.eval x) := by
  cases x with
  | tmp t =>
    obtain ⟨u, h1, h2⟩ := slot_ok h F I ho hR hn hed e
    show VR _ v (a.tmps.getD t undef)
    rw [Array.getD_eq_getD_getElem?, h1]
    exact h2
  | const u => exact vOf_ok e
  | func f =>
    injection e with e
    subst e
    exact .w (.c (.f f .nil .nil))
  | global g => cases e
theorem want_ok {b : Bool} (e : E.want rs i o = some b) : Region.wanted o (yielded E.ops a.tmps) = b := by
  unfold Env.want at e
  unfold Region.wanted
  split at e
  · rename_i hg; rw [hg]; injection e
  · rename_i j want hg
    rw [hg]
    simp only
    split at e
    · rename_i q hq
      split at e
      · rename_i t ht
        split at e
        · rename_i c hc
          injection e with e
          subst e
          obtain ⟨u, h1, h2⟩ := slot_ok h F I ho hR hn hed hc
          cases h2 with | w h2 => cases h2 with | c h2 => cases h2 with | b =>
          have : yielded E.ops a.tmps j = some c := by
            unfold yielded
            rw [hq]
            simp [ht, h1]
          rw [this]
          cases c <;> cases want <;> rfl
        · rename_i hc
          injection e with e
          subst e
          obtain ⟨u, h1, h2⟩ := slot_ok h F I ho hR hn hed hc
          cases h2 with | t h2 => cases h2 with | nil =>
          have : yielded E.ops a.tmps j = none := by
            unfold yielded
            rw [hq]
            simp [ht, h1]
          rw [this]
          cases want <;> rfl
        · cases e
      · cases e
    · cases e
theorem nb_fresh (hlt : R.nb < R.na) : ∀ k, R.nb ≤ k → k < R.na → r k = none := by
  have hi := (Array.getElem?_eq_some_iff.1 ho).1
  obtain ⟨R', q1, _, q3, q4, q5⟩ := F.all i o hi ho
  rw [hR] at q1
  injection q1 with q1
  subst q1
  intro k hk1 hk2
  cases hr : r k with
  | none => rfl
  | some x =>
    rcases I.born k x hr with hb | ⟨j, S, hlj, hS, hb1, hb2⟩
    · omega
    · have hj : j < E.ops.size := by
        have := I.size
        unfold Li at hlj
        rcases Nat.lt_or_ge j listed.size with h' | h'
        · omega
        · simp [Array.getElem?_eq_none h'] at hlj
      rcases Nat.lt_trichotomy j i with e | e | e
      · have := F.ord j i S R e hi hS hR; omega
      · subst e; exact absurd hlj hn
      · have := F.ord i j R S e hj hR hS; omega
/-- one more operation has run: the frame and what it leaves alone -/
theorem put_frame {s : Nm} (hs : r.le s) (hput : ∀ v t, R.v = some v → o.dst = some t → ∀ u, VR (s.cut R.na) v u → True) (u : Value) (hu : ∀ v, R.v = some v → VR (s.cut R.na) v u) :
    (∀ t v, E.s0.tm.get t = some v → (∀ j, E.wr.get t = some j → ¬ Li (listed.setIfInBounds i true) j) → ∃ x, (a.put o.dst u).tmps[t]? = some x ∧ VR (s.cut E.s0.nx) v x) ∧
    (∀ (j : Nat) (o' : Oper) (S : Rec) (v : V) (t : Nat), Li (listed.setIfInBounds i true) j → E.ops[j]? = some o' → rs.get j = some S → S.v = some v → o'.dst = some t → ∃ x, (a.put o.dst u).tmps[t]? = some x ∧ VR (s.cut S.na) v x) ∧
    (a.put o.dst u).tmps.size = E.N ∧ (a.put o.dst u).defers = [] := by
  have hi := (Array.getElem?_eq_some_iff.1 ho).1
  have hil : i < listed.size := by rw [I.size]; exact hi
  have other : ∀ t, o.dst ≠ some t → (a.put o.dst u).tmps[t]? = a.tmps[t]? := fun t ht => by
    cases hd : o.dst with
    | none => rfl
    | some d =>
      rw [hd] at ht
      show (a.tmps.setIfInBounds d u)[t]? = _
      rw [Array.getElem?_setIfInBounds_ne (fun e => ht (by rw [e]))]
  refine ⟨fun t v hv hj => ?_, fun j o' S v t hl ho' hS hv ht => ?_, ?_, ?_⟩
  · have hnt : o.dst ≠ some t := fun hd => hj i (h.wr1 i o t ho hd) ((Li_set hil i).2 (.inl rfl))
    obtain ⟨x, h1, h2⟩ := I.fr0 t v hv (fun j hwj hlj => hj j hwj ((Li_set hil j).2 (.inr hlj)))
    exact ⟨x, by rw [other t hnt]; exact h1, h2.mono (cut_le hs (Nat.le_refl _))⟩
  · by_cases e : j = i
    · subst e
      rw [ho] at ho'
      injection ho' with ho'
      subst ho'
      rw [hR] at hS
      injection hS with hS
      subst hS
      refine ⟨u, ?_, hu v hv⟩
      rw [ht]
      show (a.tmps.setIfInBounds t u)[t]? = _
      have := h.dst j o t ho ht
      simp [I.asz, this]
    · have hlj : Li listed j := ((Li_set hil j).1 hl).resolve_left e
      obtain ⟨x, h1, h2⟩ := I.frD j o' S v t hlj ho' hS hv ht
      have hnt : o.dst ≠ some t := fun hd => by
        have e1 := h.wr1 i o t ho hd
        have e2 := h.wr1 j o' t ho' ht
        rw [e1] at e2
        injection e2 with e2
        exact e e2.symm
      exact ⟨x, by rw [other t hnt]; exact h1, h2.mono (cut_le hs (Nat.le_refl _))⟩
  · cases hd : o.dst with
    | none => exact I.asz
    | some d => show (a.tmps.setIfInBounds d u).size = _; simp [I.asz]
  · cases hd : o.dst with
    | none => exact I.adf
    | some d => exact I.adf
theorem clo_set : ∀ j o', Li (listed.setIfInBounds i true) j → E.ops[j]? = some o' → ∀ e ∈ o'.after.toList, Region.binds .any e = true → Li (listed.setIfInBounds i true) e.on := by
  have hi := (Array.getElem?_eq_some_iff.1 ho).1
  have hil : i < listed.size := by rw [I.size]; exact hi
  intro j o' hl ho' e he hb
  rw [Li_set hil]
  right
  rcases (Li_set hil j).1 hl with rfl | hl
  · rw [ho] at ho'
    injection ho' with ho'
    subst ho'
    exact hed e he hb
  · exact I.clo j o' hl ho' e he hb
/-- an operation that touches no memory -/
theorem Inv.quiet (hk : ∀ B, R.k ≠ .alloc B) (hk2 : ∀ ha, R.k ≠ .eff ha) (u : Value) (hu : ∀ v, R.v = some v → VR (r.cut R.na) v u) : Inv E rs efs r0 w0 (listed.setIfInBounds i true) (a.put o.dst u) w r eD later := by
  have hi := (Array.getElem?_eq_some_iff.1 ho).1
  have hil : i < listed.size := by rw [I.size]; exact hi
  obtain ⟨f1, f2, f3, f4⟩ := put_frame h F I ho hR hn hed (Nm.le_refl r) (fun _ _ _ _ _ _ => trivial) u hu
  have back : ∀ q S B, Li (listed.setIfInBounds i true) q → rs.get q = some S → S.k = .alloc B → Li listed q := fun q S B hl hS hB => by
    rcases (Li_set hil q).1 hl with rfl | hl
    · rw [hR] at hS; injection hS with hS; subst hS; exact absurd hB (hk B)
    · exact hl
  refine ⟨by simpa using I.size, clo_set h F I ho hR hn hed, I.efs_eq, fun e he => (Li_set hil e).2 (.inr (I.eD_in e he)), fun e he hl => ?_, f1, f2, f3, f4, I.hp, fun q S B hl hS hB hp => I.pend q S B (back q S B hl hS hB) hS hB hp,
    fun q S B q' S' B' b s s' hl hS hB hp hl' hS' hB' hp' => I.pinj q S B q' S' B' b s s' (back q S B hl hS hB) hS hB hp (back q' S' B' hl' hS' hB') hS' hB' hp', fun k x hk => ?_, I.le0, I.low0, I.os, I.tape, I.output, I.wsz, I.blk, I.own⟩
  · rcases (Li_set hil e).1 hl with rfl | hl
    · obtain ⟨_, S, ha, hS, hSk⟩ := F.eff e (by rw [I.efs_eq]; exact List.mem_append_left _ he)
      rw [hR] at hS
      injection hS with hS
      subst hS
      exact hk2 ha hSk
    · exact I.later_out e he hl
  · rcases I.born k x hk with hb | ⟨j, S, hl, hS, hb⟩
    · exact .inl hb
    · exact .inr ⟨j, S, (Li_set hil j).2 (.inr hl), hS, hb⟩
end
end Go.Proofs.YtmlcfmickonfbaaGreat
end
section
set_option linter.unusedVariables false
set_option linter.unusedSimpArgs false
/- Running closed code: loads and what is made, in a drawn region. -/
namespace Go.Proofs.YtmlcfmickonfbaaGreat
open Go.RowKit
set_option linter.unusedVariables false
set_option linter.unusedSectionVars false

section
variable {r : Nm} {n : Nat}
theorem blt_of {k n : Nat} (h : Nat.blt k n = true) : k < n := by simpa [Nat.blt_eq] using h
theorem cut_at {k : Nat} {x : Nat × Nat} (h : r k = some x) (hk : Nat.blt k n = true) : (r.cut n) k = some x := by
  unfold Nm.cut
  rw [if_pos (blt_of hk)]
  exact h
theorem AR.cut {l : List (Nat × Nat)} {us : List Value} (h : AR r l us) : bdAs n l = true → AR (r.cut n) l us := by
  induction h with
  | nil => intro _; exact .nil
  | cons e _ ih =>
    intro hb
    simp only [bdAs, Bool.and_eq_true] at hb
    exact .cons (cut_at e hb.1) (ih hb.2)
theorem CR.cut {c : C} {v : Value} (h : CR r c v) (hb : bdC n c = true) : CR (r.cut n) c v := by
  induction h with
  | b => exact .b _
  | i => exact .i _ _
  | s => exact .s _
  | p0 => exact .p0
  | p e => exact .p (cut_at e hb)
  | l0 => exact .l0 _ _
  | l m c e => exact .l m c (cut_at e hb)
  | u m c es e h1 h2 h3 => exact .u m c es (cut_at e hb) h1 h2 h3
  | f fn ha hc =>
    simp only [bdC, Bool.and_eq_true] at hb
    exact .f fn (ha.cut hb.1) (hc.cut hb.2)
  | nf => exact .nf
  | ni => exact .ni
  | d t _ ih => exact .d t (ih hb)
  | da t _ ih => exact .da t (ih hb)
theorem CsR.cut {cs : List C} {vs : List Value} (h : CsR r cs vs) : bdCs n cs = true → CsR (r.cut n) cs vs := by
  induction h with
  | nil => intro _; exact .nil
  | cons e _ ih =>
    intro hb
    simp only [bdCs, Bool.and_eq_true] at hb
    exact .cons (e.cut hb.1) (ih hb.2)
theorem WR.cut {x : Wv} {v : Value} (h : WR r x v) (hb : bdW n x = true) : WR (r.cut n) x v := by
  cases h with
  | c e => exact .c (e.cut hb)
  | a e => exact .a (e.cut hb)
end
/-- what is known of the loads -/
def StabF (E : Env) (rs : Tr Rec) (efs : List Nat) : Prop := ∀ i o R, E.ops[i]? = some o → rs.get i = some R → R.k = .load →
  ∃ t x k off y, o.op = .load t x ∧ E.ev rs i x = some (.w (.c (.p (some (k, off))))) ∧ R.v = some (.w y) ∧ bdW R.nb y = true ∧ E.stable rs i k off t y efs = true
theorem stableAll_ok {E : Env} {rs : Tr Rec} {efs : List Nat} : ∀ (l : List Oper) (i : Nat), E.stableAll rs efs l i = true → ∀ k o R, l[k]? = some o → rs.get (i + k) = some R → R.k = .load →
    ∃ t x n off y, o.op = .load t x ∧ E.ev rs (i + k) x = some (.w (.c (.p (some (n, off))))) ∧ R.v = some (.w y) ∧ bdW R.nb y = true ∧ E.stable rs (i + k) n off t y efs = true
  | [], i, h, k, o, R, hk, _, _ => by simp at hk
  | o :: l, i, h, k, o', R, hk, hR, hL => by
    unfold Env.stableAll at h
    simp only [Bool.and_eq_true] at h
    cases k with
    | zero =>
      simp at hk
      subst hk
      rw [Nat.add_zero] at hR ⊢
      have h1 := h.1
      rw [hR] at h1
      obtain ⟨v, nb, na, kd⟩ := R
      simp only at hL
      subst hL
      split at h1
      · rename_i y nb' na' heq
        injection heq with heq
        injection heq with q1 q2 q3 q4
        subst q1 q2
        simp only [Bool.and_eq_true] at h1
        obtain ⟨hb, h1⟩ := h1
        split at h1
        · rename_i t x hop
          split at h1
          · rename_i n off hx
            exact ⟨t, x, n, off, y, hop, hx, rfl, hb, h1⟩
          · cases h1
        · cases h1
      · cases h1
      · rename_i _ hne
        exact absurd rfl (hne _ _ _)
    | succ k =>
      have := stableAll_ok l (i + 1) h.2 k o' R (by simpa using hk) (by rw [show i + 1 + k = i + (k + 1) by omega]; exact hR) hL
      rw [show i + (k + 1) = i + 1 + k by omega]
      exact this
theorem stable_at {E : Env} {rs : Tr Rec} {i k off t : Nat} {y : Wv} : ∀ (later eD : List Nat), E.stable rs i k off t y (later ++ eD) = true → (∀ e ∈ later, E.isAnc e i = false) → (∀ e, lastE eD = some e → E.isAnc i e = false) →
    ∃ B, E.find rs (lastE eD) i k i = some B ∧ opLoadB E.P B t off = some y
  | [], [], h, _, _ => by
    simp only [List.append_nil, Env.stable] at h
    split at h
    · rename_i B hB
      split at h
      · rename_i z hz; rw [eqWv_ok h] at hz; exact ⟨B, hB, hz⟩
      · cases h
    · cases h
  | [], e :: eD, h, _, h2 => by
    simp only [List.nil_append, Env.stable, Bool.and_eq_true, Bool.or_eq_true] at h
    rcases h.1 with h1 | h1
    · rw [h2 e rfl] at h1; cases h1
    · split at h1
      · rename_i B hB
        split at h1
        · rename_i z hz; rw [eqWv_ok h1] at hz; exact ⟨B, hB, hz⟩
        · cases h1
      · cases h1
  | e :: later, eD, h, h1, h2 => by
    simp only [List.cons_append, Env.stable, Bool.and_eq_true, Bool.or_eq_true] at h
    rcases h.2 with h3 | h3
    · rw [h1 e (by simp)] at h3; cases h3
    · exact stable_at later eD h3 (fun q hq => h1 q (by simp [hq])) h2
section
variable {E : Env} (h : EnvOk E) {rs : Tr Rec} {efs : List Nat} {nxE : Nat} (F : FxQ E E.ops.size rs efs nxE) {r0 : Nm} {w0 : World} {listed : Array Bool} {a : Act} {w : World} {r : Nm} {eD later : List Nat}
  (I : Inv E rs efs r0 w0 listed a w r eD later) {i : Nat} {o : Oper} {R : Rec} (ho : E.ops[i]? = some o) (hR : rs.get i = some R) (hn : ¬ Li listed i) (hed : ∀ e ∈ o.after.toList, Region.binds .any e = true → Li listed e.on)
include h F I ho hR hn hed
/-- a block that a load finds is there -/
theorem find_ok {k : Nat} {B : Bk} : ∀ (q : Nat), E.find rs (lastE eD) i k q = some B → ∃ b sz, r k = some (b, sz) ∧ BR r w B b sz
  | 0, e => by
    unfold Env.find at e
    obtain ⟨b, sz, h1, h2⟩ := I.hp.at_ k B e
    exact ⟨b, sz, cut_le_self _ _ _ _ h1, h2.mono (cut_le_self _ _)⟩
  | q + 1, e => by
    unfold Env.find at e
    split at e
    · rename_i B' hB'
      injection e with e
      subst e
      obtain ⟨b, sz, h1, h2⟩ := I.hp.at_ k _ hB'
      exact ⟨b, sz, cut_le_self _ _ _ _ h1, h2.mono (cut_le_self _ _)⟩
    · split at e
      · rename_i v nb na B' hq
        split at e
        · rename_i hc
          injection e with e
          subst e
          obtain ⟨rfl, ha, hp⟩ := hc
          have hlq := closed_anc h (D := Li listed) I.clo i o ho hed q ha
          obtain ⟨b, sz, h1, h2, _⟩ := I.pend q _ B' hlq hq rfl hp
          exact ⟨b, sz, h1, h2.mono (cut_le_self _ _)⟩
        · exact find_ok q e
      · exact find_ok q e
theorem load_ok (S : StabF E rs efs) (hk : R.k = .load) : ∃ t x u, o.op = .load t x ∧ (∀ v, R.v = some v → VR (r.cut R.na) v u) ∧ (execOp a.eval o).run E.P w = .ok (.value u) w := by
  have hi := (Array.getElem?_eq_some_iff.1 ho).1
  obtain ⟨t, x, k, off, y, hop, hx, hv, hb, hst⟩ := S i o R ho hR hk
  rw [I.efs_eq] at hst
  obtain ⟨B, hB, hy⟩ := stable_at later eD hst (fun e he => by
    cases hc : E.isAnc e i with
    | false => rfl
    | true => exact absurd (closed_anc h (D := Li listed) I.clo i o ho hed e hc) (I.later_out e he)) (fun e he => by
    cases hc : E.isAnc i e with
    | false => rfl
    | true =>
      have hle : Li listed e := I.eD_in e (by cases eD with | nil => cases he | cons q l => injection he with he; subst he; simp)
      have hes : e < E.ops.size := (F.eff e (by rw [I.efs_eq]; refine List.mem_append_right _ ?_; cases eD with | nil => cases he | cons q l => injection he with he; subst he; simp)).1
      have hoe : E.ops[e]? = some E.ops[e] := Array.getElem?_eq_getElem hes
      exact absurd (closed_anc h (D := Li listed) I.clo e _ hoe (I.clo e _ hle hoe) i hc) hn)
  obtain ⟨b, sz, rk, hBR⟩ := find_ok h F I ho hR hn hed i hB
  obtain ⟨u, hu, hrun⟩ := opLoadB_ok (P := E.P) hBR hy
  have hxv := ev_ok h F I ho hR hn hed hx
  have hp : a.eval x = ptrOf b off := by
    generalize a.eval x = z at hxv
    cases hxv with | w hxv => cases hxv with | c hxv => cases hxv with | p rk' =>
      have := cut_le_self _ _ _ _ rk'
      rw [rk] at this; injection this with this; injection this with e1 e2; subst e1; rfl
  obtain ⟨R', q1, q2, q3, q4, q5⟩ := F.all i o hi ho
  rw [hR] at q1
  injection q1 with q1
  subst q1
  refine ⟨t, x, u, hop, fun v hv' => ?_, ?_⟩
  · rw [hv] at hv'
    injection hv' with hv'
    subst hv'
    exact .w ((hu.cut hb).mono (cut_le (Nm.le_refl r) q4))
  · unfold execOp
    rw [hop]
    simp only [Sem.run_bind, hp, hrun, Result.andThen_ok, Sem.run_pure]
end
end Go.Proofs.YtmlcfmickonfbaaGreat
end
section
set_option linter.unusedVariables false
set_option linter.unusedSimpArgs false
/- Running closed code: what is made, and effects, in a drawn region. -/
namespace Go.Proofs.YtmlcfmickonfbaaGreat
open Go.RowKit
set_option linter.unusedVariables false
set_option linter.unusedSectionVars false

theorem edgesB_sup {anc : Tr Nat} {i : Nat} : ∀ (l : List Edge) (a : Nat), edgesB l anc i = some a → ∀ e ∈ l, Region.binds .any e = true → a.testBit e.on = true ∧ ∀ b, anc.get e.on = some b → ∀ j, b.testBit j = true → a.testBit j = true
  | [], a, h, e, he, _ => by simp at he
  | e0 :: l, a, h, e, he, hb => by
    unfold edgesB at h
    split at h
    · cases h
    · rename_i s hs
      split at h
      · rename_i hb0
        split at h
        · rename_i hlt
          split at h
          · rename_i b0 hbb
            injection h with h
            subst h
            have tb : ∀ j, Nat.testBit (Nat.lor (Nat.lor s (Nat.shiftLeft 1 e0.on)) b0) j = (s.testBit j || (1 <<< e0.on).testBit j || b0.testBit j) := fun j => by
              show ((s ||| (1 <<< e0.on)) ||| b0).testBit j = _
              rw [Nat.testBit_or, Nat.testBit_or]
            rcases List.mem_cons.1 he with rfl | he
            · refine ⟨?_, fun b hb2 j hj => ?_⟩
              · rw [tb, Nat.testBit_shiftLeft]; simp
              · rw [hbb] at hb2; injection hb2 with hb2; subst hb2; rw [tb, hj]; simp
            · obtain ⟨h1, h2⟩ := edgesB_sup l s hs e he hb
              refine ⟨by rw [tb, h1]; simp, fun b hb2 j hj => ?_⟩
              rw [tb, h2 b hb2 j hj]; simp
          · cases h
        · cases h
      · rename_i hb0
        injection h with h
        subst h
        rcases List.mem_cons.1 he with rfl | he
        · exact absurd hb hb0
        · exact edgesB_sup l s hs e he hb
section
variable {E : Env} (h : EnvOk E)
include h
theorem isAnc_trans : ∀ (i j k : Nat), i < E.ops.size → E.isAnc j i = true → E.isAnc k j = true → E.isAnc k i = true := by
  intro i
  induction i using Nat.strongRecOn with
  | _ i ih =>
    intro j k hi hj hk
    obtain ⟨o, a, ho, ha, hb, hjb⟩ := isAnc_def h hj hi
    obtain ⟨ed, hmem, hbind, hlt, hx⟩ := edgesB_ok _ _ hb j hjb
    obtain ⟨_, h2⟩ := edgesB_sup _ _ hb ed hmem hbind
    have key : E.isAnc k ed.on = true := by
      rcases hx with rfl | ⟨b, hbb, hbj⟩
      · exact hk
      · exact ih ed.on hlt j k (by omega) (by unfold Env.isAnc; rw [hbb]; exact hbj) hk
    have key2 := key
    unfold Env.isAnc at key2
    split at key2
    · rename_i b hbb
      unfold Env.isAnc
      rw [ha]
      exact h2 b hbb k key2
    · cases key2
variable {n : Nat} {rs : Tr Rec} {efs : List Nat} {nx : Nat} (F : FxQ E E.ops.size rs efs nx)
include F
theorem suffix_uniq {e : Nat} {l l' : List Nat} (h1 : (e :: l) <:+ efs) (h2 : (e :: l') <:+ efs) : l = l' := by
  have nd : ∀ {x y : List Nat}, (e :: x) <:+ efs → (e :: y) <:+ (e :: x) → x = y := fun {x y} hx hy => by
    rcases List.suffix_cons_iff.1 hy with e1 | e1
    · injection e1 with _ e1; exact e1.symm
    · have hp : List.Pairwise (· > ·) (e :: x) := F.dec.sublist hx.sublist
      have hm : e ∈ x := e1.subset (by simp)
      exact absurd ((List.pairwise_cons.1 hp).1 e hm) (by omega)
  rcases List.suffix_or_suffix_of_suffix h1 h2 with k | k
  · exact (nd h2 k).symm
  · exact nd h1 k
theorem eff_chain {e : Nat} {l : List Nat} (hs : (e :: l) <:+ efs) : ∀ x, lastE l = some x → E.isAnc x e = true := by
  obtain ⟨hlt, R, ha, hR, hk⟩ := F.eff e (hs.subset (by simp))
  obtain ⟨R', q1, q2, _⟩ := F.all e _ hlt (Array.getElem?_eq_getElem hlt)
  rw [hR] at q1
  injection q1 with q1
  subst q1
  unfold OpF at q2
  rw [hk] at q2
  obtain ⟨_, rest, k2, k3, _⟩ := q2
  rw [suffix_uniq h F hs k2]
  exact k3
theorem chain_listed {D : Nat → Prop} (hD : ∀ i j, i < E.ops.size → D i → E.isAnc j i = true → D j) : ∀ (l : List Nat) (e : Nat), (e :: l) <:+ efs → (∀ j, E.isAnc j e = true → D j) → ∀ x ∈ l, D x
  | [], e, _, _, x, hx => by simp at hx
  | y :: l, e, hs, ha, x, hx => by
    have hy := ha y (eff_chain h F hs y rfl)
    have hs' : (y :: l) <:+ efs := (List.suffix_cons e _).trans hs
    rcases List.mem_cons.1 hx with rfl | hx
    · exact hy
    · exact chain_listed hD l y hs' (fun j hj => hD y j (F.eff y (hs'.subset (by simp))).1 hy hj) x hx
end
theorem RelH.keepW {r : Nm} {H : Hp} {w w' : World} (h : RelH r H w) (k : ∀ j B b s, H.get j = some B → r j = some (b, s) → w'.heap[b]? = w.heap[b]?) : RelH r H w' := by
  refine ⟨fun j D hj => ?_, h.inj⟩
  obtain ⟨b, sz, h1, h2⟩ := h.at_ j D hj
  exact ⟨b, sz, h1, h2.keep (k j D b sz hj h1)⟩
section
variable {E : Env} (h : EnvOk E) {rs : Tr Rec} {efs : List Nat} {nxE : Nat} (F : FxQ E E.ops.size rs efs nxE) {r0 : Nm} {w0 : World} {listed : Array Bool} {a : Act} {w : World} {r : Nm} {eD later : List Nat}
  (I : Inv E rs efs r0 w0 listed a w r eD later) {i : Nat} {o : Oper} {R : Rec} (ho : E.ops[i]? = some o) (hR : rs.get i = some R) (hn : ¬ Li listed i) (hed : ∀ e ∈ o.after.toList, Region.binds .any e = true → Li listed e.on)
include h F I ho hR hn hed
theorem after_at {k : Nat} {B : Bk} (e : (E.after rs (lastE eD)).get k = some B) : ∃ b sz, r k = some (b, sz) ∧ BR (r.cut (naOf E rs (lastE eD))) w B b sz ∧ b < w.heap.size := by
  obtain ⟨b, sz, h1, h2⟩ := I.hp.at_ k B e
  exact ⟨b, sz, cut_le_self _ _ _ _ h1, h2, h2.lt⟩
/-- an operation that makes a block -/
theorem Inv.make {B : Bk} (hk : R.k = .alloc B) (hna : R.na = R.nb + 1) {cs : Array Value} (hB : BR (r.cut R.nb) (w.alloc (.cells cs B.e)) B w.heap.size cs.size) (u : Value)
    (hu : ∀ v, R.v = some v → VR ((r.add R.nb (w.heap.size, cs.size)).cut R.na) v u) : Inv E rs efs r0 w0 (listed.setIfInBounds i true) (a.put o.dst u) (w.alloc (.cells cs B.e)) (r.add R.nb (w.heap.size, cs.size)) eD later := by
  have hi := (Array.getElem?_eq_some_iff.1 ho).1
  have hil : i < listed.size := by rw [I.size]; exact hi
  have lo0 : E.s0.nx ≤ R.nb := by
    obtain ⟨R', q1, q2, q3, q4, q5⟩ := F.all i o hi ho
    rw [hR] at q1
    injection q1 with q1
    subst q1
    exact q3
  have hnone : r R.nb = none := nb_fresh h F I ho hR hn hed (by omega) R.nb (Nat.le_refl _) (by omega)
  have hle := Nm.le_add hnone (w.heap.size, cs.size)
  obtain ⟨f1, f2, f3, f4⟩ := put_frame h F I ho hR hn hed hle (fun _ _ _ _ _ _ => trivial) u hu
  have back : ∀ {q : Nat}, Li (listed.setIfInBounds i true) q → q ≠ i → Li listed q := fun {q} hl hq => ((Li_set hil q).1 hl).resolve_left hq
  have recI : ∀ {S : Rec}, rs.get i = some S → S = R := fun {S} hS => by rw [hR] at hS; injection hS with hS; exact hS.symm
  have old : ∀ b, b < w.heap.size → (w.alloc (.cells cs B.e)).heap[b]? = w.heap[b]? := fun b hb => heap_alloc_old w _ hb
  have radd : ∀ k, k ≠ R.nb → (r.add R.nb (w.heap.size, cs.size)) k = r k := fun k hk => by unfold Nm.add; rw [if_neg hk]
  have kne : ∀ {k : Nat} {x : Nat × Nat}, r k = some x → k ≠ R.nb := fun {k x} hx e => by subst e; rw [hnone] at hx; cases hx
  have pold : ∀ q S D, Li (listed.setIfInBounds i true) q → q ≠ i → rs.get q = some S → S.k = .alloc D → pendB E (lastE eD) q → ∃ b sz, (r.add R.nb (w.heap.size, cs.size)) S.nb = r S.nb ∧ r S.nb = some (b, sz) ∧ BR (r.cut S.na) w D b sz ∧ w0.heap.size ≤ b ∧ ∀ k D s, (E.after rs (lastE eD)).get k = some D → r k ≠ some (b, s) := fun q S D hl hq hS hD hp => by
    obtain ⟨b, sz, p1, p2, p3, p4⟩ := I.pend q S D (back hl hq) hS hD hp
    exact ⟨b, sz, radd _ (kne p1), p1, p2, p3, p4⟩
  refine ⟨by simpa using I.size, clo_set h F I ho hR hn hed, I.efs_eq, fun e he => (Li_set hil e).2 (.inr (I.eD_in e he)), fun e he hl => ?_, f1, f2, f3, f4,
    (I.hp.mono (cut_le hle (Nat.le_refl _))).keepW (w := w) (fun j D b s hj hr => old b ?_), fun q S D hl hS hD hp => ?_, fun q S D q' S' D' b s s' hl hS hD hp hl' hS' hD' hp' hb hb' => ?_, fun k x hk' => ?_, Nm.le_trans I.le0 hle, fun k hk' => (radd k (by have := lo0; omega)).trans (I.low0 k hk'), I.os, I.tape, I.output,
    Nat.le_trans I.wsz (by simp), fun b hb hno => (old b (Nat.lt_of_lt_of_le hb I.wsz)).trans (I.blk b hb hno), fun k D b s hk' hr => ?_⟩
  · rcases (Li_set hil e).1 hl with rfl | hl
    · obtain ⟨_, S, ha, hS, hSk⟩ := F.eff e (by rw [I.efs_eq]; exact List.mem_append_left _ he)
      rw [recI hS, hk] at hSk
      cases hSk
    · exact I.later_out e he hl
  · obtain ⟨b', s', h1, _, h3⟩ := after_at h F I ho hR hn hed hj
    have := cut_le_self _ _ _ _ hr
    rw [hle _ _ h1] at this
    injection this with this
    injection this with e1 _
    omega
  · by_cases hq : q = i
    · subst hq
      have := recI hS
      subst this
      rw [hk] at hD
      injection hD with hD
      subst hD
      refine ⟨_, _, Nm.add_at _ _ _, hB.mono (cut_le hle (by omega)), I.wsz, fun k D' s hk' hr => ?_⟩
      obtain ⟨b', s', h1, _, h3⟩ := after_at h F I ho hR hn hed hk'
      rw [hle _ _ h1] at hr
      injection hr with hr
      injection hr with e1 _
      omega
    · obtain ⟨b, sz, p0, p1, p2, p3, p4⟩ := pold q S D hl hq hS hD hp
      refine ⟨b, sz, by rw [p0]; exact p1, (p2.mono (cut_le hle (Nat.le_refl _))).keep (old b p2.lt), p3, fun k D' s hk' hr => ?_⟩
      obtain ⟨b', s', h1, _, h3⟩ := after_at h F I ho hR hn hed hk'
      rw [radd k (kne h1)] at hr
      exact p4 k D' s hk' hr
  · by_cases hq : q = i <;> by_cases hq' : q' = i
    · rw [hq, hq']
    · subst hq
      have := recI hS
      subst this
      obtain ⟨c, sz, p0, p1, p2, _⟩ := pold q' S' D' hl' hq' hS' hD' hp'
      rw [p0, p1] at hb'
      rw [Nm.add_at] at hb
      injection hb with hb; injection hb with e1 _
      injection hb' with hb'; injection hb' with e2 _
      have := p2.lt
      omega
    · subst hq'
      have := recI hS'
      subst this
      obtain ⟨c, sz, p0, p1, p2, _⟩ := pold q S D hl hq hS hD hp
      rw [p0, p1] at hb
      rw [Nm.add_at] at hb'
      injection hb with hb; injection hb with e1 _
      injection hb' with hb'; injection hb' with e2 _
      have := p2.lt
      omega
    · obtain ⟨c, sz, p0, _⟩ := pold q S D hl hq hS hD hp
      obtain ⟨c', sz', p0', _⟩ := pold q' S' D' hl' hq' hS' hD' hp'
      rw [p0] at hb
      rw [p0'] at hb'
      exact I.pinj q S D q' S' D' b s s' (back hl hq) hS hD hp (back hl' hq') hS' hD' hp' hb hb'
  · by_cases e : k = R.nb
    · exact .inr ⟨i, R, (Li_set hil i).2 (.inl rfl), hR, by omega, by omega⟩
    · rw [radd k e] at hk'
      rcases I.born k x hk' with hb | ⟨j, S, hl, hS, hb⟩
      · exact .inl hb
      · exact .inr ⟨j, S, (Li_set hil j).2 (.inr hl), hS, hb⟩
  · obtain ⟨b', s', h1, _, h3⟩ := after_at h F I ho hR hn hed hk'
    rw [radd k (kne h1)] at hr
    exact I.own k D b s hk' hr
end
end Go.Proofs.YtmlcfmickonfbaaGreat
end
