/- Joined: Fp2, Ev1, Fp3, Fp7, Fp8. -/
import Derived.Maps.OwnSet
import Derived.Maps.OwnOps
import Derived.Test.YtagajjilccjplaaGreatMgFamilyPasses1
import Derived.Test.YtagajjilccjplaaGreatMgFamilyPasses12
section
set_option linter.unusedVariables false
set_option linter.unusedSimpArgs false
/- FamilyPasses, plain: a round of the one that passes. No program in sight. -/
namespace Go.Proofs.YtagajjilccjplaaGreat
open Go Go.RowKit

section
variable {b k ta ga w : Int} {st : Co}
theorem round45 (hk : IntKind.i64.wrap (k + 1) = k + 1) (h : S45 st [⟨2, 0, 0, 0⟩, ⟨0, ta, 0, 0⟩] [⟨0, 0, 0, 0⟩, ⟨0, ga, 0, 0⟩] [[⟨10, 0, 0, 0⟩], [⟨0, 0, 0, 0⟩]] [k, k, 1, 0, 1, 0, 0, 0, w, 0]) :
    S45 ((roundL b).foldl (actD (c45 b)) st) [⟨2, 0, 0, 0⟩, ⟨0, 1, 0, 0⟩] [⟨0, 0, 0, 0⟩, ⟨0, k, 0, 0⟩] [[⟨10, 0, 0, 0⟩], [⟨0, 0, 0, 0⟩]] [k + 1, k + 1, 1, 0, 1, 0, 0, 0, 1, 0] := by
  have h9 := fpR9 (b := b) (fpR8 (b := b) (fpR7 (b := b) (fpR6 (b := b) hk (fpR5 (b := b) (fpR4 (b := b) (fpR3 (b := b) (fpR2 (b := b) (fpR1 (b := b) h))))))))
  by_cases hb : b < 1
  · have e : outN b = 5 := by unfold outN; rw [if_neg (by omega)]
    have hl : roundL b = [(1, 1), (1, 0), (1, 0), (1, 0), (1, 0), (1, 0), (1, 0), (1, 0), (1, 2), (1, 0), (1, 0), (1, 0), (1, 0), (1, 0)] := by unfold roundL; rw [e]; rfl
    rw [hl]
    have q := fpQ4 (b := b) (fpQ3 (b := b) (fpQ2 (b := b) (fpQ1 (b := b) (fpN1 hb h9))))
    simp only [List.foldl_cons, List.foldl_nil]
    exact q
  · have e : outN b = 6 := by unfold outN; rw [if_pos (by omega)]
    have hl : roundL b = [(1, 1), (1, 0), (1, 0), (1, 0), (1, 0), (1, 0), (1, 0), (1, 0), (1, 2), (1, 0), (1, 0), (1, 0), (1, 0), (1, 0), (1, 0)] := by unfold roundL; rw [e]; rfl
    rw [hl]
    have q := fpQ4 (b := b) (fpQ3 (b := b) (fpQ2 (b := b) (fpQ1 (b := b) (fpO2 (b := b) (fpO1 hb h9)))))
    simp only [List.foldl_cons, List.foldl_nil]
    exact q
theorem end45 (hk : IntKind.i64.wrap (k + 1) = k + 1) (h : S45 st [⟨2, 0, 0, 0⟩, ⟨0, ta, 0, 0⟩] [⟨0, 0, 0, 0⟩, ⟨0, ga, 0, 0⟩] [[⟨10, 0, 0, 0⟩], [⟨0, 0, 0, 0⟩]] [k, k, 1, 0, 1, 0, 0, 0, w, 0]) :
    S45 ((addL 0 0 4).foldl (actD (c45 b)) st) [⟨10, 1, 0, 0⟩, ⟨0, ta, 0, 0⟩] [⟨10, k, 0, 0⟩, ⟨0, ga, 0, 0⟩] [[⟨10, 0, 0, 0⟩], [⟨0, 0, 0, 0⟩]] [k + 1, k, 1, 0, 1, 1, 0, 0, w, 0] :=
  fpE4 (fpE3 (fpE2 hk (fpE1 h)))
/-- behind k rounds -/
theorem rounds45 (b : Int) : ∀ m : Nat, m ≤ 1000 → ∃ ta ga w : Int, S45 ((partL b m).foldl (actD (c45 b)) st45) [⟨2, 0, 0, 0⟩, ⟨0, ta, 0, 0⟩] [⟨0, 0, 0, 0⟩, ⟨0, ga, 0, 0⟩] [[⟨10, 0, 0, 0⟩], [⟨0, 0, 0, 0⟩]] [(m : Int), (m : Int), 1, 0, 1, 0, 0, 0, w, 0]
  | 0, _ => ⟨0, 0, 0, by kernel_rfl, by kernel_rfl, by kernel_rfl, by kernel_rfl⟩
  | m + 1, hm => by
    obtain ⟨ta, ga, w, h⟩ := rounds45 b m (by omega)
    have r := round45 (b := b) (IntWalk.i64_in _ (by omega)) h
    refine ⟨1, m, 1, ?_⟩
    rw [show partL b (m + 1) = partL b m ++ roundL b by unfold partL; rw [List.replicate_succ', List.flatten_append, List.append_assoc]; simp, List.foldl_append, show ((m + 1 : Nat) : Int) = (m : Int) + 1 by omega]
    exact r
end
end Go.Proofs.YtagajjilccjplaaGreat
end
section
set_option linter.unusedVariables false
set_option linter.unusedSimpArgs false
/- Events and stays as plain data, and how a tally's round turns them. No program in sight. -/
namespace Go.Proofs.YtagajjilccjplaaGreat
open Go.RowKit Go.Maps

structure Ev where
  kind : Int
  thread : Int
  read : Bool
  count : Int
structure Stay where
  thread : Int
  read : Bool
  ask : Int
  enter : Int
  exit : Int
  rest : Int
  count : Int
instance : DecidableEq Ev := fun a b => decidable_of_iff (a.kind = b.kind ∧ a.thread = b.thread ∧ a.read = b.read ∧ a.count = b.count) (by cases a; cases b; simp)
instance : DecidableEq Stay := fun a b => decidable_of_iff (a.thread = b.thread ∧ a.read = b.read ∧ a.ask = b.ask ∧ a.enter = b.enter ∧ a.exit = b.exit ∧ a.rest = b.rest ∧ a.count = b.count) (by cases a; cases b; simp)

def encE (e : Ev) : List Value := [.int .i64 e.kind, .int .i64 e.thread, .bool e.read, .int .i64 e.count]
def encS (s : Stay) : List Value := [.int .i64 s.thread, .bool s.read, .int .i64 s.ask, .int .i64 s.enter, .int .i64 s.exit, .int .i64 s.rest, .int .i64 s.count]
theorem encE_len (e : Ev) : (encE e).length = 4 := rfl
theorem encS_len (s : Stay) : (encS s).length = 7 := rfl
theorem encS_one (s : Stay) : ∀ u ∈ encS s, u.oneCell' = true := by
  intro u hu; simp [encS] at hu; rcases hu with rfl | rfl | rfl | rfl | rfl | rfl | rfl <;> rfl
theorem encE_one (s : Ev) : ∀ u ∈ encE s, u.oneCell' = true := by
  intro u hu; simp [encE] at hu; rcases hu with rfl | rfl | rfl | rfl <;> rfl

/-- one cell of one element of a row written -/
theorem flatMap_set {α : Type} (enc : α → List Value) (sz : Nat) (hs : ∀ x, (enc x).length = sz) (l : List α) :
    ∀ k x x' j u, l[k]? = some x → j < sz → (enc x).set j u = enc x' → (l.flatMap enc).set (k * sz + j) u = (l.set k x').flatMap enc := by
  induction l with
  | nil => intro k x x' j u h; simp at h
  | cons a l ih =>
    intro k x x' j u h hj he
    cases k with
    | zero =>
      simp at h; subst h
      rw [List.set_cons_zero, List.flatMap_cons, List.flatMap_cons, List.set_append_left _ _ (by rw [hs]; omega)]
      simp [he]
    | succ k =>
      rw [List.set_cons_succ, List.flatMap_cons, List.flatMap_cons, List.set_append_right _ _ (by rw [hs, Nat.succ_mul]; omega), hs]
      have : (k + 1) * sz + j - sz = k * sz + j := by rw [Nat.succ_mul]; omega
      rw [this, ih k x x' j u (by simpa using h) hj he]

def noteOk (s : Stay) (e : Ev) : Bool := decide ((e.kind = 2 ∧ s.enter < 0) ∨ (e.kind = 3 ∧ 0 ≤ s.enter ∧ s.exit < 0) ∨ (e.kind = 4 ∧ 0 ≤ s.exit))
def noteS (s : Stay) (k : Int) (e : Ev) : Stay :=
  if e.kind = 2 ∧ s.enter < 0 then { s with enter := k, count := e.count }
  else if e.kind = 3 ∧ 0 ≤ s.enter ∧ s.exit < 0 then { s with exit := k }
  else if e.kind = 4 ∧ 0 ≤ s.exit then { s with rest := k } else s
def newS (k : Int) (e : Ev) : Stay := { thread := e.thread, read := e.read, ask := k, enter := -1, exit := -1, rest := -1, count := 0 }
def actS (t : Int) (s : Stay) : Bool := decide (s.thread = t ∧ s.rest < 0)
def openOf (out : List Stay) (t : Int) : Option Nat := out.findIdx? (actS t)
def tstep (out : List Stay) (k : Int) (e : Ev) : List Stay :=
  match openOf out e.thread with
  | none => if e.kind = 1 then out ++ [newS k e] else out
  | some i => match out[i]? with
    | some s => out.set i (noteS s k e)
    | none => out
def tallyTo (l : List Ev) : Nat → List Stay
  | 0 => []
  | k + 1 => match l[k]? with
    | some e => tstep (tallyTo l k) k e
    | none => tallyTo l k
def tallyL (l : List Ev) : List Stay := tallyTo l l.length

def Uniq (out : List Stay) : Prop := ∀ (i j : Nat) (a b : Stay), out[i]? = some a → out[j]? = some b → a.thread = b.thread → a.rest < 0 → b.rest < 0 → i = j
theorem uniq_nil : Uniq [] := by intro i j a b h; simp at h
theorem openOf_some {out : List Stay} {t : Int} {i : Nat} {s : Stay} (hu : Uniq out) (h : out[i]? = some s) (ht : s.thread = t) (hr : s.rest < 0) : openOf out t = some i := by
  unfold openOf
  have hi : i < out.length := (List.getElem?_eq_some_iff.1 h).1
  rw [List.findIdx?_eq_some_iff_getElem]
  have hs : out[i] = s := (List.getElem?_eq_some_iff.1 h).2
  refine ⟨hi, by simp [actS, hs, ht, hr], fun j hj => ?_⟩
  intro hc
  simp only [actS, decide_eq_true_eq] at hc
  have := hu j i out[j] s (List.getElem?_eq_getElem (by omega)) h (by rw [hc.1, ht]) hc.2 hr
  omega
theorem openOf_none {out : List Stay} {t : Int} (h : ∀ (i : Nat) (s : Stay), out[i]? = some s → s.thread = t → ¬ s.rest < 0) : openOf out t = none := by
  unfold openOf
  rw [List.findIdx?_eq_none_iff]
  intro s hs
  obtain ⟨i, hi⟩ := List.getElem?_of_mem hs
  simp only [actS, decide_eq_false_iff_not]
  rintro ⟨a, b⟩
  exact h i s hi a b

def keyI (t : Int) : Lit := .int .i64 t
def MapIs (D : DataW Unit) (out : List Stay) : Prop :=
  IsMap D ∧ Uniq out ∧ ∀ t, (Maps.has D (keyI t) = true → ∃ (k : Nat) (s : Stay), out[k]? = some s ∧ s.thread = t ∧ s.rest < 0 ∧ D.atKey (keyI t) (.lit (.int .i64 0)) = .lit (.int .i64 (k : Int))) ∧
    (Maps.has D (keyI t) = false → ∀ (k : Nat) (s : Stay), out[k]? = some s → s.thread = t → ¬ s.rest < 0)
theorem mapIs_nil : MapIs (.map []) [] := by
  refine ⟨isMap_empty, uniq_nil, fun t => ⟨fun h => by simp [Maps.has] at h, fun _ k s h => by simp at h⟩⟩
theorem keyI_ne {a b : Int} (h : a ≠ b) : keyI a ≠ keyI b := by
  intro he; exact h (by injection he)

theorem getElem?_snoc {α : Type} (l : List α) (x : α) (i : Nat) : (l ++ [x])[i]? = if i < l.length then l[i]? else if i = l.length then some x else none := by
  split
  · rw [List.getElem?_append_left (by omega)]
  · split
    · subst i; simp
    · rw [List.getElem?_eq_none]; simp; omega

theorem mapIs_ask {D : DataW Unit} {out : List Stay} {e : Ev} {k : Int} (h : MapIs D out) (hn : Maps.has D (keyI e.thread) = false) (hk : e.kind = 1) :
    tstep out k e = out ++ [newS k e] ∧ MapIs (D.put (keyI e.thread) (.lit (.int .i64 (out.length : Int)))) (out ++ [newS k e]) := by
  obtain ⟨hm, hu, hD⟩ := h
  have h0 := (hD e.thread).2 hn
  refine ⟨by unfold tstep; rw [openOf_none h0]; simp [hk], hm.put _ _, ?_, fun t => ?_⟩
  · intro i j a b ha hb hab hra hrb
    rw [getElem?_snoc] at ha hb
    split at ha <;> split at hb
    · exact hu i j a b ha hb hab hra hrb
    · split at hb
      · simp at hb; subst hb
        exact absurd hra (h0 i a ha hab)
      · cases hb
    · split at ha
      · simp at ha; subst ha
        exact absurd hrb (h0 j b hb hab.symm)
      · cases ha
    · split at ha
      · split at hb
        · omega
        · cases hb
      · cases ha
  · by_cases ht : t = e.thread
    · subst ht
      refine ⟨fun _ => ⟨out.length, newS k e, by simp, rfl, by simp [newS], atKey_put_same hm (by trivial) _ _⟩, fun hf => ?_⟩
      rw [has_put_same hm (by trivial)] at hf
      cases hf
    · rw [has_put_other (keyI_ne ht), atKey_put_other (keyI_ne ht)]
      refine ⟨fun hh => ?_, fun hh i s hs hst => ?_⟩
      · obtain ⟨i, s, hs, r⟩ := (hD t).1 hh
        refine ⟨i, s, ?_, r⟩
        rw [getElem?_snoc, if_pos (List.getElem?_eq_some_iff.1 hs).1]; exact hs
      · rw [getElem?_snoc] at hs
        split at hs
        · exact (hD t).2 hh i s hs hst
        · split at hs
          · simp at hs; subst hs; exact absurd hst.symm ht
          · cases hs
theorem mapIs_skip {D : DataW Unit} {out : List Stay} {e : Ev} {k : Int} (h : MapIs D out) (hn : Maps.has D (keyI e.thread) = false) (hk : ¬ e.kind = 1) : tstep out k e = out := by
  unfold tstep; rw [openOf_none ((h.2.2 e.thread).2 hn)]; simp [hk]

theorem noteS_thread (s : Stay) (k : Int) (e : Ev) : (noteS s k e).thread = s.thread := by unfold noteS; split <;> (try split) <;> (try split) <;> rfl
theorem noteS_rest (s : Stay) (k : Int) (e : Ev) (h : noteOk s e = false ∨ ¬ e.kind = 4) : (noteS s k e).rest = s.rest := by
  unfold noteS
  split
  · rfl
  · split
    · rfl
    · split
      · rename_i h1 h2 h3
        rcases h with h | h
        · simp [noteOk] at h; omega
        · omega
      · rfl
theorem noteS_done (s : Stay) (k : Int) (e : Ev) (h : noteOk s e = true) (h4 : e.kind = 4) : noteS s k e = { s with rest := k } := by
  unfold noteS noteOk at *
  simp only [decide_eq_true_eq] at h
  rw [if_neg (by omega), if_neg (by omega), if_pos (by omega)]

theorem mapIs_note {D : DataW Unit} {out : List Stay} {e : Ev} {k : Int} {i : Nat} {s : Stay} (h : MapIs D out) (hs : out[i]? = some s) (ht : s.thread = e.thread) (hr : s.rest < 0)
    (hno : noteOk s e = false ∨ ¬ e.kind = 4) : tstep out k e = out.set i (noteS s k e) ∧ MapIs D (out.set i (noteS s k e)) := by
  obtain ⟨hm, hu, hD⟩ := h
  have hi : i < out.length := (List.getElem?_eq_some_iff.1 hs).1
  have hsi : out[i] = s := (List.getElem?_eq_some_iff.1 hs).2
  have hget : ∀ (j : Nat) (a : Stay), (out.set i (noteS s k e))[j]? = some a → ∃ b, out[j]? = some b ∧ a.thread = b.thread ∧ a.rest = b.rest := by
    intro j a ha
    rw [List.getElem?_set] at ha
    split at ha
    · rename_i hij; subst hij
      injection ha with ha; subst ha
      exact ⟨s, hs, noteS_thread s k e, noteS_rest s k e hno⟩
    · exact ⟨a, ha, rfl, rfl⟩
  have hput : ∀ (j : Nat) (b : Stay), out[j]? = some b → ∃ a, (out.set i (noteS s k e))[j]? = some a ∧ a.thread = b.thread ∧ a.rest = b.rest := by
    intro j b hb
    rw [List.getElem?_set]
    by_cases hij : i = j
    · subst hij
      rw [hs] at hb; injection hb with hb; subst hb
      exact ⟨noteS s k e, by simp [hi], noteS_thread s k e, noteS_rest s k e hno⟩
    · exact ⟨b, by rw [if_neg hij]; exact hb, rfl, rfl⟩
  refine ⟨?_, hm, ?_, fun t => ⟨fun hh => ?_, fun hh j a ha hat => ?_⟩⟩
  · unfold tstep
    rw [openOf_some hu hs ht hr]
    simp only [hs]
  · intro p q a b ha hb hab hra hrb
    obtain ⟨a', ha', e1, e2⟩ := hget p a ha
    obtain ⟨b', hb', e3, e4⟩ := hget q b hb
    exact hu p q a' b' ha' hb' (by rw [← e1, ← e3, hab]) (by omega) (by omega)
  · obtain ⟨j, b, hb, h1, h2, h3⟩ := (hD t).1 hh
    obtain ⟨a, ha, e1, e2⟩ := hput j b hb
    exact ⟨j, a, ha, by rw [e1, h1], by omega, h3⟩
  · obtain ⟨b, hb, e1, e2⟩ := hget j a ha
    have := (hD t).2 hh j b hb (by rw [← e1, hat])
    omega
theorem mapIs_rest {D : DataW Unit} {out : List Stay} {e : Ev} {k : Int} {i : Nat} {s : Stay} (h : MapIs D out) (hs : out[i]? = some s) (ht : s.thread = e.thread) (hr : s.rest < 0) (hk : 0 ≤ k)
    (hok : noteOk s e = true) (h4 : e.kind = 4) : tstep out k e = out.set i (noteS s k e) ∧ MapIs (D.del (keyI e.thread)) (out.set i (noteS s k e)) := by
  obtain ⟨hm, hu, hD⟩ := h
  have hi : i < out.length := (List.getElem?_eq_some_iff.1 hs).1
  have hget : ∀ (j : Nat) (a : Stay), (out.set i (noteS s k e))[j]? = some a → (j = i ∧ a.thread = e.thread ∧ a.rest = k) ∨ (j ≠ i ∧ out[j]? = some a) := by
    intro j a ha
    rw [List.getElem?_set] at ha
    split at ha
    · rename_i hij; subst hij
      injection ha with ha; subst ha
      rw [noteS_done s k e hok h4]
      exact .inl ⟨rfl, ht, rfl⟩
    · rename_i hij
      exact .inr ⟨fun e => hij e.symm, ha⟩
  refine ⟨?_, hm.del _, ?_, fun t => ?_⟩
  · unfold tstep
    rw [openOf_some hu hs ht hr]
    simp only [hs]
  · intro p q a b ha hb hab hra hrb
    rcases hget p a ha with ⟨_, _, h1⟩ | ⟨_, ha'⟩
    · omega
    · rcases hget q b hb with ⟨_, _, h1⟩ | ⟨_, hb'⟩
      · omega
      · exact hu p q a b ha' hb' hab hra hrb
  · by_cases hte : t = e.thread
    · subst hte
      refine ⟨fun hh => ?_, fun _ j a ha hat hra => ?_⟩
      · rw [has_del_same] at hh; cases hh
      · rcases hget j a ha with ⟨_, _, h1⟩ | ⟨hne, ha'⟩
        · omega
        · exact hne (hu j i a s ha' hs (by rw [hat, ht]) hra hr)
    · rw [has_del_other (keyI_ne hte), atKey_del_other (keyI_ne hte)]
      refine ⟨fun hh => ?_, fun hh j a ha hat => ?_⟩
      · obtain ⟨j, b, hb, h1, h2, h3⟩ := (hD t).1 hh
        refine ⟨j, b, ?_, h1, h2, h3⟩
        rw [List.getElem?_set, if_neg]
        · exact hb
        · rintro rfl
          rw [hs] at hb; injection hb with hb; subst hb
          exact hte (by rw [← h1, ht])
      · rcases hget j a ha with ⟨_, h1, _⟩ | ⟨_, ha'⟩
        · exact absurd (by rw [← hat, h1]) hte
        · exact (hD t).2 hh j a ha' hat
end Go.Proofs.YtagajjilccjplaaGreat
end
section
set_option linter.unusedVariables false
set_option linter.unusedSimpArgs false
/- FamilyPasses, plain: what comes of the script's picks, event by event. No program in sight. -/
namespace Go.Proofs.YtagajjilccjplaaGreat
open Go Go.RowKit

/-- what comes of a pick, by the spots before and behind it -/
def evW (T : List Sp) (pk : Int × Int) (T' : List Sp) : Ev :=
  if pk.2 = 1 then ⟨if (sv T pk.1.toNat).pc = 0 then 1 else 5, pk.1, false, 0⟩
  else if pk.2 = 2 then ⟨if (sv T pk.1.toNat).pc = 10 then 3 else 5, pk.1, false, 0⟩
  else if (sv T pk.1.toNat).pc = 0 then ⟨0, pk.1, false, 0⟩
  else if (sv T pk.1.toNat).pc < 10 then (if cameK (sv T pk.1.toNat) (sv T' pk.1.toNat) then ⟨2, pk.1, false, if (sv T' pk.1.toNat).pc = 10 then (sv T' pk.1.toNat).a else 0⟩ else ⟨0, pk.1, false, 0⟩)
  else if (sv T pk.1.toNat).pc = 10 then ⟨0, pk.1, false, 0⟩
  else (if cameK (sv T pk.1.toNat) (sv T' pk.1.toNat) then ⟨4, pk.1, false, 0⟩ else ⟨0, pk.1, false, 0⟩)
def evRun (c : CoC) : Co → List (Int × Int) → List Ev
  | _, [] => []
  | st, pk :: l => evW st.T pk (actD c st pk).T :: evRun c (actD c st pk) l
theorem evRun_append (c : CoC) : ∀ (l m : List (Int × Int)) (st : Co), evRun c st (l ++ m) = evRun c st l ++ evRun c (l.foldl (actD c) st) m
  | [], _, _ => rfl
  | pk :: l, m, st => by
    show _ :: evRun c _ (l ++ m) = _ :: (_ ++ _)
    rw [evRun_append c l m]; rfl
theorem evRun_len (c : CoC) : ∀ (l : List (Int × Int)) (st : Co), (evRun c st l).length = l.length
  | [], _ => rfl
  | pk :: l, st => by
    show (evRun c _ l).length + 1 = _
    rw [evRun_len c l]; rfl
theorem evRun_get (c : CoC) : ∀ (l : List (Int × Int)) (st : Co) (k : Nat) (pk : Int × Int), l[k]? = some pk → (evRun c st l)[k]? = some (evW ((l.take k).foldl (actD c) st).T pk ((l.take (k + 1)).foldl (actD c) st).T)
  | [], _, k, _, h => by simp at h
  | q :: l, st, 0, pk, h => by
    simp only [List.getElem?_cons_zero, Option.some.injEq] at h
    subst h
    rfl
  | q :: l, st, k + 1, pk, h => by
    have := evRun_get c l (actD c st q) k pk (by simpa using h)
    simpa [evRun] using this
def n0E : Ev := ⟨0, 0, false, 0⟩
def n1E : Ev := ⟨0, 1, false, 0⟩
def roundE (o : Nat) : List Ev := ⟨1, 1, false, 0⟩ :: (List.replicate 6 n1E ++ (⟨2, 1, false, 1⟩ :: ⟨3, 1, false, 0⟩ :: (List.replicate (o - 1) n1E ++ [⟨4, 1, false, 0⟩])))
def headE : List Ev := [⟨1, 0, false, 0⟩, n0E, n0E, n0E]
def tailE : List Ev := [n0E, n0E, n0E, ⟨2, 0, false, 1⟩]
def partE (o m : Nat) : List Ev := headE ++ (List.replicate m (roundE o)).flatten
def evsL (o m : Nat) : List Ev := partE o m ++ tailE
section
variable {b k ta ga w : Int} {st : Co}
theorem roundEv (hk : IntKind.i64.wrap (k + 1) = k + 1) (h : S45 st [⟨2, 0, 0, 0⟩, ⟨0, ta, 0, 0⟩] [⟨0, 0, 0, 0⟩, ⟨0, ga, 0, 0⟩] [[⟨10, 0, 0, 0⟩], [⟨0, 0, 0, 0⟩]] [k, k, 1, 0, 1, 0, 0, 0, w, 0]) :
    evRun (c45 b) st (roundL b) = roundE (outN b) := by
  have h1 := fpR1 (b := b) h
  have h2 := fpR2 (b := b) h1
  have h3 := fpR3 (b := b) h2
  have h4 := fpR4 (b := b) h3
  have h5 := fpR5 (b := b) h4
  have h6 := fpR6 (b := b) hk h5
  have h7 := fpR7 (b := b) h6
  have h8 := fpR8 (b := b) h7
  have h9 := fpR9 (b := b) h8
  by_cases hb : b < 1
  · have e : outN b = 5 := by unfold outN; rw [if_neg (by omega)]
    have hl : roundL b = [(1, 1), (1, 0), (1, 0), (1, 0), (1, 0), (1, 0), (1, 0), (1, 0), (1, 2), (1, 0), (1, 0), (1, 0), (1, 0), (1, 0)] := by unfold roundL; rw [e]; rfl
    have g1 := fpN1 hb h9
    have q1 := fpQ1 (b := b) g1
    have q2 := fpQ2 (b := b) q1
    have q3 := fpQ3 (b := b) q2
    have q4 := fpQ4 (b := b) q3
    rw [hl, e]
    simp only [evRun, h.t, h1.t, h2.t, h3.t, h4.t, h5.t, h6.t, h7.t, h8.t, h9.t, g1.t, q1.t, q2.t, q3.t, q4.t]
    simp [evW, sv, cameK, roundE, n1E, List.replicate]
  · have e : outN b = 6 := by unfold outN; rw [if_pos (by omega)]
    have hl : roundL b = [(1, 1), (1, 0), (1, 0), (1, 0), (1, 0), (1, 0), (1, 0), (1, 0), (1, 2), (1, 0), (1, 0), (1, 0), (1, 0), (1, 0), (1, 0)] := by unfold roundL; rw [e]; rfl
    have g1 := fpO1 hb h9
    have g2 := fpO2 (b := b) g1
    have q1 := fpQ1 (b := b) g2
    have q2 := fpQ2 (b := b) q1
    have q3 := fpQ3 (b := b) q2
    have q4 := fpQ4 (b := b) q3
    rw [hl, e]
    simp only [evRun, h.t, h1.t, h2.t, h3.t, h4.t, h5.t, h6.t, h7.t, h8.t, h9.t, g1.t, g2.t, q1.t, q2.t, q3.t, q4.t]
    simp [evW, sv, cameK, roundE, n1E, List.replicate]
theorem endEv (hk : IntKind.i64.wrap (k + 1) = k + 1) (h : S45 st [⟨2, 0, 0, 0⟩, ⟨0, ta, 0, 0⟩] [⟨0, 0, 0, 0⟩, ⟨0, ga, 0, 0⟩] [[⟨10, 0, 0, 0⟩], [⟨0, 0, 0, 0⟩]] [k, k, 1, 0, 1, 0, 0, 0, w, 0]) :
    evRun (c45 b) st (addL 0 0 4) = tailE := by
  have h1 := fpE1 (b := b) h
  have h2 := fpE2 (b := b) hk h1
  have h3 := fpE3 (b := b) h2
  have h4 := fpE4 (b := b) h3
  have hl : addL 0 0 4 = [(0, 0), (0, 0), (0, 0), (0, 0)] := rfl
  rw [hl]
  simp only [evRun, h.t, h1.t, h2.t, h3.t, h4.t]
  simp [evW, sv, cameK, tailE, n0E]
end
theorem part_succ (b : Int) (m : Nat) : partL b (m + 1) = partL b m ++ roundL b := by
  unfold partL; rw [List.replicate_succ', List.flatten_append, List.append_assoc]; simp
theorem partE_succ (o m : Nat) : partE o (m + 1) = partE o m ++ roundE o := by
  unfold partE; rw [List.replicate_succ', List.flatten_append, List.append_assoc]; simp
theorem headEv (b : Int) : evRun (c45 b) st45 [(0, 1), (0, 0), (0, 0), (0, 0)] = headE := by kernel_rfl
theorem partEv (b : Int) : ∀ m : Nat, m ≤ 1000 → evRun (c45 b) st45 (partL b m) = partE (outN b) m
  | 0, _ => by
    exact headEv b
  | m + 1, hm => by
    obtain ⟨ta, ga, w, h⟩ := rounds45 b m (by omega)
    rw [part_succ, evRun_append, partEv b m (by omega), roundEv (IntWalk.i64_in _ (by omega)) h, partE_succ]
theorem scriptEv (b : Int) (m : Nat) (hm : m ≤ 1000) : evRun (c45 b) st45 (scriptL b m) = evsL (outN b) m := by
  obtain ⟨ta, ga, w, h⟩ := rounds45 b m hm
  unfold scriptL evsL
  rw [evRun_append, partEv b m hm, endEv (IntWalk.i64_in _ (by omega)) h]
/-- the spots at the end -/
theorem endS45 (b : Int) (m : Nat) (hm : m ≤ 1000) : (sv (runD (c45 b) st45 (scriptL b m) (scriptL b m).length).T 0).pc = 10 ∧ (sv (runD (c45 b) st45 (scriptL b m) (scriptL b m).length).T 1).pc = 0 := by
  obtain ⟨ta, ga, w, h⟩ := rounds45 b m hm
  unfold runD
  rw [List.take_length]
  have e : (scriptL b m).foldl (actD (c45 b)) st45 = (addL 0 0 4).foldl (actD (c45 b)) ((partL b m).foldl (actD (c45 b)) st45) := by unfold scriptL; rw [List.foldl_append]
  rw [e, (end45 (b := b) (IntWalk.i64_in _ (by omega)) h).t]
  exact ⟨rfl, rfl⟩
/-- the event of each pick -/
theorem runD_ev (b : Int) (m : Nat) (hm : m ≤ 1000) {k : Nat} {pk : Int × Int} (h : (scriptL b m)[k]? = some pk) :
    (evsL (outN b) m)[k]? = some (evW (runD (c45 b) st45 (scriptL b m) k).T pk (runD (c45 b) st45 (scriptL b m) (k + 1)).T) := by
  rw [← scriptEv b m hm]
  exact evRun_get (c45 b) _ _ _ _ h
theorem evsL_len (b : Int) (m : Nat) (hm : m ≤ 1000) : (evsL (outN b) m).length = (scriptL b m).length := by
  rw [← scriptEv b m hm, evRun_len]
theorem script_pk (b : Int) (m : Nat) {k : Nat} {pk : Int × Int} (h : (scriptL b m)[k]? = some pk) : (pk.1 = 0 ∨ pk.1 = 1) ∧ (pk.2 = 0 ∨ pk.2 = 1 ∨ pk.2 = 2) := by
  by_cases hk : k < (partL b m).length
  · rw [script_part hk] at h
    have := part_rest h
    exact ⟨this.1, this.2.1⟩
  · unfold scriptL at h
    rw [List.getElem?_append_right (by omega)] at h
    have := addL_mem (List.mem_of_getElem? h)
    exact ⟨.inl this.1, by rcases this.2 with e | e <;> rw [e] <;> decide⟩
theorem ok_runS (b : Int) (m k : Nat) (hk : k ≤ (scriptL b m).length) (h5 : k ≤ 1000000) : CoOk (c45 b) 2 st45.s.W.length (40 + 2 * k) (40 + k) (runD (c45 b) st45 (scriptL b m) k) := by
  induction k with
  | zero =>
    have := ok45 b
    exact this.mono (by omega)
  | succ k ih =>
    have ih := ih (by omega) (by omega)
    obtain ⟨pk, hp⟩ := getElem?_lt (show k < (scriptL b m).length by omega)
    have hr := script_pk b m hp
    rw [runD_succ _ _ hp]
    have hi : pk.1.toNat < 2 := by omega
    have e1 : (40 + 2 * ((k + 1 : Nat) : Int)) = (40 + 2 * (k : Int)) + 2 := by omega
    have e2 : 40 + (k + 1) = 40 + k + 1 := by omega
    rw [e1, e2]
    unfold actD
    split
    · exact ih.ask (w45 b) (by omega) hi
    split
    · exact ih.leave (w45 b) (by omega) hi
    · exact ih.step (w45 b) (by omega) (by omega) hi
end Go.Proofs.YtagajjilccjplaaGreat
end
section
set_option linter.unusedVariables false
set_option linter.unusedSimpArgs false
/- FamilyPasses: world.World over a lock of kind cohort: step, asks, leaves, Do. (printed by gen_fp7.py) -/
namespace Go.Proofs.YtagajjilccjplaaGreat
open Go Go.RowKit

def evV (e : Ev) : Value := .agg #[.int .i64 e.kind, .int .i64 e.thread, .bool e.read, .int .i64 e.count]
def wbP (wb : Nat) : Value := .pointer (some ⟨wb, 0, none⟩)
theorem Blk.set4 {w : World} {g : Nat} {t : TypeId} {a b c d a' b' c' d' : Value} (h : Blk w g t #[a, b, c, d]) : Blk ((((w.setCell ⟨g, 0, none⟩ a').setCell ⟨g, 1, none⟩ b').setCell ⟨g, 2, none⟩ c').setCell ⟨g, 3, none⟩ d') g t #[a', b', c', d'] :=
  (((h.set_ 0 a').set_ 1 b').set_ 2 c').set_ 3 d'
section
variable {B : Nat → Prop} {w w' : World} {a g wb lb tb M : Nat} {x : Cox} {c : CoC} {P T : List Int} {st st' : Co} {BB : Int} {S : List Nat}
theorem WlIs.set (h : WlIs B w a g wb lb tb M x c P T st) {E : Nat} (hE : M ≤ E) (i : Nat) (u : Value) : WlIs B (w.setCell ⟨E, i, none⟩ u) a g wb lb tb M x c P T st :=
  h.far (S := [E]) ((Turns.refl _ _).setCell (.inl (by simp)) u) (fun j hj => by simp at hj; omega)
theorem WlIs.set4 (h : WlIs B w a g wb lb tb M x c P T st) {E : Nat} (hE : M ≤ E) (p q r s : Value) : WlIs B ((((w.setCell ⟨E, 0, none⟩ p).setCell ⟨E, 1, none⟩ q).setCell ⟨E, 2, none⟩ r).setCell ⟨E, 3, none⟩ s) a g wb lb tb M x c P T st :=
  (((h.set hE 0 p).set hE 1 q).set hE 2 r).set hE 3 s
theorem Turns.set4 {w0 : World} (h : Turns S w0 w) {E : Nat} (hE : w0.heap.size ≤ E) (p q r s : Value) : Turns S w0 ((((w.setCell ⟨E, 0, none⟩ p).setCell ⟨E, 1, none⟩ q).setCell ⟨E, 2, none⟩ r).setCell ⟨E, 3, none⟩ s) :=
  (((h.setCell (.inr hE) p).setCell (.inr hE) q).setCell (.inr hE) r).setCell (.inr hE) s
/-- what comes of a step -/
def evStep (p p' : Sp) (i : Int) : Ev :=
  if p.pc = 0 then ⟨0, i, false, 0⟩ else if p.pc < 10 then (if cameK p p' then ⟨2, i, false, cntN p'⟩ else ⟨0, i, false, 0⟩)
  else if p.pc = 10 then ⟨0, i, false, 0⟩ else (if cameK p p' then ⟨4, i, false, 0⟩ else ⟨0, i, false, 0⟩)
set_option maxHeartbeats 2000000 in
theorem stepW (h : WlIs B w a g wb lb tb M x c P T st) (C : CoPre BB x c st) (i : Nat) (hi : i < x.n) :
    Calls Tryz.prog 44 #[wbP wb, .int .i64 i] w (WlAct B w a g wb lb tb M x c P T (coStep c st i) (evV (evStep (sv st.T i) (sv (coStep c st i).T i) i))) := by
  have hsz : (w.alloc (.cells #[.int .i64 0, .int .i64 0, .bool false, .int .i64 0] 62)).heap.size = w.heap.size + 1 := by simp
  have b0 := (Below.refl w.heap.size w).alloc (Nat.le_refl _) (.cells #[.int .i64 0, .int .i64 0, .bool false, .int .i64 0] 62)
  have h0 := h.below b0
  have HS := Lib.hid (stateW h0 i hi)
  have hE1 := Blk.new w 62 #[.int .i64 0, .int .i64 0, .bool false, .int .i64 0]
  have H0 := Lib.hid (And.intro h0 (And.intro hE1 (Turns.of_below (S := CoS a g x) b0)))
  have HL := Lib.hid (fun W (k : WlIs B W a g wb lb tb M x c P T st) => show W.cell? ⟨wb, 2, none⟩ = some (.pointer (some ⟨lb, 0, none⟩)) from k.wd.cell 2)
  have hlo : ∀ r ∈ CoS a g x, r < w.heap.size := h.co.lts
  have HM := Lib.hid (show M ≤ w.heap.size from h.hM)
  have HLO := Lib.hid hlo
  have HST := Lib.hid (fun W (k : WlIs B W a g wb lb tb M x c P T st) => show Calls Tryz.prog 69 #[.pointer (some ⟨lb, 0, none⟩), .int .i64 i] W (WlAct B W a g wb lb tb M x c P T (coStep c st i) (.bool (cameK (sv st.T i) (sv (coStep c st i).T i)))) from stepF k C i hi)
  have HCT := Lib.hid (fun W (k : WlIs B W a g wb lb tb M x c P T (coStep c st i)) => show Calls Tryz.prog 70 #[.pointer (some ⟨lb, 0, none⟩), .int .i64 i] W fun e w' => e = .returned (.int .i64 (cntN (sv (coStep c st i).T i))) ∧ Below W.heap.size W w' from countF k i hi)
  have HID : Hid ((sv st.T i).pc = 0 ∨ (sv st.T i).pc = 10 → coStep c st i = st) := Lib.hid fun hp => by unfold coStep; rw [if_pos hp]
  obtain ⟨p, hp⟩ : ∃ p, p = sv st.T i := ⟨_, rfl⟩
  obtain ⟨s2, hs2⟩ : ∃ s2, s2 = coStep c st i := ⟨_, rfl⟩
  rw [← hs2] at HST HCT HID ⊢
  obtain ⟨p', hp'⟩ : ∃ p', p' = sv s2.T i := ⟨_, rfl⟩
  rw [← hp, ← hp'] at HST ⊢
  rw [← hp'] at HCT
  rw [← hp] at HS HID
  clear h h0 hE1 b0 hp hs2 hp' hlo
  obtain ⟨r, hr⟩ : ∃ r, r = cameK p p' := ⟨_, rfl⟩
  unfold evStep
  rw [← hr] at HST ⊢
  obtain ⟨n, hn⟩ : ∃ n, n = cntN p' := ⟨_, rfl⟩
  rw [← hn] at HCT ⊢
  clear hr hn
  unfold wbP
  obtain ⟨pc, pa, pb, pz⟩ := p
  simp only at HS HID ⊢
  by_cases h0 : pc = 0
  · subst h0
    rw [if_pos rfl, HID.out (.inl rfl)]
    rw [show stN 0 = 0 from rfl] at HS
    go_enter Tryz.func44, Tryz.ntmps44
    go_wp2_with fail
    refine HS.out.mono ?_
    rintro en w1 ⟨rfl, b1⟩
    have hs1 := b1.size
    rw [hsz] at hs1
    have H1 := Lib.hid (And.intro (H0.out.1.below b1) (And.intro (H0.out.2.1.below b1 (by simp)) (H0.out.2.2.trans (Turns.of_below b1))))
    clear b1
    have b2 := (Below.refl w1.heap.size w1).alloc (Nat.le_refl _) (.cells #[.int .i64 0, .int .i64 i, .bool false, .int .i64 0] 62)
    have H2 := Lib.hid (And.intro (H1.out.1.below b2) (And.intro (H1.out.2.1.alloc (.cells #[.int .i64 0, .int .i64 i, .bool false, .int .i64 0] 62)) (And.intro (Blk.new w1 62 #[.int .i64 0, .int .i64 i, .bool false, .int .i64 0]) (H1.out.2.2.alloc (.cells #[.int .i64 0, .int .i64 i, .bool false, .int .i64 0] 62)))))
    have c2 := HL.out _ H2.out.1
    clear b2
    have z0 := H2.out.2.1.free 0
    have z1 := H2.out.2.1.free 1
    have z2 := H2.out.2.1.free 2
    have z3 := H2.out.2.1.free 3
    have y0 := H2.out.2.1.cell 0
    have y1 := H2.out.2.1.cell 1
    have y2 := H2.out.2.1.cell 2
    have y3 := H2.out.2.1.cell 3
    have x0 := H2.out.2.2.1.cell 0
    have x1 := H2.out.2.2.1.cell 1
    have x2 := H2.out.2.2.1.cell 2
    have x3 := H2.out.2.2.1.cell 3
    go_wp2
    exact bodyPost_ret (results_cell_row (by rfl) _ _ w.heap.size 62 _ (0, 0) _ (by rfl) (by exact H2.out.2.1.set4) Tryz.underlying62 rfl (by kernel_rfl)) rfl ⟨rfl, H2.out.1.set4 HM.out _ _ _ _, H2.out.2.2.2.set4 (Nat.le_refl _) _ _ _ _⟩
  by_cases h1 : pc < 10
  · rw [if_neg h0, if_pos h1]
    rw [show stN pc = 1 by unfold stN; rw [if_neg h0, if_pos h1]] at HS
    clear h0 h1
    cases r
    · rw [if_neg (by decide)]
      go_enter Tryz.func44, Tryz.ntmps44
      go_wp2_with fail
      refine HS.out.mono ?_
      rintro en w1 ⟨rfl, b1⟩
      have hs1 := b1.size
      rw [hsz] at hs1
      have H1 := Lib.hid (And.intro (H0.out.1.below b1) (And.intro (H0.out.2.1.below b1 (by simp)) (H0.out.2.2.trans (Turns.of_below b1))))
      clear b1
      have b2 := (Below.refl w1.heap.size w1).alloc (Nat.le_refl _) (.cells #[.int .i64 0, .int .i64 i, .bool false, .int .i64 0] 62)
      have H2 := Lib.hid (And.intro (H1.out.1.below b2) (And.intro (H1.out.2.1.alloc (.cells #[.int .i64 0, .int .i64 i, .bool false, .int .i64 0] 62)) (And.intro (Blk.new w1 62 #[.int .i64 0, .int .i64 i, .bool false, .int .i64 0]) (H1.out.2.2.alloc (.cells #[.int .i64 0, .int .i64 i, .bool false, .int .i64 0] 62)))))
      have c2 := HL.out _ H2.out.1
      clear b2
      go_wp2_with fail
      refine (HST.out _ H2.out.1).mono ?_
      rintro en w3 ⟨rfl, k3, t3⟩
      have hs3 := t3.size
      have H3 := Lib.hid (And.intro k3 (And.intro (t3.blk H2.out.2.1 (fun m => by have := HLO.out _ m; omega)) (And.intro (t3.blk H2.out.2.2.1 (fun m => by have := HLO.out _ m; omega)) (H2.out.2.2.2.trans t3))))
      clear k3 t3
      have z0 := H3.out.2.1.free 0
      have z1 := H3.out.2.1.free 1
      have z2 := H3.out.2.1.free 2
      have z3 := H3.out.2.1.free 3
      have y0 := H3.out.2.1.cell 0
      have y1 := H3.out.2.1.cell 1
      have y2 := H3.out.2.1.cell 2
      have y3 := H3.out.2.1.cell 3
      have x0 := H3.out.2.2.1.cell 0
      have x1 := H3.out.2.2.1.cell 1
      have x2 := H3.out.2.2.1.cell 2
      have x3 := H3.out.2.2.1.cell 3
      go_wp2
      exact bodyPost_ret (results_cell_row (by rfl) _ _ w.heap.size 62 _ (0, 0) _ (by rfl) (by exact H3.out.2.1.set4) Tryz.underlying62 rfl (by kernel_rfl)) rfl ⟨rfl, H3.out.1.set4 HM.out _ _ _ _, H3.out.2.2.2.set4 (Nat.le_refl _) _ _ _ _⟩
    · rw [if_pos rfl]
      go_enter Tryz.func44, Tryz.ntmps44
      go_wp2_with fail
      refine HS.out.mono ?_
      rintro en w1 ⟨rfl, b1⟩
      have hs1 := b1.size
      rw [hsz] at hs1
      have H1 := Lib.hid (And.intro (H0.out.1.below b1) (And.intro (H0.out.2.1.below b1 (by simp)) (H0.out.2.2.trans (Turns.of_below b1))))
      clear b1
      have b2 := (Below.refl w1.heap.size w1).alloc (Nat.le_refl _) (.cells #[.int .i64 0, .int .i64 i, .bool false, .int .i64 0] 62)
      have H2 := Lib.hid (And.intro (H1.out.1.below b2) (And.intro (H1.out.2.1.alloc (.cells #[.int .i64 0, .int .i64 i, .bool false, .int .i64 0] 62)) (And.intro (Blk.new w1 62 #[.int .i64 0, .int .i64 i, .bool false, .int .i64 0]) (H1.out.2.2.alloc (.cells #[.int .i64 0, .int .i64 i, .bool false, .int .i64 0] 62)))))
      have c2 := HL.out _ H2.out.1
      clear b2
      go_wp2_with fail
      refine (HST.out _ H2.out.1).mono ?_
      rintro en w3 ⟨rfl, k3, t3⟩
      have hs3 := t3.size
      have H3 := Lib.hid (And.intro k3 (And.intro (t3.blk H2.out.2.1 (fun m => by have := HLO.out _ m; omega)) (And.intro (t3.blk H2.out.2.2.1 (fun m => by have := HLO.out _ m; omega)) (H2.out.2.2.2.trans t3))))
      clear k3 t3
      have c3 : w3.cell? ⟨wb, 2, none⟩ = some (.pointer (some ⟨lb, 0, none⟩)) := H3.out.1.wd.cell 2
      go_wp2_with fail
      refine (HCT.out _ H3.out.1).mono ?_
      rintro en w4 ⟨rfl, b4⟩
      have hs4 := b4.size
      have H4 := Lib.hid (And.intro (H3.out.1.below b4) (And.intro (H3.out.2.1.below b4 (H3.out.2.1).lt) (And.intro (H3.out.2.2.1.below b4 (H3.out.2.2.1).lt) (H3.out.2.2.2.trans (Turns.of_below b4)))))
      clear b4
      have hE12 : w.heap.size ≠ w1.heap.size := by omega
      have H5 := Lib.hid (show (WlIs B ((w4.setCell ⟨w1.heap.size, 0, none⟩ (.int .i64 2)).setCell ⟨w1.heap.size, 3, none⟩ (.int .i64 n)) a g wb lb tb M x c P T s2) ∧ Blk ((w4.setCell ⟨w1.heap.size, 0, none⟩ (.int .i64 2)).setCell ⟨w1.heap.size, 3, none⟩ (.int .i64 n)) w.heap.size 62 #[.int .i64 0, .int .i64 0, .bool false, .int .i64 0] ∧ Blk ((w4.setCell ⟨w1.heap.size, 0, none⟩ (.int .i64 2)).setCell ⟨w1.heap.size, 3, none⟩ (.int .i64 n)) w1.heap.size 62 #[.int .i64 2, .int .i64 i, .bool false, .int .i64 n] ∧ Turns (CoS a g x) w ((w4.setCell ⟨w1.heap.size, 0, none⟩ (.int .i64 2)).setCell ⟨w1.heap.size, 3, none⟩ (.int .i64 n)) from
        ⟨(H4.out.1.set (by have := HM.out; omega) 0 _).set (by have := HM.out; omega) 3 _, (H4.out.2.1.far hE12 _).far hE12 _, (H4.out.2.2.1.set_ 0 _).set_ 3 _, (H4.out.2.2.2.setCell (.inr (by show w.heap.size ≤ w1.heap.size; omega)) _).setCell (.inr (by show w.heap.size ≤ w1.heap.size; omega)) _⟩)
      have q0 := H4.out.2.2.1.free 0
      have q3 := H4.out.2.2.1.free 3
      have q0c := H4.out.2.2.1.cell 0
      have q3c := H4.out.2.2.1.cell 3
      have z0 := H5.out.2.1.free 0
      have z1 := H5.out.2.1.free 1
      have z2 := H5.out.2.1.free 2
      have z3 := H5.out.2.1.free 3
      have y0 := H5.out.2.1.cell 0
      have y1 := H5.out.2.1.cell 1
      have y2 := H5.out.2.1.cell 2
      have y3 := H5.out.2.1.cell 3
      have x0 := H5.out.2.2.1.cell 0
      have x1 := H5.out.2.2.1.cell 1
      have x2 := H5.out.2.2.1.cell 2
      have x3 := H5.out.2.2.1.cell 3
      go_wp2
      exact bodyPost_ret (results_cell_row (by rfl) _ _ w.heap.size 62 _ (0, 0) _ (by rfl) (by exact H5.out.2.1.set4) Tryz.underlying62 rfl (by kernel_rfl)) rfl ⟨rfl, H5.out.1.set4 HM.out _ _ _ _, H5.out.2.2.2.set4 (Nat.le_refl _) _ _ _ _⟩
  by_cases h2 : pc = 10
  · subst h2
    rw [if_neg h0, if_neg h1, if_pos rfl, HID.out (.inr rfl)]
    rw [show stN 10 = 2 from rfl] at HS
    clear h0 h1
    go_enter Tryz.func44, Tryz.ntmps44
    go_wp2_with fail
    refine HS.out.mono ?_
    rintro en w1 ⟨rfl, b1⟩
    have hs1 := b1.size
    rw [hsz] at hs1
    have H1 := Lib.hid (And.intro (H0.out.1.below b1) (And.intro (H0.out.2.1.below b1 (by simp)) (H0.out.2.2.trans (Turns.of_below b1))))
    clear b1
    have b2 := (Below.refl w1.heap.size w1).alloc (Nat.le_refl _) (.cells #[.int .i64 0, .int .i64 i, .bool false, .int .i64 0] 62)
    have H2 := Lib.hid (And.intro (H1.out.1.below b2) (And.intro (H1.out.2.1.alloc (.cells #[.int .i64 0, .int .i64 i, .bool false, .int .i64 0] 62)) (And.intro (Blk.new w1 62 #[.int .i64 0, .int .i64 i, .bool false, .int .i64 0]) (H1.out.2.2.alloc (.cells #[.int .i64 0, .int .i64 i, .bool false, .int .i64 0] 62)))))
    have c2 := HL.out _ H2.out.1
    clear b2
    have z0 := H2.out.2.1.free 0
    have z1 := H2.out.2.1.free 1
    have z2 := H2.out.2.1.free 2
    have z3 := H2.out.2.1.free 3
    have y0 := H2.out.2.1.cell 0
    have y1 := H2.out.2.1.cell 1
    have y2 := H2.out.2.1.cell 2
    have y3 := H2.out.2.1.cell 3
    have x0 := H2.out.2.2.1.cell 0
    have x1 := H2.out.2.2.1.cell 1
    have x2 := H2.out.2.2.1.cell 2
    have x3 := H2.out.2.2.1.cell 3
    go_wp2
    exact bodyPost_ret (results_cell_row (by rfl) _ _ w.heap.size 62 _ (0, 0) _ (by rfl) (by exact H2.out.2.1.set4) Tryz.underlying62 rfl (by kernel_rfl)) rfl ⟨rfl, H2.out.1.set4 HM.out _ _ _ _, H2.out.2.2.2.set4 (Nat.le_refl _) _ _ _ _⟩
  · rw [if_neg h0, if_neg h1, if_neg h2]
    rw [show stN pc = 3 by unfold stN; rw [if_neg h0, if_neg h1, if_neg h2]] at HS
    clear h0 h1 h2
    cases r
    · rw [if_neg (by decide)]
      go_enter Tryz.func44, Tryz.ntmps44
      go_wp2_with fail
      refine HS.out.mono ?_
      rintro en w1 ⟨rfl, b1⟩
      have hs1 := b1.size
      rw [hsz] at hs1
      have H1 := Lib.hid (And.intro (H0.out.1.below b1) (And.intro (H0.out.2.1.below b1 (by simp)) (H0.out.2.2.trans (Turns.of_below b1))))
      clear b1
      have b2 := (Below.refl w1.heap.size w1).alloc (Nat.le_refl _) (.cells #[.int .i64 0, .int .i64 i, .bool false, .int .i64 0] 62)
      have H2 := Lib.hid (And.intro (H1.out.1.below b2) (And.intro (H1.out.2.1.alloc (.cells #[.int .i64 0, .int .i64 i, .bool false, .int .i64 0] 62)) (And.intro (Blk.new w1 62 #[.int .i64 0, .int .i64 i, .bool false, .int .i64 0]) (H1.out.2.2.alloc (.cells #[.int .i64 0, .int .i64 i, .bool false, .int .i64 0] 62)))))
      have c2 := HL.out _ H2.out.1
      clear b2
      go_wp2_with fail
      refine (HST.out _ H2.out.1).mono ?_
      rintro en w3 ⟨rfl, k3, t3⟩
      have hs3 := t3.size
      have H3 := Lib.hid (And.intro k3 (And.intro (t3.blk H2.out.2.1 (fun m => by have := HLO.out _ m; omega)) (And.intro (t3.blk H2.out.2.2.1 (fun m => by have := HLO.out _ m; omega)) (H2.out.2.2.2.trans t3))))
      clear k3 t3
      have z0 := H3.out.2.1.free 0
      have z1 := H3.out.2.1.free 1
      have z2 := H3.out.2.1.free 2
      have z3 := H3.out.2.1.free 3
      have y0 := H3.out.2.1.cell 0
      have y1 := H3.out.2.1.cell 1
      have y2 := H3.out.2.1.cell 2
      have y3 := H3.out.2.1.cell 3
      have x0 := H3.out.2.2.1.cell 0
      have x1 := H3.out.2.2.1.cell 1
      have x2 := H3.out.2.2.1.cell 2
      have x3 := H3.out.2.2.1.cell 3
      go_wp2
      exact bodyPost_ret (results_cell_row (by rfl) _ _ w.heap.size 62 _ (0, 0) _ (by rfl) (by exact H3.out.2.1.set4) Tryz.underlying62 rfl (by kernel_rfl)) rfl ⟨rfl, H3.out.1.set4 HM.out _ _ _ _, H3.out.2.2.2.set4 (Nat.le_refl _) _ _ _ _⟩
    · rw [if_pos rfl]
      go_enter Tryz.func44, Tryz.ntmps44
      go_wp2_with fail
      refine HS.out.mono ?_
      rintro en w1 ⟨rfl, b1⟩
      have hs1 := b1.size
      rw [hsz] at hs1
      have H1 := Lib.hid (And.intro (H0.out.1.below b1) (And.intro (H0.out.2.1.below b1 (by simp)) (H0.out.2.2.trans (Turns.of_below b1))))
      clear b1
      have b2 := (Below.refl w1.heap.size w1).alloc (Nat.le_refl _) (.cells #[.int .i64 0, .int .i64 i, .bool false, .int .i64 0] 62)
      have H2 := Lib.hid (And.intro (H1.out.1.below b2) (And.intro (H1.out.2.1.alloc (.cells #[.int .i64 0, .int .i64 i, .bool false, .int .i64 0] 62)) (And.intro (Blk.new w1 62 #[.int .i64 0, .int .i64 i, .bool false, .int .i64 0]) (H1.out.2.2.alloc (.cells #[.int .i64 0, .int .i64 i, .bool false, .int .i64 0] 62)))))
      have c2 := HL.out _ H2.out.1
      clear b2
      go_wp2_with fail
      refine (HST.out _ H2.out.1).mono ?_
      rintro en w3 ⟨rfl, k3, t3⟩
      have hs3 := t3.size
      have H3 := Lib.hid (And.intro k3 (And.intro (t3.blk H2.out.2.1 (fun m => by have := HLO.out _ m; omega)) (And.intro (t3.blk H2.out.2.2.1 (fun m => by have := HLO.out _ m; omega)) (H2.out.2.2.2.trans t3))))
      clear k3 t3
      have hE12 : w.heap.size ≠ w1.heap.size := by omega
      have H5 := Lib.hid (show (WlIs B (w3.setCell ⟨w1.heap.size, 0, none⟩ (.int .i64 4)) a g wb lb tb M x c P T s2) ∧ Blk (w3.setCell ⟨w1.heap.size, 0, none⟩ (.int .i64 4)) w.heap.size 62 #[.int .i64 0, .int .i64 0, .bool false, .int .i64 0] ∧ Blk (w3.setCell ⟨w1.heap.size, 0, none⟩ (.int .i64 4)) w1.heap.size 62 #[.int .i64 4, .int .i64 i, .bool false, .int .i64 0] ∧ Turns (CoS a g x) w (w3.setCell ⟨w1.heap.size, 0, none⟩ (.int .i64 4)) from
        ⟨H3.out.1.set (by have := HM.out; omega) 0 _, H3.out.2.1.far hE12 _, H3.out.2.2.1.set_ 0 _, H3.out.2.2.2.setCell (.inr (by show w.heap.size ≤ w1.heap.size; omega)) _⟩)
      have q0 := H3.out.2.2.1.free 0
      have q0c := H3.out.2.2.1.cell 0
      have z0 := H5.out.2.1.free 0
      have z1 := H5.out.2.1.free 1
      have z2 := H5.out.2.1.free 2
      have z3 := H5.out.2.1.free 3
      have y0 := H5.out.2.1.cell 0
      have y1 := H5.out.2.1.cell 1
      have y2 := H5.out.2.1.cell 2
      have y3 := H5.out.2.1.cell 3
      have x0 := H5.out.2.2.1.cell 0
      have x1 := H5.out.2.2.1.cell 1
      have x2 := H5.out.2.2.1.cell 2
      have x3 := H5.out.2.2.1.cell 3
      go_wp2
      exact bodyPost_ret (results_cell_row (by rfl) _ _ w.heap.size 62 _ (0, 0) _ (by rfl) (by exact H5.out.2.1.set4) Tryz.underlying62 rfl (by kernel_rfl)) rfl ⟨rfl, H5.out.1.set4 HM.out _ _ _ _, H5.out.2.2.2.set4 (Nat.le_refl _) _ _ _ _⟩
end
end Go.Proofs.YtagajjilccjplaaGreat
end
section
set_option linter.unusedVariables false
set_option linter.unusedSimpArgs false
/- FamilyPasses: world.World over a lock of kind cohort: asks, leaves, Threads, Do. (printed by gen_fp8.py) -/
namespace Go.Proofs.YtagajjilccjplaaGreat
open Go Go.RowKit

section
variable {B : Nat → Prop} {w w' : World} {a g wb lb tb M : Nat} {x : Cox} {c : CoC} {P T : List Int} {st st' : Co} {BB : Int} {S : List Nat}
set_option maxHeartbeats 2000000 in
theorem asksW (h : WlIs B w a g wb lb tb M x c P T st) (i : Nat) (hi : i < x.n) :
    Calls Tryz.prog 45 #[wbP wb, .int .i64 i, .bool false] w (WlAct B w a g wb lb tb M x c P T (coAsk c st i) (evV ⟨if (sv st.T i).pc = 0 then 1 else 5, i, false, 0⟩)) := by
  have hsz : (w.alloc (.cells #[.int .i64 0, .int .i64 0, .bool false, .int .i64 0] 62)).heap.size = w.heap.size + 1 := by simp
  have b0 := (Below.refl w.heap.size w).alloc (Nat.le_refl _) (.cells #[.int .i64 0, .int .i64 0, .bool false, .int .i64 0] 62)
  have h0 := h.below b0
  have HS := Lib.hid (stateW h0 i hi)
  have hE1 := Blk.new w 62 #[.int .i64 0, .int .i64 0, .bool false, .int .i64 0]
  have H0 := Lib.hid (And.intro h0 (And.intro hE1 (Turns.of_below (S := CoS a g x) b0)))
  have HL := Lib.hid (fun W (k : WlIs B W a g wb lb tb M x c P T st) => show W.cell? ⟨wb, 2, none⟩ = some (.pointer (some ⟨lb, 0, none⟩)) from k.wd.cell 2)
  have HLO := Lib.hid (show ∀ r ∈ CoS a g x, r < w.heap.size from h.co.lts)
  have HM := Lib.hid (show M ≤ w.heap.size from h.hM)
  have HA := Lib.hid (fun W (k : WlIs B W a g wb lb tb M x c P T st) => show Calls Tryz.prog 71 #[.pointer (some ⟨lb, 0, none⟩), .int .i64 i, .bool false] W (WlAct B W a g wb lb tb M x c P T (coAsk c st i) (.bool (decide ((sv st.T i).pc = 0)))) from askF k i hi)
  obtain ⟨z, hz⟩ : ∃ z, z = stN (sv st.T i).pc := ⟨_, rfl⟩
  rw [← hz] at HS
  obtain ⟨q, hq⟩ : ∃ q, q = (sv st.T i).pc := ⟨_, rfl⟩
  rw [← hq] at HA ⊢
  obtain ⟨s2, hs2⟩ : ∃ s2, s2 = coAsk c st i := ⟨_, rfl⟩
  rw [← hs2] at HA ⊢
  clear h h0 hE1 b0 hs2 hz hq
  unfold wbP
  by_cases hq : q = 0
  · rw [if_pos hq]
    rw [decide_eq_true hq] at HA
    clear hq
    go_enter Tryz.func45, Tryz.ntmps45
    go_wp2_with fail
    refine HS.out.mono ?_
    rintro en w1 ⟨rfl, b1⟩
    have hs1 := b1.size
    rw [hsz] at hs1
    have H1 := Lib.hid (And.intro (H0.out.1.below b1) (And.intro (H0.out.2.1.below b1 (by simp)) (H0.out.2.2.trans (Turns.of_below b1))))
    clear b1
    have c2 := HL.out _ H1.out.1
    go_wp2_with fail
    refine (HA.out _ H1.out.1).mono ?_
    rintro en w3 ⟨rfl, k3, t3⟩
    have H3 := Lib.hid (And.intro k3 (And.intro (t3.blk H1.out.2.1 (fun m => by have := HLO.out _ m; omega)) (H1.out.2.2.trans t3)))
    clear k3 t3
    have z0 := H3.out.2.1.free 0
    have z1 := H3.out.2.1.free 1
    have z2 := H3.out.2.1.free 2
    have z3 := H3.out.2.1.free 3
    have y0 := H3.out.2.1.cell 0
    have y1 := H3.out.2.1.cell 1
    have y2 := H3.out.2.1.cell 2
    have y3 := H3.out.2.1.cell 3
    go_wp2
    exact bodyPost_ret (results_cell_row (by rfl) _ _ w.heap.size 62 _ (0, 0) _ (by rfl) (by exact H3.out.2.1.set4) Tryz.underlying62 rfl (by kernel_rfl)) rfl ⟨rfl, H3.out.1.set4 HM.out _ _ _ _, H3.out.2.2.set4 (Nat.le_refl _) _ _ _ _⟩
  · rw [if_neg hq]
    rw [decide_eq_false hq] at HA
    clear hq
    go_enter Tryz.func45, Tryz.ntmps45
    go_wp2_with fail
    refine HS.out.mono ?_
    rintro en w1 ⟨rfl, b1⟩
    have hs1 := b1.size
    rw [hsz] at hs1
    have H1 := Lib.hid (And.intro (H0.out.1.below b1) (And.intro (H0.out.2.1.below b1 (by simp)) (H0.out.2.2.trans (Turns.of_below b1))))
    clear b1
    have c2 := HL.out _ H1.out.1
    go_wp2_with fail
    refine (HA.out _ H1.out.1).mono ?_
    rintro en w3 ⟨rfl, k3, t3⟩
    have H3 := Lib.hid (And.intro k3 (And.intro (t3.blk H1.out.2.1 (fun m => by have := HLO.out _ m; omega)) (H1.out.2.2.trans t3)))
    clear k3 t3
    have z0 := H3.out.2.1.free 0
    have z1 := H3.out.2.1.free 1
    have z2 := H3.out.2.1.free 2
    have z3 := H3.out.2.1.free 3
    have y0 := H3.out.2.1.cell 0
    have y1 := H3.out.2.1.cell 1
    have y2 := H3.out.2.1.cell 2
    have y3 := H3.out.2.1.cell 3
    go_wp2
    exact bodyPost_ret (results_cell_row (by rfl) _ _ w.heap.size 62 _ (0, 0) _ (by rfl) (by exact H3.out.2.1.set4) Tryz.underlying62 rfl (by kernel_rfl)) rfl ⟨rfl, H3.out.1.set4 HM.out _ _ _ _, H3.out.2.2.set4 (Nat.le_refl _) _ _ _ _⟩
set_option maxHeartbeats 2000000 in
theorem leavesW (h : WlIs B w a g wb lb tb M x c P T st) (i : Nat) (hi : i < x.n) :
    Calls Tryz.prog 46 #[wbP wb, .int .i64 i, .bool false] w (WlAct B w a g wb lb tb M x c P T (coLeave st i) (evV ⟨if (sv st.T i).pc = 10 then 3 else 5, i, false, 0⟩)) := by
  have hsz : (w.alloc (.cells #[.int .i64 0, .int .i64 0, .bool false, .int .i64 0] 62)).heap.size = w.heap.size + 1 := by simp
  have b0 := (Below.refl w.heap.size w).alloc (Nat.le_refl _) (.cells #[.int .i64 0, .int .i64 0, .bool false, .int .i64 0] 62)
  have h0 := h.below b0
  have HS := Lib.hid (stateW h0 i hi)
  have hE1 := Blk.new w 62 #[.int .i64 0, .int .i64 0, .bool false, .int .i64 0]
  have H0 := Lib.hid (And.intro h0 (And.intro hE1 (Turns.of_below (S := CoS a g x) b0)))
  have HL := Lib.hid (fun W (k : WlIs B W a g wb lb tb M x c P T st) => show W.cell? ⟨wb, 2, none⟩ = some (.pointer (some ⟨lb, 0, none⟩)) from k.wd.cell 2)
  have HLO := Lib.hid (show ∀ r ∈ CoS a g x, r < w.heap.size from h.co.lts)
  have HM := Lib.hid (show M ≤ w.heap.size from h.hM)
  have HA := Lib.hid (fun W (k : WlIs B W a g wb lb tb M x c P T st) => show Calls Tryz.prog 72 #[.pointer (some ⟨lb, 0, none⟩), .int .i64 i] W (WlAct B W a g wb lb tb M x c P T (coLeave st i) (.bool (decide ((sv st.T i).pc = 10)))) from leaveF k i hi)
  obtain ⟨z, hz⟩ : ∃ z, z = stN (sv st.T i).pc := ⟨_, rfl⟩
  rw [← hz] at HS
  obtain ⟨q, hq⟩ : ∃ q, q = (sv st.T i).pc := ⟨_, rfl⟩
  rw [← hq] at HA ⊢
  obtain ⟨s2, hs2⟩ : ∃ s2, s2 = coLeave st i := ⟨_, rfl⟩
  rw [← hs2] at HA ⊢
  clear h h0 hE1 b0 hs2 hz hq
  unfold wbP
  by_cases hq : q = 10
  · rw [if_pos hq]
    rw [decide_eq_true hq] at HA
    clear hq
    go_enter Tryz.func46, Tryz.ntmps46
    go_wp2_with fail
    refine HS.out.mono ?_
    rintro en w1 ⟨rfl, b1⟩
    have hs1 := b1.size
    rw [hsz] at hs1
    have H1 := Lib.hid (And.intro (H0.out.1.below b1) (And.intro (H0.out.2.1.below b1 (by simp)) (H0.out.2.2.trans (Turns.of_below b1))))
    clear b1
    have c2 := HL.out _ H1.out.1
    go_wp2_with fail
    refine (HA.out _ H1.out.1).mono ?_
    rintro en w3 ⟨rfl, k3, t3⟩
    have H3 := Lib.hid (And.intro k3 (And.intro (t3.blk H1.out.2.1 (fun m => by have := HLO.out _ m; omega)) (H1.out.2.2.trans t3)))
    clear k3 t3
    have z0 := H3.out.2.1.free 0
    have z1 := H3.out.2.1.free 1
    have z2 := H3.out.2.1.free 2
    have z3 := H3.out.2.1.free 3
    have y0 := H3.out.2.1.cell 0
    have y1 := H3.out.2.1.cell 1
    have y2 := H3.out.2.1.cell 2
    have y3 := H3.out.2.1.cell 3
    go_wp2
    exact bodyPost_ret (results_cell_row (by rfl) _ _ w.heap.size 62 _ (0, 0) _ (by rfl) (by exact H3.out.2.1.set4) Tryz.underlying62 rfl (by kernel_rfl)) rfl ⟨rfl, H3.out.1.set4 HM.out _ _ _ _, H3.out.2.2.set4 (Nat.le_refl _) _ _ _ _⟩
  · rw [if_neg hq]
    rw [decide_eq_false hq] at HA
    clear hq
    go_enter Tryz.func46, Tryz.ntmps46
    go_wp2_with fail
    refine HS.out.mono ?_
    rintro en w1 ⟨rfl, b1⟩
    have hs1 := b1.size
    rw [hsz] at hs1
    have H1 := Lib.hid (And.intro (H0.out.1.below b1) (And.intro (H0.out.2.1.below b1 (by simp)) (H0.out.2.2.trans (Turns.of_below b1))))
    clear b1
    have c2 := HL.out _ H1.out.1
    go_wp2_with fail
    refine (HA.out _ H1.out.1).mono ?_
    rintro en w3 ⟨rfl, k3, t3⟩
    have H3 := Lib.hid (And.intro k3 (And.intro (t3.blk H1.out.2.1 (fun m => by have := HLO.out _ m; omega)) (H1.out.2.2.trans t3)))
    clear k3 t3
    have z0 := H3.out.2.1.free 0
    have z1 := H3.out.2.1.free 1
    have z2 := H3.out.2.1.free 2
    have z3 := H3.out.2.1.free 3
    have y0 := H3.out.2.1.cell 0
    have y1 := H3.out.2.1.cell 1
    have y2 := H3.out.2.1.cell 2
    have y3 := H3.out.2.1.cell 3
    go_wp2
    exact bodyPost_ret (results_cell_row (by rfl) _ _ w.heap.size 62 _ (0, 0) _ (by rfl) (by exact H3.out.2.1.set4) Tryz.underlying62 rfl (by kernel_rfl)) rfl ⟨rfl, H3.out.1.set4 HM.out _ _ _ _, H3.out.2.2.set4 (Nat.le_refl _) _ _ _ _⟩
theorem threadsWd (h : WlIs B w a g wb lb tb M x c P T st) : Calls Tryz.prog 17 #[wbP wb] w fun e w' => e = .returned (.int .i64 x.n) ∧ w = w' := by
  have c2 : w.cell? ⟨wb, 2, none⟩ = some (lkP lb) := h.wd.cell 2
  unfold lkP at c2
  have HT := Lib.hid (threadsF h)
  unfold lkP at HT
  obtain ⟨n, hn⟩ : ∃ n, n = x.n := ⟨_, rfl⟩
  rw [← hn] at HT ⊢
  clear h hn
  unfold wbP
  go_enter Tryz.func17, Tryz.ntmps17
  go_wp2_with fail
  refine HT.out.mono ?_
  rintro en w' ⟨rfl, rfl⟩
  go_wp2
  go_ret
  exact ⟨rfl, rfl⟩
theorem evW_eq (c : CoC) (st : Co) (i : Nat) (k : Int) (hk : k = 0 ∨ k = 1 ∨ k = 2) : evW st.T ((i : Int), k) (actD c st ((i : Int), k)).T =
    if k = 1 then ⟨if (sv st.T i).pc = 0 then 1 else 5, i, false, 0⟩ else if k = 2 then ⟨if (sv st.T i).pc = 10 then 3 else 5, i, false, 0⟩ else evStep (sv st.T i) (sv (coStep c st i).T i) i := by
  rcases hk with rfl | rfl | rfl
  · unfold evW evStep actD cntN
    simp
  · unfold evW
    simp
  · unfold evW
    simp
theorem WlIs.evs (h : WlIs B w a g wb lb tb M x c P T st) (p q : Value) : WlIs B ((w.alloc (.cells #[p, q] 53)).alloc (.cells #[.int .i64 0, .int .i64 0, .bool false, .int .i64 0] 62)) a g wb lb tb M x c P T st :=
  h.below (((Below.refl w.heap.size w).alloc (Nat.le_refl _) _).alloc (by simp) _)
set_option maxHeartbeats 2000000 in
theorem doW (h : WlIs B w a g wb lb tb M x c P T st) (C : CoPre BB x c st) (i : Nat) (hi : i < x.n) (k : Int) (hk : k = 0 ∨ k = 1 ∨ k = 2) :
    Calls Tryz.prog 16 #[wbP wb, .agg #[.int .i64 i, .int .i64 k]] w (WlAct B w a g wb lb tb M x c P T (actD c st ((i : Int), k)) (evV (evW st.T ((i : Int), k) (actD c st ((i : Int), k)).T))) := by
  rw [evW_eq c st i k hk]
  have h0 := h.evs (.int .i64 i) (.int .i64 k)
  have hE0 := (Blk.new w 53 #[.int .i64 i, .int .i64 k]).alloc (.cells #[.int .i64 0, .int .i64 0, .bool false, .int .i64 0] 62)
  have hE1 := Blk.new' (w.alloc (.cells #[.int .i64 i, .int .i64 k] 53)) 62 #[.int .i64 0, .int .i64 0, .bool false, .int .i64 0] (g := w.heap.size + 1) (by simp)
  have hT0 : Turns (CoS a g x) w ((w.alloc (.cells #[.int .i64 i, .int .i64 k] 53)).alloc (.cells #[.int .i64 0, .int .i64 0, .bool false, .int .i64 0] 62)) := ((Turns.refl _ _).alloc _).alloc _
  have HLO := Lib.hid (show ∀ r ∈ CoS a g x, r < w.heap.size from h.co.lts)
  have HM := Lib.hid (show M ≤ w.heap.size from h.hM)
  obtain ⟨w0, hw0⟩ : ∃ W, W = ((w.alloc (.cells #[.int .i64 i, .int .i64 k] 53)).alloc (.cells #[.int .i64 0, .int .i64 0, .bool false, .int .i64 0] 62)) := ⟨_, rfl⟩
  rw [← hw0] at h0 hE0 hE1 hT0
  have HT := Lib.hid (fun n => threadsWd (h0.below ((Qt.below (⟨n, rfl⟩ : Qt w0 (w0.drewN n)) w0.heap.size))))
  have hD : ∀ n, WlIs B (w0.drewN n) a g wb lb tb M x c P T st := fun n => h0.below (Qt.below (⟨n, rfl⟩ : Qt w0 (w0.drewN n)) w0.heap.size)
  have HS0 := Lib.hid (fun n => stepW (hD n) C i hi)
  have HS1 := Lib.hid (fun n => asksW (hD n) i hi)
  have HS2 := Lib.hid (fun n => leavesW (hD n) i hi)
  have HB := Lib.hid (fun n => And.intro (hE0.drewN n) (And.intro (hE1.drewN n) (hT0.drewN n)))
  have c0 : w0.cell? ⟨w.heap.size, 0, none⟩ = some (.int .i64 i) := hE0.cell 0
  have c1 : w0.cell? ⟨w.heap.size, 1, none⟩ = some (.int .i64 k) := hE0.cell 1
  have hw0s : w0.heap.size = w.heap.size + 2 := by rw [hw0]; simp
  obtain ⟨N, hN⟩ : ∃ N, N = x.n := ⟨_, rfl⟩
  rw [← hN] at HT hi
  have HW0 := Lib.hid hw0
  clear h h0 hE0 hE1 hT0 hN hD hw0
  have t1 : decide ((i : Int) < 0) = false := decide_eq_false (by omega)
  have t2 : decide ((i : Int) ≥ (N : Int)) = false := decide_eq_false (by omega)
  unfold wbP at HT HS0 HS1 HS2 ⊢
  rcases hk with rfl | rfl | rfl
  · have HN : Hid (actD c st ((i : Int), 0) = coStep c st i) := Lib.hid (by unfold actD; simp)
    rw [HN.out]
    clear HN
    rw [if_neg (by decide), if_neg (by decide)]
    go_enter Tryz.func16, Tryz.ntmps16
    go_wp2_with fail
    rw [← HW0.out]
    go_quiet ((go_at_call 17; exact quiet_left (HT.out _)))
    go_wp2_with fail
    refine (HS0.out _).mono ?_
    rintro en w3 ⟨rfl, k3, t3⟩
    have hB := HB.out nq
    have H3 := Lib.hid (And.intro k3 (And.intro (t3.blk hB.2.1 (fun m => by have := HLO.out _ m; omega)) (hB.2.2.trans t3)))
    clear k3 t3 hB
    have z0 := H3.out.2.1.free 0
    have z1 := H3.out.2.1.free 1
    have z2 := H3.out.2.1.free 2
    have z3 := H3.out.2.1.free 3
    have y0 := H3.out.2.1.cell 0
    have y1 := H3.out.2.1.cell 1
    have y2 := H3.out.2.1.cell 2
    have y3 := H3.out.2.1.cell 3
    unfold evV
    go_wp2
    exact bodyPost_ret (results_cell_row (by rfl) _ _ (w.heap.size + 1) 62 _ (0, 0) _ (by rfl) (by exact H3.out.2.1.set4) Tryz.underlying62 rfl (by kernel_rfl)) rfl ⟨rfl, H3.out.1.set4 (by have := HM.out; omega) _ _ _ _, H3.out.2.2.set4 (by omega) _ _ _ _⟩
  · have HN : Hid (actD c st ((i : Int), 1) = coAsk c st i) := Lib.hid (by unfold actD; simp)
    rw [HN.out]
    clear HN
    rw [if_pos rfl]
    obtain ⟨kd, hkd⟩ : ∃ kd : Int, kd = if (sv st.T i).pc = 0 then 1 else 5 := ⟨_, rfl⟩
    rw [← hkd] at HS1 ⊢
    clear hkd
    go_enter Tryz.func16, Tryz.ntmps16
    go_wp2_with fail
    rw [← HW0.out]
    go_quiet ((go_at_call 17; exact quiet_left (HT.out _)))
    go_wp2_with fail
    refine (HS1.out _).mono ?_
    rintro en w3 ⟨rfl, k3, t3⟩
    have hB := HB.out nq
    have H3 := Lib.hid (And.intro k3 (And.intro (t3.blk hB.2.1 (fun m => by have := HLO.out _ m; omega)) (hB.2.2.trans t3)))
    clear k3 t3 hB
    have z0 := H3.out.2.1.free 0
    have z1 := H3.out.2.1.free 1
    have z2 := H3.out.2.1.free 2
    have z3 := H3.out.2.1.free 3
    have y0 := H3.out.2.1.cell 0
    have y1 := H3.out.2.1.cell 1
    have y2 := H3.out.2.1.cell 2
    have y3 := H3.out.2.1.cell 3
    unfold evV
    go_wp2
    exact bodyPost_ret (results_cell_row (by rfl) _ _ (w.heap.size + 1) 62 _ (0, 0) _ (by rfl) (by exact H3.out.2.1.set4) Tryz.underlying62 rfl (by kernel_rfl)) rfl ⟨rfl, H3.out.1.set4 (by have := HM.out; omega) _ _ _ _, H3.out.2.2.set4 (by omega) _ _ _ _⟩
  · have HN : Hid (actD c st ((i : Int), 2) = coLeave st i) := Lib.hid (by unfold actD; simp)
    rw [HN.out]
    clear HN
    rw [if_neg (by decide), if_pos rfl]
    obtain ⟨kd, hkd⟩ : ∃ kd : Int, kd = if (sv st.T i).pc = 10 then 3 else 5 := ⟨_, rfl⟩
    rw [← hkd] at HS2 ⊢
    clear hkd
    go_enter Tryz.func16, Tryz.ntmps16
    go_wp2_with fail
    rw [← HW0.out]
    go_quiet ((go_at_call 17; exact quiet_left (HT.out _)))
    go_wp2_with fail
    refine (HS2.out _).mono ?_
    rintro en w3 ⟨rfl, k3, t3⟩
    have hB := HB.out nq
    have H3 := Lib.hid (And.intro k3 (And.intro (t3.blk hB.2.1 (fun m => by have := HLO.out _ m; omega)) (hB.2.2.trans t3)))
    clear k3 t3 hB
    have z0 := H3.out.2.1.free 0
    have z1 := H3.out.2.1.free 1
    have z2 := H3.out.2.1.free 2
    have z3 := H3.out.2.1.free 3
    have y0 := H3.out.2.1.cell 0
    have y1 := H3.out.2.1.cell 1
    have y2 := H3.out.2.1.cell 2
    have y3 := H3.out.2.1.cell 3
    unfold evV
    go_wp2
    exact bodyPost_ret (results_cell_row (by rfl) _ _ (w.heap.size + 1) 62 _ (0, 0) _ (by rfl) (by exact H3.out.2.1.set4) Tryz.underlying62 rfl (by kernel_rfl)) rfl ⟨rfl, H3.out.1.set4 (by have := HM.out; omega) _ _ _ _, H3.out.2.2.set4 (by omega) _ _ _ _⟩
end
end Go.Proofs.YtagajjilccjplaaGreat
end
