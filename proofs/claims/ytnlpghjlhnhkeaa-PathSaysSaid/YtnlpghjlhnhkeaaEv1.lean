/- Events and stays as plain data, and how a tally's round turns them. No program in sight. -/
import Derived.Test.YtnlpghjlhnhkeaaBase
import Derived.Maps.OwnSet
import Derived.Maps.OwnOps
namespace Go.Proofs.Ytnlpghjlhnhkeaa
open Go.RowKit Go.Maps

structure Ev where
  kind : Int
  thread : Int
  read : Bool
  count : Int
structure Stay where
  thread : Int
  read : Bool
  ask : Int
  enter : Int
  exit : Int
  rest : Int
  count : Int
instance : DecidableEq Ev := fun a b => decidable_of_iff (a.kind = b.kind ∧ a.thread = b.thread ∧ a.read = b.read ∧ a.count = b.count) (by cases a; cases b; simp)
instance : DecidableEq Stay := fun a b => decidable_of_iff (a.thread = b.thread ∧ a.read = b.read ∧ a.ask = b.ask ∧ a.enter = b.enter ∧ a.exit = b.exit ∧ a.rest = b.rest ∧ a.count = b.count) (by cases a; cases b; simp)

def encE (e : Ev) : List Value := [.int .i64 e.kind, .int .i64 e.thread, .bool e.read, .int .i64 e.count]
def encS (s : Stay) : List Value := [.int .i64 s.thread, .bool s.read, .int .i64 s.ask, .int .i64 s.enter, .int .i64 s.exit, .int .i64 s.rest, .int .i64 s.count]
theorem encE_len (e : Ev) : (encE e).length = 4 := rfl
theorem encS_len (s : Stay) : (encS s).length = 7 := rfl
theorem encS_one (s : Stay) : ∀ u ∈ encS s, u.oneCell' = true := by
  intro u hu; simp [encS] at hu; rcases hu with rfl | rfl | rfl | rfl | rfl | rfl | rfl <;> rfl
theorem encE_one (s : Ev) : ∀ u ∈ encE s, u.oneCell' = true := by
  intro u hu; simp [encE] at hu; rcases hu with rfl | rfl | rfl | rfl <;> rfl

/-- one cell of one element of a row written -/
theorem flatMap_set {α : Type} (enc : α → List Value) (sz : Nat) (hs : ∀ x, (enc x).length = sz) (l : List α) :
    ∀ k x x' j u, l[k]? = some x → j < sz → (enc x).set j u = enc x' → (l.flatMap enc).set (k * sz + j) u = (l.set k x').flatMap enc := by
  induction l with
  | nil => intro k x x' j u h; simp at h
  | cons a l ih =>
    intro k x x' j u h hj he
    cases k with
    | zero =>
      simp at h; subst h
      rw [List.set_cons_zero, List.flatMap_cons, List.flatMap_cons, List.set_append_left _ _ (by rw [hs]; omega)]
      simp [he]
    | succ k =>
      rw [List.set_cons_succ, List.flatMap_cons, List.flatMap_cons, List.set_append_right _ _ (by rw [hs, Nat.succ_mul]; omega), hs]
      have : (k + 1) * sz + j - sz = k * sz + j := by rw [Nat.succ_mul]; omega
      rw [this, ih k x x' j u (by simpa using h) hj he]

def noteOk (s : Stay) (e : Ev) : Bool := decide ((e.kind = 2 ∧ s.enter < 0) ∨ (e.kind = 3 ∧ 0 ≤ s.enter ∧ s.exit < 0) ∨ (e.kind = 4 ∧ 0 ≤ s.exit))
def noteS (s : Stay) (k : Int) (e : Ev) : Stay :=
  if e.kind = 2 ∧ s.enter < 0 then { s with enter := k, count := e.count }
  else if e.kind = 3 ∧ 0 ≤ s.enter ∧ s.exit < 0 then { s with exit := k }
  else if e.kind = 4 ∧ 0 ≤ s.exit then { s with rest := k } else s
def newS (k : Int) (e : Ev) : Stay := { thread := e.thread, read := e.read, ask := k, enter := -1, exit := -1, rest := -1, count := 0 }
def actS (t : Int) (s : Stay) : Bool := decide (s.thread = t ∧ s.rest < 0)
def openOf (out : List Stay) (t : Int) : Option Nat := out.findIdx? (actS t)
def tstep (out : List Stay) (k : Int) (e : Ev) : List Stay :=
  match openOf out e.thread with
  | none => if e.kind = 1 then out ++ [newS k e] else out
  | some i => match out[i]? with
    | some s => out.set i (noteS s k e)
    | none => out
def tallyTo (l : List Ev) : Nat → List Stay
  | 0 => []
  | k + 1 => match l[k]? with
    | some e => tstep (tallyTo l k) k e
    | none => tallyTo l k
def tallyL (l : List Ev) : List Stay := tallyTo l l.length

def Uniq (out : List Stay) : Prop := ∀ (i j : Nat) (a b : Stay), out[i]? = some a → out[j]? = some b → a.thread = b.thread → a.rest < 0 → b.rest < 0 → i = j
theorem uniq_nil : Uniq [] := by intro i j a b h; simp at h
theorem openOf_some {out : List Stay} {t : Int} {i : Nat} {s : Stay} (hu : Uniq out) (h : out[i]? = some s) (ht : s.thread = t) (hr : s.rest < 0) : openOf out t = some i := by
  unfold openOf
  have hi : i < out.length := (List.getElem?_eq_some_iff.1 h).1
  rw [List.findIdx?_eq_some_iff_getElem]
  have hs : out[i] = s := (List.getElem?_eq_some_iff.1 h).2
  refine ⟨hi, by simp [actS, hs, ht, hr], fun j hj => ?_⟩
  intro hc
  simp only [actS, decide_eq_true_eq] at hc
  have := hu j i out[j] s (List.getElem?_eq_getElem (by omega)) h (by rw [hc.1, ht]) hc.2 hr
  omega
theorem openOf_none {out : List Stay} {t : Int} (h : ∀ (i : Nat) (s : Stay), out[i]? = some s → s.thread = t → ¬ s.rest < 0) : openOf out t = none := by
  unfold openOf
  rw [List.findIdx?_eq_none_iff]
  intro s hs
  obtain ⟨i, hi⟩ := List.getElem?_of_mem hs
  simp only [actS, decide_eq_false_iff_not]
  rintro ⟨a, b⟩
  exact h i s hi a b

def keyI (t : Int) : Lit := .int .i64 t
def MapIs (D : DataW Unit) (out : List Stay) : Prop :=
  IsMap D ∧ Uniq out ∧ ∀ t, (Maps.has D (keyI t) = true → ∃ (k : Nat) (s : Stay), out[k]? = some s ∧ s.thread = t ∧ s.rest < 0 ∧ D.atKey (keyI t) (.lit (.int .i64 0)) = .lit (.int .i64 (k : Int))) ∧
    (Maps.has D (keyI t) = false → ∀ (k : Nat) (s : Stay), out[k]? = some s → s.thread = t → ¬ s.rest < 0)
theorem mapIs_nil : MapIs (.map []) [] := by
  refine ⟨isMap_empty, uniq_nil, fun t => ⟨fun h => by simp [Maps.has] at h, fun _ k s h => by simp at h⟩⟩
theorem keyI_ne {a b : Int} (h : a ≠ b) : keyI a ≠ keyI b := by
  intro he; exact h (by injection he)

theorem getElem?_snoc {α : Type} (l : List α) (x : α) (i : Nat) : (l ++ [x])[i]? = if i < l.length then l[i]? else if i = l.length then some x else none := by
  split
  · rw [List.getElem?_append_left (by omega)]
  · split
    · subst i; simp
    · rw [List.getElem?_eq_none]; simp; omega

theorem mapIs_ask {D : DataW Unit} {out : List Stay} {e : Ev} {k : Int} (h : MapIs D out) (hn : Maps.has D (keyI e.thread) = false) (hk : e.kind = 1) :
    tstep out k e = out ++ [newS k e] ∧ MapIs (D.put (keyI e.thread) (.lit (.int .i64 (out.length : Int)))) (out ++ [newS k e]) := by
  obtain ⟨hm, hu, hD⟩ := h
  have h0 := (hD e.thread).2 hn
  refine ⟨by unfold tstep; rw [openOf_none h0]; simp [hk], hm.put _ _, ?_, fun t => ?_⟩
  · intro i j a b ha hb hab hra hrb
    rw [getElem?_snoc] at ha hb
    split at ha <;> split at hb
    · exact hu i j a b ha hb hab hra hrb
    · split at hb
      · simp at hb; subst hb
        exact absurd hra (h0 i a ha hab)
      · cases hb
    · split at ha
      · simp at ha; subst ha
        exact absurd hrb (h0 j b hb hab.symm)
      · cases ha
    · split at ha
      · split at hb
        · omega
        · cases hb
      · cases ha
  · by_cases ht : t = e.thread
    · subst ht
      refine ⟨fun _ => ⟨out.length, newS k e, by simp, rfl, by simp [newS], atKey_put_same hm (by trivial) _ _⟩, fun hf => ?_⟩
      rw [has_put_same hm (by trivial)] at hf
      cases hf
    · rw [has_put_other (keyI_ne ht), atKey_put_other (keyI_ne ht)]
      refine ⟨fun hh => ?_, fun hh i s hs hst => ?_⟩
      · obtain ⟨i, s, hs, r⟩ := (hD t).1 hh
        refine ⟨i, s, ?_, r⟩
        rw [getElem?_snoc, if_pos (List.getElem?_eq_some_iff.1 hs).1]; exact hs
      · rw [getElem?_snoc] at hs
        split at hs
        · exact (hD t).2 hh i s hs hst
        · split at hs
          · simp at hs; subst hs; exact absurd hst.symm ht
          · cases hs
theorem mapIs_skip {D : DataW Unit} {out : List Stay} {e : Ev} {k : Int} (h : MapIs D out) (hn : Maps.has D (keyI e.thread) = false) (hk : ¬ e.kind = 1) : tstep out k e = out := by
  unfold tstep; rw [openOf_none ((h.2.2 e.thread).2 hn)]; simp [hk]

theorem noteS_thread (s : Stay) (k : Int) (e : Ev) : (noteS s k e).thread = s.thread := by unfold noteS; split <;> (try split) <;> (try split) <;> rfl
theorem noteS_rest (s : Stay) (k : Int) (e : Ev) (h : noteOk s e = false ∨ ¬ e.kind = 4) : (noteS s k e).rest = s.rest := by
  unfold noteS
  split
  · rfl
  · split
    · rfl
    · split
      · rename_i h1 h2 h3
        rcases h with h | h
        · simp [noteOk] at h; omega
        · omega
      · rfl
theorem noteS_done (s : Stay) (k : Int) (e : Ev) (h : noteOk s e = true) (h4 : e.kind = 4) : noteS s k e = { s with rest := k } := by
  unfold noteS noteOk at *
  simp only [decide_eq_true_eq] at h
  rw [if_neg (by omega), if_neg (by omega), if_pos (by omega)]

theorem mapIs_note {D : DataW Unit} {out : List Stay} {e : Ev} {k : Int} {i : Nat} {s : Stay} (h : MapIs D out) (hs : out[i]? = some s) (ht : s.thread = e.thread) (hr : s.rest < 0)
    (hno : noteOk s e = false ∨ ¬ e.kind = 4) : tstep out k e = out.set i (noteS s k e) ∧ MapIs D (out.set i (noteS s k e)) := by
  obtain ⟨hm, hu, hD⟩ := h
  have hi : i < out.length := (List.getElem?_eq_some_iff.1 hs).1
  have hsi : out[i] = s := (List.getElem?_eq_some_iff.1 hs).2
  have hget : ∀ (j : Nat) (a : Stay), (out.set i (noteS s k e))[j]? = some a → ∃ b, out[j]? = some b ∧ a.thread = b.thread ∧ a.rest = b.rest := by
    intro j a ha
    rw [List.getElem?_set] at ha
    split at ha
    · rename_i hij; subst hij
      injection ha with ha; subst ha
      exact ⟨s, hs, noteS_thread s k e, noteS_rest s k e hno⟩
    · exact ⟨a, ha, rfl, rfl⟩
  have hput : ∀ (j : Nat) (b : Stay), out[j]? = some b → ∃ a, (out.set i (noteS s k e))[j]? = some a ∧ a.thread = b.thread ∧ a.rest = b.rest := by
    intro j b hb
    rw [List.getElem?_set]
    by_cases hij : i = j
    · subst hij
      rw [hs] at hb; injection hb with hb; subst hb
      exact ⟨noteS s k e, by simp [hi], noteS_thread s k e, noteS_rest s k e hno⟩
    · exact ⟨b, by rw [if_neg hij]; exact hb, rfl, rfl⟩
  refine ⟨?_, hm, ?_, fun t => ⟨fun hh => ?_, fun hh j a ha hat => ?_⟩⟩
  · unfold tstep
    rw [openOf_some hu hs ht hr]
    simp only [hs]
  · intro p q a b ha hb hab hra hrb
    obtain ⟨a', ha', e1, e2⟩ := hget p a ha
    obtain ⟨b', hb', e3, e4⟩ := hget q b hb
    exact hu p q a' b' ha' hb' (by rw [← e1, ← e3, hab]) (by omega) (by omega)
  · obtain ⟨j, b, hb, h1, h2, h3⟩ := (hD t).1 hh
    obtain ⟨a, ha, e1, e2⟩ := hput j b hb
    exact ⟨j, a, ha, by rw [e1, h1], by omega, h3⟩
  · obtain ⟨b, hb, e1, e2⟩ := hget j a ha
    have := (hD t).2 hh j b hb (by rw [← e1, hat])
    omega
theorem mapIs_rest {D : DataW Unit} {out : List Stay} {e : Ev} {k : Int} {i : Nat} {s : Stay} (h : MapIs D out) (hs : out[i]? = some s) (ht : s.thread = e.thread) (hr : s.rest < 0) (hk : 0 ≤ k)
    (hok : noteOk s e = true) (h4 : e.kind = 4) : tstep out k e = out.set i (noteS s k e) ∧ MapIs (D.del (keyI e.thread)) (out.set i (noteS s k e)) := by
  obtain ⟨hm, hu, hD⟩ := h
  have hi : i < out.length := (List.getElem?_eq_some_iff.1 hs).1
  have hget : ∀ (j : Nat) (a : Stay), (out.set i (noteS s k e))[j]? = some a → (j = i ∧ a.thread = e.thread ∧ a.rest = k) ∨ (j ≠ i ∧ out[j]? = some a) := by
    intro j a ha
    rw [List.getElem?_set] at ha
    split at ha
    · rename_i hij; subst hij
      injection ha with ha; subst ha
      rw [noteS_done s k e hok h4]
      exact .inl ⟨rfl, ht, rfl⟩
    · rename_i hij
      exact .inr ⟨fun e => hij e.symm, ha⟩
  refine ⟨?_, hm.del _, ?_, fun t => ?_⟩
  · unfold tstep
    rw [openOf_some hu hs ht hr]
    simp only [hs]
  · intro p q a b ha hb hab hra hrb
    rcases hget p a ha with ⟨_, _, h1⟩ | ⟨_, ha'⟩
    · omega
    · rcases hget q b hb with ⟨_, _, h1⟩ | ⟨_, hb'⟩
      · omega
      · exact hu p q a b ha' hb' hab hra hrb
  · by_cases hte : t = e.thread
    · subst hte
      refine ⟨fun hh => ?_, fun _ j a ha hat hra => ?_⟩
      · rw [has_del_same] at hh; cases hh
      · rcases hget j a ha with ⟨_, _, h1⟩ | ⟨hne, ha'⟩
        · omega
        · exact hne (hu j i a s ha' hs (by rw [hat, ht]) hra hr)
    · rw [has_del_other (keyI_ne hte), atKey_del_other (keyI_ne hte)]
      refine ⟨fun hh => ?_, fun hh j a ha hat => ?_⟩
      · obtain ⟨j, b, hb, h1, h2, h3⟩ := (hD t).1 hh
        refine ⟨j, b, ?_, h1, h2, h3⟩
        rw [List.getElem?_set, if_neg]
        · exact hb
        · rintro rfl
          rw [hs] at hb; injection hb with hb; subst hb
          exact hte (by rw [← h1, ht])
      · rcases hget j a ha with ⟨_, h1, _⟩ | ⟨_, ha'⟩
        · exact absurd (by rw [← hat, h1]) hte
        · exact (hD t).2 hh j a ha' hat
end Go.Proofs.Ytnlpghjlhnhkeaa
