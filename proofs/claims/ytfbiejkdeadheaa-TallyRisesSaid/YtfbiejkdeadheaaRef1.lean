/- Layer 12: the document's stays as plain data, place by place; and that the tally's are the same. No program in sight. -/
import Derived.Test.YtfbiejkdeadheaaEv1
namespace Go.Proofs.Ytfbiejkdeadheaa
open Go.RowKit

def isE (l : List Ev) (k : Nat) (kind t : Int) : Bool :=
  match l[k]? with
  | some e => decide (e.kind = kind ∧ e.thread = t)
  | none => false
def nextTo (l : List Ev) (a kind t : Int) : Nat → Int
  | 0 => -1
  | k + 1 => if 0 ≤ nextTo l a kind t k then nextTo l a kind t k else if 0 ≤ a ∧ a ≤ k ∧ isE l k kind t = true then (k : Int) else -1
def behindTo (l : List Ev) (a kind t : Int) (k : Nat) : Int := if a < 0 then -1 else nextTo l (a + 1) kind t k
def cntAt (l : List Ev) (a : Int) : Int := if a < 0 then 0 else match l[a.toNat]? with | some e => e.count | none => 0
def stayTo (l : List Ev) (i : Nat) (e : Ev) (k : Nat) : Stay :=
  let en := behindTo l i 2 e.thread k
  let ex := behindTo l en 3 e.thread k
  { thread := e.thread, read := e.read, ask := i, enter := en, exit := ex, rest := behindTo l ex 4 e.thread k, count := cntAt l en }
def bothers (t i : Int) (s : Stay) : Bool := decide (s.thread = t ∧ (s.rest < 0 ∨ i < s.rest))
def refTo (l : List Ev) : Nat → List Stay
  | 0 => []
  | k + 1 => match l[k]? with
    | some e => if e.kind = 1 ∧ (refTo l k).any (bothers e.thread k) = false then refTo l k ++ [stayTo l k e l.length] else refTo l k
    | none => refTo l k
def refL (l : List Ev) : List Stay := refTo l l.length

theorem refTo_succ (l : List Ev) (k : Nat) (e : Ev) (h : l[k]? = some e) : refTo l (k + 1) = if e.kind = 1 ∧ (refTo l k).any (bothers e.thread k) = false then refTo l k ++ [stayTo l k e l.length] else refTo l k := by
  show (match l[k]? with | some e => if e.kind = 1 ∧ (refTo l k).any (bothers e.thread k) = false then refTo l k ++ [stayTo l k e l.length] else refTo l k | none => refTo l k) = _
  rw [h]
theorem refTo_len (l : List Ev) : ∀ k, (refTo l k).length ≤ k
  | 0 => by simp [refTo]
  | k + 1 => by
    have h := refTo_len l k
    unfold refTo
    split
    · split
      · simp; omega
      · omega
    · omega

theorem nextTo_lt (l : List Ev) (a kind t : Int) : ∀ k, nextTo l a kind t k < k ∧ -1 ≤ nextTo l a kind t k
  | 0 => by simp [nextTo]
  | k + 1 => by
    have h := nextTo_lt l a kind t k
    unfold nextTo
    split
    · omega
    · split <;> omega
theorem nextTo_ge (l : List Ev) (a kind t : Int) : ∀ k, 0 ≤ nextTo l a kind t k → a ≤ nextTo l a kind t k ∧ 0 ≤ a
  | 0 => by simp [nextTo]
  | k + 1 => by
    have h := nextTo_ge l a kind t k
    unfold nextTo
    split
    · exact h
    · split <;> omega
/-- what was found stays found -/
theorem nextTo_stays (l : List Ev) (a kind t : Int) (k : Nat) (h : 0 ≤ nextTo l a kind t k) : ∀ d, nextTo l a kind t (k + d) = nextTo l a kind t k
  | 0 => rfl
  | d + 1 => by
    have ih := nextTo_stays l a kind t k h d
    rw [← Nat.add_assoc]
    show (if 0 ≤ nextTo l a kind t (k + d) then nextTo l a kind t (k + d) else _) = _
    rw [ih, if_pos h]
theorem nextTo_le (l : List Ev) (a kind t : Int) {k m : Nat} (hkm : k ≤ m) (h : 0 ≤ nextTo l a kind t k) : nextTo l a kind t m = nextTo l a kind t k := by
  have := nextTo_stays l a kind t k h (m - k)
  rwa [show k + (m - k) = m from by omega] at this
/-- found before k, or not before k -/
theorem nextTo_cut (l : List Ev) (a kind t : Int) {k : Nat} : ∀ m, k ≤ m → nextTo l a kind t k = if 0 ≤ nextTo l a kind t m ∧ nextTo l a kind t m < k then nextTo l a kind t m else -1
  | 0, h => by
    obtain rfl : k = 0 := by omega
    simp [nextTo]
  | m + 1, h => by
    by_cases hk : k = m + 1
    · subst hk
      have h1 := nextTo_lt l a kind t (m + 1)
      split
      · rfl
      · omega
    · have ih := nextTo_cut l a kind t (k := k) m (by omega)
      have h1 := nextTo_lt l a kind t m
      rw [ih]
      by_cases hm : 0 ≤ nextTo l a kind t m
      · rw [nextTo_le l a kind t (show m ≤ m + 1 by omega) hm]
      · have e : nextTo l a kind t (m + 1) = if 0 ≤ a ∧ a ≤ m ∧ isE l m kind t = true then (m : Int) else -1 := by
          show (if 0 ≤ nextTo l a kind t m then nextTo l a kind t m else _) = _
          rw [if_neg hm]
        rw [e]
        split <;> split <;> split <;> omega
theorem nextTo_before (l : List Ev) (a kind t : Int) : ∀ k : Nat, (k : Int) ≤ a → nextTo l a kind t k = -1
  | 0, _ => rfl
  | k + 1, h => by
    have ih := nextTo_before l a kind t k (by omega)
    unfold nextTo
    rw [ih, if_neg (by omega), if_neg (by omega)]
theorem nextTo_succ (l : List Ev) (a kind t : Int) (k : Nat) : nextTo l a kind t (k + 1) = if 0 ≤ nextTo l a kind t k then nextTo l a kind t k else if 0 ≤ a ∧ a ≤ k ∧ isE l k kind t = true then (k : Int) else -1 := rfl

theorem behindTo_lt (l : List Ev) (a kind t : Int) (k : Nat) : behindTo l a kind t k < k ∧ -1 ≤ behindTo l a kind t k := by
  unfold behindTo
  have := nextTo_lt l (a + 1) kind t k
  split <;> omega
theorem behindTo_ge (l : List Ev) (a kind t : Int) (k : Nat) (h : 0 ≤ behindTo l a kind t k) : a < behindTo l a kind t k ∧ 0 ≤ a := by
  unfold behindTo at *
  split at h
  · omega
  · have := nextTo_ge l (a + 1) kind t k h
    rw [if_neg (by omega)]
    omega
/-- a place behind another one, both seen from k: cut off at k -/
theorem behindTo_cut (l : List Ev) (a kind t : Int) {k m : Nat} (h : k ≤ m) : behindTo l a kind t k = if 0 ≤ behindTo l a kind t m ∧ behindTo l a kind t m < k then behindTo l a kind t m else -1 := by
  unfold behindTo
  split
  · rw [if_neg (by omega)]
  · exact nextTo_cut l (a + 1) kind t m h

def cutI (k : Nat) (x : Int) : Int := if 0 ≤ x ∧ x < k then x else -1
theorem behind_chain (l : List Ev) (a kind t : Int) {k m : Nat} (h : k ≤ m) : behindTo l (cutI k a) kind t k = cutI k (behindTo l a kind t m) := by
  by_cases ha : 0 ≤ a ∧ a < k
  · rw [show cutI k a = a from by unfold cutI; rw [if_pos ha], behindTo_cut l a kind t h]
    rfl
  · rw [show cutI k a = -1 from by unfold cutI; rw [if_neg ha]]
    have h1 : behindTo l (-1) kind t k = -1 := by unfold behindTo; rw [if_pos (by omega)]
    rw [h1]
    unfold cutI
    by_cases hx : 0 ≤ behindTo l a kind t m
    · have := behindTo_ge l a kind t m hx
      rw [if_neg (by omega)]
    · rw [if_neg (by omega)]

/-- the stay seen from k is the stay seen from the end, its places cut off at k -/
theorem stayTo_cut (l : List Ev) (i : Nat) (e : Ev) {k m : Nat} (hi : i < k) (h : k ≤ m) :
    (stayTo l i e k).enter = cutI k (stayTo l i e m).enter ∧ (stayTo l i e k).exit = cutI k (stayTo l i e m).exit ∧ (stayTo l i e k).rest = cutI k (stayTo l i e m).rest := by
  have h1 : (stayTo l i e k).enter = cutI k (stayTo l i e m).enter := by
    show behindTo l i 2 e.thread k = _
    have := behind_chain l (i : Int) 2 e.thread h
    rwa [show cutI k (i : Int) = i from by unfold cutI; rw [if_pos (by omega)]] at this
  have h2 : (stayTo l i e k).exit = cutI k (stayTo l i e m).exit := by
    show behindTo l (stayTo l i e k).enter 3 e.thread k = _
    rw [h1]; exact behind_chain l _ 3 e.thread h
  refine ⟨h1, h2, ?_⟩
  show behindTo l (stayTo l i e k).exit 4 e.thread k = _
  rw [h2]; exact behind_chain l _ 4 e.thread h

theorem stayTo_fields (l : List Ev) (i : Nat) (e : Ev) (k : Nat) : (stayTo l i e k).thread = e.thread ∧ (stayTo l i e k).ask = i ∧ (stayTo l i e k).read = e.read := ⟨rfl, rfl, rfl⟩

theorem behindTo_pos (l : List Ev) (a kind t : Int) (k : Nat) (h : 0 ≤ a) : behindTo l a kind t k = nextTo l (a + 1) kind t k := by unfold behindTo; rw [if_neg (by omega)]
/-- one place more: a place that is searched -/
theorem behindTo_succ (l : List Ev) (a kind t : Int) (k : Nat) (ha : a < k) (hx : 0 ≤ a) : behindTo l a kind t (k + 1) = if 0 ≤ behindTo l a kind t k then behindTo l a kind t k else if isE l k kind t = true then (k : Int) else -1 := by
  rw [behindTo_pos l a kind t _ hx, behindTo_pos l a kind t _ hx, nextTo_succ]
  by_cases hf : 0 ≤ nextTo l (a + 1) kind t k
  · rw [if_pos hf, if_pos hf]
  · rw [if_neg hf, if_neg hf]
    by_cases hE : isE l k kind t = true
    · rw [if_pos hE, if_pos ⟨by omega, by omega, hE⟩]
    · rw [if_neg hE, if_neg (fun h => hE h.2.2)]
theorem behindTo_at (l : List Ev) (kind t : Int) (k : Nat) : behindTo l k kind t (k + 1) = -1 := by
  unfold behindTo
  rw [if_neg (by omega)]
  exact nextTo_before l _ kind t (k + 1) (by omega)
theorem behindTo_neg (l : List Ev) (a kind t : Int) (k : Nat) (h : a < 0) : behindTo l a kind t k = -1 := by unfold behindTo; rw [if_pos h]
theorem isE_eq {l : List Ev} {k : Nat} {x : Ev} (h : l[k]? = some x) (kind t : Int) : isE l k kind t = decide (x.kind = kind ∧ x.thread = t) := by unfold isE; rw [h]

theorem stay_ext {a b : Stay} (h1 : a.thread = b.thread) (h2 : a.read = b.read) (h3 : a.ask = b.ask) (h4 : a.enter = b.enter) (h5 : a.exit = b.exit) (h6 : a.rest = b.rest) (h7 : a.count = b.count) : a = b := by
  cases a; cases b; simp_all

/-- the round of a tally, at a stay that is under way -/
theorem stayTo_note (l : List Ev) (i : Nat) (e x : Ev) (k : Nat) (hi : i < k) (hx : l[k]? = some x) (ht : x.thread = e.thread) (hr : (stayTo l i e k).rest < 0) :
    stayTo l i e (k + 1) = noteS (stayTo l i e k) k x := by
  obtain ⟨en, hen⟩ : ∃ en, en = behindTo l i 2 e.thread k := ⟨_, rfl⟩
  obtain ⟨ex, hex⟩ : ∃ ex, ex = behindTo l en 3 e.thread k := ⟨_, rfl⟩
  obtain ⟨rs, hrs⟩ : ∃ rs, rs = behindTo l ex 4 e.thread k := ⟨_, rfl⟩
  have hr' : rs < 0 := by rw [hrs, hex, hen]; exact hr
  have l1 := behindTo_lt l i 2 e.thread k
  have l2 := behindTo_lt l en 3 e.thread k
  have l3 := behindTo_lt l ex 4 e.thread k
  have g2 := behindTo_ge l en 3 e.thread k
  rw [← hen] at l1
  rw [← hex] at l2 g2
  have hE2 := isE_eq hx 2 e.thread
  have hE3 := isE_eq hx 3 e.thread
  have hE4 := isE_eq hx 4 e.thread
  have s1 : behindTo l i 2 e.thread (k + 1) = if 0 ≤ en then en else if x.kind = 2 then (k : Int) else -1 := by
    rw [behindTo_succ l i 2 e.thread k (by omega) (by omega), ← hen, hE2]
    by_cases h : x.kind = 2 <;> simp [h, ht]
  have hst : stayTo l i e k = { thread := e.thread, read := e.read, ask := i, enter := en, exit := ex, rest := rs, count := cntAt l en } := by
    unfold stayTo; simp only [← hen, ← hex, ← hrs]
  have hcx : cntAt l (k : Int) = x.count := by
    unfold cntAt; rw [if_neg (by omega), Int.toNat_natCast, hx]
  have hst' : stayTo l i e (k + 1) = { thread := e.thread, read := e.read, ask := i, enter := behindTo l i 2 e.thread (k + 1), exit := behindTo l (behindTo l i 2 e.thread (k + 1)) 3 e.thread (k + 1), rest := behindTo l (behindTo l (behindTo l i 2 e.thread (k + 1)) 3 e.thread (k + 1)) 4 e.thread (k + 1), count := cntAt l (behindTo l i 2 e.thread (k + 1)) } := rfl
  rw [hst', hst, s1]
  unfold noteS
  simp only
  by_cases he : 0 ≤ en
  · rw [if_pos he, if_neg (by omega)]
    have s2 : behindTo l en 3 e.thread (k + 1) = if 0 ≤ ex then ex else if x.kind = 3 then (k : Int) else -1 := by
      rw [behindTo_succ l en 3 e.thread k (by omega) he, ← hex, hE3]
      by_cases h : x.kind = 3 <;> simp [h, ht]
    rw [s2]
    by_cases hxx : 0 ≤ ex
    · rw [if_pos hxx, if_neg (by omega)]
      have s3 : behindTo l ex 4 e.thread (k + 1) = if x.kind = 4 then (k : Int) else -1 := by
        rw [behindTo_succ l ex 4 e.thread k (by omega) hxx, ← hrs, if_neg (by omega), hE4]
        by_cases h : x.kind = 4 <;> simp [h, ht]
      rw [s3]
      by_cases h4 : x.kind = 4
      · rw [if_pos h4, if_pos ⟨h4, hxx⟩]
      · rw [if_neg h4, if_neg (fun h => h4 h.1)]
        exact stay_ext rfl rfl rfl rfl rfl (by simp only; omega) rfl
    · rw [if_neg hxx]
      have rs1 : rs = -1 := by rw [hrs]; exact behindTo_neg l ex 4 e.thread k (by omega)
      have ex1 : ex = -1 := by omega
      by_cases h3 : x.kind = 3
      · rw [if_pos h3, if_pos ⟨h3, he, by omega⟩]
        exact stay_ext rfl rfl rfl rfl rfl (by simp only [behindTo_at, rs1]) rfl
      · rw [if_neg h3, if_neg (fun h => h3 h.1), if_neg (by omega)]
        exact stay_ext rfl rfl rfl rfl (by simp only [ex1]) (by simp only [rs1]; exact behindTo_neg l _ 4 e.thread _ (by omega)) rfl
  · rw [if_neg he]
    have en1 : en = -1 := by omega
    have ex1 : ex = -1 := by rw [hex]; exact behindTo_neg l en 3 e.thread k (by omega)
    have rs1 : rs = -1 := by rw [hrs]; exact behindTo_neg l ex 4 e.thread k (by omega)
    by_cases h2 : x.kind = 2
    · rw [if_pos h2, if_pos ⟨h2, by omega⟩]
      exact stay_ext rfl rfl rfl rfl (by simp only [behindTo_at, ex1]) (by simp only [behindTo_at, rs1]; exact behindTo_neg l _ 4 e.thread _ (by omega)) (by simp only [hcx])
    · rw [if_neg h2, if_neg (fun h => h2 h.1), if_neg (by omega), if_neg (by omega)]
      have n3 : behindTo l (-1) 3 e.thread (k + 1) = -1 := behindTo_neg l _ 3 e.thread _ (by omega)
      exact stay_ext rfl rfl rfl (by simp only [en1]) (by simp only [n3, ex1]) (by simp only [n3, rs1]; exact behindTo_neg l _ 4 e.thread _ (by omega)) (by simp only [en1])
/-- .. at a stay of another thread, or one that is over: nothing turns -/
theorem stayTo_skip (l : List Ev) (i : Nat) (e x : Ev) (k : Nat) (hi : i < k) (hx : l[k]? = some x) (h : ¬ x.thread = e.thread ∨ ¬ (stayTo l i e k).rest < 0) :
    stayTo l i e (k + 1) = stayTo l i e k := by
  have hE : ∀ kind, ¬ x.thread = e.thread → isE l k kind e.thread = false := fun kind hn => by rw [isE_eq hx]; simp [hn]
  have step : ∀ (a kind : Int), a < k → (¬ x.thread = e.thread ∨ 0 ≤ behindTo l a kind e.thread k) → behindTo l a kind e.thread (k + 1) = behindTo l a kind e.thread k := by
    intro a kind ha hc
    by_cases ha0 : 0 ≤ a
    · rw [behindTo_succ l a kind e.thread k ha ha0]
      split
      · rfl
      · rename_i hn
        rcases hc with hc | hc
        · rw [hE kind hc]
          have := behindTo_lt l a kind e.thread k
          simp; omega
        · exact absurd hc hn
    · rw [behindTo_neg l a kind e.thread _ (by omega), behindTo_neg l a kind e.thread _ (by omega)]
  have h1 : behindTo l i 2 e.thread (k + 1) = behindTo l i 2 e.thread k := by
    apply step _ _ (by omega)
    rcases h with h | h
    · exact .inl h
    · right
      have g1 := behindTo_ge l _ 4 e.thread k (show 0 ≤ (stayTo l i e k).rest by omega)
      have g2 := behindTo_ge l _ 3 e.thread k g1.2
      exact g2.2
  have h2 : behindTo l (behindTo l i 2 e.thread k) 3 e.thread (k + 1) = behindTo l (behindTo l i 2 e.thread k) 3 e.thread k := by
    apply step _ _ (behindTo_lt l _ 2 e.thread k).1
    rcases h with h | h
    · exact .inl h
    · exact .inr (behindTo_ge l _ 4 e.thread k (show 0 ≤ (stayTo l i e k).rest by omega)).2
  have h3 : behindTo l (behindTo l (behindTo l i 2 e.thread k) 3 e.thread k) 4 e.thread (k + 1) = behindTo l (behindTo l (behindTo l i 2 e.thread k) 3 e.thread k) 4 e.thread k := by
    apply step _ _ (behindTo_lt l _ 3 e.thread k).1
    rcases h with h | h
    · exact .inl h
    · exact .inr (show 0 ≤ (stayTo l i e k).rest by omega)
  unfold stayTo
  simp only [h1, h2, h3]

theorem nextTo_isE (l : List Ev) (a kind t : Int) : ∀ k, 0 ≤ nextTo l a kind t k → isE l (nextTo l a kind t k).toNat kind t = true
  | 0, h => by simp [nextTo] at h
  | k + 1, h => by
    rw [nextTo_succ] at h ⊢
    split at h
    · rename_i h0
      rw [if_pos h0]
      exact nextTo_isE l a kind t k h0
    · rename_i h0
      rw [if_neg h0]
      split at h
      · rename_i h1
        rw [if_pos h1, Int.toNat_natCast]
        exact h1.2.2
      · omega
theorem behindTo_isE (l : List Ev) (a kind t : Int) (k : Nat) (h : 0 ≤ behindTo l a kind t k) : isE l (behindTo l a kind t k).toNat kind t = true := by
  unfold behindTo at *
  split at h
  · omega
  · rename_i h0
    rw [if_neg h0]
    exact nextTo_isE l _ kind t k h

theorem uniq_snoc {out : List Stay} {s : Stay} (hu : Uniq out) (h0 : ∀ (i : Nat) (a : Stay), out[i]? = some a → a.thread = s.thread → ¬ a.rest < 0) : Uniq (out ++ [s]) := by
  intro i j a b ha hb hab hra hrb
  rw [getElem?_snoc] at ha hb
  split at ha <;> split at hb
  · exact hu i j a b ha hb hab hra hrb
  · split at hb
    · simp at hb; subst hb
      exact absurd hra (h0 i a ha hab)
    · cases hb
  · split at ha
    · simp at ha; subst ha
      exact absurd hrb (h0 j b hb hab.symm)
    · cases ha
  · split at ha
    · split at hb
      · omega
      · cases hb
    · cases ha
theorem noteS_rest_le (s : Stay) (k : Int) (e : Ev) (hk : 0 ≤ k) : (noteS s k e).rest < 0 → s.rest < 0 ∨ (noteS s k e).rest = s.rest := by
  unfold noteS
  split
  · intro h; exact .inr rfl
  · split
    · intro h; exact .inr rfl
    · split
      · intro h; simp at h; omega
      · intro h; exact .inr rfl
theorem uniq_set {out : List Stay} {i : Nat} {s : Stay} (hu : Uniq out) (hs : out[i]? = some s) (k : Int) (e : Ev) (hk : 0 ≤ k) : Uniq (out.set i (noteS s k e)) := by
  have hget : ∀ (j : Nat) (a : Stay), (out.set i (noteS s k e))[j]? = some a → ∃ b, out[j]? = some b ∧ a.thread = b.thread ∧ (a.rest < 0 → b.rest < 0) := by
    intro j a ha
    rw [List.getElem?_set] at ha
    split at ha
    · rename_i hij; subst hij
      split at ha
      · injection ha with ha; subst ha
        refine ⟨s, hs, noteS_thread s k e, fun h => ?_⟩
        rcases noteS_rest_le s k e hk h with h1 | h1 <;> omega
      · cases ha
    · exact ⟨a, ha, rfl, fun h => h⟩
  intro p q a b ha hb hab hra hrb
  obtain ⟨a', ha', e1, e2⟩ := hget p a ha
  obtain ⟨b', hb', e3, e4⟩ := hget q b hb
  exact hu p q a' b' ha' hb' (by rw [← e1, ← e3, hab]) (e2 hra) (e4 hrb)
theorem openOf_spec (out : List Stay) (t : Int) : (∃ i s, openOf out t = some i ∧ out[i]? = some s ∧ s.thread = t ∧ s.rest < 0) ∨ (openOf out t = none ∧ ∀ (i : Nat) (s : Stay), out[i]? = some s → s.thread = t → ¬ s.rest < 0) := by
  cases h : openOf out t with
  | none =>
    right
    refine ⟨rfl, fun i s hs ht hr => ?_⟩
    unfold openOf at h
    rw [List.findIdx?_eq_none_iff] at h
    have := h s (List.mem_of_getElem? hs)
    simp [actS, ht, hr] at this
  | some i =>
    left
    unfold openOf at h
    rw [List.findIdx?_eq_some_iff_getElem] at h
    obtain ⟨hi, h1, _⟩ := h
    simp only [actS, decide_eq_true_eq] at h1
    exact ⟨i, out[i], rfl, List.getElem?_eq_getElem hi, h1.1, h1.2⟩
theorem uniq_tally (l : List Ev) : ∀ k, Uniq (tallyTo l k)
  | 0 => uniq_nil
  | k + 1 => by
    have hu := uniq_tally l k
    unfold tallyTo
    split
    · rename_i e he
      unfold tstep
      rcases openOf_spec (tallyTo l k) e.thread with ⟨i, s, ho, hs, _, _⟩ | ⟨ho, hn⟩
      · rw [ho]
        simp only [hs]
        exact uniq_set hu hs _ _ (by omega)
      · rw [ho]
        simp only
        split
        · exact uniq_snoc hu hn
        · exact hu
    · exact hu

theorem newS_eq (l : List Ev) (k : Nat) (e : Ev) : stayTo l k e (k + 1) = newS k e := by
  have h1 : behindTo l k 2 e.thread (k + 1) = -1 := behindTo_at l 2 e.thread k
  have h2 : behindTo l (-1) 3 e.thread (k + 1) = -1 := behindTo_neg l _ 3 e.thread _ (by omega)
  have h3 : behindTo l (-1) 4 e.thread (k + 1) = -1 := behindTo_neg l _ 4 e.thread _ (by omega)
  unfold stayTo newS
  simp only [h1, h2, h3]
  rfl

/-- THE TALLY AND THE DOCUMENT's STAYS, place by place: the same asks, the one seen from k, the other from the end -/
theorem tally_ref (l : List Ev) : ∀ k : Nat, k ≤ l.length → ∃ A : List (Nat × Ev), (∀ p ∈ A, p.1 < k ∧ l[p.1]? = some p.2) ∧ refTo l k = A.map (fun p => stayTo l p.1 p.2 l.length) ∧ tallyTo l k = A.map (fun p => stayTo l p.1 p.2 k)
  | 0, _ => ⟨[], by simp, rfl, rfl⟩
  | k + 1, hk => by
    obtain ⟨A, hA, hR, hT⟩ := tally_ref l k (by omega)
    obtain ⟨x, hx⟩ := getElem?_lt (show k < l.length by omega)
    have hu := uniq_tally l k
    have hts : tallyTo l (k + 1) = tstep (tallyTo l k) k x := by
      show (match l[k]? with | some e => tstep (tallyTo l k) k e | none => tallyTo l k) = _
      rw [hx]
    have hrs := refTo_succ l k x hx
    have hcut : ∀ p ∈ A, (stayTo l p.1 p.2 k).rest = cutI k (stayTo l p.1 p.2 l.length).rest := fun p hp => (stayTo_cut l p.1 p.2 (hA p hp).1 (by omega)).2.2
    rcases openOf_spec (tallyTo l k) x.thread with ⟨i, s, ho, hs, hst, hsr⟩ | ⟨ho, hn⟩
    · -- a stay is under way
      have hi : i < A.length := by have := (List.getElem?_eq_some_iff.1 hs).1; rw [hT] at this; simpa using this
      have hsA : s = stayTo l (A[i]).1 (A[i]).2 k := by
        rw [hT, List.getElem?_map, List.getElem?_eq_getElem hi] at hs
        simpa using hs.symm
      have hm := List.getElem_mem hi
      refine ⟨A, fun p hp => ⟨by have := (hA p hp).1; omega, (hA p hp).2⟩, ?_, ?_⟩
      · rw [hrs, if_neg, hR]
        rintro ⟨h1, h2⟩
        rw [hR, List.any_map, List.any_eq_false] at h2
        have h3 := h2 A[i] hm
        simp only [Function.comp, bothers, decide_eq_true_eq, not_and, not_or] at h3
        have h4 := h3 (by rw [hsA] at hst; exact hst)
        have h5 := hcut A[i] hm
        rw [hsA] at hsr
        rw [h5] at hsr
        have h6 : (stayTo l (A[i]).1 (A[i]).2 l.length).rest = k := by
          unfold cutI at hsr
          split at hsr <;> omega
        have h7 := behindTo_isE l _ 4 (A[i]).2.thread l.length (show 0 ≤ (stayTo l (A[i]).1 (A[i]).2 l.length).rest by omega)
        have h8 : isE l ((stayTo l (A[i]).1 (A[i]).2 l.length).rest).toNat 4 (A[i]).2.thread = true := h7
        rw [h6, Int.toNat_natCast, isE_eq hx] at h8
        simp [h1] at h8
      · rw [hts]
        unfold tstep
        rw [ho]
        simp only [hs]
        rw [hT]
        apply List.ext_getElem?
        intro j
        rw [List.getElem?_set, List.getElem?_map, List.length_map]
        by_cases hij : i = j
        · subst hij
          rw [if_pos rfl, if_pos hi, List.getElem?_map, List.getElem?_eq_getElem hi]
          simp only [Option.map_some]
          congr 1
          rw [hsA]
          exact (stayTo_note l _ _ x k (hA _ hm).1 hx (by rw [← hst, hsA]; rfl) (by rw [hsA] at hsr; exact hsr)).symm
        · rw [if_neg hij, List.getElem?_map]
          cases hj : A[j]? with
          | none => rfl
          | some p =>
            simp only [Option.map_some]
            congr 1
            have hpm := List.mem_of_getElem? hj
            refine (stayTo_skip l p.1 p.2 x k (hA p hpm).1 hx ?_).symm
            by_cases ht : x.thread = p.2.thread
            · right
              intro hr
              apply hij
              refine hu i j s (stayTo l p.1 p.2 k) hs ?_ (by rw [hst, ht]; rfl) hsr hr
              rw [hT, List.getElem?_map, hj]; rfl
            · exact .inl ht
    · -- none is
      have hskip : ∀ p ∈ A, stayTo l p.1 p.2 (k + 1) = stayTo l p.1 p.2 k := fun p hp => by
        refine stayTo_skip l p.1 p.2 x k (hA p hp).1 hx ?_
        by_cases ht : x.thread = p.2.thread
        · right
          obtain ⟨j, hj⟩ := List.getElem?_of_mem hp
          refine hn j (stayTo l p.1 p.2 k) ?_ ht.symm
          rw [hT, List.getElem?_map, hj]; rfl
        · exact .inl ht
      have hmap : A.map (fun p => stayTo l p.1 p.2 (k + 1)) = A.map (fun p => stayTo l p.1 p.2 k) := List.map_congr_left hskip
      by_cases h1 : x.kind = 1
      · refine ⟨A ++ [(k, x)], ?_, ?_, ?_⟩
        · intro p hp
          rw [List.mem_append] at hp
          rcases hp with hp | hp
          · exact ⟨by have := (hA p hp).1; omega, (hA p hp).2⟩
          · simp at hp; subst hp; exact ⟨by simp, hx⟩
        · rw [hrs, if_pos, hR, List.map_append]
          · rfl
          · refine ⟨h1, ?_⟩
            rw [hR, List.any_map, List.any_eq_false]
            intro p hp
            simp only [Function.comp, bothers, decide_eq_true_eq, not_and, not_or]
            intro ht
            obtain ⟨j, hj⟩ := List.getElem?_of_mem hp
            have h2 := hn j (stayTo l p.1 p.2 k) (by rw [hT, List.getElem?_map, hj]; rfl) ht
            rw [hcut p hp] at h2
            unfold cutI at h2
            split at h2 <;> omega
        · rw [hts]
          unfold tstep
          rw [ho]
          simp only [h1, if_true]
          rw [hT, List.map_append, hmap]
          simp [newS_eq]
      · refine ⟨A, fun p hp => ⟨by have := (hA p hp).1; omega, (hA p hp).2⟩, ?_, ?_⟩
        · rw [hrs, if_neg (fun h => h1 h.1), hR]
        · rw [hts]
          unfold tstep
          rw [ho]
          simp only [h1, if_false]
          rw [hT, hmap]
theorem tally_eq_ref (l : List Ev) : tallyL l = refL l := by
  obtain ⟨A, _, h1, h2⟩ := tally_ref l l.length (Nat.le_refl _)
  unfold tallyL refL
  rw [h1, h2]
end Go.Proofs.Ytfbiejkdeadheaa
