/- Layer 12: of what an automaton takes each event is a stay's. Plain data. -/
import Derived.Test.YtfbiejkdeadheaaTal5
import Derived.Test.YtfbiejkdeadheaaTal6
namespace Go.Proofs.Ytfbiejkdeadheaa
open Go.RowKit

def stStep (a t : Int) (e : Ev) : Int := if e.thread = t then (if e.kind = 1 then 1 else if e.kind = 2 then 2 else if e.kind = 3 then 3 else if e.kind = 4 then 0 else a) else a
def stS (l : List Ev) (t : Int) : Int := l.foldl (fun a e => stStep a t e) 0
theorem stS_snoc (l : List Ev) (e : Ev) (t : Int) : stS (l ++ [e]) t = stStep (stS l t) t e := by unfold stS; rw [List.foldl_append]; rfl
theorem stS_succ (l : List Ev) (k : Nat) (e : Ev) (t : Int) (h : l[k]? = some e) : stS (l.take (k + 1)) t = stStep (stS (l.take k) t) t e := by rw [take_succ_of h, stS_snoc]
def goodE (p : List Ev) (e : Ev) : Prop := 1 ≤ e.kind ∧ e.kind ≤ 4 ∧ stS p e.thread = e.kind - 1
def Good (T : List Ev) : Prop := ∀ (k : Nat) (e : Ev), T[k]? = some e → goodE (T.take k) e
theorem good_nil : Good [] := by intro k e h; simp at h
theorem good_snoc {T : List Ev} {e : Ev} (h : Good T) (he : goodE T e) : Good (T ++ [e]) := by
  intro k x hx
  rw [getElem?_snoc] at hx
  split at hx
  · rename_i hk
    have := h k x hx
    rwa [List.take_append_of_le_length (by omega)]
  · split at hx
    · rename_i hk
      subst hk
      injection hx with hx; subst hx
      rwa [List.take_left]
    · cases hx

def phase (s : Stay) (c : Int) : Prop := (c = 1 ∧ s.enter < 0 ∧ s.exit < 0) ∨ (c = 2 ∧ 0 ≤ s.enter ∧ s.exit < 0) ∨ (c = 3 ∧ 0 ≤ s.enter ∧ 0 ≤ s.exit)
def tot (s : List Stay) : Int := cntL Stay.ask s + cntL Stay.enter s + cntL Stay.exit s + cntL Stay.rest s
def b2i (p : Prop) [Decidable p] : Int := if p then 1 else 0
theorem cntL_set (f : Stay → Int) (l : List Stay) (i : Nat) (s s' : Stay) (h : l[i]? = some s) : cntL f (l.set i s') = cntL f l - b2i (0 ≤ f s) + b2i (0 ≤ f s') := by
  obtain ⟨hi, rfl⟩ := List.getElem?_eq_some_iff.1 h
  unfold cntL b2i
  rw [← List.countP_eq_length_filter, ← List.countP_eq_length_filter, List.countP_set hi]
  have : 0 ≤ f l[i] → 1 ≤ l.countP (fun x => decide (0 ≤ f x)) := fun h => List.countP_pos_iff.2 ⟨l[i], List.getElem_mem hi, by simpa using h⟩
  simp only [decide_eq_true_eq]
  split <;> split <;> first | omega | (have := this (by assumption); omega)
theorem cntL_snoc (f : Stay → Int) (l : List Stay) (s : Stay) : cntL f (l ++ [s]) = cntL f l + b2i (0 ≤ f s) := by
  unfold cntL b2i
  rw [List.filter_append, List.length_append]
  by_cases h : 0 ≤ f s <;> simp [h]

def SInv (p : List Ev) (out : List Stay) : Prop :=
  ∀ t, (stS p t = 0 → ∀ (i : Nat) (s : Stay), out[i]? = some s → s.thread = t → ¬ s.rest < 0) ∧
    (¬ stS p t = 0 → ∃ (i : Nat) (s : Stay), out[i]? = some s ∧ s.thread = t ∧ s.rest < 0 ∧ phase s (stS p t))
theorem sinv_set {p : List Ev} {out : List Stay} {e : Ev} {i : Nat} {s s' : Stay} (hu : Uniq out) (h : SInv p out) (hs : out[i]? = some s) (hr : s.rest < 0) (ht : s.thread = e.thread)
    (hst : s'.thread = s.thread) (hc : (stStep (stS p e.thread) e.thread e = 0 ∧ 0 ≤ s'.rest) ∨ (¬ stStep (stS p e.thread) e.thread e = 0 ∧ s'.rest < 0 ∧ phase s' (stStep (stS p e.thread) e.thread e))) : SInv (p ++ [e]) (out.set i s') := by
  have hi : i < out.length := (List.getElem?_eq_some_iff.1 hs).1
  intro t
  rw [stS_snoc]
  by_cases hte : t = e.thread
  · subst hte
    refine ⟨fun h0 j x hx hxt hxr => ?_, fun h0 => ?_⟩
    · rcases hc with ⟨_, hc⟩ | ⟨hc, _⟩
      · rw [List.getElem?_set] at hx
        split at hx
        · injection hx with hx; subst hx; omega
        · rename_i hij
          exact hij (hu i j s x hs hx (by rw [ht, hxt]) hr hxr)
      · exact hc h0
    · rcases hc with ⟨hc, _⟩ | ⟨_, hc⟩
      · exact absurd hc h0
      · exact ⟨i, s', by simp [hi], by rw [hst, ht], hc.1, hc.2⟩
  · have e1 : stStep (stS p t) t e = stS p t := by unfold stStep; rw [if_neg (fun h => hte h.symm)]
    rw [e1]
    obtain ⟨h1, h2⟩ := h t
    refine ⟨fun h0 j x hx hxt => ?_, fun h0 => ?_⟩
    · rw [List.getElem?_set] at hx
      split at hx
      · injection hx with hx; subst hx
        exact absurd (by rw [← hxt, hst, ht]) hte
      · exact h1 h0 j x hx hxt
    · obtain ⟨j, x, hx, hxt, r⟩ := h2 h0
      refine ⟨j, x, ?_, hxt, r⟩
      rw [List.getElem?_set, if_neg]
      · exact hx
      · rintro rfl
        rw [hs] at hx; injection hx with hx; subst hx
        exact hte (by rw [← hxt, ht])
theorem sinv_ask {p : List Ev} {out : List Stay} {e : Ev} {k : Int} (h : SInv p out) (h1 : e.kind = 1) : SInv (p ++ [e]) (out ++ [newS k e]) := by
  intro t
  rw [stS_snoc]
  by_cases hte : t = e.thread
  · subst hte
    have e1 : stStep (stS p e.thread) e.thread e = 1 := by unfold stStep; rw [if_pos rfl, if_pos h1]
    rw [e1]
    exact ⟨fun h => absurd h (by decide), fun _ => ⟨out.length, newS k e, by simp, rfl, by simp [newS], .inl ⟨rfl, by simp [newS], by simp [newS]⟩⟩⟩
  · have e1 : stStep (stS p t) t e = stS p t := by unfold stStep; rw [if_neg (fun h => hte h.symm)]
    rw [e1]
    obtain ⟨q1, q2⟩ := h t
    refine ⟨fun h0 j x hx hxt => ?_, fun h0 => ?_⟩
    · rw [getElem?_snoc] at hx
      split at hx
      · exact q1 h0 j x hx hxt
      · split at hx
        · injection hx with hx; subst hx
          exact absurd hxt.symm hte
        · cases hx
    · obtain ⟨j, x, hx, r⟩ := q2 h0
      refine ⟨j, x, ?_, r⟩
      rw [getElem?_snoc, if_pos (List.getElem?_eq_some_iff.1 hx).1]; exact hx

theorem good_tally {T : List Ev} (hg : Good T) : ∀ k : Nat, k ≤ T.length → SInv (T.take k) (tallyTo T k) ∧ tot (tallyTo T k) = k
  | 0, _ => by
    refine ⟨fun t => ⟨fun _ i s h => by simp [tallyTo] at h, fun h => absurd rfl h⟩, rfl⟩
  | k + 1, hk => by
    obtain ⟨h1, h2⟩ := good_tally hg k (by omega)
    obtain ⟨e, he⟩ := getElem?_lt (show k < T.length by omega)
    obtain ⟨g1, g2, g3⟩ := hg k e he
    have hu := uniq_tally T k
    rw [tallyTo_succ T k e he, take_succ_of he]
    generalize tallyTo T k = out at *
    generalize T.take k = p at *
    by_cases hc : e.kind = 1
    · have h0 : stS p e.thread = 0 := by omega
      have ho : tstep out (k : Int) e = out ++ [newS k e] := by
        unfold tstep
        rw [openOf_none ((h1 e.thread).1 h0)]
        simp [hc]
      rw [ho]
      refine ⟨sinv_ask h1 hc, ?_⟩
      unfold tot at *
      simp only [cntL_snoc, newS, b2i]
      have hk0 : (0 : Int) ≤ (k : Int) := by omega
      simp [hk0]
      omega
    · obtain ⟨i, s, hs, hst, hsr, hph⟩ := (h1 e.thread).2 (by omega)
      have ho : tstep out (k : Int) e = out.set i (noteS s k e) := by
        unfold tstep
        rw [openOf_some hu hs hst hsr]
        simp only [hs]
      rw [ho]
      rw [g3] at hph
      have hkk : (0 : Int) ≤ (k : Int) := by omega
      rcases (show e.kind = 2 ∨ e.kind = 3 ∨ e.kind = 4 by omega) with h | h | h
      · have hp : s.enter < 0 ∧ s.exit < 0 := by rcases hph with hph | hph | hph <;> omega
        have e1 : noteS s k e = { s with enter := k, count := e.count } := by unfold noteS; rw [if_pos (by omega)]
        have e2 : stStep (stS p e.thread) e.thread e = 2 := by unfold stStep; rw [if_pos rfl, if_neg (by omega), if_pos h]
        rw [e1]
        refine ⟨sinv_set hu h1 hs hsr hst rfl (.inr ⟨by rw [e2]; decide, hsr, by rw [e2]; exact .inr (.inl ⟨rfl, hkk, hp.2⟩)⟩), ?_⟩
        unfold tot at *
        simp only [cntL_set _ out i s _ hs, b2i]
        rw [if_neg (show ¬ 0 ≤ s.enter by omega), if_pos hkk]
        push_cast
        omega
      · have hp : 0 ≤ s.enter ∧ s.exit < 0 := by rcases hph with hph | hph | hph <;> omega
        have e1 : noteS s k e = { s with exit := k } := by unfold noteS; rw [if_neg (by omega), if_pos (by omega)]
        have e2 : stStep (stS p e.thread) e.thread e = 3 := by unfold stStep; rw [if_pos rfl, if_neg (by omega), if_neg (by omega), if_pos h]
        rw [e1]
        refine ⟨sinv_set hu h1 hs hsr hst rfl (.inr ⟨by rw [e2]; decide, hsr, by rw [e2]; exact .inr (.inr ⟨rfl, hp.1, hkk⟩)⟩), ?_⟩
        unfold tot at *
        simp only [cntL_set _ out i s _ hs, b2i]
        rw [if_neg (show ¬ 0 ≤ s.exit by omega), if_pos hkk]
        push_cast
        omega
      · have hp : 0 ≤ s.enter ∧ 0 ≤ s.exit := by rcases hph with hph | hph | hph <;> omega
        have e1 : noteS s k e = { s with rest := k } := by unfold noteS; rw [if_neg (by omega), if_neg (by omega), if_pos (by omega)]
        have e2 : stStep (stS p e.thread) e.thread e = 0 := by unfold stStep; rw [if_pos rfl, if_neg (by omega), if_neg (by omega), if_neg (by omega), if_pos h]
        rw [e1]
        refine ⟨sinv_set hu h1 hs hsr hst rfl (.inl ⟨e2, hkk⟩), ?_⟩
        unfold tot at *
        simp only [cntL_set _ out i s _ hs, b2i]
        rw [if_neg (show ¬ 0 ≤ s.rest by omega), if_pos hkk]
        push_cast
        omega
theorem tot_good {T : List Ev} (hg : Good T) : tot (tallyL T) = T.length := (good_tally hg T.length (Nat.le_refl _)).2

theorem entTo_cnt (s : List Stay) : ∀ n, (entTo s n).length = (s.filter (fun x => decide (0 ≤ x.enter ∧ x.enter < (n : Int)))).length
  | 0 => by
    show 0 = _
    symm
    rw [List.length_eq_zero_iff, List.filter_eq_nil_iff]
    intro a _ h
    simp at h
    omega
  | n + 1 => by
    show (entTo s n ++ s.filter fun x => x.enter == (n : Int)).length = _
    rw [List.length_append, entTo_cnt s n, ← List.countP_eq_length_filter, ← List.countP_eq_length_filter, ← List.countP_eq_length_filter]
    induction s with
    | nil => rfl
    | cons a s ih =>
      rw [List.countP_cons, List.countP_cons, List.countP_cons]
      have : ((if decide (0 ≤ a.enter ∧ a.enter < ((n + 1 : Nat) : Int)) = true then 1 else 0) : Nat) = (if decide (0 ≤ a.enter ∧ a.enter < (n : Int)) = true then 1 else 0) + (if (a.enter == (n : Int)) = true then 1 else 0) := by
        simp only [decide_eq_true_eq, beq_iff_eq]
        split <;> split <;> split <;> omega
      omega
theorem ent_len (T : List Ev) : ((entTo (tallyL T) T.length).length : Int) = cntL Stay.enter (tallyL T) := by
  rw [entTo_cnt]
  unfold cntL
  congr 2
  refine List.filter_congr fun x hx => ?_
  have := ((tally_rise T).1 x hx).e1
  by_cases h : 0 ≤ x.enter
  · simp [h, this]
  · simp [h]
end Go.Proofs.Ytfbiejkdeadheaa
