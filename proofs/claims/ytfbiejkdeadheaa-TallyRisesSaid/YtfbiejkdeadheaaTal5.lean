/- Layer 12: what stays are like (they rise, and do not overlap), and who enters in order. Plain data. -/
import Derived.Test.YtfbiejkdeadheaaRef1
namespace Go.Proofs.Ytfbiejkdeadheaa
open Go.RowKit

/-- a stay's places rise -/
structure Rise (l : List Ev) (s : Stay) : Prop where
  a0 : 0 ≤ s.ask
  a1 : s.ask < l.length
  a2 : isE l s.ask.toNat 1 s.thread = true
  e0 : -1 ≤ s.enter
  e1 : s.enter < l.length
  e2 : 0 ≤ s.enter → s.ask < s.enter ∧ isE l s.enter.toNat 2 s.thread = true
  x0 : -1 ≤ s.exit
  x1 : s.exit < l.length
  x2 : 0 ≤ s.exit → s.enter < s.exit ∧ 0 ≤ s.enter ∧ isE l s.exit.toNat 3 s.thread = true
  r0 : -1 ≤ s.rest
  r1 : s.rest < l.length
  r2 : 0 ≤ s.rest → s.exit < s.rest ∧ 0 ≤ s.exit ∧ isE l s.rest.toNat 4 s.thread = true

theorem rise_stayTo (l : List Ev) (i : Nat) (e : Ev) (he : l[i]? = some e) (hk : e.kind = 1) : Rise l (stayTo l i e l.length) := by
  have hi : i < l.length := (List.getElem?_eq_some_iff.1 he).1
  have b1 := behindTo_lt l i 2 e.thread l.length
  have b2 := behindTo_lt l (behindTo l i 2 e.thread l.length) 3 e.thread l.length
  have b3 := behindTo_lt l (behindTo l (behindTo l i 2 e.thread l.length) 3 e.thread l.length) 4 e.thread l.length
  refine ⟨by show (0 : Int) ≤ i; omega, by show (i : Int) < l.length; omega, ?_, b1.2, b1.1, fun h => ?_, b2.2, b2.1, fun h => ?_, b3.2, b3.1, fun h => ?_⟩
  · show isE l ((i : Int)).toNat 1 e.thread = true
    rw [show ((i : Int)).toNat = i from by omega, isE_eq he]
    simp [hk]
  · have g := behindTo_ge l i 2 e.thread l.length h
    exact ⟨g.1, behindTo_isE l i 2 e.thread l.length h⟩
  · have g := behindTo_ge l (behindTo l i 2 e.thread l.length) 3 e.thread l.length h
    exact ⟨g.1, g.2, behindTo_isE l (behindTo l i 2 e.thread l.length) 3 e.thread l.length h⟩
  · have g := behindTo_ge l (behindTo l (behindTo l i 2 e.thread l.length) 3 e.thread l.length) 4 e.thread l.length h
    exact ⟨g.1, g.2, behindTo_isE l (behindTo l (behindTo l i 2 e.thread l.length) 3 e.thread l.length) 4 e.thread l.length h⟩

/-- stays one behind the other -/
structure Apart (a b : Stay) : Prop where
  ask : a.ask < b.ask
  rest : a.thread = b.thread → 0 ≤ a.rest ∧ a.rest ≤ b.ask

theorem refTo_rise (l : List Ev) : ∀ k, (∀ s ∈ refTo l k, Rise l s ∧ s.ask < k) ∧ (refTo l k).Pairwise Apart
  | 0 => ⟨by simp [refTo], by simp [refTo]⟩
  | k + 1 => by
    obtain ⟨h1, h2⟩ := refTo_rise l k
    cases he : l[k]? with
    | none =>
      have : refTo l (k + 1) = refTo l k := by
        show (match l[k]? with | some e => if e.kind = 1 ∧ (refTo l k).any (bothers e.thread k) = false then refTo l k ++ [stayTo l k e l.length] else refTo l k | none => refTo l k) = _
        rw [he]
      rw [this]
      exact ⟨fun s hs => ⟨(h1 s hs).1, by have := (h1 s hs).2; omega⟩, h2⟩
    | some e =>
      rw [refTo_succ l k e he]
      by_cases hc : e.kind = 1 ∧ (refTo l k).any (bothers e.thread k) = false
      · rw [if_pos hc]
        refine ⟨fun s hs => ?_, ?_⟩
        · rcases List.mem_append.1 hs with h | h
          · exact ⟨(h1 s h).1, by have := (h1 s h).2; omega⟩
          · simp at h
            subst h
            exact ⟨rise_stayTo l k e he hc.1, by show (k : Int) < ((k + 1 : Nat) : Int); omega⟩
        · rw [List.pairwise_append]
          refine ⟨h2, by simp, fun a ha b hb => ?_⟩
          simp at hb
          subst hb
          refine ⟨(h1 a ha).2, fun ht => ?_⟩
          have hn := hc.2
          rw [List.any_eq_false] at hn
          have := hn a ha
          unfold bothers at this
          simp only [decide_eq_true_eq, not_and, not_or] at this
          have := this ht
          have hk : (stayTo l k e l.length).ask = k := rfl
          rw [hk]
          omega
      · rw [if_neg hc]
        exact ⟨fun s hs => ⟨(h1 s hs).1, by have := (h1 s hs).2; omega⟩, h2⟩
theorem tally_rise (l : List Ev) : (∀ s ∈ tallyL l, Rise l s) ∧ (tallyL l).Pairwise Apart := by
  rw [tally_eq_ref]
  have := refTo_rise l l.length
  exact ⟨fun s hs => (this.1 s hs).1, this.2⟩

theorem isE_thread {l : List Ev} {k : Nat} {kind t t' : Int} (h : isE l k kind t = true) (h' : isE l k kind t' = true) : t = t' := by
  cases he : l[k]? with
  | none => unfold isE at h; rw [he] at h; simp at h
  | some x =>
    rw [isE_eq he] at h h'
    simp at h h'
    rw [← h.2, ← h'.2]

/-- no two stays enter at once -/
theorem tally_enter (l : List Ev) : (tallyL l).Pairwise fun a b => 0 ≤ a.enter → a.enter ≠ b.enter := by
  obtain ⟨h1, h2⟩ := tally_rise l
  refine (List.Pairwise.and_mem.1 h2).imp ?_
  rintro a b ⟨ha, hb, hab⟩ h0 heq
  have ra := h1 a ha
  have rb := h1 b hb
  have e1 := ra.e2 h0
  have e2 := rb.e2 (by omega)
  rw [← heq] at e2
  have ht := isE_thread e1.2 e2.2
  have hr := hab.rest ht
  have r2 := ra.r2 hr.1
  have x2 := ra.x2 r2.2.1
  omega

/-- a sorted list, place by place -/
theorem sorted_split {α : Type} (f : α → Int) (n : Int) : ∀ d : List α, d.Pairwise (fun a b => f a ≤ f b) → d.filter (fun x => decide (f x < n + 1)) = d.filter (fun x => decide (f x < n)) ++ d.filter (fun x => f x == n)
  | [], _ => rfl
  | a :: d, hs => by
    have hs' := List.pairwise_cons.1 hs
    have ih := sorted_split f n d hs'.2
    by_cases h : f a < n
    · rw [List.filter_cons_of_pos (by simp; omega), List.filter_cons_of_pos (by simpa using h), List.filter_cons_of_neg (by simp; omega), ih]
      rfl
    · have h1 : (a :: d).filter (fun x => decide (f x < n)) = [] := by
        rw [List.filter_eq_nil_iff]
        intro x hx
        simp
        rcases List.mem_cons.1 hx with rfl | hx
        · omega
        · have := hs'.1 x hx; omega
      rw [h1, List.nil_append]
      refine List.filter_congr fun x hx => ?_
      have : n ≤ f x := by
        rcases List.mem_cons.1 hx with rfl | hx
        · omega
        · have := hs'.1 x hx; omega
      rw [Bool.eq_iff_iff]
      simp
      omega
def entTo (s : List Stay) : Nat → List Stay
  | 0 => []
  | n + 1 => entTo s n ++ s.filter fun x => x.enter == (n : Int)
theorem sorted_group (d : List Stay) (h : ∀ x ∈ d, 0 ≤ x.enter) (hs : d.Pairwise (fun a b => a.enter ≤ b.enter)) : ∀ n : Nat, d.filter (fun x => decide (x.enter < (n : Int))) = entTo d n
  | 0 => by
    show _ = []
    rw [List.filter_eq_nil_iff]
    intro x hx
    have := h x hx
    simp only [decide_eq_true_eq]
    omega
  | n + 1 => by
    have := sorted_split (fun x : Stay => x.enter) n d hs
    show d.filter (fun x => decide (x.enter < ((n + 1 : Nat) : Int))) = entTo d n ++ _
    rw [← sorted_group d h hs n]
    exact this
/-- at most one stay enters at a place: sorted, they are who enters, place by place -/
theorem perm_one {a b : List Stay} (h : a.Perm b) (hb : b.length ≤ 1) : a = b := by
  match b, hb with
  | [], _ => exact h.eq_nil
  | [x], _ => exact List.perm_singleton.1 h
theorem filter_one {s : List Stay} (hp : s.Pairwise fun a b => 0 ≤ a.enter → a.enter ≠ b.enter) (n : Nat) : (s.filter fun x => x.enter == (n : Int)).length ≤ 1 := by
  have h1 := hp.filter (p := fun x => x.enter == (n : Int))
  have h2 : ∀ x ∈ (s.filter fun x => x.enter == (n : Int)), x.enter = n := fun x hx => by simpa using (List.mem_filter.1 hx).2
  generalize (s.filter fun x => x.enter == (n : Int)) = q at h1 h2
  match q, h1, h2 with
  | [], _, _ => simp
  | [x], _, _ => simp
  | x :: y :: r, h1, h2 =>
    have a := (List.pairwise_cons.1 h1).1 y (by simp)
    have e1 := h2 x (by simp)
    have e2 := h2 y (by simp)
    exact absurd (e1.trans e2.symm) (a (by omega))
theorem entTo_perm {s d : List Stay} (hp : s.Pairwise fun a b => 0 ≤ a.enter → a.enter ≠ b.enter) (h : d.Perm s) : ∀ n, entTo d n = entTo s n
  | 0 => rfl
  | n + 1 => by
    unfold entTo
    rw [entTo_perm hp h n, perm_one (h.filter _) (filter_one hp n)]
theorem entTo_keep (s : List Stay) : ∀ n, entTo (s.filter fun x => decide (0 ≤ x.enter)) n = entTo s n
  | 0 => rfl
  | n + 1 => by
    unfold entTo
    rw [entTo_keep s n, List.filter_filter]
    congr 1
    refine List.filter_congr fun x _ => ?_
    rw [Bool.eq_iff_iff]
    simp
    omega
/-- the stays that enter, in order -/
theorem entries_sorted (l : List Ev) (d : List Stay) (hp : d.Perm ((tallyL l).filter fun x => decide (0 ≤ x.enter))) (hs : d.Pairwise (fun a b => a.enter ≤ b.enter)) : d = entTo (tallyL l) l.length := by
  have hm : ∀ x ∈ d, 0 ≤ x.enter ∧ x.enter < l.length := fun x hx => by
    have hx' := hp.mem_iff.1 hx
    rw [List.mem_filter] at hx'
    exact ⟨by simpa using hx'.2, ((tally_rise l).1 x hx'.1).e1⟩
  have h1 := sorted_group d (fun x hx => (hm x hx).1) hs l.length
  rw [List.filter_eq_self.2 (fun x hx => by simpa using (hm x hx).2)] at h1
  rw [h1, ← entTo_keep (tallyL l)]
  refine entTo_perm ?_ hp _
  exact (tally_enter l).filter _
end Go.Proofs.Ytfbiejkdeadheaa
