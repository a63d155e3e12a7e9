/- Joined: Ns1, Ns2, Sm0. -/
import Derived.Test.YtndipiockdmaoaaGreatMgNeutralAll14
import Derived.Test.YtndipiockdmaoaaGreatMgNeutralAll15
section
set_option linter.unusedVariables false
set_option linter.unusedSimpArgs false
/- Layer 36 (neutral), plain: a step, an ask, a leave; a writer holds alone. No program in sight. -/
namespace Go.Proofs.YtndipiockdmaoaaGreat
open Go

structure Nu where
  st : Co
  d : Dr
  U : List Sp
def nuFl (N : Nat) : Int := 2 * (N : Int) + 1
def onA (st : Co) (s : Ar) : Co := { st with s := s }
/-- a step that is not the second one: the cohort lock, the drain, whether the thread goes on -/
def nuDoes (c : CoC) (N : Nat) (x : Nu) (i : Nat) (pc : Int) : Co × Dr × Bool :=
  if pc = 1 then (onA x.st (addA x.st.s (gaA (c.node i)) 1), x.d, true)
  else if pc = 3 then (coAsk c (onA x.st (addA x.st.s (gaW (c.node i)) 1)) i, x.d, true)
  else if pc = 5 then (coLeave (onA x.st (addA x.st.s (gaA (c.node i)) 1)) i, x.d, true)
  else if pc = 8 then (onA x.st (storeA x.st.s (nuFl N) 1), drBeg x.d N false, true)
  else if pc = 9 then (onA x.st (drStep x.st.s x.d).1, (drStep x.st.s x.d).2.1, (drStep x.st.s x.d).2.2)
  else if pc = 11 then (onA x.st (addA x.st.s (gaW (c.node i)) 1), x.d, true)
  else if pc = 12 then (coLeave (onA x.st (storeA x.st.s (nuFl N) 0)) i, x.d, true)
  else (coStep c x.st i, x.d, cameK (sv x.st.T i) (sv (coStep c x.st i).T i))
def nuNext (pc : Int) : Int := if pc = 6 ∨ pc = 9 then 10 else if pc = 11 ∨ pc = 13 then 0 else pc + 1
def nuTo (p : Sp) (r : Bool) : Sp := if r then { p with pc := nuNext p.pc } else p
def nuStep (c : CoC) (N : Nat) (x : Nu) (i : Nat) : Nu :=
  if (sv x.U i).pc = 0 ∨ (sv x.U i).pc = 10 then x
  else if (sv x.U i).pc = 2 then ⟨onA x.st (loadA x.st.s (nuFl N)), x.d, x.U.set i { (sv x.U i) with pc := if ldW x.st.s.W (nuFl N) = 0 then 10 else 3 }⟩
  else ⟨(nuDoes c N x i (sv x.U i).pc).1, (nuDoes c N x i (sv x.U i).pc).2.1, x.U.set i (nuTo (sv x.U i) (nuDoes c N x i (sv x.U i).pc).2.2)⟩
def nuAsk (c : CoC) (x : Nu) (i : Nat) (read : Bool) : Nu :=
  if (sv x.U i).pc = 0 then if read then { x with U := x.U.set i ⟨1, 1, 0, 0⟩ } else { x with st := coAsk c x.st i, U := x.U.set i ⟨7, 0, 0, 0⟩ } else x
def nuLeave (x : Nu) (i : Nat) : Nu := if (sv x.U i).pc = 10 then { x with U := x.U.set i { (sv x.U i) with pc := 12 - (sv x.U i).a } } else x
def rdIn (p : Sp) : Bool := decide (p.a = 1 ∧ (p.pc = 2 ∨ p.pc = 3 ∨ p.pc = 6 ∨ p.pc = 10 ∨ p.pc = 11))
def rdSt (p : Sp) : Prop := p.a = 1 ∧ (p.pc = 6 ∨ p.pc = 10 ∨ p.pc = 11)
def wrP (p : Sp) : Prop := p.a = 0 ∧ (p.pc = 9 ∨ p.pc = 10 ∨ p.pc = 12)
def linkN (p t : Sp) : Prop :=
  (p.pc = 0 ∧ t.pc = 0) ∨ (p.a = 1 ∧ (p.pc = 1 ∨ p.pc = 2 ∨ p.pc = 3 ∨ p.pc = 10 ∨ p.pc = 11) ∧ t.pc = 0) ∨ (p.a = 1 ∧ p.pc = 4 ∧ 0 < t.pc ∧ t.pc < 10) ∨ (p.a = 1 ∧ p.pc = 5 ∧ t.pc = 10) ∨ (p.a = 1 ∧ p.pc = 6 ∧ 10 < t.pc) ∨
    (p.a = 0 ∧ p.pc = 7 ∧ 0 < t.pc ∧ t.pc < 10) ∨ (p.a = 0 ∧ (p.pc = 8 ∨ p.pc = 9 ∨ p.pc = 10 ∨ p.pc = 12) ∧ t.pc = 10) ∨ (p.a = 0 ∧ p.pc = 13 ∧ 10 < t.pc)
def cntI (c : CoC) (n : Nat) (U : List Sp) (a : Nat) : Nat := cntN n (fun j => decide (c.node j = a) && rdIn (sv U j))
def DrI (c : CoC) (n N : Nat) (d : Dr) (W : List Int) (U : List Sp) : Prop :=
  (d.busy = true ∧ d.once = false ∧ d.at_ < N ∧ d.lim = N) ∧ (d.second = true → d.out ≤ ldW W (gaW d.at_)) ∧ ∀ j, j < n → rdSt (sv U j) → d.at_ ≤ c.node j
structure NuI (c : CoC) (n N : Nat) (ml : Nat → Nat) (x : Nu) : Prop where
  m : CoM c n N ml x.st
  lU : x.U.length = n
  k : ∀ i, i < n → linkN (sv x.U i) (sv x.st.T i)
  g : ∀ a, a < N → ldW x.st.s.W (gaA a) = ldW x.st.s.W (gaW a) + (cntI c n x.U a : Int)
  fl : ∀ i, i < n → wrP (sv x.U i) → ldW x.st.s.W (nuFl N) ≠ 0
  dr : ∀ i, i < n → (sv x.U i).a = 0 → (sv x.U i).pc = 9 → DrI c n N x.d x.st.s.W x.U
  hd : ∀ i, i < n → (sv x.U i).a = 0 → (sv x.U i).pc = 10 → ∀ j, j < n → ¬ rdSt (sv x.U j)
section
variable {c : CoC} {n N : Nat} {ml : Nat → Nat} {x x' : Nu}
/-- a writer holds alone -/
theorem NuI.safe (h : NuI c n N ml x) (y : CoLy c n N ml) {i : Nat} (hi : i < n) (h1 : (sv x.U i).pc = 10) (h0 : (sv x.U i).a = 0) {j : Nat} (hj : j < n) (h2 : (sv x.U j).pc = 10) : j = i ∧ (sv x.U j).a = 0 := by
  have ki := h.k i hi
  have kj := h.k j hj
  by_cases ha : (sv x.U j).a = 1
  · exact absurd ⟨ha, .inr (.inl h2)⟩ (h.hd i hi h0 h1 j hj)
  · have t1 : (sv x.st.T i).pc = 10 := by unfold linkN at ki; omega
    have t2 : (sv x.st.T j).pc = 10 ∧ (sv x.U j).a = 0 := by unfold linkN at kj; omega
    exact ⟨h.m.one y hj hi (by omega) (by omega), t2.2⟩
theorem NuI.one (h : NuI c n N ml x) (y : CoLy c n N ml) {i j : Nat} (hi : i < n) (hj : j < n) (h1 : (sv x.st.T i).pc = 10) (h2 : (sv x.st.T j).pc = 10) : i = j := h.m.one y hi hj (by omega) (by omega)
theorem wr_t {p t : Sp} (h : linkN p t) (hw : wrP p) : t.pc = 10 := by unfold linkN at h; unfold wrP at hw; omega
theorem cntI_set {U : List Sp} {i : Nat} (hl : i < U.length) (hi : i < n) (p : Sp) (a : Nat) :
    cntI c n (U.set i p) a + (if c.node i = a ∧ rdIn (sv U i) = true then 1 else 0) = cntI c n U a + (if c.node i = a ∧ rdIn p = true then 1 else 0) := by
  unfold cntI
  have := cntN_one (P := fun j => decide (c.node j = a) && rdIn (sv U j)) (Q := fun j => decide (c.node j = a) && rdIn (sv (U.set i p) j)) (i := i) (fun j hj => by rw [svS hl, if_neg hj]) n hi
  simp only [Bool.and_eq_true, decide_eq_true_eq] at this
  rw [svS hl, if_pos rfl] at this
  exact this
/-- an act of a thread: what is to be shown of it -/
theorem NuI.upd (h : NuI c n N ml x) {i : Nat} (hi : i < n) {st' : Co} {d' : Dr} {p' : Sp} (hm : CoM c n N ml st') (hT : ∀ j, j ≠ i → sv st'.T j = sv x.st.T j) (hk : linkN p' (sv st'.T i))
    (hg : ∀ a, a < N → ldW st'.s.W (gaA a) = ldW st'.s.W (gaW a) + (cntI c n (x.U.set i p') a : Int))
    (hfl : ∀ j, j < n → j ≠ i → wrP (sv x.U j) → ldW st'.s.W (nuFl N) ≠ 0) (hfi : wrP p' → ldW st'.s.W (nuFl N) ≠ 0)
    (hH : ∀ a, a < N → ldW x.st.s.W (gaW a) ≤ ldW st'.s.W (gaW a))
    (hset : rdSt p' → rdSt (sv x.U i) ∨ ∀ j, j < n → j ≠ i → ¬ wrP (sv x.U j))
    (hd : ∀ j, j < n → j ≠ i → (sv x.U j).a = 0 → (sv x.U j).pc = 9 → d' = x.d)
    (od : p'.a = 0 → p'.pc = 9 → DrI c n N d' st'.s.W (x.U.set i p')) (oh : p'.a = 0 → p'.pc = 10 → ∀ j, j < n → j ≠ i → ¬ rdSt (sv x.U j)) : NuI c n N ml ⟨st', d', x.U.set i p'⟩ := by
  have hl : i < x.U.length := by rw [h.lU]; exact hi
  have hs := svS hl p'
  refine ⟨hm, by rw [List.length_set]; exact h.lU, fun j hj => ?_, hg, fun j hj hw => ?_, fun j hj h0 h9 => ?_, fun j hj h0 h10 => ?_⟩
  · show linkN (sv (x.U.set i p') j) (sv st'.T j)
    rw [hs]
    split
    · rename_i e; rw [e]; exact hk
    · rename_i e; rw [hT j e]; exact h.k j hj
  · have hw' : wrP (sv (x.U.set i p') j) := hw
    rw [hs] at hw'
    split at hw'
    · exact hfi hw'
    · rename_i e; exact hfl j hj e hw'
  · have h0' : (sv (x.U.set i p') j).a = 0 := h0
    have h9' : (sv (x.U.set i p') j).pc = 9 := h9
    rw [hs] at h0' h9'
    by_cases e : j = i
    · rw [if_pos e] at h0' h9'
      exact od h0' h9'
    · rw [if_neg e] at h0' h9'
      obtain ⟨q1, q2, q3⟩ := h.dr j hj h0' h9'
      show DrI c n N d' st'.s.W (x.U.set i p')
      rw [hd j hj e h0' h9']
      refine ⟨q1, fun hq => Int.le_trans (q2 hq) (hH _ q1.2.2.1), fun k hk hr => ?_⟩
      rw [hs] at hr
      split at hr
      · rename_i e2
        rcases hset hr with h1 | h1
        · rw [e2]; exact q3 i hi h1
        · exact absurd ⟨h0', .inl h9'⟩ (h1 j hj e)
      · exact q3 k hk hr
  · have h0' : (sv (x.U.set i p') j).a = 0 := h0
    have h9' : (sv (x.U.set i p') j).pc = 10 := h10
    rw [hs] at h0' h9'
    intro k hk hr
    have hr' : rdSt (sv (x.U.set i p') k) := hr
    rw [hs] at hr'
    by_cases e : j = i
    · rw [if_pos e] at h0' h9'
      split at hr'
      · unfold rdSt at hr'; omega
      · rename_i e2; exact oh h0' h9' k hk e2 hr'
    · rw [if_neg e] at h0' h9'
      split at hr'
      · rcases hset hr' with h1 | h1
        · exact h.hd j hj h0' h9' i hi h1
        · exact h1 j hj e ⟨h0', .inr (.inl h9')⟩
      · exact h.hd j hj h0' h9' k hk hr'
/-- the low words, and the cohort lock beside an op on one of them -/
structure NuL (c : CoC) (N : Nat) (W : List Int) : Prop where
  tg : c.tg = 2 * (N : Int) + 2
  len : 2 * (N : Int) + 1 ≤ W.length
theorem gaA_lt {a : Nat} (h : a < N) : 1 ≤ gaA a ∧ gaA a < nuFl N := by unfold gaA nuFl; omega
theorem gaW_lt {a : Nat} (h : a < N) : 1 ≤ gaW a ∧ gaW a < nuFl N := by unfold gaW nuFl; omega
theorem low_st (h : NuI c n N ml x) (y : CoLy c n N ml) (l : NuL c N x.st.s.W) {z : Int} (hz : 1 ≤ z ∧ z ≤ nuFl N) (v : Int) {s' : Ar} (e : s'.W = stW x.st.s.W z v) : (∀ q, ldW s'.W q = if q = z then v else ldW x.st.s.W q) ∧ CoM c n N ml (onA x.st s') := by
  have hw := ldW_st (W := x.st.s.W) (x := z) (inR_true.2 ⟨hz.1, by have := l.len; unfold nuFl at hz; omega⟩) v
  have h1 : ∀ q, ldW s'.W q = if q = z then v else ldW x.st.s.W q := fun q => by rw [e, hw]
  refine ⟨h1, h.m.low y (by rw [e, stW_len]) (fun q hq => ?_) (h.m.v.ars s')⟩
  rw [h1, if_neg (by have := l.tg; unfold nuFl at hz; omega)]
theorem low_id (h : NuI c n N ml x) (y : CoLy c n N ml) {s' : Ar} (e : s'.W = x.st.s.W) : CoM c n N ml (onA x.st s') :=
  h.m.low y (by rw [e]) (fun q _ => by rw [e]) (h.m.v.ars s')
theorem cnt_eq (h : NuI c n N ml x) {i : Nat} (hi : i < n) {p' : Sp} (hb : rdIn p' = rdIn (sv x.U i)) (a : Nat) : cntI c n (x.U.set i p') a = cntI c n x.U a := by
  have := cntI_set (c := c) (n := n) (show i < x.U.length by rw [h.lU]; exact hi) hi p' a
  rw [hb] at this; omega
/-- where no low word turns and the thread is in as it was -/
theorem g_same (h : NuI c n N ml x) {i : Nat} (hi : i < n) {p' : Sp} (hb : rdIn p' = rdIn (sv x.U i)) {W' : List Int} (hw : ∀ q, q < nuFl N → ldW W' q = ldW x.st.s.W q) : ∀ a, a < N → ldW W' (gaA a) = ldW W' (gaW a) + (cntI c n (x.U.set i p') a : Int) := fun a ha => by
  rw [hw _ (gaA_lt ha).2, hw _ (gaW_lt ha).2, cnt_eq h hi hb a]; exact h.g a ha
theorem g_in (h : NuI c n N ml x) (hn : ∀ j, j < n → c.node j < N) {i : Nat} (hi : i < n) {p' : Sp} (h0 : rdIn (sv x.U i) = false) (h1 : rdIn p' = true) {W' : List Int} (hw : ∀ q, ldW W' q = if q = gaA (c.node i) then ldW x.st.s.W (gaA (c.node i)) + 1 else ldW x.st.s.W q) : ∀ a, a < N → ldW W' (gaA a) = ldW W' (gaW a) + (cntI c n (x.U.set i p') a : Int) := fun a ha => by
  have h2 := cntI_set (c := c) (n := n) (show i < x.U.length by rw [h.lU]; exact hi) hi p' a
  rw [h0, h1] at h2
  have hg := h.g a ha
  have := hn i hi
  rw [hw, hw, if_neg (show ¬ gaW a = gaA (c.node i) by unfold gaA gaW; omega)]
  by_cases e : c.node i = a
  · rw [if_pos (by rw [e]), e]
    simp [e] at h2
    omega
  · rw [if_neg (by unfold gaA; omega)]
    simp [e] at h2
    omega
theorem g_out (h : NuI c n N ml x) (hn : ∀ j, j < n → c.node j < N) {i : Nat} (hi : i < n) {p' : Sp} (h0 : rdIn (sv x.U i) = true) (h1 : rdIn p' = false) {W' : List Int} (hw : ∀ q, ldW W' q = if q = gaW (c.node i) then ldW x.st.s.W (gaW (c.node i)) + 1 else ldW x.st.s.W q) : ∀ a, a < N → ldW W' (gaA a) = ldW W' (gaW a) + (cntI c n (x.U.set i p') a : Int) := fun a ha => by
  have h2 := cntI_set (c := c) (n := n) (show i < x.U.length by rw [h.lU]; exact hi) hi p' a
  rw [h0, h1] at h2
  have hg := h.g a ha
  have := hn i hi
  rw [hw, hw, if_neg (show ¬ gaA a = gaW (c.node i) by unfold gaA gaW; omega)]
  by_cases e : c.node i = a
  · rw [if_pos (by rw [e]), e]
    simp [e] at h2
    omega
  · rw [if_neg (by unfold gaW; omega)]
    simp [e] at h2
    omega
end
end Go.Proofs.YtndipiockdmaoaaGreat
end
section
set_option linter.unusedVariables false
set_option linter.unusedSimpArgs false
/- Layer 36 (neutral), plain: each act keeps the invariant. No program in sight. -/
namespace Go.Proofs.YtndipiockdmaoaaGreat
open Go

section
variable {c : CoC} {n N : Nat} {ml : Nat → Nat} {x : Nu} {B : Int}
theorem rdIn_f {p : Sp} (h : ¬ (p.a = 1 ∧ (p.pc = 2 ∨ p.pc = 3 ∨ p.pc = 6 ∨ p.pc = 10 ∨ p.pc = 11))) : rdIn p = false := decide_eq_false h
theorem rdIn_t {p : Sp} (h : p.a = 1 ∧ (p.pc = 2 ∨ p.pc = 3 ∨ p.pc = 6 ∨ p.pc = 10 ∨ p.pc = 11)) : rdIn p = true := decide_eq_true h
theorem NuI.ask (h : NuI c n N ml x) (y : CoLy c n N ml) {i : Nat} (hi : i < n) (r : Bool) : NuI c n N ml (nuAsk c x i r) := by
  unfold nuAsk
  split
  · rename_i h0
    have hk := h.k i hi
    have ht : (sv x.st.T i).pc = 0 := by unfold linkN at hk; omega
    have hb : rdIn (sv x.U i) = false := rdIn_f (by omega)
    split
    · exact h.upd hi h.m (fun _ _ => rfl) (.inr (.inl ⟨rfl, .inl rfl, ht⟩)) (g_same h hi (by rw [hb]; rfl) (fun _ _ => rfl)) (fun j hj _ hw => h.fl j hj hw) (fun hw => by unfold wrP at hw; simp at hw) (fun _ _ => Int.le_refl _) (fun hr => by unfold rdSt at hr; simp at hr) (fun _ _ _ _ _ => rfl) (fun e => by simp at e) (fun e => by simp at e)
    · have hm := h.m.ask y hi
      have hs := coAsk_s c x.st i
      have hT := (coAsk_T (c := c) (j := i) h.m.v hi).2 ht
      exact h.upd hi hm (fun j hj => (coAsk_T (c := c) h.m.v hi).1 hj) (.inr (.inr (.inr (.inr (.inr (.inl ⟨rfl, rfl, by omega, by omega⟩)))))) (by rw [hs]; exact g_same h hi (by rw [hb]; rfl) (fun _ _ => rfl)) (fun j hj _ hw => by rw [hs]; exact h.fl j hj hw) (fun hw => by unfold wrP at hw; simp at hw) (fun a _ => by rw [hs]; exact Int.le_refl _) (fun hr => by unfold rdSt at hr; simp at hr) (fun _ _ _ _ _ => rfl) (fun _ e => by simp at e) (fun _ e => by simp at e)
  · exact h
theorem NuI.leave (h : NuI c n N ml x) {i : Nat} (hi : i < n) : NuI c n N ml (nuLeave x i) := by
  unfold nuLeave
  split
  · rename_i h10
    have hk := h.k i hi
    obtain ⟨p, hp⟩ : ∃ p, p = sv x.U i := ⟨_, rfl⟩
    have hw0 := h.fl i hi
    rw [← hp] at hk h10 hw0 ⊢
    have hcase : (p.a = 1 ∧ (sv x.st.T i).pc = 0) ∨ (p.a = 0 ∧ (sv x.st.T i).pc = 10) := by unfold linkN at hk; omega
    obtain ⟨pc, u, b, z⟩ := p
    simp only at h10 hcase
    subst h10
    rcases hcase with ⟨rfl, ht⟩ | ⟨rfl, ht⟩
    · refine h.upd hi h.m (fun _ _ => rfl) (.inr (.inl ⟨rfl, .inr (.inr (.inr (.inr rfl))), ht⟩)) (g_same h hi (by rw [← hp]; rfl) (fun _ _ => rfl)) (fun j hj _ hw => h.fl j hj hw) (fun hw => by unfold wrP at hw; simp at hw) (fun _ _ => Int.le_refl _) (fun hr => .inl (by rw [← hp]; exact ⟨rfl, .inr (.inl rfl)⟩)) (fun _ _ _ _ _ => rfl) (fun e => by simp at e) (fun e => by simp at e)
    · refine h.upd hi h.m (fun _ _ => rfl) (.inr (.inr (.inr (.inr (.inr (.inr (.inl ⟨rfl, .inr (.inr (.inr rfl)), ht⟩))))))) (g_same h hi (by rw [← hp]; rfl) (fun _ _ => rfl)) (fun j hj _ hw => h.fl j hj hw) (fun _ => hw0 ⟨rfl, .inr (.inl rfl)⟩) (fun _ _ => Int.le_refl _) (fun hr => by unfold rdSt at hr; simp at hr) (fun _ _ _ _ _ => rfl) (fun _ e => by simp at e) (fun _ e => by simp at e)
  · exact h
theorem drStep_W (s : Ar) (d : Dr) : (drStep s d).1.W = s.W := by
  unfold drStep
  split
  · split
    · exact loadA_W _ _
    · exact loadA_W _ _
  · rfl
set_option maxHeartbeats 1000000 in
theorem NuI.step (h : NuI c n N ml x) (y : CoLy c n N ml) (l : NuL c N x.st.s.W) (hB : CoB c B x.st) (hB0 : 40 ≤ B) (hB1 : B ≤ 1000000000000) {i : Nat} (hi : i < n) : NuI c n N ml (nuStep c N x i) := by
  have hn := (y.nd i hi).1
  have hnn : ∀ j, j < n → c.node j < N := fun j hj => (y.nd j hj).1
  have hk := h.k i hi
  have hw0 := h.fl i hi
  have hdr := h.dr i hi
  obtain ⟨p, hp⟩ : ∃ p, p = sv x.U i := ⟨_, rfl⟩
  have oth : (sv x.st.T i).pc = 10 → ∀ j, j < n → j ≠ i → ¬ wrP (sv x.U j) := fun ht j hj e hw => e (h.one y hj hi (wr_t (h.k j hj) hw) ht)
  have oth9 : (sv x.st.T i).pc = 10 → ∀ j, j < n → j ≠ i → (sv x.U j).a = 0 → (sv x.U j).pc = 9 → False := fun ht j hj e h0 h9 => oth ht j hj e ⟨h0, .inl h9⟩
  have bA := hB.w.ld (by omega) (gaA (c.node i))
  have bW := hB.w.ld (by omega) (gaW (c.node i))
  have wA : IntKind.i64.wrap (ldW x.st.s.W (gaA (c.node i)) + 1) = ldW x.st.s.W (gaA (c.node i)) + 1 := IntWalk.i64_in _ (by omega)
  have wW : IntKind.i64.wrap (ldW x.st.s.W (gaW (c.node i)) + 1) = ldW x.st.s.W (gaW (c.node i)) + 1 := IntWalk.i64_in _ (by omega)
  have lA := low_st h y l (z := gaA (c.node i)) ⟨(gaA_lt hn).1, by have := (gaA_lt hn).2; omega⟩ (ldW x.st.s.W (gaA (c.node i)) + 1) (s' := addA x.st.s (gaA (c.node i)) 1) (by rw [addA_W, wA])
  have lW := low_st h y l (z := gaW (c.node i)) ⟨(gaW_lt hn).1, by have := (gaW_lt hn).2; omega⟩ (ldW x.st.s.W (gaW (c.node i)) + 1) (s' := addA x.st.s (gaW (c.node i)) 1) (by rw [addA_W, wW])
  have lF := fun v => low_st h y l (z := nuFl N) ⟨by unfold nuFl; omega, Int.le_refl _⟩ v (s' := storeA x.st.s (nuFl N) v) (storeA_W _ _ _)
  have fA : ldW (addA x.st.s (gaA (c.node i)) 1).W (nuFl N) = ldW x.st.s.W (nuFl N) := by rw [lA.1, if_neg (by have := (gaA_lt hn).2; omega)]
  have fW : ldW (addA x.st.s (gaW (c.node i)) 1).W (nuFl N) = ldW x.st.s.W (nuFl N) := by rw [lW.1, if_neg (by have := (gaW_lt hn).2; omega)]
  have HA : ∀ a, a < N → ldW x.st.s.W (gaW a) ≤ ldW (addA x.st.s (gaA (c.node i)) 1).W (gaW a) := fun a _ => by rw [lA.1, if_neg (by unfold gaA gaW; omega)]; exact Int.le_refl _
  have HW : ∀ a, a < N → ldW x.st.s.W (gaW a) ≤ ldW (addA x.st.s (gaW (c.node i)) 1).W (gaW a) := fun a _ => by
    rw [lW.1]
    split
    · rename_i e; rw [e]; omega
    · exact Int.le_refl _
  have HF : ∀ v a, a < N → ldW x.st.s.W (gaW a) ≤ ldW (storeA x.st.s (nuFl N) v).W (gaW a) := fun v a ha => by rw [(lF v).1, if_neg (by have := (gaW_lt ha).2; omega)]; exact Int.le_refl _
  have SF : ∀ v q, q < nuFl N → ldW (storeA x.st.s (nuFl N) v).W q = ldW x.st.s.W q := fun v q hq => by rw [(lF v).1, if_neg (by omega)]
  have mS := h.m.step y hB (by omega) (by omega) hi
  have lS := h.m.stepLow y hB (by omega) (by omega) hi
  have lS' : ∀ q, q ≤ nuFl N → ldW (coStep c x.st i).s.W q = ldW x.st.s.W q := fun q hq => lS q (by have := l.tg; unfold nuFl at hq; omega)
  have tS : ∀ j, j ≠ i → sv (coStep c x.st i).T j = sv x.st.T j := fun j hj => coStep_T h.m.v hi hj
  have aS := coStep_at h.m.v hi
  unfold nuStep
  rw [← hp]
  rw [← hp] at hk hw0 hdr
  split
  · exact h
  rename_i hne
  split
  · -- the second step
    rename_i h2
    obtain ⟨pc, u, b, z⟩ := p
    simp only at h2
    subst h2
    have hk' : u = 1 ∧ (sv x.st.T i).pc = 0 := by unfold linkN at hk; simp at hk; exact hk
    obtain ⟨rfl, ht⟩ := hk'
    have e : (loadA x.st.s (nuFl N)).W = x.st.s.W := loadA_W _ _
    refine h.upd hi (low_id h y e) (fun _ _ => rfl) ?_ (g_same h hi ?_ (fun q _ => by show ldW (loadA _ _).W q = _; rw [e])) (fun j hj _ hw => by show ldW (loadA _ _).W _ ≠ 0; rw [e]; exact h.fl j hj hw) (fun hw => by unfold wrP at hw; simp at hw) (fun a _ => by show _ ≤ ldW (loadA _ _).W _; rw [e]; exact Int.le_refl _) (fun hr => .inr (fun j hj _ hw => ?_)) (fun _ _ _ _ _ => rfl) (fun e => by simp at e) (fun e => by simp at e)
    · refine .inr (.inl ⟨rfl, ?_, ht⟩)
      simp only
      split
      · exact .inr (.inr (.inr (.inl rfl)))
      · exact .inr (.inr (.inl rfl))
    · rw [← hp]
      simp only
      split <;> rfl
    · have hf := h.fl j hj hw
      unfold rdSt at hr
      simp only at hr
      rw [if_neg hf] at hr
      omega
  rename_i h2
  have hT10 := oth
  unfold linkN at hk
  obtain ⟨pc, u, b, z⟩ := p
  simp only at hk hne h2 hw0 hdr
  have hcs : (u = 1 ∧ pc = 1 ∧ (sv x.st.T i).pc = 0) ∨ (u = 1 ∧ pc = 3 ∧ (sv x.st.T i).pc = 0) ∨ (u = 1 ∧ pc = 11 ∧ (sv x.st.T i).pc = 0) ∨ (u = 1 ∧ pc = 4 ∧ 0 < (sv x.st.T i).pc ∧ (sv x.st.T i).pc < 10) ∨ (u = 1 ∧ pc = 5 ∧ (sv x.st.T i).pc = 10) ∨ (u = 1 ∧ pc = 6 ∧ 10 < (sv x.st.T i).pc) ∨
      (u = 0 ∧ pc = 7 ∧ 0 < (sv x.st.T i).pc ∧ (sv x.st.T i).pc < 10) ∨ (u = 0 ∧ pc = 8 ∧ (sv x.st.T i).pc = 10) ∨ (u = 0 ∧ pc = 9 ∧ (sv x.st.T i).pc = 10) ∨ (u = 0 ∧ pc = 12 ∧ (sv x.st.T i).pc = 10) ∨ (u = 0 ∧ pc = 13 ∧ 10 < (sv x.st.T i).pc) := by
    rcases hk with ⟨q1, q2⟩ | ⟨q1, q2, q3⟩ | ⟨q1, q2, q3⟩ | ⟨q1, q2, q3⟩ | ⟨q1, q2, q3⟩ | ⟨q1, q2, q3⟩ | ⟨q1, q2, q3⟩ | ⟨q1, q2, q3⟩
    · exact absurd (.inl q1) hne
    · rcases q2 with q2 | q2 | q2 | q2 | q2
      · exact .inl ⟨q1, q2, q3⟩
      · exact absurd q2 h2
      · exact .inr (.inl ⟨q1, q2, q3⟩)
      · exact absurd (.inr q2) hne
      · exact .inr (.inr (.inl ⟨q1, q2, q3⟩))
    · exact .inr (.inr (.inr (.inl ⟨q1, q2, q3⟩)))
    · exact .inr (.inr (.inr (.inr (.inl ⟨q1, q2, q3⟩))))
    · exact .inr (.inr (.inr (.inr (.inr (.inl ⟨q1, q2, q3⟩)))))
    · exact .inr (.inr (.inr (.inr (.inr (.inr (.inl ⟨q1, q2, q3⟩))))))
    · rcases q2 with q2 | q2 | q2 | q2
      · exact .inr (.inr (.inr (.inr (.inr (.inr (.inr (.inl ⟨q1, q2, q3⟩)))))))
      · exact .inr (.inr (.inr (.inr (.inr (.inr (.inr (.inr (.inl ⟨q1, q2, q3⟩))))))))
      · exact absurd (.inr q2) hne
      · exact .inr (.inr (.inr (.inr (.inr (.inr (.inr (.inr (.inr (.inl ⟨q1, q2, q3⟩)))))))))
    · exact .inr (.inr (.inr (.inr (.inr (.inr (.inr (.inr (.inr (.inr (⟨q1, q2, q3⟩))))))))))
  clear hk
  rcases hcs with ⟨rfl, rfl, ht⟩ | ⟨rfl, rfl, ht⟩ | ⟨rfl, rfl, ht⟩ | ⟨rfl, rfl, ht⟩ | ⟨rfl, rfl, ht⟩ | ⟨rfl, rfl, ht⟩ | ⟨rfl, rfl, ht⟩ | ⟨rfl, rfl, ht⟩ | ⟨rfl, rfl, ht⟩ | ⟨rfl, rfl, ht⟩ | ⟨rfl, rfl, ht⟩
  · -- 1: enter
    show NuI c n N ml ⟨onA x.st (addA x.st.s (gaA (c.node i)) 1), x.d, x.U.set i ⟨2, 1, b, z⟩⟩
    exact h.upd (p' := ⟨2, 1, b, z⟩) hi lA.2 (fun _ _ => rfl) (.inr (.inl ⟨rfl, .inr (.inl rfl), ht⟩)) (g_in h hnn hi (by rw [← hp]; rfl) rfl lA.1) (fun j hj _ hw => by rw [show ldW (onA x.st (addA x.st.s (gaA (c.node i)) 1)).s.W (nuFl N) = _ from fA]; exact h.fl j hj hw) (fun hw => by unfold wrP at hw; simp at hw) HA (fun hr => by unfold rdSt at hr; simp at hr) (fun _ _ _ _ _ => rfl) (fun e => by simp at e) (fun e => by simp at e)
  · -- 3: exit, ask
    show NuI c n N ml ⟨coAsk c (onA x.st (addA x.st.s (gaW (c.node i)) 1)) i, x.d, x.U.set i ⟨4, 1, b, z⟩⟩
    have hm := lW.2.ask y hi
    have hs := coAsk_s c (onA x.st (addA x.st.s (gaW (c.node i)) 1)) i
    have hT := coAsk_T (c := c) (st := onA x.st (addA x.st.s (gaW (c.node i)) 1)) (j := i) lW.2.v hi
    have hT' : (sv (coAsk c (onA x.st (addA x.st.s (gaW (c.node i)) 1)) i).T i).pc = 1 := hT.2 ht
    refine h.upd (p' := ⟨4, 1, b, z⟩) hi hm (fun j hj => (coAsk_T (c := c) (st := onA x.st (addA x.st.s (gaW (c.node i)) 1)) lW.2.v hi).1 hj) (.inr (.inr (.inl ⟨rfl, rfl, by omega, by omega⟩))) ?_ (fun j hj _ hw => ?_) (fun hw => by unfold wrP at hw; simp at hw) (fun a ha => ?_) (fun hr => by unfold rdSt at hr; simp at hr) (fun _ _ _ _ _ => rfl) (fun e => by simp at e) (fun e => by simp at e)
    · show ∀ a, a < N → ldW (coAsk c _ i).s.W _ = _
      rw [hs]
      exact g_out h hnn hi (by rw [← hp]; rfl) rfl lW.1
    · show ldW (coAsk c _ i).s.W _ ≠ 0
      rw [hs]
      rw [show ldW (onA x.st (addA x.st.s (gaW (c.node i)) 1)).s.W (nuFl N) = _ from fW]; exact h.fl j hj hw
    · show _ ≤ ldW (coAsk c _ i).s.W _
      rw [hs]; exact HW a ha
  · -- 11: exit
    show NuI c n N ml ⟨onA x.st (addA x.st.s (gaW (c.node i)) 1), x.d, x.U.set i ⟨0, 1, b, z⟩⟩
    exact h.upd (p' := ⟨0, 1, b, z⟩) hi lW.2 (fun _ _ => rfl) (.inl ⟨rfl, ht⟩) (g_out h hnn hi (by rw [← hp]; rfl) rfl lW.1) (fun j hj _ hw => by rw [show ldW (onA x.st (addA x.st.s (gaW (c.node i)) 1)).s.W (nuFl N) = _ from fW]; exact h.fl j hj hw) (fun hw => by unfold wrP at hw; simp at hw) HW (fun hr => by unfold rdSt at hr; simp at hr) (fun _ _ _ _ _ => rfl) (fun e => by simp at e) (fun e => by simp at e)
  · -- 4: towards the cohort lock
    have a1 := aS.1 ht
    show NuI c n N ml ⟨coStep c x.st i, x.d, x.U.set i (nuTo ⟨4, 1, b, z⟩ (cameK (sv x.st.T i) (sv (coStep c x.st i).T i)))⟩
    rw [a1.2]
    by_cases e10 : (sv (coStep c x.st i).T i).pc = 10
    · rw [decide_eq_true e10]
      exact h.upd (p' := ⟨5, 1, b, z⟩) hi mS tS (.inr (.inr (.inr (.inl ⟨rfl, rfl, e10⟩)))) (g_same h hi (by rw [← hp]; rfl) (fun q hq => lS' q (by omega))) (fun j hj _ hw => by rw [lS' _ (Int.le_refl _)]; exact h.fl j hj hw) (fun hw => by unfold wrP at hw; simp at hw) (fun a ha => by rw [lS' _ (by have := (gaW_lt ha).2; omega)]; exact Int.le_refl _) (fun hr => by unfold rdSt at hr; simp at hr) (fun _ _ _ _ _ => rfl) (fun e => by simp at e) (fun e => by simp at e)
    · rw [decide_eq_false e10]
      exact h.upd (p' := ⟨4, 1, b, z⟩) hi mS tS (.inr (.inr (.inl ⟨rfl, rfl, a1.1.1, by omega⟩))) (g_same h hi (by rw [← hp]) (fun q hq => lS' q (by omega))) (fun j hj _ hw => by rw [lS' _ (Int.le_refl _)]; exact h.fl j hj hw) (fun hw => by unfold wrP at hw; simp at hw) (fun a ha => by rw [lS' _ (by have := (gaW_lt ha).2; omega)]; exact Int.le_refl _) (fun hr => by unfold rdSt at hr; simp at hr) (fun _ _ _ _ _ => rfl) (fun e => by simp at e) (fun e => by simp at e)
  · -- 5: enter, leave the cohort lock
    show NuI c n N ml ⟨coLeave (onA x.st (addA x.st.s (gaA (c.node i)) 1)) i, x.d, x.U.set i ⟨6, 1, b, z⟩⟩
    have hm := lA.2.leave y hi
    have hs := coLeave_s (onA x.st (addA x.st.s (gaA (c.node i)) 1)) i
    have hT' : (sv (coLeave (onA x.st (addA x.st.s (gaA (c.node i)) 1)) i).T i).pc = 11 := (coLeave_T (st := onA x.st (addA x.st.s (gaA (c.node i)) 1)) (j := i) lA.2.v hi).2 ht
    refine h.upd (p' := ⟨6, 1, b, z⟩) hi hm (fun j hj => (coLeave_T (st := onA x.st (addA x.st.s (gaA (c.node i)) 1)) lA.2.v hi).1 hj) (.inr (.inr (.inr (.inr (.inl ⟨rfl, rfl, by omega⟩))))) ?_ (fun j hj _ hw => ?_) (fun hw => by unfold wrP at hw; simp at hw) (fun a ha => ?_) (fun _ => .inr (oth ht)) (fun _ _ _ _ _ => rfl) (fun e => by simp at e) (fun e => by simp at e)
    · show ∀ a, a < N → ldW (coLeave _ i).s.W _ = _
      rw [hs]
      exact g_in h hnn hi (by rw [← hp]; rfl) rfl lA.1
    · show ldW (coLeave _ i).s.W _ ≠ 0
      rw [hs]
      rw [show ldW (onA x.st (addA x.st.s (gaA (c.node i)) 1)).s.W (nuFl N) = _ from fA]; exact h.fl j hj hw
    · show _ ≤ ldW (coLeave _ i).s.W _
      rw [hs]; exact HA a ha
  · -- 6: out of the cohort lock
    have a1 := aS.2 ht
    show NuI c n N ml ⟨coStep c x.st i, x.d, x.U.set i (nuTo ⟨6, 1, b, z⟩ (cameK (sv x.st.T i) (sv (coStep c x.st i).T i)))⟩
    rw [a1.2]
    have hst : rdSt (sv x.U i) := by rw [← hp]; exact ⟨rfl, .inl rfl⟩
    by_cases e10 : (sv (coStep c x.st i).T i).pc = 0
    · rw [decide_eq_true e10]
      exact h.upd (p' := ⟨10, 1, b, z⟩) hi mS tS (.inr (.inl ⟨rfl, .inr (.inr (.inr (.inl rfl))), e10⟩)) (g_same h hi (by rw [← hp]; rfl) (fun q hq => lS' q (by omega))) (fun j hj _ hw => by rw [lS' _ (Int.le_refl _)]; exact h.fl j hj hw) (fun hw => by unfold wrP at hw; simp at hw) (fun a ha => by rw [lS' _ (by have := (gaW_lt ha).2; omega)]; exact Int.le_refl _) (fun _ => .inl hst) (fun _ _ _ _ _ => rfl) (fun e => by simp at e) (fun e => by simp at e)
    · rw [decide_eq_false e10]
      exact h.upd (p' := ⟨6, 1, b, z⟩) hi mS tS (.inr (.inr (.inr (.inr (.inl ⟨rfl, rfl, by omega⟩))))) (g_same h hi (by rw [← hp]) (fun q hq => lS' q (by omega))) (fun j hj _ hw => by rw [lS' _ (Int.le_refl _)]; exact h.fl j hj hw) (fun hw => by unfold wrP at hw; simp at hw) (fun a ha => by rw [lS' _ (by have := (gaW_lt ha).2; omega)]; exact Int.le_refl _) (fun _ => .inl hst) (fun _ _ _ _ _ => rfl) (fun e => by simp at e) (fun e => by simp at e)
  · -- 7: a writer towards the cohort lock
    have a1 := aS.1 ht
    show NuI c n N ml ⟨coStep c x.st i, x.d, x.U.set i (nuTo ⟨7, 0, b, z⟩ (cameK (sv x.st.T i) (sv (coStep c x.st i).T i)))⟩
    rw [a1.2]
    by_cases e10 : (sv (coStep c x.st i).T i).pc = 10
    · rw [decide_eq_true e10]
      exact h.upd (p' := ⟨8, 0, b, z⟩) hi mS tS (.inr (.inr (.inr (.inr (.inr (.inr (.inl ⟨rfl, .inl rfl, e10⟩))))))) (g_same h hi (by rw [← hp]; rfl) (fun q hq => lS' q (by omega))) (fun j hj _ hw => by rw [lS' _ (Int.le_refl _)]; exact h.fl j hj hw) (fun hw => by unfold wrP at hw; simp at hw) (fun a ha => by rw [lS' _ (by have := (gaW_lt ha).2; omega)]; exact Int.le_refl _) (fun hr => by unfold rdSt at hr; simp at hr) (fun _ _ _ _ _ => rfl) (fun _ e => by simp at e) (fun _ e => by simp at e)
    · rw [decide_eq_false e10]
      exact h.upd (p' := ⟨7, 0, b, z⟩) hi mS tS (.inr (.inr (.inr (.inr (.inr (.inl ⟨rfl, rfl, a1.1.1, by omega⟩)))))) (g_same h hi (by rw [← hp]) (fun q hq => lS' q (by omega))) (fun j hj _ hw => by rw [lS' _ (Int.le_refl _)]; exact h.fl j hj hw) (fun hw => by unfold wrP at hw; simp at hw) (fun a ha => by rw [lS' _ (by have := (gaW_lt ha).2; omega)]; exact Int.le_refl _) (fun hr => by unfold rdSt at hr; simp at hr) (fun _ _ _ _ _ => rfl) (fun _ e => by simp at e) (fun _ e => by simp at e)
  · -- 8: the flag
    show NuI c n N ml ⟨onA x.st (storeA x.st.s (nuFl N) 1), drBeg x.d N false, x.U.set i ⟨9, 0, b, z⟩⟩
    have hN : 1 ≤ N := by omega
    refine h.upd (p' := ⟨9, 0, b, z⟩) hi (lF 1).2 (fun _ _ => rfl) (.inr (.inr (.inr (.inr (.inr (.inr (.inl ⟨rfl, .inr (.inl rfl), ht⟩))))))) (g_same h hi (by rw [← hp]; rfl) (SF 1)) (fun j hj e hw => absurd hw (oth ht j hj e)) (fun _ => by show ldW (storeA _ _ _).W _ ≠ 0; rw [(lF 1).1, if_pos rfl]; decide) (HF 1) (fun hr => by unfold rdSt at hr; simp at hr) (fun j hj e h0 h9 => (oth9 ht j hj e h0 h9).elim) (fun _ _ => ?_) (fun _ e => by simp at e)
    exact ⟨⟨rfl, rfl, hN, rfl⟩, fun e => by simp [drBeg] at e, fun j hj _ => Nat.zero_le _⟩
  · -- 9: the drain
    obtain ⟨⟨q1, q2, q3, q4⟩, q5, q6⟩ := hdr rfl rfl
    have hfl := hw0 ⟨rfl, .inl rfl⟩
    have hW := drStep_W x.st.s x.d
    have hs := svS (show i < x.U.length by rw [h.lU]; exact hi)
    have nr : ∀ pc' j, rdSt (sv (x.U.set i ⟨pc', 0, b, z⟩) j) → j ≠ i ∧ rdSt (sv x.U j) := fun pc' j hr => by
      rw [hs] at hr
      split at hr
      · unfold rdSt at hr; simp at hr
      · rename_i e; exact ⟨e, hr⟩
    have go : ∀ (pc' : Int) (d' : Dr), (pc' = 9 ∨ pc' = 10) → (pc' = 9 → DrI c n N d' x.st.s.W (x.U.set i ⟨pc', 0, b, z⟩)) → (pc' = 10 → ∀ j, j < n → j ≠ i → ¬ rdSt (sv x.U j)) → NuI c n N ml ⟨onA x.st (drStep x.st.s x.d).1, d', x.U.set i ⟨pc', 0, b, z⟩⟩ := fun pc' d' hpc o9 o10 => by
      refine h.upd (p' := ⟨pc', 0, b, z⟩) hi (low_id h y hW) (fun _ _ => rfl) (.inr (.inr (.inr (.inr (.inr (.inr (.inl ⟨rfl, ?_, ht⟩))))))) (g_same h hi ?_ (fun q _ => by show ldW (drStep _ _).1.W q = _; rw [hW])) (fun j hj _ hw => by show ldW (drStep _ _).1.W _ ≠ 0; rw [hW]; exact h.fl j hj hw) (fun _ => by show ldW (drStep _ _).1.W _ ≠ 0; rw [hW]; exact hfl) (fun a _ => by show _ ≤ ldW (drStep _ _).1.W _; rw [hW]; exact Int.le_refl _) (fun hr => by unfold rdSt at hr; simp at hr) (fun j hj e h0 h9 => (oth9 ht j hj e h0 h9).elim) (fun _ h9 => ?_) (fun _ h10 => o10 h10)
      · rcases hpc with rfl | rfl
        · exact .inr (.inl rfl)
        · exact .inr (.inr (.inl rfl))
      · rw [← hp, rdIn_f (by simp), rdIn_f (by simp)]
      · show DrI c n N d' (drStep _ _).1.W _
        rw [hW]; exact o9 h9
    show NuI c n N ml ⟨onA x.st (drStep x.st.s x.d).1, (drStep x.st.s x.d).2.1, x.U.set i (nuTo ⟨9, 0, b, z⟩ (drStep x.st.s x.d).2.2)⟩
    by_cases hsec : x.d.second = true
    · have e1 : drStep x.st.s x.d = (loadA x.st.s (gaA x.d.at_), drLast x.st.s x.d) := by unfold drStep; rw [q1, hsec]; rfl
      have e2 : (drStep x.st.s x.d).2 = drLast x.st.s x.d := by rw [e1]
      rw [e2]
      unfold drLast
      by_cases hv : ldW x.st.s.W (gaA x.d.at_) = x.d.out
      · rw [if_neg (by simpa using hv)]
        have hg := h.g x.d.at_ q3
        have hout := q5 hsec
        have hcz : cntI c n x.U x.d.at_ = 0 := by omega
        have hno : ∀ j, j < n → rdSt (sv x.U j) → c.node j ≠ x.d.at_ := fun j hj hr e => by
          have : 0 < cntI c n x.U x.d.at_ := cntN_pos (P := fun j => decide (c.node j = x.d.at_) && rdIn (sv x.U j)) hj (by
            simp only [Bool.and_eq_true, decide_eq_true_eq]
            refine ⟨e, rdIn_t ⟨hr.1, ?_⟩⟩
            rcases hr.2 with h1 | h1 | h1
            · exact .inr (.inr (.inl h1))
            · exact .inr (.inr (.inr (.inl h1)))
            · exact .inr (.inr (.inr (.inr h1))))
          omega
        by_cases hend : x.d.at_ + 1 = x.d.lim
        · rw [if_pos hend]
          refine go 10 _ (.inr rfl) (fun e => by simp at e) (fun _ j hj e hr => ?_)
          have h1 := q6 j hj hr
          have h2 := hno j hj hr
          have h3 := hnn j hj
          omega
        · rw [if_neg hend]
          refine go 9 _ (.inl rfl) (fun _ => ⟨⟨q1, q2, by show x.d.at_ + 1 < N; omega, q4⟩, fun e => by simp at e, fun j hj hr => ?_⟩) (fun e => by simp at e)
          have hr' := (nr 9 j hr).2
          have h1 := q6 j hj hr'
          have h2 := hno j hj hr'
          show x.d.at_ + 1 ≤ c.node j
          omega
      · rw [if_pos hv, if_neg (by rw [q2]; decide)]
        exact go 9 _ (.inl rfl) (fun _ => ⟨⟨q1, q2, q3, q4⟩, fun e => by simp at e, fun j hj hr => q6 j hj (nr 9 j hr).2⟩) (fun e => by simp at e)
    · have e1 : drStep x.st.s x.d = (loadA x.st.s (gaW x.d.at_), { x.d with out := ldW x.st.s.W (gaW x.d.at_), second := true }, false) := by unfold drStep; rw [if_pos q1, if_neg hsec]
      have e2 : (drStep x.st.s x.d).2 = ({ x.d with out := ldW x.st.s.W (gaW x.d.at_), second := true }, false) := by rw [e1]
      rw [e2]
      exact go 9 _ (.inl rfl) (fun _ => ⟨⟨q1, q2, q3, q4⟩, fun _ => Int.le_refl _, fun j hj hr => q6 j hj (nr 9 j hr).2⟩) (fun e => by simp at e)
  · -- 12: the flag down, leave the cohort lock
    show NuI c n N ml ⟨coLeave (onA x.st (storeA x.st.s (nuFl N) 0)) i, x.d, x.U.set i ⟨13, 0, b, z⟩⟩
    have hm := (lF 0).2.leave y hi
    have hs := coLeave_s (onA x.st (storeA x.st.s (nuFl N) 0)) i
    have hT' : (sv (coLeave (onA x.st (storeA x.st.s (nuFl N) 0)) i).T i).pc = 11 := (coLeave_T (st := onA x.st (storeA x.st.s (nuFl N) 0)) (j := i) (lF 0).2.v hi).2 ht
    refine h.upd (p' := ⟨13, 0, b, z⟩) hi hm (fun j hj => (coLeave_T (st := onA x.st (storeA x.st.s (nuFl N) 0)) (lF 0).2.v hi).1 hj) (.inr (.inr (.inr (.inr (.inr (.inr (.inr ⟨rfl, rfl, by omega⟩))))))) ?_ (fun j hj e hw => absurd hw (oth ht j hj e)) (fun hw => by unfold wrP at hw; simp at hw) (fun a ha => ?_) (fun hr => by unfold rdSt at hr; simp at hr) (fun _ _ _ _ _ => rfl) (fun _ e => by simp at e) (fun _ e => by simp at e)
    · show ∀ a, a < N → ldW (coLeave _ i).s.W _ = _
      rw [hs]
      exact g_same h hi (by rw [← hp]; rfl) (SF 0)
    · show _ ≤ ldW (coLeave _ i).s.W _
      rw [hs]; exact HF 0 a ha
  · -- 13: a writer out of the cohort lock
    have a1 := aS.2 ht
    show NuI c n N ml ⟨coStep c x.st i, x.d, x.U.set i (nuTo ⟨13, 0, b, z⟩ (cameK (sv x.st.T i) (sv (coStep c x.st i).T i)))⟩
    rw [a1.2]
    by_cases e10 : (sv (coStep c x.st i).T i).pc = 0
    · rw [decide_eq_true e10]
      exact h.upd (p' := ⟨0, 0, b, z⟩) hi mS tS (.inl ⟨rfl, e10⟩) (g_same h hi (by rw [← hp]; rfl) (fun q hq => lS' q (by omega))) (fun j hj _ hw => by rw [lS' _ (Int.le_refl _)]; exact h.fl j hj hw) (fun hw => by unfold wrP at hw; simp at hw) (fun a ha => by rw [lS' _ (by have := (gaW_lt ha).2; omega)]; exact Int.le_refl _) (fun hr => by unfold rdSt at hr; simp at hr) (fun _ _ _ _ _ => rfl) (fun _ e => by simp at e) (fun _ e => by simp at e)
    · rw [decide_eq_false e10]
      exact h.upd (p' := ⟨13, 0, b, z⟩) hi mS tS (.inr (.inr (.inr (.inr (.inr (.inr (.inr ⟨rfl, rfl, by omega⟩))))))) (g_same h hi (by rw [← hp]) (fun q hq => lS' q (by omega))) (fun j hj _ hw => by rw [lS' _ (Int.le_refl _)]; exact h.fl j hj hw) (fun hw => by unfold wrP at hw; simp at hw) (fun a ha => by rw [lS' _ (by have := (gaW_lt ha).2; omega)]; exact Int.le_refl _) (fun hr => by unfold rdSt at hr; simp at hr) (fun _ _ _ _ _ => rfl) (fun _ e => by simp at e) (fun _ e => by simp at e)
end
end Go.Proofs.YtndipiockdmaoaaGreat
end
section
set_option linter.unusedVariables false
set_option linter.unusedSimpArgs false
/- Layers 36 to 38: a lock of readers and writers in memory, over a cohort lock: what it is made of, and what an op of each part leaves. -/
namespace Go.Proofs.YtndipiockdmaoaaGreat
open Go.RowKit

/-- where such a lock lies -/
structure SmX where
  l : Nat
  q : Nat
  b : Nat
  gg : Nat
  dd : Nat
  x : Cox
def smC (a : Nat) (X : SmX) (N n : Nat) : Array Value := #[.pointer (some ⟨a, 0, none⟩), .pointer (some ⟨X.b, 0, none⟩), .pointer (some ⟨X.gg, 0, none⟩), .pointer (some ⟨X.dd, 0, none⟩), .int .i64 (2 * (N : Int) + 1), .pointer (some ⟨X.x.l, 0, none⟩), .slice (some ⟨X.q, 0, none⟩) n n]
structure SmIs (ty : TypeId) (B BC : Nat → Prop) (w : World) (a g : Nat) (X : SmX) (c : CoC) (P T : List Int) (st : Co) (d : Dr) (U : List Sp) : Prop where
  lk : Blk w X.l ty (smC a X (leavesL P).length T.length)
  gd : GD w a g X.gg X.dd (leavesL P).length st.s d
  tb : TabQ B w X.b P T
  sp : SpR w X.q U
  co : CoIs BC w a g X.x c P T st
  lU : U.length = T.length
  o1 : ∀ i ∈ CoS a g X.x, i ≠ X.l ∧ i ≠ X.q ∧ i ≠ X.gg ∧ i ≠ X.dd ∧ ¬ B i
  o2 : ¬ CoBlk X.x BC X.q ∧ ¬ CoBlk X.x BC X.dd
  o3 : X.q ≠ X.l ∧ X.q ≠ X.gg ∧ X.q ≠ X.dd ∧ ¬ B X.q
  o4 : X.dd ≠ X.l ∧ X.dd ≠ X.gg ∧ ¬ B X.dd
section
variable {ty : TypeId} {B BC : Nat → Prop} {w w' : World} {a g : Nat} {X : SmX} {x : Cox} {c : CoC} {P T : List Int} {st st' : Co} {d d' : Dr} {U : List Sp} {s' : Ar} {S : List Nat}
/-- an op on the arena, and blocks that are none of the cohort lock's -/
theorem CoIs.arAway (h : CoIs BC w a g x c P T st) (t : Turns S w w') (ha : ArIs w' a g s') (hS : ∀ i ∈ S, i = a ∨ i = g ∨ ¬ CoBlk x BC i) : CoIs BC w' a g x c P T { st with s := s' } := by
  have nb : ∀ r u, x.o r = u → u ≠ 3 → CoBlk x BC r → r ∉ S := fun r u e hu hb hm => by
    rcases hS r hm with e1 | e1 | e1
    · rw [e1, h.fx.oa] at e; exact hu e.symm
    · rw [e1, h.fx.og] at e; exact hu e.symm
    · exact e1 hb
  obtain ⟨Z, z⟩ := h.nd
  refine ⟨h.fx, ha, t.blk h.lk (nb _ _ h.fx.ol (by decide) (.inl rfl)), h.tb.turns t (fun i hi hb => nb i _ (h.fx.oB i hb) (by decide) (.inr (.inr (.inr (.inr (.inr hb))))) hi), ⟨Z, t.blk z (nb _ _ h.fx.on (by decide) (.inr (.inl rfl)))⟩,
    h.sp.turns t (nb _ _ h.fx.os (by decide) (.inr (.inr (.inl rfl)))),
    h.gl.oth t ha (nb _ _ h.fx.oG.1 (by decide) (.inr (.inr (.inr (.inl (.inl rfl)))))) (nb _ _ h.fx.oG.2.1 (by decide) (.inr (.inr (.inr (.inl (.inr (.inl rfl))))))) (nb _ _ h.fx.oG.2.2 (by decide) (.inr (.inr (.inr (.inl (.inr (.inr rfl))))))),
    fun n y S' hy hS' => ?_, h.lL, h.lG, h.lS, h.sl⟩
  have hm : y ∈ x.X := List.mem_of_getElem? hy
  have ho := h.fx.oL n y hy
  exact (h.lo n y S' hy hS').oth t ha (nb _ _ ho.1 (by omega) (.inr (.inr (.inr (.inr (.inl ⟨y, hm, .inl rfl⟩)))))) (nb _ _ ho.2.1 (by omega) (.inr (.inr (.inr (.inr (.inl ⟨y, hm, .inr (.inl rfl)⟩)))))) (nb _ _ ho.2.2 (by omega) (.inr (.inr (.inr (.inr (.inl ⟨y, hm, .inr (.inr rfl)⟩))))))
theorem SmIs.agS (h : SmIs ty B BC w a g X c P T st d U) : (a ≠ X.l ∧ a ≠ X.q ∧ a ≠ X.gg ∧ a ≠ X.dd ∧ ¬ B a) ∧ (g ≠ X.l ∧ g ≠ X.q ∧ g ≠ X.gg ∧ g ≠ X.dd ∧ ¬ B g) :=
  ⟨h.o1 a (by unfold CoS; simp), h.o1 g (by unfold CoS; simp)⟩
/-- the cohort lock has turned -/
theorem SmIs.coT (h : SmIs ty B BC w a g X c P T st d U) (t : Turns (CoS a g X.x) w w') (k : CoIs BC w' a g X.x c P T st') : SmIs ty B BC w' a g X c P T st' d U :=
  { h with lk := t.blk h.lk (fun m => (h.o1 _ m).1 rfl), gd := { h.gd with ar := k.ar, ga := t.blk h.gd.ga (fun m => (h.o1 _ m).2.2.1 rfl), dr := t.blk h.gd.dr (fun m => (h.o1 _ m).2.2.2.1 rfl) }, tb := h.tb.turns t (fun i hi => (h.o1 i hi).2.2.2.2), sp := h.sp.turns t (fun m => (h.o1 _ m).2.1 rfl), co := k }
/-- gauge or drain, or the arena by itself -/
theorem SmIs.gdT (h : SmIs ty B BC w a g X c P T st d U) (t : Turns [a, g, X.dd] w w') (k : GD w' a g X.gg X.dd (leavesL P).length s' d') : SmIs ty B BC w' a g X c P T { st with s := s' } d' U := by
  obtain ⟨ha, hg⟩ := h.agS
  have hm : ∀ r, r ≠ a → r ≠ g → r ≠ X.dd → r ∉ [a, g, X.dd] := fun r h1 h2 h3 => by simp [h1, h2, h3]
  refine { h with lk := t.blk h.lk (hm _ (fun e => ha.1 e.symm) (fun e => hg.1 e.symm) (fun e => h.o4.1 e.symm)), gd := k, tb := h.tb.turns t (fun i hi hb => ?_), sp := h.sp.turns t (hm _ (fun e => ha.2.1 e.symm) (fun e => hg.2.1 e.symm) h.o3.2.2.1), co := h.co.arAway t k.ar (fun i hi => ?_) }
  · simp at hi
    rcases hi with rfl | rfl | rfl
    · exact ha.2.2.2.2 hb
    · exact hg.2.2.2.2 hb
    · exact h.o4.2.2 hb
  · simp at hi
    rcases hi with rfl | rfl | rfl
    · exact .inl rfl
    · exact .inr (.inl rfl)
    · exact .inr (.inr h.o2.2)
theorem SmIs.arT (h : SmIs ty B BC w a g X c P T st d U) (t : Turns [a, g] w w') (ha : ArIs w' a g s') : SmIs ty B BC w' a g X c P T { st with s := s' } d U :=
  h.gdT (turns_agq t) (h.gd.op t ha)
/-- a store into a thread's spot -/
theorem SmIs.put (h : SmIs ty B BC w a g X c P T st d U) {i : Nat} {p p' : Sp} (hp : U[i]? = some p) {j : Nat} {u : Value} (hj : j < 4) (he : (encP4 p).set j u = encP4 p') : SmIs ty B BC (w.setCell ⟨X.q, i * 4 + j, none⟩ u) a g X c P T st d (U.set i p') := by
  obtain ⟨ha, hg⟩ := h.agS
  have t : Turns [X.q] w (w.setCell ⟨X.q, i * 4 + j, none⟩ u) := turns_q _ _ _
  have hA := h.gd.ar.turns t (by simp; exact ha.2.1) (by simp; exact hg.2.1)
  have k := h.co.arAway t (s' := st.s) hA (fun i hi => .inr (.inr (by simp at hi; rw [hi]; exact h.o2.1)))
  refine { h with lk := t.blk h.lk (by simp; exact fun e => h.o3.1 e.symm), gd := { h.gd with ar := hA, ga := t.blk h.gd.ga (by simp; exact fun e => h.o3.2.1 e.symm), dr := t.blk h.gd.dr (by simp; exact fun e => h.o3.2.2.1 e.symm) }, tb := h.tb.turns t (fun i hi => by simp at hi; rw [hi]; exact h.o3.2.2.2), sp := h.sp.put hp hj he, co := k, lU := by rw [List.length_set]; exact h.lU }
theorem SmIs.put0 (h : SmIs ty B BC w a g X c P T st d U) {i : Nat} {p p' : Sp} (hp : U[i]? = some p) {u : Value} (he : (encP4 p).set 0 u = encP4 p') : SmIs ty B BC (w.setCell ⟨X.q, i * 4, none⟩ u) a g X c P T st d (U.set i p') := h.put hp (j := 0) (by decide) he
theorem SmIs.below (h : SmIs ty B BC w a g X c P T st d U) (b : Below w.heap.size w w') : SmIs ty B BC w' a g X c P T st d U :=
  have t : Turns [] w w' := Turns.of_below b
  { h with lk := t.blk h.lk (by simp), gd := h.gd.below b, tb := h.tb.turns t (by simp), sp := h.sp.turns t (by simp), co := h.co.below b }
theorem SmIs.qt (h : SmIs ty B BC w a g X c P T st d U) (n : Nat) : SmIs ty B BC (w.drewN n) a g X c P T st d U := h.below (Qt.below ⟨n, rfl⟩ _)
theorem SmIs.nT (h : SmIs ty B BC w a g X c P T st d U) : X.x.n = T.length ∧ X.x.N = (leavesL P).length ∧ T.length ≤ 32 ∧ (leavesL P).length ≤ 32 := by
  have := h.co.fx.n32
  have e1 := h.co.fx.nT
  have e2 := h.co.fx.nN
  exact ⟨e1, e2, by omega, by omega⟩
theorem SmIs.thr (h : SmIs ty B BC w a g X c P T st d U) {i : Nat} (hi : i < T.length) : U[i]? = some (sv U i) := by
  have : i < U.length := by rw [h.lU]; exact hi
  unfold sv
  rw [List.getD_eq_getElem?_getD, List.getElem?_eq_getElem this]; rfl
theorem SmIs.cs (h : SmIs ty B BC w a g X c P T st d U) : w.cell? ⟨X.l, 0, none⟩ = some (.pointer (some ⟨a, 0, none⟩)) ∧ w.cell? ⟨X.l, 1, none⟩ = some (.pointer (some ⟨X.b, 0, none⟩)) ∧ w.cell? ⟨X.l, 2, none⟩ = some (.pointer (some ⟨X.gg, 0, none⟩)) ∧ w.cell? ⟨X.l, 3, none⟩ = some (.pointer (some ⟨X.dd, 0, none⟩)) ∧ w.cell? ⟨X.l, 4, none⟩ = some (.int .i64 (2 * ((leavesL P).length : Int) + 1)) ∧ w.cell? ⟨X.l, 5, none⟩ = some (.pointer (some ⟨X.x.l, 0, none⟩)) ∧ w.cell? ⟨X.l, 6, none⟩ = some (.slice (some ⟨X.q, 0, none⟩) T.length T.length) :=
  ⟨h.lk.cell 0, h.lk.cell 1, h.lk.cell 2, h.lk.cell 3, h.lk.cell 4, h.lk.cell 5, h.lk.cell 6⟩
/-- what turns -/
def SmS (a g : Nat) (X : SmX) : List Nat := X.q :: X.dd :: CoS a g X.x
theorem smS_co (t : Turns (CoS a g X.x) w w') : Turns (SmS a g X) w w' := t.mono (fun i hi => by unfold SmS; simp [hi])
theorem smS_gd (t : Turns [a, g, X.dd] w w') : Turns (SmS a g X) w w' := t.mono (fun i hi => by unfold SmS CoS; simp at hi ⊢; rcases hi with rfl | rfl | rfl <;> simp)
theorem smS_ag (t : Turns [a, g] w w') : Turns (SmS a g X) w w' := t.mono (fun i hi => by unfold SmS CoS; simp at hi ⊢; rcases hi with rfl | rfl <;> simp)
theorem smS_q (i : Nat) (u : Value) : Turns (SmS a g X) w (w.setCell ⟨X.q, i, none⟩ u) := (turns_q _ _ _).mono (fun i hi => by unfold SmS; simp at hi; simp [hi])
end
end Go.Proofs.YtndipiockdmaoaaGreat
end
