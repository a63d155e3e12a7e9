/- Joined: LvR, Sm11r. -/
import Derived.Test.YtmlcfmickonfbaaGreatMgReadersAll24
import Derived.Test.YtmlcfmickonfbaaGreatMgReadersAll28
section
set_option linter.unusedVariables false
set_option linter.unusedSimpArgs false
/- Layer 37 (readers), plain: whoever has asked holds some time. No program in sight. -/
namespace Go.Proofs.YtmlcfmickonfbaaGreat
open Go

section
set_option linter.unusedVariables false
variable {c : CoC} {n N L : Nat} {ml : Nat → Nat} {x : Nu} {B : Int}
theorem rs_go (h : RsI c n N ml x) (E : RsE n N x) (hL : CoL c n N ml x.st) (y : CoLy c n N ml) (l : NuL c N x.st.s.W) (hB : CoB c B x.st) (hB0 : 40 ≤ B) (hB1 : B ≤ 1000000000000) (hm4 : c.m ≤ 4) (hn6 : n ≤ 6) {i : Nat} (hi : i < n) (h0 : (sv x.U i).pc ≠ 0) (h10 : (sv x.U i).pc ≠ 10) : RGo c n N x (rsStep c N x i) i := by
  have hk := h.k i hi
  have ex : rsStep c N x i = ⟨(rsDoes c N x i (sv x.U i)).1, (rsDoes c N x i (sv x.U i)).2.1, x.U.set i { (sv x.U i) with pc := (rsDoes c N x i (sv x.U i)).2.2 }⟩ := by
    unfold rsStep; rw [if_neg (by omega)]
  obtain ⟨p, hp⟩ : ∃ p, p = sv x.U i := ⟨_, rfl⟩
  rw [← hp] at hk h0 h10 ex
  unfold linkR at hk
  obtain ⟨pc, u, b, z⟩ := p
  simp only at hk h0 h10
  rw [ex]
  rcases hk with ⟨q1, q2⟩ | ⟨rfl, q2, q3⟩ | ⟨rfl, rfl, q3, q4⟩ | ⟨rfl, q2, q3⟩ | ⟨rfl, rfl, q3⟩
  · exact absurd q1 h0
  · rcases q2 with rfl | rfl | rfl | rfl
    · exact rl_1 h E hL y l hB hB0 hB1 hm4 hn6 hi hp.symm q3
    · exact rl_2 h E hL y l hB hB0 hB1 hm4 hn6 hi hp.symm q3
    · exact absurd rfl h10
    · exact rl_11 h E hL y l hB hB0 hB1 hm4 hn6 hi hp.symm q3
  · exact rl_co h E hL y l hB hB0 hB1 hm4 hn6 hi (pc := 7) (yes := 8) hp.symm (.inl ⟨rfl, rfl⟩) (by omega) (by omega)
  · rcases q2 with rfl | rfl | rfl | rfl | rfl | rfl
    · exact rl_5 h E hL y l hB hB0 hB1 hm4 hn6 hi hp.symm q3
    · exact rl_6 h E hL y l hB hB0 hB1 hm4 hn6 hi hp.symm q3
    · exact rl_8 h E hL y l hB hB0 hB1 hm4 hn6 hi hp.symm q3
    · exact rl_9 h E hL y l hB hB0 hB1 hm4 hn6 hi hp.symm q3
    · exact absurd rfl h10
    · exact rl_12 h E hL y l hB hB0 hB1 hm4 hn6 hi hp.symm q3
  · exact rl_co h E hL y l hB hB0 hB1 hm4 hn6 hi (pc := 13) (yes := 0) hp.symm (.inr ⟨rfl, rfl⟩) (by omega) (by omega)
theorem RsE.leave (h : RsI c n N ml x) (E : RsE n N x) {i : Nat} (hi : i < n) : RsE n N (nuLeave x i) := by
  unfold nuLeave
  split
  · rename_i h10
    have hk := h.k i hi
    refine E.upd h hi (st' := x.st) (d' := x.d) rfl (fun _ _ => Int.le_refl _) (fun hne => ?_) (fun q0 q6 => ?_) (fun _ _ _ _ _ => rfl)
    · by_cases ha : (sv x.U i).a = 0
      · exact .inl ⟨ha, .inr (.inr (.inr (by show 12 - (sv x.U i).a = 12; omega)))⟩
      · exact .inr ⟨fun q => ha q.1, hne⟩
    · simp only at q0 q6
      omega
  · exact E
theorem RsE.ask (h : RsI c n N ml x) (E : RsE n N x) {i : Nat} (hi : i < n) (r : Bool) : RsE n N (nuAsk c x i r) := by
  unfold nuAsk
  split
  · rename_i h0
    have nw : ¬ wrPR (sv x.U i) := by unfold wrPR; omega
    split
    · exact E.upd h hi (st' := x.st) (d' := x.d) rfl (fun _ _ => Int.le_refl _) (fun hne => .inr ⟨nw, hne⟩) (fun q0 q6 => by simp at q0) (fun _ _ _ _ _ => rfl)
    · exact E.upd h hi (st' := coAsk c x.st i) (d' := x.d) (W' := x.st.s.W) (by rw [coAsk_s]) (fun _ _ => Int.le_refl _) (fun hne => .inr ⟨nw, hne⟩) (fun q0 q6 => by simp at q6) (fun _ _ _ _ _ => rfl)
  · exact E
/-- what more holds behind any acts -/
def RsL (c : CoC) (n N : Nat) (ml : Nat → Nat) (x : Nu) : Prop := CoL c n N ml x.st ∧ RsE n N x
structure RsT (c : CoC) (n N L : Nat) (ml : Nat → Nat) (B : Int) (x : Nu) : Prop where
  s : RsS c n N L ml B x
  l : RsL c n N ml x
theorem RsT.act (h : RsT c n N L ml B x) (k : NuK c n N L ml) (hB : 40 ≤ B) (hB2 : B ≤ 1000000000000) (hm4 : c.m ≤ 4) (hn6 : n ≤ 6) (kd i : Int) : RsT c n N L ml (B + 4) (actRs c N x kd i) := by
  refine ⟨(h.s.act k hB hB2 kd i).1, ?_⟩
  have l : NuL c N x.st.s.W := ⟨k.tg, by rw [h.s.ok.len]; exact k.len⟩
  unfold actRs
  split
  · rename_i hok
    have hi : i.toNat < n := by
      obtain ⟨h0, h1⟩ := hok
      have := h.s.i.lU
      omega
    have ask : ∀ r, RsL c n N ml (nuAsk c x i.toNat r) := fun r => by
      refine ⟨?_, h.l.2.ask h.s.i hi r⟩
      unfold nuAsk
      split
      · split
        · exact h.l.1
        · exact h.l.1.ask h.s.i.m k.y hi
      · exact h.l.1
    split
    · refine ⟨rsStep_L h.s.i h.l.1 k.y l h.s.ok.bd hB hB2 hm4 hi, ?_⟩
      by_cases q0 : (sv x.U i.toNat).pc = 0
      · unfold rsStep; rw [if_pos (.inl q0)]; exact h.l.2
      by_cases q10 : (sv x.U i.toNat).pc = 10
      · unfold rsStep; rw [if_pos (.inr q10)]; exact h.l.2
      exact (rs_go h.s.i h.l.2 h.l.1 k.y l h.s.ok.bd hB hB2 hm4 hn6 hi q0 q10).1
    split
    · exact ask false
    split
    · exact ⟨by rw [nuLeave_st]; exact h.l.1, h.l.2.leave h.s.i hi⟩
    split
    · exact ask true
    · exact h.l
  · exact h.l
/-- a step, and a leave at once -/
def rsTurn (c : CoC) (N : Nat) (x : Nu) (i : Nat) : Nu := actRs c N (actRs c N x 0 (i : Int)) 2 (i : Int)
theorem rsTurn_eq (h : x.U.length = n) {i : Nat} (hi : i < n) : rsTurn c N x i = nuLeave (rsStep c N x i) i := by
  have ok1 : okI x.U (i : Int) := ⟨by omega, by omega⟩
  have e1 : actRs c N x 0 (i : Int) = rsStep c N x i := by
    unfold actRs; rw [if_pos ok1, if_pos rfl, Int.toNat_natCast]
  have hl : (rsStep c N x i).U.length = n := by
    unfold rsStep
    (repeat' split) <;> simp [h]
  have ok2 : okI (rsStep c N x i).U (i : Int) := ⟨by omega, by omega⟩
  unfold rsTurn
  rw [e1]
  unfold actRs
  rw [if_pos ok2, if_neg (by decide), if_neg (by decide), if_pos rfl, Int.toNat_natCast]
/-- some thread's step leads on -/
theorem rs_alive (h : RsI c n N ml x) (E : RsE n N x) (hL : CoL c n N ml x.st) (y : CoLy c n N ml) (hr : ¬ nuRest n x) : ∃ j, j < n ∧ RWit c N x j := by
  apply Classical.byContradiction
  intro hcon
  have no : ∀ j, j < n → ¬ RWit c N x j := fun j hj hw => hcon ⟨j, hj, hw⟩
  have pcs : ∀ j, j < n → (sv x.U j).pc = 0 ∨ (sv x.U j).a = 1 ∧ (sv x.U j).pc = 2 ∨ (sv x.U j).a = 0 ∧ ((sv x.U j).pc = 6 ∨ (sv x.U j).pc = 7 ∨ (sv x.U j).pc = 13) := fun j hj => by
    have hk := h.k j hj
    have := no j hj
    unfold RWit at this
    unfold linkR at hk
    omega
  have mk : ∀ j, j < n → (sv x.st.T j).pc ≠ 0 → (sv x.st.T j).pc ≠ 10 → CWit c x.st j → False := fun j hj h0 h10 hw => by
    have hk := h.k j hj
    have hp := pcs j hj
    have : (sv x.U j).a = 0 ∧ ((sv x.U j).pc = 7 ∨ (sv x.U j).pc = 13) := by unfold linkR at hk; omega
    exact no j hj (.inr ⟨this.1, .inr (.inr (.inr (.inr (.inr (.inr ⟨this.2, hw⟩)))))⟩)
  have noFl : ldW x.st.s.W (nuFl N) = 0 := Classical.byContradiction fun q => by
    obtain ⟨j, hj, hw⟩ := E.f q
    have hp := pcs j hj
    unfold wrPR at hw
    omega
  have no2 : ∀ j, j < n → ¬ ((sv x.U j).a = 1 ∧ (sv x.U j).pc = 2) := fun j hj q => no j hj (.inl ⟨q.1, .inr (.inr (.inr ⟨q.2, noFl⟩))⟩)
  have noOut : ∀ j, j < n → ¬ 10 < (sv x.st.T j).pc := fun j hj hq => by
    obtain ⟨k, hk, h0, h10, hw⟩ := co_aliveOut h.m hL y hj hq
    exact mk k hk h0 h10 hw
  have no6 : ∀ j, j < n → (sv x.U j).pc ≠ 6 := fun j hj h6 => by
    have hp := pcs j hj
    have ha : (sv x.U j).a = 0 := by omega
    have d3 := (E.d j hj ha h6).1.2.2.1
    by_cases e : ldW x.st.s.W (gaA x.d.at_) = ldW x.st.s.W (gaW x.d.at_)
    · exact no j hj (.inr ⟨ha, .inr (.inr (.inr (.inr (.inr (.inl ⟨h6, e⟩)))))⟩)
    · obtain ⟨k, hk, _, hr⟩ := some_at h d3 e
      have hr2 : (sv x.U k).a = 1 ∧ ((sv x.U k).pc = 2 ∨ (sv x.U k).pc = 10 ∨ (sv x.U k).pc = 11) := of_decide_eq_true hr
      have hpk := pcs k hk
      exact no2 k hk ⟨hr2.1, by omega⟩
  have no10 : ∀ j, j < n → (sv x.st.T j).pc ≠ 10 := fun j hj h10 => by
    have hk := h.k j hj
    have hp := pcs j hj
    have := no6 j hj
    have := no2 j hj
    unfold linkR at hk; omega
  have ex : ∃ j, j < n ∧ (sv x.U j).pc ≠ 0 := by
    apply Classical.byContradiction
    intro hq
    exact hr (fun i hi => Classical.byContradiction (fun h0 => hq ⟨i, hi, h0⟩))
  obtain ⟨j, hj, h0⟩ := ex
  have hp := pcs j hj
  have h6 := no6 j hj
  have h2 := no2 j hj
  have hlk := h.k j hj
  have h13 : (sv x.U j).pc ≠ 13 := fun q => noOut j hj (by unfold linkR at hlk; omega)
  obtain ⟨k2, hk2, k0, k10, hw⟩ := co_alive h.m hL y no10 hj (by unfold linkR at hlk; omega)
  exact mk k2 hk2 k0 k10 hw
theorem rwt_le (h : RsI c n N ml x) (E : RsE n N x) (hL : CoL c n N ml x.st) (y : CoLy c n N ml) (hN : N ≤ 32) {i : Nat} (hi : i < n) : rwt c n N x i ≤ 150 := by
  have c67 := cwt_le h.m hL y hi
  have hk := h.k i hi
  have hc := chR_le (n := n) (N := N) x (c.node i)
  have hD : (sv x.U i).a = 0 → (sv x.U i).pc = 6 → drD x.d x.st.s.W ≤ 2 * N + 2 := fun a6 p6 => by
    obtain ⟨⟨d1, d2, d3, d4⟩, d5⟩ := E.d i hi a6 p6
    have := drLv_le x.d x.st.s.W
    unfold drD
    omega
  have h9 : (sv x.U i).a = 0 → (sv x.U i).pc = 9 → x.d.lim = N := fun a9 p9 => (h.dr i hi a9 p9).1.2.2.2
  have h13 : (sv x.st.T i).pc = 10 → cwt c x.st i = 13 := cwt_hold
  have hz : (sv x.st.T i).pc = 0 → cwt c x.st i = 0 := cwt_idle
  unfold rwt
  obtain ⟨cw, hcw⟩ : ∃ v, v = cwt c x.st i := ⟨_, rfl⟩
  obtain ⟨ch, hch⟩ : ∃ v, v = chR n N x (c.node i) := ⟨_, rfl⟩
  obtain ⟨dd, hdd⟩ : ∃ v, v = drD x.d x.st.s.W := ⟨_, rfl⟩
  obtain ⟨p, hp⟩ : ∃ p, p = sv x.U i := ⟨_, rfl⟩
  obtain ⟨t, ht⟩ : ∃ t, t = sv x.st.T i := ⟨_, rfl⟩
  rw [← hcw] at c67 h13 hz ⊢
  rw [← hch] at hc ⊢
  rw [← hdd] at hD ⊢
  rw [← hp] at hk hD h9 ⊢
  rw [← ht] at hk h13 hz
  obtain ⟨pc, u, b, w⟩ := p
  unfold linkR at hk
  simp only at hk hD h9
  rcases hk with ⟨rfl, q2⟩ | ⟨rfl, q2, q3⟩ | ⟨rfl, rfl, q3, q4⟩ | ⟨rfl, q2, q3⟩ | ⟨rfl, rfl, q3⟩
  · show 0 + cw ≤ 150
    omega
  · have := hz q3
    rcases q2 with rfl | rfl | rfl | rfl
    · show 4 * N + 18 + cw ≤ 150; omega
    · show 8 + ch + cw ≤ 150; omega
    · show 7 + ch + cw ≤ 150; omega
    · show 6 + ch + cw ≤ 150; omega
  · show 2 * N + 7 + cw ≤ 150
    omega
  · have := h13 q3
    rcases q2 with rfl | rfl | rfl | rfl | rfl | rfl
    · show 4 * N + 9 + cw ≤ 150; omega
    · have := hD rfl rfl
      show 2 * N + 7 + dd + cw ≤ 150; omega
    · show 2 * N + 6 + cw ≤ 150; omega
    · have := h9 rfl rfl
      show 4 + 2 * (x.d.lim - x.d.at_) + (if x.d.second = true then 0 else 1) + cw ≤ 150
      split <;> omega
    · show 3 + cw ≤ 150; omega
    · show 2 + cw ≤ 150; omega
  · show 1 + cw ≤ 150
    omega
/-- a leave -/
theorem rs_leave (h : RsI c n N ml x) (y : CoLy c n N ml) (hn6 : n ≤ 6) {i : Nat} (hi : i < n) : ((sv x.U i).pc = 10 → rF c n N (nuLeave x i) < rF c n N x) ∧ ((sv x.U i).pc ≠ 10 → nuLeave x i = x) := by
  refine ⟨fun h10 => ?_, fun h10 => by unfold nuLeave; rw [if_neg h10]⟩
  have hl : i < x.U.length := by rw [h.lU]; exact hi
  unfold nuLeave
  rw [if_pos h10]
  have hk := h.k i hi
  obtain ⟨p, hp⟩ : ∃ p, p = sv x.U i := ⟨_, rfl⟩
  rw [← hp] at h10 hk ⊢
  obtain ⟨pc, u, b, w⟩ := p
  simp only at h10
  subst h10
  have ha : u = 0 ∨ u = 1 := by unfold linkR at hk; simp only at hk; omega
  have hp' := hp.symm
  have go : ∀ p' : Sp, ¬ (p'.a = 0 ∧ (p'.pc = 5 ∨ p'.pc = 6)) → ¬ (p'.a = 0 ∧ p'.pc = 9) → rdInR p' = rdInR (sv x.U i) → (∀ ch, nvR N ch x.d (drD x.d x.st.s.W) p' + 1 ≤ nvR N ch x.d (drD x.d x.st.s.W) ⟨10, u, b, w⟩) → rF c n N ⟨x.st, x.d, x.U.set i p'⟩ < rF c n N x := fun p' n56 n9 hr hv => by
    have m56 : ¬ ((sv x.U i).a = 0 ∧ ((sv x.U i).pc = 5 ∨ (sv x.U i).pc = 6)) := by rw [hp']; simp
    have m9 : ¬ ((sv x.U i).a = 0 ∧ (sv x.U i).pc = 9) := by rw [hp']; simp
    have ch : ∀ a, chR n N ⟨x.st, x.d, x.U.set i p'⟩ a = chR n N x a := fun a => chR_eq (wr56_oth h hi m56 n56)
    refine on_of hn6 hi (e := 0) (G := 0) ?_ (fun j hj hji => rwt_oth h hi hj hji (e1 := 0) (e2 := 0) (Nat.le_refl _) (fun _ _ => Nat.le_of_eq (ch _)) (fun _ _ => Nat.le_refl _) (fun _ _ => rfl)) (by rw [glR_eq (x := x) (wr9_oth h hi m9 n9) rfl (fun _ => rfl) (rdAny_same hl hr)]; exact Nat.le_refl _)
    rw [rwt_set hl, ch]
    have := hv (chR n N x (c.node i))
    unfold rwt
    rw [hp']
    omega
  rcases ha with rfl | rfl
  · exact go ⟨12, 0, b, w⟩ (by simp) (by simp) (by rw [hp']; rfl) (fun ch => by show 2 + 1 ≤ 3; decide)
  · exact go ⟨11, 1, b, w⟩ (by simp) (by simp) (by rw [hp']; rfl) (fun ch => by show 6 + ch + 1 ≤ 7 + ch; omega)
/-- a turn, as the rounds want it -/
theorem rs_turn (h : RsT c n N L ml B x) (k : NuK c n N L ml) (hB : 40 ≤ B) (hB2 : B ≤ 1000000000000) (hm4 : c.m ≤ 4) (hn : n ≤ 6) {i : Nat} (hi : i < n) :
    rF c n N (rsTurn c N x i) < rF c n N x ∨ (rF c n N (rsTurn c N x i) = rF c n N x ∧ ¬ RWit c N x i ∧ ∀ j, j < n → j ≠ i → RWit c N x j → RWit c N (rsTurn c N x i) j) := by
  have hlen := h.s.i.lU
  rw [rsTurn_eq hlen hi]
  have l : NuL c N x.st.s.W := ⟨k.tg, by rw [h.s.ok.len]; exact k.len⟩
  have q := rs_leave h.s.i k.y hn hi
  by_cases h0 : (sv x.U i).pc = 0
  · have e : rsStep c N x i = x := by unfold rsStep; rw [if_pos (.inl h0)]
    rw [e, q.2 (by omega)]
    refine .inr ⟨rfl, fun hw => ?_, fun j _ _ hw => hw⟩
    unfold RWit at hw; omega
  by_cases h10 : (sv x.U i).pc = 10
  · have e : rsStep c N x i = x := by unfold rsStep; rw [if_pos (.inr h10)]
    rw [e]
    exact .inl (q.1 h10)
  · have hI' := h.s.i.step k.y l h.s.ok.bd hB hB2 hi
    have q' := rs_leave hI' k.y hn hi
    have g := rs_go h.s.i h.l.2 h.l.1 k.y l h.s.ok.bd hB hB2 hm4 hn hi h0 h10
    by_cases hw : RWit c N x i
    · have g1 := g.2.1 hw
      by_cases e10 : (sv (rsStep c N x i).U i).pc = 10
      · have := q'.1 e10
        exact .inl (by omega)
      · rw [q'.2 e10]
        exact .inl g1
    · obtain ⟨g0, g1, g2⟩ := g.2.2 hw
      rw [q'.2 (by rw [g0]; exact h10)]
      exact .inr ⟨g1, hw, g2⟩
/-- enough rounds -/
theorem rs_all (h : RsT c n N L ml B x) (k : NuK c n N L ml) (hB : 40 ≤ B) (hB2 : B ≤ 100000000000) (hm4 : c.m ≤ 4) (hN : N ≤ 32) (hn : n ≤ 6) {R : Nat} (hR : 150 * n + 132 < R) (hR2 : R ≤ 1000000) :
    nuRest n (rounds (rsTurn c N) n R x) := by
  have key := rounds_rest (X := Nu) (inv := fun m z => RsT c n N L ml (B + 8 * (m : Int)) z) (turn := rsTurn c N) (n := n) (F := fun z => rF c n N z) (wit := RWit c N) (rest := nuRest n) (6 * 1000000)
    (fun m z i hm hz hi => by
      have h1 := hz.act k (by omega) (by omega) hm4 hn 0 (i : Int)
      have h2 := h1.act k (by omega) (by omega) hm4 hn 2 (i : Int)
      have e : B + 8 * ((m + 1 : Nat) : Int) = B + 8 * (m : Int) + 4 + 4 := by omega
      show RsT c n N L ml (B + 8 * ((m + 1 : Nat) : Int)) _
      rw [e]; exact h2)
    (fun m z i hm hz hi => rs_turn hz k (by omega) (by omega) hm4 hn hi)
    (fun m z hm hz hr => rs_alive hz.s.i hz.l.2 hz.l.1 k.y hr)
    (fun z i hi hz => by
      have h0 := hz i hi
      have e0 : actRs c N z 0 (i : Int) = z := by
        unfold actRs
        split
        · rw [if_pos rfl]
          unfold rsStep
          rw [Int.toNat_natCast, if_pos (.inl h0)]
        · rfl
      have e2 : actRs c N z 2 (i : Int) = z := by
        unfold actRs
        split
        · rw [if_neg (by decide), if_neg (by decide), if_pos rfl]
          unfold nuLeave
          rw [Int.toNat_natCast, if_neg (by omega)]
        · rfl
      show actRs c N (actRs c N z 0 (i : Int)) 2 (i : Int) = z
      rw [e0, e2])
    (x := x) (by show RsT c n N L ml (B + 8 * ((0 : Nat) : Int)) x; simpa using h) R (by
      have : n * R ≤ 6 * R := Nat.mul_le_mul_right R hn
      omega)
  rcases key.2 with q | q
  · exact q
  · exfalso
    have h2 := sumN_le (f := rwt c n N x) (b := 150) n (fun i hi => rwt_le h.s.i h.l.2 h.l.1 k.y hN hi)
    have h3 := glR_le (n := n) (N := N) x
    have q' : rF c n N (rounds (rsTurn c N) n R x) + R ≤ rF c n N x := q
    have h4 : rF c n N x = sumN n (rwt c n N x) + glR n N x := rfl
    omega
end
section
variable {kg kl par : Nat} {P T : List Int} {s : Ar}
/-- a new lock -/
theorem rsE_new (hs : s.W = []) : RsE T.length (leavesL P).length ⟨coStN kg kl par P T (smA s (leavesL P).length), dr0, List.replicate T.length Sp.zero⟩ := by
  have hz := smA_z hs (leavesL P).length
  have hw : ∀ y : Int, y ≤ ((smA s (leavesL P).length).W.length : Int) → ldW (coStN kg kl par P T (smA s (leavesL P).length)).s.W y = 0 := fun y hy => by
    have e1 : ldW (coNewS kl par (mtQ P T) (newAr_ kg (smA s (leavesL P).length) (leavesL P).length par) (leavesL P).length).W y = _ := coNewS_pre (Nat.zero_le _) (by
      show y ≤ ((newAr_ kg (smA s (leavesL P).length) (leavesL P).length par).W.length : Int)
      rw [newAr_len]; omega)
    have e2 : ldW (newAr_ kg (smA s (leavesL P).length) (leavesL P).length par).W y = _ := newAr_pre _ _ _ _ hy
    have e3 := hz.1.ld (by omega) y
    show ldW (coNewS _ _ _ _ _).W y = 0
    rw [e1]
    show ldW (newAr_ _ _ _ _).W y = 0
    rw [e2]; omega
  refine ⟨fun hne => absurd (hw _ ?_) hne, fun j hj _ q => ?_⟩
  · have hl := hz.2
    unfold nuFl
    rw [hl]; omega
  · have q' : (sv (List.replicate T.length Sp.zero) j).pc = 6 := q
    rw [svR] at q'
    simp [Sp.zero] at q'
end
end Go.Proofs.YtmlcfmickonfbaaGreat
end
section
set_option linter.unusedVariables false
set_option linter.unusedSimpArgs false
/- Layer 37 (readers): the walk of ReadersAll. (printed by gen_sm11.py) -/
namespace Go.Proofs.YtmlcfmickonfbaaGreat
open Go.RowKit

set_option maxRecDepth 100000 in
set_option maxHeartbeats 2000000 in
theorem madeYesT_r (w : World) (vP vT : Value) (P T : List Int) (hP : RdL w vP 1 encI P) (hT : RdL w vT 1 encI T) (a0 a1 a2 : Nat) (h0 : a0 < 256) (h1 : a1 < 256) (h2 : a2 < 256) (hs : smallB P T 8 = true) :
    Calls Tryz.prog 4 #[.agg #[vP, vT], .agg #[.int .u8 a0, .int .u8 a1, .int .u8 a2]] w fun e w' => ∃ (a g : Nat) (B BC : Nat → Prop) (X : SmX) (c : CoC) (L : Nat) (x : Nu), e = .returned (.tuple #[.pointer (some ⟨a, 0, none⟩), .pointer (some ⟨X.l, 0, none⟩), .bool true]) ∧ (NuK c T.length (leavesL P).length L (mtQ P T) ∧ c.m ≤ 4 ∧ RsL c T.length (leavesL P).length (mtQ P T) x) ∧ SmStR w w' B BC a g X c P T L x 40 2000 := by
  have hck : chkT P T = 0 ∧ (T.length : Int) ≤ 8 := of_decide_eq_true hs
  have hml := many_lt (chk_ok hck.1).1
  have HBL := Lib.hid (And.intro (fun g' (hg' : vP.ownBlock = some g') => rd_block hP (by omega) hg') (fun g' (hg' : vT.ownBlock = some g') => rd_block hT (by omega) hg'))
  have HS := smallH ((w.alloc (.cells #[vP, vT] 24)).alloc (.cells #[.int .u8 a0, .int .u8 a1, .int .u8 a2] 25)) vP vT P T ((hP.alloc _).alloc _) ((hT.alloc _).alloc _) 8
  rw [hs] at HS
  have H := Lib.hid HS
  have HB0 := Lib.hid (((Below.refl w.heap.size w).alloc (Nat.le_refl _) (.cells #[vP, vT] 24)).alloc (by simp) (.cells #[.int .u8 a0, .int .u8 a1, .int .u8 a2] 25))
  have HRD := Lib.hid (And.intro hP hT)
  have hbt := (Blk.new w 24 #[vP, vT]).alloc (.cells #[.int .u8 a0, .int .u8 a1, .int .u8 a2] 25)
  have hbn := Blk.new (w.alloc (.cells #[vP, vT] 24)) 25 #[.int .u8 a0, .int .u8 a1, .int .u8 a2]
  rw [show (w.alloc (.cells #[vP, vT] 24)).heap.size = w.heap.size + 1 by simp] at hbn
  obtain ⟨w0, hw0⟩ : ∃ W, W = (w.alloc (.cells #[vP, vT] 24)).alloc (.cells #[.int .u8 a0, .int .u8 a1, .int .u8 a2] 25) := ⟨_, rfl⟩
  rw [← hw0] at H HB0 hbt hbn
  have HX := Lib.hid (And.intro hbt hbn)
  have HCK := Lib.hid hck
  clear HS hs hP hT hck hbt hbn hml
  go_enter Tryz.func4, Tryz.ntmps4
  go_upto_region 1 with fail
  rw [← hw0]
  clear hw0
  have f0 : w0.cell? ⟨w.heap.size, 0, none⟩ = some vP := HX.out.1.cell 0
  have f1 : w0.cell? ⟨w.heap.size, 1, none⟩ = some vT := HX.out.1.cell 1
  go_wp2_with fail
  refine H.out.mono ?_
  rintro en w1 ⟨rfl, b1⟩
  have HX1 := Lib.hid (And.intro (HX.out.1.below b1 HX.out.1.lt) (HX.out.2.below b1 HX.out.2.lt))
  have HB1 := Lib.hid (HB0.out.trans (b1.mono HB0.out.size))
  clear b1 f0 f1
  go_wp2_with fail
  refine (newA_any _ 4096).mono ?_
  rintro en w2 ⟨a, g, rfl, hA, ha, hg, hb⟩
  have hX2 := And.intro (HX1.out.1.below hb HX1.out.1.lt) (HX1.out.2.below hb HX1.out.2.lt)
  have f0 : w2.cell? ⟨w.heap.size, 0, none⟩ = some vP := hX2.1.cell 0
  have f1 : w2.cell? ⟨w.heap.size, 1, none⟩ = some vT := hX2.1.cell 1
  have n0 : w2.cell? ⟨w.heap.size + 1, 0, none⟩ = some (.int .u8 a0) := hX2.2.cell 0
  have n1 : w2.cell? ⟨w.heap.size + 1, 1, none⟩ = some (.int .u8 a1) := hX2.2.cell 1
  have n2 : w2.cell? ⟨w.heap.size + 1, 2, none⟩ = some (.int .u8 a2) := hX2.2.cell 2
  have HA := Lib.hid (And.intro hA (And.intro ha (And.intro hg (HB1.out.trans (hb.mono HB1.out.size)))))
  have x1 : IntKind.i64.wrap (1 + (a0 : Int) % 5) = 1 + (a0 : Int) % 5 := IntWalk.i64_in _ (by omega)
  have x2 : IntKind.i64.wrap (1 + (a1 : Int) % 5) = 1 + (a1 : Int) % 5 := IntWalk.i64_in _ (by omega)
  have x3 : IntKind.i64.wrap (1 + (a2 : Int) / 4 % 4) = 1 + (a2 : Int) / 4 % 4 := IntWalk.i64_in _ (by omega)
  clear hA ha hg hb hX2
  have epar : 1 + (a2 : Int) / 4 % 4 = ((1 + a2 / 4 % 4 : Nat) : Int) := by omega
  have ekg : 1 + (a0 : Int) % 5 = ((1 + a0 % 5 : Nat) : Int) := by omega
  have ekl : 1 + (a1 : Int) % 5 = ((1 + a1 % 5 : Nat) : Int) := by omega
  have HN := Lib.hid (newS_r HA.out.1 rfl HA.out.1.ne vP vT P T (HRD.out.1.below HA.out.2.2.2 (Nat.le_refl _)) (HRD.out.2.below HA.out.2.2.2 (Nat.le_refl _)) (fun i hi => by have := HBL.out.1 i hi; have := HA.out.2.1; have := HB1.out.size; have := HA.out.2.2.2.size; omega) (fun i hi => by have := HBL.out.2 i hi; have := HA.out.2.1; have := HB1.out.size; have := HA.out.2.2.2.size; omega) HCK.out.1 (1 + a0 % 5) (1 + a1 % 5) (KOk.of (by omega)) (KOk.of (by omega)) (1 + a2 / 4 % 4) (by omega) ((a2 : Int) % 4) (by omega) rfl (by show 0 ≤ 1000; omega))
  rw [← epar, ← ekg, ← ekl] at HN
  clear epar ekg ekl
  go_wp2_with fail
  refine HN.out.mono ?_
  rintro en w3 ⟨B, BC, X, rfl, k3, hS, t3⟩
  have HK := Lib.hid (And.intro k3 (And.intro hS t3))
  clear k3 hS t3 f0 f1 n0 n1 n2 x1 x2 x3 HN
  go_wp2
  go_ret3
  have s2 := HA.out.2.2.2.size
  have s6 := HA.out.2.1
  have s7 := HA.out.2.2.1
  have sb := HB1.out.size
  obtain ⟨k3, hS, t3⟩ := HK.out
  have hml := many_lt (chk_ok HCK.out.1).1
  have hN1 : 1 ≤ (leavesL P).length := by
    obtain ⟨y, hy⟩ := getElem?_lt (show 0 < T.length by omega)
    exact List.length_pos_of_mem (thr_mem (chk_ok HCK.out.1).2.2.2 hy)
  have hK := nu_k (s := newAr 4096) (kg := 1 + a0 % 5) (kl := 1 + a1 % 5) (par := 1 + a2 / 4 % 4) (bud := (a2 : Int) % 4) HCK.out.1 (by omega) (by omega) (by omega) rfl hN1
  have hU := rs_s (s := newAr 4096) (kg := 1 + a0 % 5) (kl := 1 + a1 % 5) (par := 1 + a2 / 4 % 4) (bud := (a2 : Int) % 4) HCK.out.1 (by omega) (by omega) (by omega) rfl
  have hL := l_new (s := smA (newAr 4096) (leavesL P).length) (kg := 1 + a0 % 5) (kl := 1 + a1 % 5) (par := 1 + a2 / 4 % 4) (bud := (a2 : Int) % 4) HCK.out.1 (by omega) (by omega) (by omega)
  refine ⟨a, g, B, BC, X, _, _, _, rfl, ⟨hK, (by show ((1 + a2 / 4 % 4 : Nat) : Int) ≤ 4; omega), ⟨hL, rsE_new rfl⟩⟩, ⟨k3, hU.1, ?_, fun i hi => ?_, ?_⟩⟩
  · exact HA.out.2.2.2.trans (t3.below (by simp; omega) s2)
  · have := hS i hi
    omega
  · have h2 := hU.2
    have h3 : (newAr 4096).ops = 0 := rfl
    show (coStN _ _ _ _ _ _).s.ops ≤ 2000
    omega
set_option maxRecDepth 100000 in
set_option maxHeartbeats 1000000 in
theorem noA_r (w : World) (vP vT : Value) (a0 a1 a2 : Int) (hs8 : SmNo w vP vT 8) (hs : SmNo w vP vT 6) (A : Option Addr) (m c : Nat) (hm : m ≤ 100) :
    Calls Tryz.prog 3 #[.agg #[vP, vT], .agg #[.int .u8 a0, .int .u8 a1, .int .u8 a2], .slice A m c] w fun e w' => e = .returned (.bool true) ∧ Below w.heap.size w w' := by
  obtain ⟨w0, hw0⟩ : ∃ W, W = (w.alloc (.cells #[vP, vT] 24)).alloc (.cells #[.int .u8 a0, .int .u8 a1, .int .u8 a2] 25) := ⟨_, rfl⟩
  have HB0 := Lib.hid (show Below w.heap.size w w0 from by rw [hw0]; exact ((Below.refl w.heap.size w).alloc (Nat.le_refl _) _).alloc (by simp) _)
  have HX := Lib.hid (show Blk w0 w.heap.size 24 #[vP, vT] from by rw [hw0]; exact (Blk.new w 24 #[vP, vT]).alloc _)
  have HX2 := Lib.hid (show Blk w0 (w.heap.size + 1) 25 #[.int .u8 a0, .int .u8 a1, .int .u8 a2] from by
    rw [hw0]
    have := Blk.new (w.alloc (.cells #[vP, vT] 24)) 25 #[.int .u8 a0, .int .u8 a1, .int .u8 a2]
    simpa using this)
  have HM := Lib.hid (madeNoS_r w0 vP vT a0 a1 a2 (hs8.below HB0.out))
  have HS := Lib.hid hs
  clear hs hs8
  go_enter Tryz.func3, Tryz.ntmps3
  go_upto_region 1 with fail
  rw [← hw0]
  clear hw0
  have f0 : w0.cell? ⟨w.heap.size, 0, none⟩ = some vP := HX.out.cell 0
  have f1 : w0.cell? ⟨w.heap.size, 1, none⟩ = some vT := HX.out.cell 1
  have n0 : w0.cell? ⟨w.heap.size + 1, 0, none⟩ = some (.int .u8 a0) := HX2.out.cell 0
  have n1 : w0.cell? ⟨w.heap.size + 1, 1, none⟩ = some (.int .u8 a1) := HX2.out.cell 1
  have n2 : w0.cell? ⟨w.heap.size + 1, 2, none⟩ = some (.int .u8 a2) := HX2.out.cell 2
  go_wp2_with fail
  refine HM.out.mono ?_
  rintro en w1 ⟨rfl, b1⟩
  have hX1 := HX.out.below b1 HX.out.lt
  have HB1 := Lib.hid (HB0.out.trans (b1.mono HB0.out.size))
  clear b1 f0 f1 n0 n1 n2
  have f0 : w1.cell? ⟨w.heap.size, 0, none⟩ = some vP := hX1.cell 0
  have f1 : w1.cell? ⟨w.heap.size, 1, none⟩ = some vT := hX1.cell 1
  clear hX1
  go_wp2_with fail
  refine (HS.out _ HB1.out).mono ?_
  rintro en w2 ⟨rfl, b2⟩
  have HB2 := Lib.hid (HB1.out.trans (b2.mono HB1.out.size))
  clear b2
  go_wp2_with fail
  refine (awake37 _).mono ?_
  rintro en w3 ⟨rfl, b3⟩
  have HB3 := Lib.hid (HB2.out.trans (b3.mono HB2.out.size))
  clear b3
  go_wp2
  go_ret
  exact ⟨rfl, HB3.out⟩
set_option maxRecDepth 100000 in
set_option maxHeartbeats 1000000 in
theorem noL_r (w : World) (vP vT : Value) (a0 a1 a2 : Int) (hs : SmNo w vP vT 8) (A : Option Addr) (m c : Nat) (hm : 100 < m) (hm2 : m ≤ 9223372036854775807) :
    Calls Tryz.prog 3 #[.agg #[vP, vT], .agg #[.int .u8 a0, .int .u8 a1, .int .u8 a2], .slice A m c] w fun e w' => e = .returned (.bool true) ∧ Below w.heap.size w w' := by
  obtain ⟨w0, hw0⟩ : ∃ W, W = (w.alloc (.cells #[vP, vT] 24)).alloc (.cells #[.int .u8 a0, .int .u8 a1, .int .u8 a2] 25) := ⟨_, rfl⟩
  have HB0 := Lib.hid (show Below w.heap.size w w0 from by rw [hw0]; exact ((Below.refl w.heap.size w).alloc (Nat.le_refl _) _).alloc (by simp) _)
  have HX := Lib.hid (show Blk w0 w.heap.size 24 #[vP, vT] from by rw [hw0]; exact (Blk.new w 24 #[vP, vT]).alloc _)
  have HX2 := Lib.hid (show Blk w0 (w.heap.size + 1) 25 #[.int .u8 a0, .int .u8 a1, .int .u8 a2] from by
    rw [hw0]
    have := Blk.new (w.alloc (.cells #[vP, vT] 24)) 25 #[.int .u8 a0, .int .u8 a1, .int .u8 a2]
    simpa using this)
  have HM := Lib.hid (madeNoS_r w0 vP vT a0 a1 a2 (hs.below HB0.out))
  clear hs
  go_enter Tryz.func3, Tryz.ntmps3
  go_upto_region 1 with fail
  rw [← hw0]
  clear hw0
  have f0 : w0.cell? ⟨w.heap.size, 0, none⟩ = some vP := HX.out.cell 0
  have f1 : w0.cell? ⟨w.heap.size, 1, none⟩ = some vT := HX.out.cell 1
  have n0 : w0.cell? ⟨w.heap.size + 1, 0, none⟩ = some (.int .u8 a0) := HX2.out.cell 0
  have n1 : w0.cell? ⟨w.heap.size + 1, 1, none⟩ = some (.int .u8 a1) := HX2.out.cell 1
  have n2 : w0.cell? ⟨w.heap.size + 1, 2, none⟩ = some (.int .u8 a2) := HX2.out.cell 2
  go_wp2_with fail
  refine HM.out.mono ?_
  rintro en w1 ⟨rfl, b1⟩
  have hX1 := HX.out.below b1 HX.out.lt
  have HB1 := Lib.hid (HB0.out.trans (b1.mono HB0.out.size))
  clear b1 f0 f1 n0 n1 n2
  have f0 : w1.cell? ⟨w.heap.size, 0, none⟩ = some vP := hX1.cell 0
  have f1 : w1.cell? ⟨w.heap.size, 1, none⟩ = some vT := hX1.cell 1
  clear hX1
  go_wp2_with fail
  refine (awake37 _).mono ?_
  rintro en w3 ⟨rfl, b3⟩
  have HB3 := Lib.hid (HB1.out.trans (b3.mono HB1.out.size))
  clear b3
  go_wp2
  go_ret
  exact ⟨rfl, HB3.out⟩
set_option maxRecDepth 100000 in
set_option maxHeartbeats 16000000 in
theorem yesL_r (w : World) (vP : Value) (AT : Option Addr) (cT : Nat) (P T : List Int) (hP : RdL w vP 1 encI P) (hT : RdL w (.slice AT T.length cT) 1 encI T) (a0 a1 a2 : Nat) (h0 : a0 < 256) (h1 : a1 < 256) (h2 : a2 < 256) (hs : smallB P T 8 = true) (A : Option Addr) (m cap : Nat) (hl150 : 100 < m) (hl2 : m ≤ 9223372036854775807) :
    Calls Tryz.prog 3 #[.agg #[vP, .slice AT T.length cT], .agg #[.int .u8 a0, .int .u8 a1, .int .u8 a2], .slice A m cap] w fun e w' => e = .returned (.bool true) ∧ Below w.heap.size w w' := by
  have hT8 : T.length ≤ 8 := by have := (of_decide_eq_true hs).2; omega
  obtain ⟨w0, hw0⟩ : ∃ W, W = (w.alloc (.cells #[vP, .slice AT T.length cT] 24)).alloc (.cells #[.int .u8 a0, .int .u8 a1, .int .u8 a2] 25) := ⟨_, rfl⟩
  have HB0 := Lib.hid (show Below w.heap.size w w0 from by rw [hw0]; exact ((Below.refl w.heap.size w).alloc (Nat.le_refl _) _).alloc (by simp) _)
  have HX := Lib.hid (show Blk w0 w.heap.size 24 #[vP, .slice AT T.length cT] from by rw [hw0]; exact (Blk.new w 24 #[vP, .slice AT T.length cT]).alloc _)
  have HX2 := Lib.hid (show Blk w0 (w.heap.size + 1) 25 #[.int .u8 a0, .int .u8 a1, .int .u8 a2] from by
    rw [hw0]
    have := Blk.new (w.alloc (.cells #[vP, .slice AT T.length cT] 24)) 25 #[.int .u8 a0, .int .u8 a1, .int .u8 a2]
    simpa using this)
  have HM := Lib.hid (madeYesT_r w0 vP _ P T (hP.below HB0.out (Nat.le_refl _)) (hT.below HB0.out (Nat.le_refl _)) a0 a1 a2 h0 h1 h2 hs)
  have HRD := Lib.hid (And.intro (hP.below HB0.out (Nat.le_refl _)) (hT.below HB0.out (Nat.le_refl _)))
  clear hP hT hs
  go_enter Tryz.func3, Tryz.ntmps3
  go_upto_region 1 with fail
  rw [← hw0]
  clear hw0
  have f0 : w0.cell? ⟨w.heap.size, 0, none⟩ = some vP := HX.out.cell 0
  have f1 : w0.cell? ⟨w.heap.size, 1, none⟩ = some (.slice AT T.length cT) := HX.out.cell 1
  have n0 : w0.cell? ⟨w.heap.size + 1, 0, none⟩ = some (.int .u8 a0) := HX2.out.cell 0
  have n1 : w0.cell? ⟨w.heap.size + 1, 1, none⟩ = some (.int .u8 a1) := HX2.out.cell 1
  have n2 : w0.cell? ⟨w.heap.size + 1, 2, none⟩ = some (.int .u8 a2) := HX2.out.cell 2
  go_wp2_with fail
  refine HM.out.mono ?_
  rintro en w1 ⟨a, g, B, BC, X, c, L, x0, rfl, hK, hS⟩
  have H0 := Lib.hid hS
  have HK := Lib.hid hK
  have hw0s : w.heap.size ≤ w0.heap.size := HB0.out.size
  have hx0 : w.heap.size < w0.heap.size := HX.out.lt
  have HC0 : Hid (∀ W, Below w0.heap.size w0 W → W.cell? ⟨w.heap.size, 1, none⟩ = some (.slice AT T.length cT) ∧ W.cell? ⟨w.heap.size, 0, none⟩ = some vP) := Lib.hid fun W hW => ⟨(HX.out.below hW hx0).cell 1, (HX.out.below hW hx0).cell 0⟩
  clear hS hK HM f0 f1 n0 n1 n2
  go_wp2_with fail
  refine (awake37 _).mono ?_
  rintro en wa2 ⟨rfl, ba2⟩
  have HB2 := Lib.hid (HB0.out.trans ((H0.out.bel.trans (ba2.mono H0.out.bel.size)).mono hw0s))
  clear ba2
  go_wp2
  go_ret
  exact ⟨rfl, HB2.out⟩
set_option maxRecDepth 100000 in
set_option maxHeartbeats 16000000 in
theorem yes6_r (w : World) (vP : Value) (AT : Option Addr) (cT : Nat) (P T : List Int) (hP : RdL w vP 1 encI P) (hT : RdL w (.slice AT T.length cT) 1 encI T) (a0 a1 a2 : Nat) (h0 : a0 < 256) (h1 : a1 < 256) (h2 : a2 < 256) (hs : smallB P T 8 = true) (v : Value) (ls : List (Int × Int)) (h : RdL w v 2 encP ls) (hl150 : ls.length ≤ 100) (h6 : smallB P T 6 = false) :
    Calls Tryz.prog 3 #[.agg #[vP, .slice AT T.length cT], .agg #[.int .u8 a0, .int .u8 a1, .int .u8 a2], v] w fun e w' => e = .returned (.bool true) ∧ Below w.heap.size w w' := by
  obtain ⟨A, cap, rfl, l1, l2, hr⟩ := h
  have HR := Lib.hid hr
  have hT8 : T.length ≤ 8 := by have := (of_decide_eq_true hs).2; omega
  obtain ⟨w0, hw0⟩ : ∃ W, W = (w.alloc (.cells #[vP, .slice AT T.length cT] 24)).alloc (.cells #[.int .u8 a0, .int .u8 a1, .int .u8 a2] 25) := ⟨_, rfl⟩
  have HB0 := Lib.hid (show Below w.heap.size w w0 from by rw [hw0]; exact ((Below.refl w.heap.size w).alloc (Nat.le_refl _) _).alloc (by simp) _)
  have HX := Lib.hid (show Blk w0 w.heap.size 24 #[vP, .slice AT T.length cT] from by rw [hw0]; exact (Blk.new w 24 #[vP, .slice AT T.length cT]).alloc _)
  have HX2 := Lib.hid (show Blk w0 (w.heap.size + 1) 25 #[.int .u8 a0, .int .u8 a1, .int .u8 a2] from by
    rw [hw0]
    have := Blk.new (w.alloc (.cells #[vP, .slice AT T.length cT] 24)) 25 #[.int .u8 a0, .int .u8 a1, .int .u8 a2]
    simpa using this)
  have HM := Lib.hid (madeYesT_r w0 vP _ P T (hP.below HB0.out (Nat.le_refl _)) (hT.below HB0.out (Nat.le_refl _)) a0 a1 a2 h0 h1 h2 hs)
  have HRD := Lib.hid (And.intro (hP.below HB0.out (Nat.le_refl _)) (hT.below HB0.out (Nat.le_refl _)))
  clear hr hP hT hs
  go_enter Tryz.func3, Tryz.ntmps3
  go_upto_region 1 with fail
  rw [← hw0]
  clear hw0
  have f0 : w0.cell? ⟨w.heap.size, 0, none⟩ = some vP := HX.out.cell 0
  have f1 : w0.cell? ⟨w.heap.size, 1, none⟩ = some (.slice AT T.length cT) := HX.out.cell 1
  have n0 : w0.cell? ⟨w.heap.size + 1, 0, none⟩ = some (.int .u8 a0) := HX2.out.cell 0
  have n1 : w0.cell? ⟨w.heap.size + 1, 1, none⟩ = some (.int .u8 a1) := HX2.out.cell 1
  have n2 : w0.cell? ⟨w.heap.size + 1, 2, none⟩ = some (.int .u8 a2) := HX2.out.cell 2
  go_wp2_with fail
  refine HM.out.mono ?_
  rintro en w1 ⟨a, g, B, BC, X, c, L, x0, rfl, hK, hS⟩
  have H0 := Lib.hid hS
  have HK := Lib.hid hK
  have hw0s : w.heap.size ≤ w0.heap.size := HB0.out.size
  have hx0 : w.heap.size < w0.heap.size := HX.out.lt
  have HC0 : Hid (∀ W, Below w0.heap.size w0 W → W.cell? ⟨w.heap.size, 1, none⟩ = some (.slice AT T.length cT) ∧ W.cell? ⟨w.heap.size, 0, none⟩ = some vP) := Lib.hid fun W hW => ⟨(HX.out.below hW hx0).cell 1, (HX.out.below hW hx0).cell 0⟩
  clear hS hK HM f0 f1 n0 n1 n2
  have f9 := HC0.out _ H0.out.bel
  have HS6' := smallH _ vP _ P T (HRD.out.1.below H0.out.bel (Nat.le_refl _)) (HRD.out.2.below H0.out.bel (Nat.le_refl _)) 6
  rw [h6] at HS6'
  have HS6 := Lib.hid HS6'
  obtain ⟨f90, f91⟩ := f9
  clear HS6' h6
  go_wp2_with fail
  refine HS6.out.mono ?_
  rintro en wq ⟨rfl, bq⟩
  have H1 := Lib.hid (H0.out.below bq)
  clear bq f90 f91
  go_wp2_with fail
  refine (awake37 _).mono ?_
  rintro en wa2 ⟨rfl, ba2⟩
  have HB2 := Lib.hid (HB0.out.trans ((H1.out.bel.trans (ba2.mono H1.out.bel.size)).mono hw0s))
  clear ba2
  go_wp2
  go_ret
  exact ⟨rfl, HB2.out⟩
set_option maxRecDepth 100000 in
set_option maxHeartbeats 16000000 in
theorem all_r (w : World) (vP : Value) (AT : Option Addr) (cT : Nat) (P T : List Int) (hP : RdL w vP 1 encI P) (hT : RdL w (.slice AT T.length cT) 1 encI T) (a0 a1 a2 : Nat) (h0 : a0 < 256) (h1 : a1 < 256) (h2 : a2 < 256) (hs : smallB P T 8 = true) (v : Value) (ls : List (Int × Int)) (h : RdL w v 2 encP ls) (hl150 : ls.length ≤ 100) (h6 : smallB P T 6 = true) :
    Calls Tryz.prog 3 #[.agg #[vP, .slice AT T.length cT], .agg #[.int .u8 a0, .int .u8 a1, .int .u8 a2], v] w fun e w' => e = .returned (.bool true) ∧ Below w.heap.size w w' := by
  obtain ⟨A, cap, rfl, l1, l2, hr⟩ := h
  have HR := Lib.hid hr
  have hT6 : T.length ≤ 6 := by have := (of_decide_eq_true h6).2; omega
  have hT8 : T.length ≤ 8 := by have := (of_decide_eq_true hs).2; omega
  obtain ⟨w0, hw0⟩ : ∃ W, W = (w.alloc (.cells #[vP, .slice AT T.length cT] 24)).alloc (.cells #[.int .u8 a0, .int .u8 a1, .int .u8 a2] 25) := ⟨_, rfl⟩
  have HB0 := Lib.hid (show Below w.heap.size w w0 from by rw [hw0]; exact ((Below.refl w.heap.size w).alloc (Nat.le_refl _) _).alloc (by simp) _)
  have HX := Lib.hid (show Blk w0 w.heap.size 24 #[vP, .slice AT T.length cT] from by rw [hw0]; exact (Blk.new w 24 #[vP, .slice AT T.length cT]).alloc _)
  have HX2 := Lib.hid (show Blk w0 (w.heap.size + 1) 25 #[.int .u8 a0, .int .u8 a1, .int .u8 a2] from by
    rw [hw0]
    have := Blk.new (w.alloc (.cells #[vP, .slice AT T.length cT] 24)) 25 #[.int .u8 a0, .int .u8 a1, .int .u8 a2]
    simpa using this)
  have HM := Lib.hid (madeYesT_r w0 vP _ P T (hP.below HB0.out (Nat.le_refl _)) (hT.below HB0.out (Nat.le_refl _)) a0 a1 a2 h0 h1 h2 hs)
  have HRD := Lib.hid (And.intro (hP.below HB0.out (Nat.le_refl _)) (hT.below HB0.out (Nat.le_refl _)))
  clear hr hP hT hs
  go_enter Tryz.func3, Tryz.ntmps3
  go_upto_region 1 with fail
  rw [← hw0]
  clear hw0
  have f0 : w0.cell? ⟨w.heap.size, 0, none⟩ = some vP := HX.out.cell 0
  have f1 : w0.cell? ⟨w.heap.size, 1, none⟩ = some (.slice AT T.length cT) := HX.out.cell 1
  have n0 : w0.cell? ⟨w.heap.size + 1, 0, none⟩ = some (.int .u8 a0) := HX2.out.cell 0
  have n1 : w0.cell? ⟨w.heap.size + 1, 1, none⟩ = some (.int .u8 a1) := HX2.out.cell 1
  have n2 : w0.cell? ⟨w.heap.size + 1, 2, none⟩ = some (.int .u8 a2) := HX2.out.cell 2
  go_wp2_with fail
  refine HM.out.mono ?_
  rintro en w1 ⟨a, g, B, BC, X, c, L, x0, rfl, hK, hS⟩
  have H0 := Lib.hid hS
  have HK := Lib.hid hK
  have hw0s : w.heap.size ≤ w0.heap.size := HB0.out.size
  have hx0 : w.heap.size < w0.heap.size := HX.out.lt
  have HC0 : Hid (∀ W, Below w0.heap.size w0 W → W.cell? ⟨w.heap.size, 1, none⟩ = some (.slice AT T.length cT) ∧ W.cell? ⟨w.heap.size, 0, none⟩ = some vP) := Lib.hid fun W hW => ⟨(HX.out.below hW hx0).cell 1, (HX.out.below hW hx0).cell 0⟩
  clear hS hK HM f0 f1 n0 n1 n2
  have f9 := HC0.out _ H0.out.bel
  have HS6' := smallH _ vP _ P T (HRD.out.1.below H0.out.bel (Nat.le_refl _)) (HRD.out.2.below H0.out.bel (Nat.le_refl _)) 6
  rw [h6] at HS6'
  have HS6 := Lib.hid HS6'
  obtain ⟨f90, f91⟩ := f9
  clear HS6' h6
  go_wp2_with fail
  refine HS6.out.mono ?_
  rintro en wq ⟨rfl, bq⟩
  have H1 := Lib.hid (H0.out.below bq)
  clear bq f90 f91
  have hN32 := H1.out.is.nT.2.2.2
  go_wp2
  go_loopw [10] (fun i wr => ∃ (k : Nat) (x : Nu), i = .int .i64 k ∧ k ≤ ls.length ∧ SmStR w0 wr B BC a g X c P T L x (40 + 4 * (k : Int)) (2000 + k) ∧ RsL c T.length (leavesL P).length (mtQ P T) x) (fun i _ => ls.length - (intOf i).toNat)
  case atStart => exact ⟨0, x0, rfl, by omega, H1.out, HK.out.2.2⟩
  case round =>
    clear H0 H1
    obtain ⟨k, x, rfl, hk, hW, hCL⟩ := hrel
    obtain ⟨wo, rfl⟩ : ∃ wo : World, wo = wr := ⟨_, rfl⟩
    have HW := Lib.hid hW
    have HL := Lib.hid hCL
    clear hW hCL
    by_cases hlt : k < ls.length
    · obtain ⟨bl, off, rfl, hbl, hc⟩ := HR.out (by omega)
      obtain ⟨⟨kd, ii⟩, hx⟩ := getElem?_lt hlt
      have HLc : Hid (∀ W, Below w0.heap.size w0 W → W.cell? ⟨bl, off + k * 2, none⟩ = some (.int .i64 kd) ∧ W.cell? ⟨bl, off + k * 2 + 1, none⟩ = some (.int .i64 ii)) := Lib.hid fun W hW => by
        have hWb := HB0.out.trans (hW.mono hw0s)
        exact ⟨(hWb.cell (p := ⟨bl, off + k * 2 + 0, none⟩) hbl).trans (hc k _ hx 0 _ rfl), (hWb.cell (p := ⟨bl, off + k * 2 + 1, none⟩) hbl).trans (hc k _ hx 1 _ rfl)⟩
      clear hc hx
      obtain ⟨x0c, x1c⟩ := HLc.out _ HW.out.bel
      have HD := Lib.hid (doS_r HW.out.is HW.out.s HK.out.1 (by omega) (by have := HW.out.op; omega) kd ii)
      go_wp2_with fail
      refine HD.out.mono ?_
      rintro en w3 ⟨rr, rfl, k3, t3⟩
      have H3' := (HW.out.act HK.out.1 (by omega) k3 t3).1
      have H3L := (RsT.act ⟨HW.out.s, HL.out⟩ HK.out.1 (by omega) (by omega) HK.out.2.1 hT6 kd ii).l
      obtain ⟨x', hx'⟩ : ∃ x', x' = actRs c (leavesL P).length x kd ii := ⟨_, rfl⟩
      rw [← hx'] at H3' H3L
      have HF := Lib.hid (And.intro (show SmStR w0 w3 B BC a g X c P T L x' (40 + 4 * ((k + 1 : Nat) : Int)) (2000 + (k + 1)) from ⟨H3'.is, ⟨H3'.s.i, H3'.s.ok.mono (by omega), H3'.s.dok⟩, H3'.bel, H3'.hl, by have := H3'.op; omega⟩) H3L)
      clear hx' H3' H3L k3 t3 HD x0c x1c
      go_wp2
      go_roundw
      case rel => exact ⟨k + 1, x', by go_num, by omega, HF.out.1, HF.out.2⟩
      case measure => simp [intOf]; omega
    · obtain ⟨f1, _⟩ := HC0.out _ HW.out.bel
      have x1 : IntKind.i64.wrap ((T.length : Int) + 1) = (T.length : Int) + 1 := IntWalk.i64_in _ (by omega)
      have x2 : IntKind.i64.wrap (200 * ((T.length : Int) + 1)) = 200 * ((T.length : Int) + 1) := IntWalk.i64_in _ (by omega)
      obtain ⟨R, hRd⟩ : ∃ R : Nat, R = 200 * (T.length + 1) := ⟨_, rfl⟩
      have hR : 200 * ((T.length : Int) + 1) = (R : Int) := by omega
      have hR7 : R ≤ 1400 := by omega
      rw [hR] at x2
      have HRb := Lib.hid (show 150 * T.length + 132 < R by omega)
      have HS0 : Hid (SmStR w0 wo B BC a g X c P T L x 1000 4000) := Lib.hid ⟨HW.out.is, ⟨HW.out.s.i, HW.out.s.ok.mono (by omega), HW.out.s.dok⟩, HW.out.bel, HW.out.hl, by have := HW.out.op; omega⟩
      have HRD1 := Lib.hid hRd
      clear hRd
      go_wp2
      go_loopw [12] (fun i wr => ∃ (r : Nat) (z : Nu), i = .int .i64 r ∧ r ≤ R ∧ z = rounds (rsTurn c (leavesL P).length) T.length r x ∧ SmStR w0 wr B BC a g X c P T L z (1000 + 48 * (r : Int)) (4000 + 12 * r)) (fun i _ => R - (intOf i).toNat)
      case atStart => exact ⟨0, x, rfl, by omega, rfl, HS0.out⟩
      case round =>
        obtain ⟨r, z, rfl, hr, hz, hZ⟩ := hrel
        obtain ⟨wp, rfl⟩ : ∃ wp : World, wp = wr := ⟨_, rfl⟩
        have HZ := Lib.hid hZ
        have HZe := Lib.hid hz
        clear hZ hz
        by_cases hrR : r < R
        · have e5 : decide ((r : Int) < 200 * ((T.length : Int) + 1)) = true := decide_eq_true (by omega)
          have HI0 : Hid (SmStR w0 wp B BC a g X c P T L z (1000 + 48 * (r : Int) + 8 * ((0 : Nat) : Int)) (4000 + 12 * r + 2 * 0)) := Lib.hid ⟨HZ.out.is, ⟨HZ.out.s.i, HZ.out.s.ok.mono (by omega), HZ.out.s.dok⟩, HZ.out.bel, HZ.out.hl, by have := HZ.out.op; omega⟩
          go_wp2
          go_loopw [13] (fun i wr => ∃ (j : Nat) (y : Nu), i = .int .i64 j ∧ j ≤ T.length ∧ y = turnsN (rsTurn c (leavesL P).length) j z ∧ SmStR w0 wr B BC a g X c P T L y (1000 + 48 * (r : Int) + 8 * (j : Int)) (4000 + 12 * r + 2 * j)) (fun i _ => T.length - (intOf i).toNat)
          case atStart => exact ⟨0, z, rfl, by omega, rfl, HI0.out⟩
          case round =>
            obtain ⟨j, y, rfl, hj, hy, hY⟩ := hrel
            obtain ⟨wq, rfl⟩ : ∃ wq : World, wq = wr := ⟨_, rfl⟩
            have HY := Lib.hid hY
            have HYe := Lib.hid hy
            clear hY hy
            by_cases hjT : j < T.length
            · have HD := Lib.hid (stepI_r HY.out.is HY.out.s HK.out.1 (by omega) (by have := HY.out.op; omega) (j : Int))
              go_wp2_with fail
              refine HD.out.mono ?_
              rintro en w3 ⟨rr, rfl, k3, t3⟩
              have H3 := Lib.hid (HY.out.act HK.out.1 (by omega) k3 t3).1
              clear k3 t3 HD
              have HD := Lib.hid (leaveI_r H3.out.is H3.out.s HK.out.1 (by omega) (by have := H3.out.op; omega) (j : Int))
              go_wp2_with fail
              refine HD.out.mono ?_
              rintro en w4 ⟨rr2, rfl, k3, t3⟩
              have H4 := Lib.hid (H3.out.act HK.out.1 (by omega) k3 t3).1
              clear k3 t3 HD
              have HF : Hid (SmStR w0 w4 B BC a g X c P T L (rsTurn c (leavesL P).length y j) (1000 + 48 * (r : Int) + 8 * ((j + 1 : Nat) : Int)) (4000 + 12 * r + 2 * (j + 1))) := Lib.hid ⟨H4.out.is, ⟨H4.out.s.i, H4.out.s.ok.mono (by omega), H4.out.s.dok⟩, H4.out.bel, H4.out.hl, by have h9 : (rsTurn c (leavesL P).length y j).st.s.ops ≤ 4000 + 12 * r + 2 * j + 1 + 1 := H4.out.op; omega⟩
              have HFe : Hid (rsTurn c (leavesL P).length y j = turnsN (rsTurn c (leavesL P).length) (j + 1) z) := Lib.hid (by rw [HYe.out]; rfl)
              go_wp2
              go_roundw
              case rel => exact ⟨j + 1, _, by go_num, by omega, HFe.out, HF.out⟩
              case measure => simp [intOf]; omega
            · obtain rfl : j = T.length := by omega
              have HF : Hid (SmStR w0 wq B BC a g X c P T L y (1000 + 48 * ((r + 1 : Nat) : Int)) (4000 + 12 * (r + 1))) := Lib.hid ⟨HY.out.is, ⟨HY.out.s.i, HY.out.s.ok.mono (by omega), HY.out.s.dok⟩, HY.out.bel, HY.out.hl, by have := HY.out.op; omega⟩
              have HFe : Hid (y = rounds (rsTurn c (leavesL P).length) T.length (r + 1) x) := Lib.hid (by rw [HYe.out, HZe.out]; rfl)
              go_wp2
              go_roundw
              case rel => exact ⟨r + 1, y, by go_num, by omega, HFe.out, HF.out⟩
              case measure => simp [intOf]; omega
        · obtain rfl : r = R := by omega
          have e5 : decide ((r : Int) < 200 * ((T.length : Int) + 1)) = false := decide_eq_false (by omega)
          have HRest : Hid (nuRest T.length z) := Lib.hid (by
            rw [HZe.out]
            exact rs_all ⟨HS0.out.s, HL.out⟩ HK.out.1 (by omega) (by omega) HK.out.2.1 hN32 hT6 HRb.out (by omega))
          have hfp := field_pc
          go_wp2
          go_loopw [14] (fun i wr => ∃ (j : Nat) (M : Nat), i = .int .i64 j ∧ j ≤ T.length ∧ SmStR w0 wr B BC a g X c P T L z (1000 + 48 * (r : Int)) (4000 + 12 * r)) (fun i _ => T.length - (intOf i).toNat)
          case atStart => exact ⟨0, 0, rfl, by omega, HZ.out⟩
          case round =>
            obtain ⟨j, _, rfl, hj, hY⟩ := hrel
            obtain ⟨wq, rfl⟩ : ∃ wq : World, wq = wr := ⟨_, rfl⟩
            have HY := Lib.hid hY
            clear hY
            by_cases hjT : j < T.length
            · have hg : getS z.U (j : Int) = sv z.U j := getQ_nat (by rw [HY.out.is.lU]; exact hjT)
              have HSp := spot_r HY.out.is (j : Int)
              rw [hg] at HSp
              have h0 := HRest.out j hjT
              obtain ⟨p, hp⟩ : ∃ p, p = sv z.U j := ⟨_, rfl⟩
              rw [← hp] at HSp h0
              obtain ⟨pc, u, b, zz⟩ := p
              simp only at h0
              subst h0
              have HSp := Lib.hid HSp
              clear hg hp
              unfold spotV at HSp
              go_wp2_with fail
              refine HSp.out.mono ?_
              rintro en w4 ⟨rfl, b4⟩
              have H4 := Lib.hid (HY.out.below b4)
              clear b4
              go_wp2
              go_roundw
              case rel => exact ⟨j + 1, 0, by go_num, by omega, H4.out⟩
              case measure => simp [intOf]; omega
            · go_wp2_with fail
              refine (awake37 _).mono ?_
              rintro en wa2 ⟨rfl, ba2⟩
              have HB2 := Lib.hid (HB0.out.trans ((HY.out.bel.trans (ba2.mono HY.out.bel.size)).mono hw0s))
              clear ba2
              go_wp2
              go_ret
              exact ⟨rfl, HB2.out⟩

end Go.Proofs.YtmlcfmickonfbaaGreat
end
