/- Joined: Lv6, Lv7, Lv8. -/
import Derived.Test.YtndipiockdmaoaaGreatMgNeutralAll26
section
set_option linter.unusedVariables false
set_option linter.unusedSimpArgs false
/- Layer 36 (neutral), plain: whoever has asked holds some time: each round some thread's step leads on. No program in sight. -/
namespace Go.Proofs.YtndipiockdmaoaaGreat
open Go

section
variable {c : CoC} {n N : Nat} {ml : Nat → Nat} {st st' : Co} {s' : Ar} {B : Int}
/-- words below the cohort lock's own -/
theorem CoL.low (h : CoL c n N ml st) (hM : CoM c n N ml st) (y : CoLy c n N ml) (hf : ∀ q, c.tg ≤ q → ldW s'.W q = ldW st.s.W q) : CoL c n N ml (onA st s') := by
  have hz := szI_nn c.kg N hM.fG.m1
  exact ⟨h.fG.congr y.k.1 hM.fG.m1 (fun q h1 _ => hf q h1), fun a ha => (h.fL a ha).congr y.k.2 hM.fG.m1 (fun q h1 _ => hf q (by have := y.gl a ha; omega)), h.bG, h.bL, h.ow, h.pa, h.q13⟩
theorem cwt_low (hM : CoM c n N ml st) (y : CoLy c n N ml) (hf : ∀ q, c.tg ≤ q → ldW s'.W q = ldW st.s.W q) {j : Nat} (hj : j < n) : cwt c (onA st s') j = cwt c st j := by
  have hz := szI_nn c.kg N hM.fG.m1
  have := y.gl _ (y.nd j hj).1
  unfold cwt onA
  simp only
  rw [freeK_eq (hf c.tg (Int.le_refl _)), freeK_eq (hf (c.tl (c.node j)) (by omega))]
theorem cwt_idle {j : Nat} (h : (sv st.T j).pc = 0) : cwt c st j = 0 := by unfold cwt cwP; rw [if_pos h]
theorem cwt_hold {j : Nat} (h : (sv st.T j).pc = 10) : cwt c st j = 13 := by unfold cwt cwP; rw [h]; rfl
theorem cwt_le (hM : CoM c n N ml st) (hL : CoL c n N ml st) (y : CoLy c n N ml) {j : Nat} (hj : j < n) : cwt c st j ≤ 67 := by
  have ha := y.nd j hj
  exact cwP_le (fw_le _ (hM.v.lpc hj) (hL.bL _ ha.1 _ ha.2)) (fw_le _ (hM.v.gpc hj) (hL.bG _ ha.1))
theorem coAsk_cwt (hM : CoM c n N ml st) (hL : CoL c n N ml st) (y : CoLy c n N ml) {i : Nat} (hi : i < n) : ∀ j, j < n → j ≠ i → cwt c (coAsk c st i) j ≤ cwt c st j := fun j hj hji => by
  unfold coAsk
  split
  · have hS := setL_ne hM y hi (askK c.kl (lsp st.L (c.node i) (c.slot i)))
    have := cwt_oth (st' := { st with L := setL c st i (askK c.kl (lsp st.L (c.node i) (c.slot i))), T := st.T.set i { (sv st.T i) with pc := 1 } }) hM hL y hi (p' := { (sv st.T i) with pc := 1 }) rfl (fun _ _ => rfl) (.inl rfl) hS.1 (e := 0) (fun _ _ _ => .inl rfl) (fun _ => .inl rfl) hj hji
    exact this
  · exact Nat.le_refl _
theorem coLeave_cwt (hM : CoM c n N ml st) (hL : CoL c n N ml st) (y : CoLy c n N ml) {i : Nat} (hi : i < n) (h10 : (sv st.T i).pc = 10) : (∀ j, j < n → j ≠ i → cwt c (coLeave st i) j ≤ cwt c st j) ∧ cwt c (coLeave st i) i = 12 := by
  have hiT : i < st.T.length := by have := hM.v.lT; omega
  unfold coLeave
  rw [if_pos h10]
  refine ⟨fun j hj hji => ?_, ?_⟩
  · exact cwt_oth (st' := { st with T := st.T.set i { (sv st.T i) with pc := 11 } }) hM hL y hi (p' := { (sv st.T i) with pc := 11 }) rfl (fun _ _ => rfl) (.inl rfl) (fun _ _ _ => rfl) (e := 0) (fun _ _ _ => .inl rfl) (fun _ => .inl rfl) hj hji
  · unfold cwt
    simp only
    rw [svS hiT, if_pos rfl]
    rfl
theorem cwt_words (hW : s'.W = st.s.W) (j : Nat) : cwt c (onA st s') j = cwt c st j ∧ (CWit c st j → CWit c (onA st s') j) := by
  unfold cwt CWit onA
  simp only
  rw [hW]
  exact ⟨rfl, id⟩
end
/-- what is left to a thread -/
def nvP (p : Sp) : Nat :=
  if p.pc = 0 then 0 else if p.a = 1 then (if p.pc = 11 then 6 else if p.pc = 10 then 7 else if p.pc = 6 then 8 else if p.pc = 5 then 13 else if p.pc = 4 then 14 else if p.pc = 3 then 87 else if p.pc = 2 then 88 else 94)
  else (if p.pc = 13 then 1 else if p.pc = 12 then 2 else if p.pc = 10 then 3 else if p.pc = 9 then 4 else if p.pc = 8 then 71 else 72)
theorem nvP_le (p : Sp) : nvP p ≤ 94 := by unfold nvP; (repeat' split) <;> omega
def nwt (c : CoC) (x : Nu) (i : Nat) : Nat := nvP (sv x.U i) + cwt c x.st i + (if (sv x.U i).a = 0 ∧ (sv x.U i).pc = 9 then drD x.d x.st.s.W else 0)
def NWit (c : CoC) (x : Nu) (i : Nat) : Prop :=
  ((sv x.U i).pc = 1 ∨ (sv x.U i).pc = 2 ∨ (sv x.U i).pc = 3 ∨ (sv x.U i).pc = 5 ∨ (sv x.U i).pc = 8 ∨ (sv x.U i).pc = 10 ∨ (sv x.U i).pc = 11 ∨ (sv x.U i).pc = 12) ∨
    (((sv x.U i).pc = 4 ∨ (sv x.U i).pc = 6 ∨ (sv x.U i).pc = 7 ∨ (sv x.U i).pc = 13) ∧ CWit c x.st i) ∨ ((sv x.U i).pc = 9 ∧ ldW x.st.s.W (gaA x.d.at_) = ldW x.st.s.W (gaW x.d.at_))
def NOn (c : CoC) (n : Nat) (x x' : Nu) (i : Nat) : Prop := ∃ e, nwt c x' i + 1 + 5 * e ≤ nwt c x i ∧ ∀ j, j < n → j ≠ i → nwt c x' j ≤ nwt c x j + e
def NOff (c : CoC) (n : Nat) (x x' : Nu) (i : Nat) : Prop := x'.U = x.U ∧ nwt c x' i = nwt c x i ∧ ∀ j, j < n → j ≠ i → nwt c x' j = nwt c x j ∧ (NWit c x j → NWit c x' j)
section
variable {c : CoC} {n N : Nat} {ml : Nat → Nat} {x : Nu} {B : Int}
theorem nwt_set {st' : Co} {d' : Dr} {p' : Sp} {i : Nat} (hl : i < x.U.length) : nwt c ⟨st', d', x.U.set i p'⟩ i = nvP p' + cwt c st' i + (if p'.a = 0 ∧ p'.pc = 9 then drD d' st'.s.W else 0) := by
  unfold nwt
  simp only
  rw [svS hl, if_pos rfl]
theorem nwt_oth {st' : Co} {d' : Dr} {p' : Sp} {i j : Nat} (hl : i < x.U.length) (hji : j ≠ i) {e1 e2 : Nat} (h1 : cwt c st' j ≤ cwt c x.st j + e1) (h2 : (sv x.U j).a = 0 → (sv x.U j).pc = 9 → drD d' st'.s.W ≤ drD x.d x.st.s.W + e2) : nwt c ⟨st', d', x.U.set i p'⟩ j ≤ nwt c x j + (e1 + e2) := by
  unfold nwt
  simp only
  rw [svS hl, if_neg hji]
  split
  · rename_i q
    have := h2 q.1 q.2
    omega
  · omega
set_option maxHeartbeats 2000000 in
theorem nu_go (h : NuI c n N ml x) (hL : CoL c n N ml x.st) (y : CoLy c n N ml) (l : NuL c N x.st.s.W) (hB : CoB c B x.st) (hB0 : 40 ≤ B) (hB1 : B ≤ 1000000000000) (hm4 : c.m ≤ 4) (hN : N ≤ 32) {i : Nat} (hi : i < n) (h0 : (sv x.U i).pc ≠ 0) (h10 : (sv x.U i).pc ≠ 10) :
    (NWit c x i → NOn c n x (nuStep c N x i) i) ∧ (¬ NWit c x i → NOff c n x (nuStep c N x i) i) := by
  have hn := (y.nd i hi).1
  have hk := h.k i hi
  have hdr := h.dr i hi
  have hl : i < x.U.length := by rw [h.lU]; exact hi
  have ex : nuStep c N x i = if (sv x.U i).pc = 2 then ⟨onA x.st (loadA x.st.s (nuFl N)), x.d, x.U.set i { (sv x.U i) with pc := if ldW x.st.s.W (nuFl N) = 0 then 10 else 3 }⟩ else ⟨(nuDoes c N x i (sv x.U i).pc).1, (nuDoes c N x i (sv x.U i).pc).2.1, x.U.set i (nuTo (sv x.U i) (nuDoes c N x i (sv x.U i).pc).2.2)⟩ := by
    unfold nuStep; rw [if_neg (by omega)]
  have ew : ∀ W' : Prop, (NWit c x i ↔ W') → (NWit c x i → W') := fun _ q => q.1
  have bA := hB.w.ld (by omega) (gaA (c.node i))
  have bW := hB.w.ld (by omega) (gaW (c.node i))
  have wA : IntKind.i64.wrap (ldW x.st.s.W (gaA (c.node i)) + 1) = ldW x.st.s.W (gaA (c.node i)) + 1 := IntWalk.i64_in _ (by omega)
  have wW : IntKind.i64.wrap (ldW x.st.s.W (gaW (c.node i)) + 1) = ldW x.st.s.W (gaW (c.node i)) + 1 := IntWalk.i64_in _ (by omega)
  have lA := low_st h y l (z := gaA (c.node i)) ⟨(gaA_lt hn).1, by have := (gaA_lt hn).2; omega⟩ (ldW x.st.s.W (gaA (c.node i)) + 1) (s' := addA x.st.s (gaA (c.node i)) 1) (by rw [addA_W, wA])
  have lW := low_st h y l (z := gaW (c.node i)) ⟨(gaW_lt hn).1, by have := (gaW_lt hn).2; omega⟩ (ldW x.st.s.W (gaW (c.node i)) + 1) (s' := addA x.st.s (gaW (c.node i)) 1) (by rw [addA_W, wW])
  have lF := fun v => low_st h y l (z := nuFl N) ⟨by unfold nuFl; omega, Int.le_refl _⟩ v (s' := storeA x.st.s (nuFl N) v) (storeA_W _ _ _)
  have tgA : ∀ q, c.tg ≤ q → ldW (addA x.st.s (gaA (c.node i)) 1).W q = ldW x.st.s.W q := fun q hq => by rw [lA.1, if_neg (by have := (gaA_lt hn).2; have := l.tg; unfold nuFl at *; omega)]
  have tgW : ∀ q, c.tg ≤ q → ldW (addA x.st.s (gaW (c.node i)) 1).W q = ldW x.st.s.W q := fun q hq => by rw [lW.1, if_neg (by have := (gaW_lt hn).2; have := l.tg; unfold nuFl at *; omega)]
  have tgF : ∀ v q, c.tg ≤ q → ldW (storeA x.st.s (nuFl N) v).W q = ldW x.st.s.W q := fun v q hq => by rw [(lF v).1, if_neg (by have := l.tg; unfold nuFl; omega)]
  have LA := hL.low h.m y tgA
  have LW := hL.low h.m y tgW
  have LF := fun v => hL.low h.m y (tgF v)
  have hat : ∀ j, j < n → (sv x.U j).a = 0 → (sv x.U j).pc = 9 → x.d.at_ < N := fun j hj a9 p9 => (h.dr j hj a9 p9).1.2.2.1
  have hgn : ∀ a, a < N → ldW x.st.s.W (gaW a) ≤ ldW x.st.s.W (gaA a) := fun a ha => by have := h.g a ha; omega
  -- another's drain, by an op of this one
  have dA : ∀ j, j < n → (sv x.U j).a = 0 → (sv x.U j).pc = 9 → drD x.d (addA x.st.s (gaA (c.node i)) 1).W ≤ drD x.d x.st.s.W + 1 := fun j hj a9 p9 => by
    refine drLv_op ?_
    rw [lA.1, lA.1]
    by_cases q : x.d.at_ = c.node i
    · right; left
      rw [q, if_pos rfl, if_neg (by unfold gaA gaW; omega)]
      exact ⟨rfl, rfl, hgn _ hn⟩
    · left
      rw [if_neg (by unfold gaA; omega), if_neg (by unfold gaA gaW; omega)]
      exact ⟨rfl, rfl⟩
  have dW : rdIn (sv x.U i) = true → ∀ j, j < n → (sv x.U j).a = 0 → (sv x.U j).pc = 9 → drD x.d (addA x.st.s (gaW (c.node i)) 1).W ≤ drD x.d x.st.s.W + 1 := fun hin j hj a9 p9 => by
    refine drLv_op ?_
    rw [lW.1, lW.1]
    by_cases q : x.d.at_ = c.node i
    · right; right
      rw [q, if_neg (by unfold gaA gaW; omega), if_pos rfl]
      refine ⟨rfl, rfl, ?_⟩
      have hg := h.g _ hn
      have : 0 < cntI c n x.U (c.node i) := cntN_pos (P := fun j => decide (c.node j = c.node i) && rdIn (sv x.U j)) hi (by simp only [Bool.and_eq_true, decide_eq_true_eq]; exact ⟨trivial, hin⟩)
      omega
    · left
      rw [if_neg (by unfold gaA gaW; omega), if_neg (by unfold gaW; omega)]
      exact ⟨rfl, rfl⟩
  have low9 : ∀ j, j < n → (sv x.U j).a = 0 → (sv x.U j).pc = 9 → gaA x.d.at_ < nuFl N ∧ gaW x.d.at_ < nuFl N := fun j hj a9 p9 => ⟨(gaA_lt (hat j hj a9 p9)).2, (gaW_lt (hat j hj a9 p9)).2⟩
  have dF : ∀ v j, j < n → (sv x.U j).a = 0 → (sv x.U j).pc = 9 → drD x.d (storeA x.st.s (nuFl N) v).W ≤ drD x.d x.st.s.W + 0 := fun v j hj a9 p9 => by
    have := low9 j hj a9 p9
    have e := drLv_same (d := x.d) (W := x.st.s.W) (W' := (storeA x.st.s (nuFl N) v).W) (by rw [(lF v).1, if_neg (by omega)]) (by rw [(lF v).1, if_neg (by omega)])
    rw [e]
    exact Nat.le_refl _
  have oth9 : (sv x.st.T i).pc = 10 → ∀ j, j < n → j ≠ i → (sv x.U j).a = 0 → (sv x.U j).pc = 9 → False := fun ht j hj e a9 p9 => e (h.one y hj hi (wr_t (h.k j hj) ⟨a9, .inl p9⟩) ht)
  have aS := coStep_at h.m.v hi
  have lS := h.m.stepLow y hB (by omega) (by omega) hi
  have CG := co_go h.m hL y hB (by omega) (by omega) hm4 hi
  -- a step of the cohort lock
  have cohort : ∀ (pc' : Int), ((sv x.U i).pc = 4 ∨ (sv x.U i).pc = 6 ∨ (sv x.U i).pc = 7 ∨ (sv x.U i).pc = 13) → (sv x.st.T i).pc ≠ 0 → (sv x.st.T i).pc ≠ 10 → nuStep c N x i = ⟨coStep c x.st i, x.d, x.U.set i (nuTo (sv x.U i) (cameK (sv x.st.T i) (sv (coStep c x.st i).T i)))⟩ → nvP ⟨nuNext (sv x.U i).pc, (sv x.U i).a, (sv x.U i).b, (sv x.U i).c⟩ + (if (sv x.U i).a = 0 ∧ nuNext (sv x.U i).pc = 9 then 1000 else 0) ≤ nvP (sv x.U i) → ¬ ((sv x.U i).a = 0 ∧ (sv x.U i).pc = 9) →
      (NWit c x i → NOn c n x (nuStep c N x i) i) ∧ (¬ NWit c x i → NOff c n x (nuStep c N x i) i) := fun _ hpc t0 t10 e hv h9 => by
    have cg := CG ⟨t0, t10⟩
    rw [e]
    have eW : NWit c x i ↔ CWit c x.st i := by
      unfold NWit
      constructor
      · rintro (q | q | q)
        · omega
        · exact q.2
        · omega
      · exact fun q => .inr (.inl ⟨hpc, q⟩)
    have dd : ∀ j, j < n → (sv x.U j).a = 0 → (sv x.U j).pc = 9 → drD x.d (coStep c x.st i).s.W = drD x.d x.st.s.W := fun j hj a9 p9 => by
      have := low9 j hj a9 p9
      have tg := l.tg
      unfold nuFl at this
      exact drLv_same (lS _ (by omega)) (lS _ (by omega))
    rw [eW]
    refine ⟨fun hw => ?_, fun hw => ?_⟩
    · obtain ⟨e', _, q1, q2⟩ := cg.1 hw
      refine ⟨e', ?_, fun j hj hji => ?_⟩
      · rw [nwt_set hl]
        unfold nwt
        rw [if_neg h9]
        unfold nuTo
        by_cases hb : cameK (sv x.st.T i) (sv (coStep c x.st i).T i) = true
        · rw [if_pos hb]
          simp only
          split at hv
          · have := nvP_le (sv x.U i)
            omega
          · rename_i hn9
            rw [if_neg hn9]
            omega
        · rw [if_neg hb, if_neg h9]; omega
      · have := nwt_oth (c := c) (x := x) (st' := coStep c x.st i) (d' := x.d) (p' := nuTo (sv x.U i) (cameK (sv x.st.T i) (sv (coStep c x.st i).T i))) hl hji (q2 j hj hji) (e2 := 0) (fun a9 p9 => by rw [dd j hj a9 p9]; exact Nat.le_refl _)
        exact this
    · obtain ⟨q1, q2, q3, q4⟩ := cg.2 hw
      have hb : cameK (sv x.st.T i) (sv (coStep c x.st i).T i) = false := by
        unfold cameK
        rw [q2 i]
        exact decide_eq_false (fun q => by omega)
      have eU : x.U.set i (nuTo (sv x.U i) false) = x.U := by
        show x.U.set i (sv x.U i) = x.U
        unfold sv
        rw [List.getD_eq_getElem?_getD, List.getElem?_eq_getElem hl]
        exact List.set_getElem_self hl
      rw [hb, eU]
      refine ⟨rfl, ?_, fun j hj hji => ⟨?_, fun hwj => ?_⟩⟩
      · unfold nwt
        simp only
        rw [q3, if_neg h9, if_neg h9]
      · unfold nwt
        simp only
        rw [(q4 j hj hji).1, q1]
      · unfold NWit at hwj ⊢
        simp only
        rw [q1]
        rcases hwj with q | q | q
        · exact .inl q
        · exact .inr (.inl ⟨q.1, (q4 j hj hji).2 q.2⟩)
        · exact .inr (.inr q)
  obtain ⟨p, hp⟩ : ∃ p, p = sv x.U i := ⟨_, rfl⟩
  have hnw : nwt c x i = nvP p + cwt c x.st i + (if p.a = 0 ∧ p.pc = 9 then drD x.d x.st.s.W else 0) := by rw [hp]; rfl
  have eNW : NWit c x i ↔ ((p.pc = 1 ∨ p.pc = 2 ∨ p.pc = 3 ∨ p.pc = 5 ∨ p.pc = 8 ∨ p.pc = 10 ∨ p.pc = 11 ∨ p.pc = 12) ∨ ((p.pc = 4 ∨ p.pc = 6 ∨ p.pc = 7 ∨ p.pc = 13) ∧ CWit c x.st i) ∨ (p.pc = 9 ∧ ldW x.st.s.W (gaA x.d.at_) = ldW x.st.s.W (gaW x.d.at_))) := by rw [hp]; exact Iff.rfl
  rw [← hp] at hk h0 h10 hdr dW ex cohort
  unfold linkN at hk
  obtain ⟨pc, u, b, z⟩ := p
  simp only at hk h0 h10 hnw eNW
  have on : (pc = 1 ∨ pc = 2 ∨ pc = 3 ∨ pc = 5 ∨ pc = 8 ∨ pc = 10 ∨ pc = 11 ∨ pc = 12) → NOn c n x (nuStep c N x i) i → (NWit c x i → NOn c n x (nuStep c N x i) i) ∧ (¬ NWit c x i → NOff c n x (nuStep c N x i) i) := fun q hq => ⟨fun _ => hq, fun hw => absurd (eNW.2 (.inl q)) hw⟩
  rcases hk with ⟨q1, q2⟩ | ⟨rfl, q2, q3⟩ | ⟨rfl, rfl, q3, q4⟩ | ⟨rfl, rfl, q3⟩ | ⟨rfl, rfl, q3⟩ | ⟨rfl, rfl, q3, q4⟩ | ⟨rfl, q2, q3⟩ | ⟨rfl, rfl, q3⟩
  · exact absurd q1 h0
  · have ct := cwt_idle (c := c) q3
    rcases q2 with rfl | rfl | rfl | rfl | rfl
    · -- 1
      refine on (by omega) ?_
      have e : nuStep c N x i = ⟨onA x.st (addA x.st.s (gaA (c.node i)) 1), x.d, x.U.set i ⟨2, 1, b, z⟩⟩ := ex
      rw [e]
      refine ⟨1, ?_, fun j hj hji => ?_⟩
      · rw [nwt_set hl, hnw, cwt_low h.m y tgA hi, ct]
        show 88 + 0 + 0 + 1 + 5 * 1 ≤ 94 + 0 + 0
        decide
      · exact nwt_oth (st' := onA x.st (addA x.st.s (gaA (c.node i)) 1)) hl hji (e1 := 0) (by rw [cwt_low h.m y tgA hj]; exact Nat.le_refl _) (dA j hj)
    · -- 2
      refine on (by omega) ?_
      have e : nuStep c N x i = ⟨onA x.st (loadA x.st.s (nuFl N)), x.d, x.U.set i ⟨if ldW x.st.s.W (nuFl N) = 0 then 10 else 3, 1, b, z⟩⟩ := ex
      have eL : (loadA x.st.s (nuFl N)).W = x.st.s.W := loadA_W _ _
      rw [e]
      refine ⟨0, ?_, fun j hj hji => ?_⟩
      · rw [nwt_set hl, hnw, (cwt_words eL i).1, ct]
        split
        · show 7 + 0 + 0 + 1 + 5 * 0 ≤ 88 + 0 + 0; decide
        · show 87 + 0 + 0 + 1 + 5 * 0 ≤ 88 + 0 + 0; decide
      · exact nwt_oth (st' := onA x.st (loadA x.st.s (nuFl N))) hl hji (e1 := 0) (e2 := 0) (by rw [(cwt_words eL j).1]; exact Nat.le_refl _) (fun _ _ => by show drD x.d (loadA _ _).W ≤ _; rw [eL]; exact Nat.le_refl _)
    · -- 3
      refine on (by omega) ?_
      have e : nuStep c N x i = ⟨coAsk c (onA x.st (addA x.st.s (gaW (c.node i)) 1)) i, x.d, x.U.set i ⟨4, 1, b, z⟩⟩ := ex
      have hs := coAsk_s c (onA x.st (addA x.st.s (gaW (c.node i)) 1)) i
      have CA := coAsk_cwt lW.2 LW y hi
      have c67 := cwt_le (lW.2.ask y hi) (LW.ask lW.2 y hi) y hi
      rw [e]
      refine ⟨1, ?_, fun j hj hji => ?_⟩
      · rw [nwt_set hl, hnw, ct]
        show 14 + _ + 0 + 1 + 5 * 1 ≤ 87 + 0 + 0
        omega
      · refine nwt_oth (st' := coAsk c (onA x.st (addA x.st.s (gaW (c.node i)) 1)) i) (d' := x.d) (p' := ⟨4, 1, b, z⟩) hl hji (e1 := 0) (e2 := 1) ?_ (fun a9 p9 => ?_)
        · have := CA j hj hji
          rw [cwt_low h.m y tgW hj] at this
          exact this
        · rw [hs]; exact dW rfl j hj a9 p9
    · exact absurd rfl h10
    · -- 11
      refine on (by omega) ?_
      have e : nuStep c N x i = ⟨onA x.st (addA x.st.s (gaW (c.node i)) 1), x.d, x.U.set i ⟨0, 1, b, z⟩⟩ := ex
      rw [e]
      refine ⟨1, ?_, fun j hj hji => ?_⟩
      · rw [nwt_set hl, hnw, cwt_low h.m y tgW hi, ct]
        show 0 + 0 + 0 + 1 + 5 * 1 ≤ 6 + 0 + 0
        decide
      · exact nwt_oth (st' := onA x.st (addA x.st.s (gaW (c.node i)) 1)) hl hji (e1 := 0) (by rw [cwt_low h.m y tgW hj]; exact Nat.le_refl _) (dW rfl j hj)
  · exact cohort 0 (.inl rfl) (by omega) (by omega) ex (by show 13 + 0 ≤ 14; decide) (by simp)
  · -- 5
    have ct := cwt_hold (c := c) q3
    refine on (by omega) ?_
    have e : nuStep c N x i = ⟨coLeave (onA x.st (addA x.st.s (gaA (c.node i)) 1)) i, x.d, x.U.set i ⟨6, 1, b, z⟩⟩ := ex
    have hs := coLeave_s (onA x.st (addA x.st.s (gaA (c.node i)) 1)) i
    have CA := coLeave_cwt lA.2 LA y hi q3
    rw [e]
    refine ⟨1, ?_, fun j hj hji => ?_⟩
    · rw [nwt_set hl, hnw, ct, CA.2]
      show 8 + 12 + 0 + 1 + 5 * 1 ≤ 13 + 13 + 0
      decide
    · refine nwt_oth (st' := coLeave (onA x.st (addA x.st.s (gaA (c.node i)) 1)) i) (d' := x.d) (p' := ⟨6, 1, b, z⟩) hl hji (e1 := 0) (e2 := 1) ?_ (fun a9 p9 => ?_)
      · have := CA.1 j hj hji
        rw [cwt_low h.m y tgA hj] at this
        exact this
      · rw [hs]; exact dA j hj a9 p9
  · exact cohort 0 (.inr (.inl rfl)) (by omega) (by omega) ex (by show 7 + 0 ≤ 8; decide) (by simp)
  · exact cohort 0 (.inr (.inr (.inl rfl))) (by omega) (by omega) ex (by show 71 + 0 ≤ 72; decide) (by simp)
  · have ct := cwt_hold (c := c) q3
    rcases q2 with rfl | rfl | rfl | rfl
    · -- 8
      refine on (by omega) ?_
      have e : nuStep c N x i = ⟨onA x.st (storeA x.st.s (nuFl N) 1), drBeg x.d N false, x.U.set i ⟨9, 0, b, z⟩⟩ := ex
      rw [e]
      refine ⟨0, ?_, fun j hj hji => ?_⟩
      · rw [nwt_set hl, hnw, cwt_low h.m y (tgF 1) hi, ct]
        have d1 : drD (drBeg x.d N false) (storeA x.st.s (nuFl N) 1).W ≤ 2 * N + 1 := by
          unfold drD drLv drBeg
          simp only [Bool.false_eq_true, if_false]
          split <;> omega
        show 4 + 13 + drD (drBeg x.d N false) (storeA x.st.s (nuFl N) 1).W + 1 + 5 * 0 ≤ 71 + 13 + 0
        omega
      · exact nwt_oth (st' := onA x.st (storeA x.st.s (nuFl N) 1)) hl hji (e1 := 0) (e2 := 0) (by rw [cwt_low h.m y (tgF 1) hj]; exact Nat.le_refl _) (fun a9 p9 => (oth9 q3 j hj hji a9 p9).elim)
    · -- 9
      obtain ⟨⟨d1, d2, d3, d4⟩, d5, d6⟩ := hdr rfl rfl
      have hW := drStep_W x.st.s x.d
      have DS := drD_step (s := x.st.s) d1 d2 d3 d4 d5 (hgn _ d3)
      have e : nuStep c N x i = ⟨onA x.st (drStep x.st.s x.d).1, (drStep x.st.s x.d).2.1, x.U.set i (nuTo ⟨9, 0, b, z⟩ (drStep x.st.s x.d).2.2)⟩ := ex
      have eN : NWit c x i ↔ ldW x.st.s.W (gaA x.d.at_) = ldW x.st.s.W (gaW x.d.at_) := by rw [eNW]; simp
      rw [eN, e]
      refine ⟨fun hw => ⟨0, ?_, fun j hj hji => ?_⟩, fun hw => ?_⟩
      · rw [nwt_set hl, hnw, (cwt_words hW i).1, ct]
        show nvP (nuTo ⟨9, 0, b, z⟩ (drStep x.st.s x.d).2.2) + 13 + _ + 1 + 5 * 0 ≤ 4 + 13 + drD x.d x.st.s.W
        by_cases hb : (drStep x.st.s x.d).2.2 = true
        · unfold nuTo
          rw [if_pos hb]
          have d2' : 2 ≤ drD x.d x.st.s.W ∨ True := .inr trivial
          show 3 + 13 + 0 + 1 + 5 * 0 ≤ _
          omega
        · unfold nuTo
          rw [if_neg hb]
          show 4 + 13 + drD (drStep x.st.s x.d).2.1 (drStep x.st.s x.d).1.W + 1 + 5 * 0 ≤ _
          rw [hW]
          rcases DS.1 hw with q | q
          · omega
          · exact absurd q.1 hb
      · exact nwt_oth (st' := onA x.st (drStep x.st.s x.d).1) hl hji (e1 := 0) (e2 := 0) (by rw [(cwt_words hW j).1]; exact Nat.le_refl _) (fun a9 p9 => (oth9 q3 j hj hji a9 p9).elim)
      · obtain ⟨b1, b2, b3⟩ := DS.2.1 hw
        have eU : x.U.set i (nuTo ⟨9, 0, b, z⟩ (drStep x.st.s x.d).2.2) = x.U := by
          rw [b1]
          show x.U.set i ⟨9, 0, b, z⟩ = x.U
          rw [hp]
          unfold sv
          rw [List.getD_eq_getElem?_getD, List.getElem?_eq_getElem hl]
          exact List.set_getElem_self hl
        rw [eU]
        have eW : (onA x.st (drStep x.st.s x.d).1).s.W = x.st.s.W := hW
        refine ⟨rfl, ?_, fun j hj hji => ⟨?_, fun hwj => ?_⟩⟩
        · unfold nwt
          simp only
          rw [(cwt_words hW i).1, eW, b2]
        · unfold nwt
          simp only
          rw [(cwt_words hW j).1, eW, b2]
        · unfold NWit at hwj ⊢
          simp only
          rw [eW, b3]
          rcases hwj with q | q | q
          · exact .inl q
          · exact .inr (.inl ⟨q.1, (cwt_words hW j).2 q.2⟩)
          · exact .inr (.inr q)
    · exact absurd rfl h10
    · -- 12
      refine on (by omega) ?_
      have e : nuStep c N x i = ⟨coLeave (onA x.st (storeA x.st.s (nuFl N) 0)) i, x.d, x.U.set i ⟨13, 0, b, z⟩⟩ := ex
      have hs := coLeave_s (onA x.st (storeA x.st.s (nuFl N) 0)) i
      have CA := coLeave_cwt (lF 0).2 (LF 0) y hi q3
      rw [e]
      refine ⟨0, ?_, fun j hj hji => ?_⟩
      · rw [nwt_set hl, hnw, ct, CA.2]
        show 1 + 12 + 0 + 1 + 5 * 0 ≤ 2 + 13 + 0
        decide
      · refine nwt_oth (st' := coLeave (onA x.st (storeA x.st.s (nuFl N) 0)) i) hl hji (e1 := 0) (e2 := 0) ?_ (fun a9 p9 => ?_)
        · have := CA.1 j hj hji
          rw [cwt_low h.m y (tgF 0) hj] at this
          exact this
        · rw [hs]; exact dF 0 j hj a9 p9
  · exact cohort 0 (.inr (.inr (.inr rfl))) (by omega) (by omega) ex (by show 0 + 0 ≤ 1; decide) (by simp)
end
end Go.Proofs.YtndipiockdmaoaaGreat
end
section
set_option linter.unusedVariables false
set_option linter.unusedSimpArgs false
/- Layer 24 (cohort), plain: a new lock never stands still. No program in sight. -/
namespace Go.Proofs.YtndipiockdmaoaaGreat
open Go

/-- a new flat lock -/
theorem lvf_new {k : Nat} (hk : 1 ≤ k ∧ k ≤ 5) (s : Ar) {n m : Nat} (hm : 1 ≤ m) : LvF k (s.W.length + 1 : Nat) (m : Int) n (ldW (newAr_ k s n m).W) (sv (newSpK k n)) := by
  have p0 := newSp_sv0 k n
  have hr : ∀ y : Int, (s.W.length : Int) < y → y ≤ s.W.length + szK k n m → inR (takeS s (szK k n m)).W y = true := fun y h1 h2 => inR_true.2 ⟨by omega, by rw [takeS_len]; omega⟩
  have h0 : ∀ y : Int, (s.W.length : Int) < y → ldW (takeS s (szK k n m)).W y = 0 := fun y hy => ldW_new _ _ hy
  have hk' : k = 1 ∨ k = 2 ∨ k = 3 ∨ k = 4 ∨ k = 5 := by omega
  rcases hk' with rfl | rfl | rfl | rfl | rfl
  · show ldW (takeS s (szK 1 n m)).W _ ≠ 0 → _
    intro h
    exact absurd (h0 _ (by omega)) h
  · show OwnK n _ (ldW (takeS s (szK 2 n m)).W _) (ldW (takeS s (szK 2 n m)).W _)
    rw [h0 _ (by omega), h0 _ (by omega)]
    intro v h1 h2; omega
  · show ∀ v, PartI _ _ n (ldW (storeA (takeS s (szK 3 n m)) ((s.W.length : Int) + 2) 1).W) _ v → OwnK n _ v (ldW (storeA (takeS s (szK 3 n m)) ((s.W.length : Int) + 2) 1).W _)
    intro v hv
    have hw := ldW_st (hr ((s.W.length : Int) + 2) (by omega) (by show (s.W.length : Int) + 2 ≤ s.W.length + (1 + m : Nat); omega)) 1
    have h1 := hv.v0
    rw [storeA_W, hw, if_neg (by omega), h0 _ (by omega)]
    intro u h2 h3; omega
  · show ∀ i, i < n → (sv (newSpK 4 n) i).pc = 13 → _
    intro i hi hc
    rw [p0] at hc; omega
  · trivial
section
variable {kg kl par : Nat} {bud : Int} {P T : List Int} {s : Ar}
theorem l_new (hc : chkT P T = 0) (hkg : 1 ≤ kg ∧ kg ≤ 5) (hkl : 1 ≤ kl ∧ kl ≤ 5) (hp : 1 ≤ par ∧ par ≤ 4) : CoL (coCN kg kl par bud P T s) T.length (leavesL P).length (mtQ P T) (coStN kg kl par P T s) := by
  have y := ly_new (bud := bud) (s := s) hc hkg hkl hp
  obtain ⟨s7, hs7⟩ : ∃ x, x = newAr_ kg s (leavesL P).length par := ⟨_, rfl⟩
  have eW : (coStN kg kl par P T s).s = coNewS kl par (mtQ P T) s7 (leavesL P).length := by rw [hs7]; rfl
  have hlen0 : (coNewS kl par (mtQ P T) s7 0).W.length = s.W.length + szK kg (leavesL P).length par := by rw [hs7]; exact newAr_len _ _ _ _
  have hget : ∀ n, n < (leavesL P).length → (coStN kg kl par P T s).L.getD n [] = newSpK kl (mtQ P T n) := fun n hn => by
    rw [List.getD_eq_getElem?_getD]
    simp [coStN, coNewL, hn]
  have hT0 : ∀ j, (sv (coStN kg kl par P T s).T j).pc = 0 := fun j => by
    show (sv (List.replicate T.length Sp.zero) j).pc = 0
    unfold sv
    rw [List.getD_eq_getElem?_getD, List.getElem?_replicate]
    split <;> rfl
  have t0 : ∀ {k : Nat} {p : Sp}, p.pc = 0 → tasB k p := fun {k p} h _ => ⟨fun q => by omega, fun q => by omega⟩
  refine ⟨?_, fun a ha => ?_, fun a ha => t0 (newSp_sv0 _ _ _), fun a ha z hz => ?_, fun a ha z hz hp => ?_, fun a ha hg => ?_, fun i hi h13 => ?_⟩
  · have h1 := lvf_new hkg s (n := (leavesL P).length) hp.1
    rw [eW]
    refine h1.congr y.k.1 (by show (1 : Int) ≤ (par : Nat); omega) (fun x h2 h3 => ?_)
    have h3' : x < ((s.W.length + 1 : Nat) : Int) + szI kg (leavesL P).length (par : Int) := h3
    rw [szI_K] at h3'
    rw [coNewS_pre (Nat.zero_le _) (by rw [hlen0]; omega), hs7]; rfl
  · rw [hget a ha, eW]
    have h1 := lvf_new hkl (coNewS kl par (mtQ P T) s7 a) (n := mtQ P T a) hp.1
    have et : (coCN kg kl par bud P T s).tl a = (((coNewS kl par (mtQ P T) s7 a).W.length + 1 : Nat) : Int) := by rw [hs7]; rfl
    rw [et]
    refine h1.congr y.k.2 (by show (1 : Int) ≤ (par : Nat); omega) (fun x h2 h3 => ?_)
    have h3' : x < (((coNewS kl par (mtQ P T) s7 a).W.length + 1 : Nat) : Int) + szI kl (mtQ P T a) (par : Int) := h3
    rw [szI_K] at h3'
    have e1 : ((coNewS kl par (mtQ P T) s7 (a + 1)).W.length : Int) = (coNewS kl par (mtQ P T) s7 a).W.length + szK kl (mtQ P T a) par + 1 := by
      show ((takeS (newAr_ _ _ _ _) 1).W.length : Int) = _
      rw [takeS_len, newAr_len]; omega
    rw [coNewS_pre (j := a + 1) ha (by omega)]
    show ldW (takeS (newAr_ kl (coNewS kl par (mtQ P T) s7 a) (mtQ P T a) par) 1).W x = _
    exact ldW_app _ _ (by rw [newAr_len]; omega)
  · refine t0 ?_
    rw [ls_sv, hget a ha]; exact newSp_sv0 _ _ _
  · exfalso
    rw [ls_sv, hget a ha] at hp
    exact hp (newSp_sv0 _ _ _)
  · exfalso
    have : (sv (newSpK kg (leavesL P).length) a).pc = 10 := hg
    rw [newSp_sv0] at this; omega
  · rw [hT0] at h13; omega
end
end Go.Proofs.YtndipiockdmaoaaGreat
end
section
set_option linter.unusedVariables false
set_option linter.unusedSimpArgs false
/- Layer 36 (neutral), plain: whoever has asked holds some time: by rounds. No program in sight. -/
namespace Go.Proofs.YtndipiockdmaoaaGreat
open Go

theorem cntN_exL {P : Nat → Bool} : ∀ n, 0 < cntN n P → ∃ i, i < n ∧ P i = true
  | 0, h => absurd h (Nat.lt_irrefl _)
  | n + 1, h => by
    rw [cntN_succ] at h
    by_cases hp : P n = true
    · exact ⟨n, by omega, hp⟩
    · rw [if_neg hp] at h
      obtain ⟨i, hi, hpi⟩ := cntN_exL n (by omega)
      exact ⟨i, by omega, hpi⟩
section
variable {c : CoC} {n N L : Nat} {ml : Nat → Nat} {x : Nu} {B : Int}
theorem CoL.same {st : Co} {s' : Ar} (h : CoL c n N ml st) (hM : CoM c n N ml st) (y : CoLy c n N ml) (hW : s'.W = st.s.W) : CoL c n N ml (onA st s') := h.low hM y (fun q _ => by rw [hW])
theorem nuStep_L (h : NuI c n N ml x) (hL : CoL c n N ml x.st) (y : CoLy c n N ml) (l : NuL c N x.st.s.W) (hB : CoB c B x.st) (hB0 : 40 ≤ B) (hB1 : B ≤ 1000000000000) (hm4 : c.m ≤ 4) {i : Nat} (hi : i < n) : CoL c n N ml (nuStep c N x i).st := by
  have hn := (y.nd i hi).1
  have bA := hB.w.ld (by omega) (gaA (c.node i))
  have bW := hB.w.ld (by omega) (gaW (c.node i))
  have lA := low_st h y l (z := gaA (c.node i)) ⟨(gaA_lt hn).1, by have := (gaA_lt hn).2; omega⟩ (ldW x.st.s.W (gaA (c.node i)) + 1) (s' := addA x.st.s (gaA (c.node i)) 1) (by rw [addA_W, IntWalk.i64_in _ (by omega)])
  have lW := low_st h y l (z := gaW (c.node i)) ⟨(gaW_lt hn).1, by have := (gaW_lt hn).2; omega⟩ (ldW x.st.s.W (gaW (c.node i)) + 1) (s' := addA x.st.s (gaW (c.node i)) 1) (by rw [addA_W, IntWalk.i64_in _ (by omega)])
  have lF := fun v => low_st h y l (z := nuFl N) ⟨by unfold nuFl; omega, Int.le_refl _⟩ v (s' := storeA x.st.s (nuFl N) v) (storeA_W _ _ _)
  have LA := hL.low h.m y (s' := addA x.st.s (gaA (c.node i)) 1) (fun q hq => by rw [lA.1, if_neg (by have := (gaA_lt hn).2; have := l.tg; unfold nuFl at *; omega)])
  have LW := hL.low h.m y (s' := addA x.st.s (gaW (c.node i)) 1) (fun q hq => by rw [lW.1, if_neg (by have := (gaW_lt hn).2; have := l.tg; unfold nuFl at *; omega)])
  have LF := fun v => hL.low h.m y (s' := storeA x.st.s (nuFl N) v) (fun q hq => by rw [(lF v).1, if_neg (by have := l.tg; unfold nuFl; omega)])
  unfold nuStep
  split
  · exact hL
  split
  · exact hL.same h.m y (loadA_W _ _)
  · unfold nuDoes
    split
    · exact LA
    split
    · exact LW.ask lW.2 y hi
    split
    · exact LA.leave lA.2 y hi
    split
    · exact LF 1
    split
    · exact hL.same h.m y (drStep_W _ _)
    split
    · exact LW
    split
    · exact (LF 0).leave (lF 0).2 y hi
    · exact hL.step h.m y hB (by omega) (by omega) hm4 hi
/-- what holds behind any acts -/
structure NuT (c : CoC) (n N L : Nat) (ml : Nat → Nat) (B : Int) (x : Nu) : Prop where
  s : NuS c n N L ml B x
  l : CoL c n N ml x.st
theorem NuT.act (h : NuT c n N L ml B x) (k : NuK c n N L ml) (hB : 40 ≤ B) (hB2 : B ≤ 1000000000000) (hm4 : c.m ≤ 4) (kd i : Int) : NuT c n N L ml (B + 4) (actNu c N x kd i) := by
  refine ⟨(h.s.act k hB hB2 kd i).1, ?_⟩
  unfold actNu
  split
  · rename_i hok
    have hi : i.toNat < n := by
      obtain ⟨h0, h1⟩ := hok
      have := h.s.i.lU
      omega
    have ask : ∀ r, CoL c n N ml (nuAsk c x i.toNat r).st := fun r => by
      unfold nuAsk
      split
      · split
        · exact h.l
        · exact h.l.ask h.s.i.m k.y hi
      · exact h.l
    split
    · exact nuStep_L h.s.i h.l k.y ⟨k.tg, by rw [h.s.ok.len]; exact k.len⟩ h.s.ok.bd hB hB2 hm4 hi
    split
    · exact ask false
    split
    · rw [nuLeave_st]; exact h.l
    split
    · exact ask true
    · exact h.l
  · exact h.l
/-- a step, and a leave at once -/
def nuTurn (c : CoC) (N : Nat) (x : Nu) (i : Nat) : Nu := actNu c N (actNu c N x 0 (i : Int)) 2 (i : Int)
theorem nuTurn_eq (h : x.U.length = n) {i : Nat} (hi : i < n) : nuTurn c N x i = nuLeave (nuStep c N x i) i := by
  have ok1 : okI x.U (i : Int) := ⟨by omega, by omega⟩
  have e1 : actNu c N x 0 (i : Int) = nuStep c N x i := by
    unfold actNu; rw [if_pos ok1, if_pos rfl, Int.toNat_natCast]
  have hl : (nuStep c N x i).U.length = n := by
    unfold nuStep
    (repeat' split) <;> simp [h]
  have ok2 : okI (nuStep c N x i).U (i : Int) := ⟨by omega, by omega⟩
  unfold nuTurn
  rw [e1]
  unfold actNu
  rw [if_pos ok2, if_neg (by decide), if_neg (by decide), if_pos rfl, Int.toNat_natCast]
def nuRest (n : Nat) (x : Nu) : Prop := ∀ i, i < n → (sv x.U i).pc = 0
/-- some thread's step leads on -/
theorem nu_alive (h : NuI c n N ml x) (hL : CoL c n N ml x.st) (y : CoLy c n N ml) (hr : ¬ nuRest n x) : ∃ j, j < n ∧ NWit c x j := by
  apply Classical.byContradiction
  intro hcon
  have no : ∀ j, j < n → ¬ NWit c x j := fun j hj hw => hcon ⟨j, hj, hw⟩
  have pcs : ∀ j, j < n → (sv x.U j).pc = 0 ∨ (sv x.U j).pc = 4 ∨ (sv x.U j).pc = 6 ∨ (sv x.U j).pc = 7 ∨ (sv x.U j).pc = 9 ∨ (sv x.U j).pc = 13 := fun j hj => by
    have hk := h.k j hj
    have := no j hj
    unfold NWit at this
    unfold linkN at hk
    omega
  have mk : ∀ j, j < n → (sv x.st.T j).pc ≠ 0 → (sv x.st.T j).pc ≠ 10 → CWit c x.st j → False := fun j hj h0 h10 hw => by
    have hk := h.k j hj
    have hp := pcs j hj
    refine no j hj (.inr (.inl ⟨?_, hw⟩))
    unfold linkN at hk; omega
  have noOut : ∀ j, j < n → ¬ 10 < (sv x.st.T j).pc := fun j hj hq => by
    obtain ⟨k, hk, h0, h10, hw⟩ := co_aliveOut h.m hL y hj hq
    exact mk k hk h0 h10 hw
  have no9 : ∀ j, j < n → (sv x.U j).pc ≠ 9 := fun j hj h9 => by
    have hk := h.k j hj
    have ha : (sv x.U j).a = 0 := by unfold linkN at hk; omega
    obtain ⟨⟨d1, d2, d3, d4⟩, d5, d6⟩ := h.dr j hj ha h9
    have hg := h.g _ d3
    by_cases hc : cntI c n x.U x.d.at_ = 0
    · exact no j hj (.inr (.inr ⟨h9, by omega⟩))
    · obtain ⟨i, hi, hb⟩ := cntN_exL (P := fun j => decide (c.node j = x.d.at_) && rdIn (sv x.U j)) n (by unfold cntI at hc; omega)
      simp only [Bool.and_eq_true, decide_eq_true_eq] at hb
      have hin := of_decide_eq_true hb.2
      have hp := pcs i hi
      have h6 : (sv x.U i).pc = 6 := by omega
      have hki := h.k i hi
      exact noOut i hi (by unfold linkN at hki; omega)
  have no10 : ∀ j, j < n → (sv x.st.T j).pc ≠ 10 := fun j hj h10 => by
    have hk := h.k j hj
    have hp := pcs j hj
    have := no9 j hj
    unfold linkN at hk; omega
  have ex : ∃ j, j < n ∧ (sv x.U j).pc ≠ 0 := by
    apply Classical.byContradiction
    intro hq
    exact hr (fun i hi => Classical.byContradiction (fun h0 => hq ⟨i, hi, h0⟩))
  obtain ⟨j, hj, h0⟩ := ex
  have hk := h.k j hj
  have hp := pcs j hj
  have := no9 j hj
  obtain ⟨k, hk2, k0, k10, hw⟩ := co_alive h.m hL y no10 hj (by unfold linkN at hk; omega)
  exact mk k hk2 k0 k10 hw
theorem nwt_le (h : NuI c n N ml x) (hL : CoL c n N ml x.st) (y : CoLy c n N ml) (hN : N ≤ 32) {i : Nat} (hi : i < n) : nwt c x i ≤ 170 := by
  have c67 := cwt_le h.m hL y hi
  unfold nwt
  split
  · rename_i q
    obtain ⟨⟨d1, d2, d3, d4⟩, d5, d6⟩ := h.dr i hi q.1 q.2
    have := drLv_le x.d x.st.s.W
    have e : nvP (sv x.U i) = 4 := by
      unfold nvP
      rw [q.2, q.1]; rfl
    rw [e]
    unfold drD
    omega
  · have : nvP (sv x.U i) ≤ 94 := by unfold nvP; (repeat' split) <;> omega
    omega
/-- a turn, as the rounds want it -/
theorem nu_turn (h : NuT c n N L ml B x) (k : NuK c n N L ml) (hB : 40 ≤ B) (hB2 : B ≤ 1000000000000) (hm4 : c.m ≤ 4) (hN : N ≤ 32) (hn : n ≤ 6) {i : Nat} (hi : i < n) :
    sumN n (nwt c (nuTurn c N x i)) < sumN n (nwt c x) ∨ (sumN n (nwt c (nuTurn c N x i)) = sumN n (nwt c x) ∧ ¬ NWit c x i ∧ ∀ j, j < n → j ≠ i → NWit c x j → NWit c (nuTurn c N x i) j) := by
  have hlen := h.s.i.lU
  have hl : i < x.U.length := by rw [hlen]; exact hi
  rw [nuTurn_eq hlen hi]
  have l : NuL c N x.st.s.W := ⟨k.tg, by rw [h.s.ok.len]; exact k.len⟩
  -- a leave
  have lv : ∀ z : Nu, z.U.length = n → NuI c n N ml z → nwt c (nuLeave z i) i ≤ nwt c z i ∧ ((sv z.U i).pc = 10 → nwt c (nuLeave z i) i + 1 ≤ nwt c z i) ∧ (∀ j, j ≠ i → nwt c (nuLeave z i) j = nwt c z j) ∧ ((sv z.U i).pc ≠ 10 → nuLeave z i = z) := fun z hz hI => by
    have hzl : i < z.U.length := by rw [hz]; exact hi
    unfold nuLeave
    split
    · rename_i h10
      have hk := hI.k i hi
      have ha : (sv z.U i).a = 0 ∨ (sv z.U i).a = 1 := by unfold linkN at hk; omega
      have e : nwt c { z with U := z.U.set i { (sv z.U i) with pc := 12 - (sv z.U i).a } } i + 1 ≤ nwt c z i := by
        rw [show ({ z with U := z.U.set i { (sv z.U i) with pc := 12 - (sv z.U i).a } } : Nu) = ⟨z.st, z.d, z.U.set i { (sv z.U i) with pc := 12 - (sv z.U i).a }⟩ from rfl, nwt_set hzl]
        unfold nwt
        obtain ⟨p, hp⟩ : ∃ p, p = sv z.U i := ⟨_, rfl⟩
        rw [← hp] at h10 ha ⊢
        obtain ⟨pc, u, b, w⟩ := p
        simp only at h10 ha ⊢
        subst h10
        rcases ha with rfl | rfl
        · show 2 + _ + 0 + 1 ≤ 3 + _ + 0; omega
        · show 6 + _ + 0 + 1 ≤ 7 + _ + 0; omega
      refine ⟨by omega, fun _ => e, fun j hji => ?_, fun hne => absurd h10 hne⟩
      unfold nwt
      simp only
      rw [svS hzl, if_neg hji]
    · rename_i h10
      exact ⟨Nat.le_refl _, fun q => absurd q h10, fun _ _ => rfl, fun _ => rfl⟩
  by_cases h0 : (sv x.U i).pc = 0
  · have e : nuStep c N x i = x := by unfold nuStep; rw [if_pos (.inl h0)]
    rw [e, (lv x hlen h.s.i).2.2.2 (by omega)]
    refine .inr ⟨rfl, fun hw => ?_, fun j _ _ hw => hw⟩
    unfold NWit at hw; omega
  by_cases h10 : (sv x.U i).pc = 10
  · have e : nuStep c N x i = x := by unfold nuStep; rw [if_pos (.inr h10)]
    rw [e]
    have q := lv x hlen h.s.i
    exact .inl (sumN_drop (e := 0) hn hi (by have := q.2.1 h10; omega) (fun j _ hji => by rw [q.2.2.1 j hji]; exact Nat.le_refl _))
  · have hI' := h.s.i.step k.y l h.s.ok.bd hB hB2 hi
    have q := lv _ hI'.lU hI'
    have g := nu_go h.s.i h.l k.y l h.s.ok.bd hB hB2 hm4 hN hi h0 h10
    by_cases hw : NWit c x i
    · obtain ⟨e, g1, g2⟩ := g.1 hw
      exact .inl (sumN_drop (e := e) hn hi (by omega) (fun j hj hji => by rw [q.2.2.1 j hji]; exact g2 j hj hji))
    · obtain ⟨g0, g1, g2⟩ := g.2 hw
      rw [q.2.2.2 (by rw [g0]; exact h10)]
      refine .inr ⟨sumN_eq n (fun j hj => ?_), hw, fun j hj hji hwj => (g2 j hj hji).2 hwj⟩
      by_cases e : j = i
      · rw [e]; exact g1
      · exact (g2 j hj e).1
/-- enough rounds -/
theorem nu_all (h : NuT c n N L ml B x) (k : NuK c n N L ml) (hB : 40 ≤ B) (hB2 : B ≤ 100000000000) (hm4 : c.m ≤ 4) (hN : N ≤ 32) (hn : n ≤ 6) {R : Nat} (hR : 170 * n < R) (hR2 : R ≤ 1000000) :
    nuRest n (rounds (nuTurn c N) n R x) := by
  have key := rounds_rest (X := Nu) (inv := fun m z => NuT c n N L ml (B + 8 * (m : Int)) z) (turn := nuTurn c N) (n := n) (F := fun z => sumN n (nwt c z)) (wit := NWit c) (rest := nuRest n) (6 * 1000000)
    (fun m z i hm hz hi => by
      have h1 := hz.act k (by omega) (by omega) hm4 0 (i : Int)
      have h2 := h1.act k (by omega) (by omega) hm4 2 (i : Int)
      have e : B + 8 * ((m + 1 : Nat) : Int) = B + 8 * (m : Int) + 4 + 4 := by omega
      show NuT c n N L ml (B + 8 * ((m + 1 : Nat) : Int)) _
      rw [e]; exact h2)
    (fun m z i hm hz hi => nu_turn hz k (by omega) (by omega) hm4 hN hn hi)
    (fun m z hm hz hr => nu_alive hz.s.i hz.l k.y hr)
    (fun z i hi hz => by
      have h0 := hz i hi
      have e0 : actNu c N z 0 (i : Int) = z := by
        unfold actNu
        split
        · rw [if_pos rfl]
          unfold nuStep
          rw [Int.toNat_natCast, if_pos (.inl h0)]
        · rfl
      have e2 : actNu c N z 2 (i : Int) = z := by
        unfold actNu
        split
        · rw [if_neg (by decide), if_neg (by decide), if_pos rfl]
          unfold nuLeave
          rw [Int.toNat_natCast, if_neg (by omega)]
        · rfl
      show actNu c N (actNu c N z 0 (i : Int)) 2 (i : Int) = z
      rw [e0, e2])
    (x := x) (by show NuT c n N L ml (B + 8 * ((0 : Nat) : Int)) x; simpa using h) R (by
      have : n * R ≤ 6 * R := Nat.mul_le_mul_right R hn
      omega)
  rcases key.2 with q | q
  · exact q
  · exfalso
    have h2 := sumN_le (f := nwt c x) (b := 170) n (fun i hi => nwt_le h.s.i h.l k.y hN hi)
    have q' : sumN n (nwt c (rounds (nuTurn c N) n R x)) + R ≤ sumN n (nwt c x) := q
    omega
end
end Go.Proofs.YtndipiockdmaoaaGreat
end
