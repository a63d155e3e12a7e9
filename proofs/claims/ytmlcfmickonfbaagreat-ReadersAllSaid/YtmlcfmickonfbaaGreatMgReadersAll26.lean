/- Joined: Lv3. -/
import Derived.Test.YtmlcfmickonfbaaGreatMgReadersAll25
section
set_option linter.unusedVariables false
set_option linter.unusedSimpArgs false
/- Layer 24 (cohort), plain: what holds behind any acts, so that the lock never stands still. No program in sight. -/
namespace Go.Proofs.YtmlcfmickonfbaaGreat
open Go

/-- a thread that will see to its node's global lock -/
def seeP (p : Sp) : Prop := p.pc = 1 ∨ p.pc = 2 ∨ p.pc = 4 ∨ (10 ≤ p.pc ∧ p.pc ≤ 14)
structure CoL (c : CoC) (n N : Nat) (ml : Nat → Nat) (st : Co) : Prop where
  fG : LvF c.kg c.tg c.m N (ldW st.s.W) (sv st.G)
  fL : ∀ a, a < N → LvF c.kl (c.tl a) c.m (ml a) (ldW st.s.W) (sv (st.L.getD a []))
  bG : ∀ a, a < N → tasB c.kg (sv st.G a)
  bL : ∀ a, a < N → ∀ z, z < ml a → tasB c.kl (lsp st.L a z)
  ow : ∀ a, a < N → ∀ z, z < ml a → (lsp st.L a z).pc ≠ 0 → ∃ j, j < n ∧ c.node j = a ∧ c.slot j = z
  pa : ∀ a, a < N → (sv st.G a).pc = 10 → ∃ j, j < n ∧ c.node j = a ∧ seeP (sv st.T j)
  q13 : ∀ i, i < n → (sv st.T i).pc = 13 → ∃ j, j < n ∧ c.node j = c.node i ∧ (sv st.T j).pc = 1
section
variable {c : CoC} {n N : Nat} {ml : Nat → Nat} {st st' : Co}
theorem CoL.upd (h : CoL c n N ml st) (hM : CoM c n N ml st) (y : CoLy c n N ml) {i : Nat} (hi : i < n) {p' : Sp} (hT : st'.T = st.T.set i p')
    (fG : LvF c.kg c.tg c.m N (ldW st'.s.W) (sv st'.G)) (fL : ∀ a, a < N → LvF c.kl (c.tl a) c.m (ml a) (ldW st'.s.W) (sv (st'.L.getD a [])))
    (bG : tasB c.kg (sv st'.G (c.node i))) (gne : ∀ a, a ≠ c.node i → sv st'.G a = sv st.G a)
    (bL : tasB c.kl (lsp st'.L (c.node i) (c.slot i))) (lne : ∀ a z, ¬ (a = c.node i ∧ z = c.slot i) → lsp st'.L a z = lsp st.L a z)
    (hpa : (sv st'.G (c.node i)).pc = 10 → seeP p' ∨ ∃ j, j < n ∧ j ≠ i ∧ c.node j = c.node i ∧ seeP (sv st.T j))
    (hq : p'.pc = 13 → ∃ j, j < n ∧ j ≠ i ∧ c.node j = c.node i ∧ (sv st.T j).pc = 1)
    (hq1 : (sv st.T i).pc = 1 → p'.pc = 1 ∨ ∀ k, k < n → k ≠ i → c.node k = c.node i → (sv st.T k).pc ≠ 13) (hs : seeP (sv st.T i) → seeP p' ∨ (sv st'.G (c.node i)).pc ≠ 10 ∨ ∃ j, j < n ∧ j ≠ i ∧ c.node j = c.node i ∧ seeP (sv st.T j)) : CoL c n N ml st' := by
  have hiT : i < st.T.length := by have := hM.v.lT; omega
  have hs' := svS hiT p'
  refine ⟨fG, fL, fun a ha => ?_, fun a ha z hz => ?_, fun a ha z hz hp => ?_, fun a ha hg => ?_, fun k hk h13 => ?_⟩
  · by_cases e : a = c.node i
    · rw [e]; exact bG
    · rw [gne a e]; exact h.bG a ha
  · by_cases e : a = c.node i ∧ z = c.slot i
    · rw [e.1, e.2]; exact bL
    · rw [lne a z e]; exact h.bL a ha z hz
  · by_cases e : a = c.node i ∧ z = c.slot i
    · exact ⟨i, hi, e.1.symm, e.2.symm⟩
    · rw [lne a z e] at hp; exact h.ow a ha z hz hp
  · by_cases e : a = c.node i
    · rw [e] at hg ⊢
      rcases hpa hg with q | ⟨j, hj, hji, hn, hse⟩
      · exact ⟨i, hi, rfl, by rw [hT, hs', if_pos rfl]; exact q⟩
      · exact ⟨j, hj, hn, by rw [hT, hs', if_neg hji]; exact hse⟩
    · rw [gne a e] at hg
      obtain ⟨j, hj, hn, hse⟩ := h.pa a ha hg
      have hji : j ≠ i := fun e2 => e (by rw [← hn, e2])
      exact ⟨j, hj, hn, by rw [hT, hs', if_neg hji]; exact hse⟩
  · rw [hT, hs'] at h13
    by_cases e : k = i
    · rw [if_pos e] at h13
      obtain ⟨j, hj, hji, hn, h1⟩ := hq h13
      exact ⟨j, hj, by rw [e]; exact hn, by rw [hT, hs', if_neg hji]; exact h1⟩
    · rw [if_neg e] at h13
      obtain ⟨j, hj, hn, h1⟩ := h.q13 k hk h13
      by_cases e2 : j = i
      · rw [e2] at h1 hn
        rcases hq1 h1 with q | q
        · exact ⟨i, hi, hn, by rw [hT, hs', if_pos rfl]; exact q⟩
        · exact absurd h13 (q k hk e hn.symm)
      · exact ⟨j, hj, hn, by rw [hT, hs', if_neg e2]; exact h1⟩
/-- another lock's words have turned -/
theorem CoL.frL (h : CoL c n N ml st) (hM : CoM c n N ml st) (y : CoLy c n N ml) {a : Nat} (ha : a < N) {W' : List Int} (hf : ∀ x, ¬ (c.tl a ≤ x ∧ x < c.tl a + szI c.kl (ml a) c.m) → ldW W' x = ldW st.s.W x) :
    LvF c.kg c.tg c.m N (ldW W') (sv st.G) ∧ ∀ b, b < N → b ≠ a → LvF c.kl (c.tl b) c.m (ml b) (ldW W') (sv (st.L.getD b [])) := by
  have g1 := y.gl a ha
  have c1 := y.cw a ha
  refine ⟨h.fG.congr y.k.1 hM.fG.m1 (fun x h1 h2 => hf x (by omega)), fun b hb hn => (h.fL b hb).congr y.k.2 hM.fG.m1 (fun x h1 h2 => hf x ?_)⟩
  have := y.ap a b ha hb (fun e => hn e.symm)
  have c2 := y.cw b hb
  omega
theorem CoL.frG (h : CoL c n N ml st) (hM : CoM c n N ml st) (y : CoLy c n N ml) {W' : List Int} (hf : ∀ x, ¬ (c.tg ≤ x ∧ x < c.tg + szI c.kg N c.m) → ldW W' x = ldW st.s.W x) :
    ∀ b, b < N → LvF c.kl (c.tl b) c.m (ml b) (ldW W') (sv (st.L.getD b [])) := fun b hb => (h.fL b hb).congr y.k.2 hM.fG.m1 (fun x h1 h2 => hf x (by have := y.gl b hb; omega))
theorem CoL.frC (h : CoL c n N ml st) (hM : CoM c n N ml st) (y : CoLy c n N ml) {a : Nat} (ha : a < N) (u : Int) :
    LvF c.kg c.tg c.m N (ldW (stW st.s.W (c.cw a) u)) (sv st.G) ∧ ∀ b, b < N → LvF c.kl (c.tl b) c.m (ml b) (ldW (stW st.s.W (c.cw a) u)) (sv (st.L.getD b [])) := by
  have hw := ldW_st (inR_true.2 (hM.lW a ha)) u
  have g1 := y.gl a ha
  have c1 := y.cw a ha
  have s1 := y.sz a ha
  refine ⟨h.fG.congr y.k.1 hM.fG.m1 (fun x h1 h2 => by rw [hw, if_neg (by omega)]), fun b hb => (h.fL b hb).congr y.k.2 hM.fG.m1 (fun x h1 h2 => by
    rw [hw, if_neg]
    by_cases e : b = a
    · subst e; omega
    · have := y.ap a b ha hb (fun e2 => e e2.symm)
      have := y.cw b hb
      omega)⟩
theorem CoL.setLL (hM : CoM c n N ml st) {i : Nat} (ha : c.node i < N) {f : Int → Int} (fL : ∀ b, b < N → b ≠ c.node i → LvF c.kl (c.tl b) c.m (ml b) f (sv (st.L.getD b []))) {p : Sp} (hp : LvF c.kl (c.tl (c.node i)) c.m (ml (c.node i)) f (sv ((st.L.getD (c.node i) []).set (c.slot i) p))) :
    ∀ b, b < N → LvF c.kl (c.tl b) c.m (ml b) f (sv ((setL c st i p).getD b [])) := fun b hb => by
  unfold setL
  rw [lset_getD _ _ _ _ (by rw [hM.lL]; exact ha)]
  split
  · rename_i e; rw [e]; exact hp
  · rename_i e; exact fL b hb e
theorem setL_ne (hM : CoM c n N ml st) (y : CoLy c n N ml) {i : Nat} (hi : i < n) (q : Sp) : (∀ a z, ¬ (a = c.node i ∧ z = c.slot i) → lsp (setL c st i q) a z = lsp st.L a z) ∧ lsp (setL c st i q) (c.node i) (c.slot i) = q := by
  have ha := y.nd i hi
  have hl := hM.v.lL i hi
  unfold setL
  refine ⟨fun a z hne => ?_, ?_⟩
  · rw [lsp_lset hl.1 hl.2, if_neg (fun e => hne ⟨e.1.symm, e.2.symm⟩)]
  · rw [lsp_lset hl.1 hl.2, if_pos ⟨rfl, rfl⟩]
theorem sv_mem {l : List Sp} {w : Nat} (h : w < l.length) : sv l w ∈ l := by
  unfold sv
  rw [List.getD_eq_getElem?_getD, List.getElem?_eq_getElem h]
  exact List.getElem_mem h
theorem tasB_ask {k : Nat} {p : Sp} (h : tasB k p) : tasB k (askK k p) := by
  unfold askK
  split
  · intro e
    rw [if_pos e]
    exact ⟨fun _ => by simp, fun q => by simp at q⟩
  · exact h
theorem tasB_leave {k : Nat} {p : Sp} (h : tasB k p) : tasB k (leaveK p) := by
  unfold leaveK
  split
  · intro e
    exact ⟨fun q => by simp at q, fun q => by simp at q⟩
  · exact h
theorem CoL.ask (h : CoL c n N ml st) (hM : CoM c n N ml st) (y : CoLy c n N ml) {i : Nat} (hi : i < n) : CoL c n N ml (coAsk c st i) := by
  unfold coAsk
  split
  · rename_i h0
    have ha := y.nd i hi
    have hk := hM.v.k i hi
    have hl0 : (lsp st.L (c.node i) (c.slot i)).pc = 0 := by unfold linkP at hk; omega
    have hS := setL_ne hM y hi (askK c.kl (lsp st.L (c.node i) (c.slot i)))
    refine h.upd hM y hi (p' := { (sv st.T i) with pc := 1 }) rfl h.fG ?_ (h.bG _ ha.1) (fun _ _ => rfl) ?_ hS.1 (fun _ => .inl (.inl rfl)) (fun e => by simp at e) (fun e => by omega) (fun e => by unfold seeP at e; omega)
    · exact CoL.setLL hM ha.1 (fun b hb _ => h.fL b hb) ((h.fL _ ha.1).upd (hM.fL _ ha.1) y.k.2 ha.2 (.inl ⟨hl0, askK_pc hl0⟩))
    · show tasB c.kl (lsp (setL c st i _) _ _)
      rw [hS.2]; exact tasB_ask (h.bL _ ha.1 _ ha.2)
  · exact h
theorem CoL.leave (h : CoL c n N ml st) (hM : CoM c n N ml st) (y : CoLy c n N ml) {i : Nat} (hi : i < n) : CoL c n N ml (coLeave st i) := by
  unfold coLeave
  split
  · rename_i h0
    have ha := y.nd i hi
    have s11 : seeP { (sv st.T i) with pc := 11 } := .inr (.inr (.inr ⟨by show (10 : Int) ≤ 11; decide, by show (11 : Int) ≤ 14; decide⟩))
    exact h.upd hM y hi (p' := { (sv st.T i) with pc := 11 }) rfl h.fG h.fL (h.bG _ ha.1) (fun _ _ => rfl) (h.bL _ ha.1 _ ha.2) (fun _ _ _ => rfl) (fun _ => .inl s11) (fun e => by simp at e) (fun e => by omega) (fun _ => .inl s11)
  · exact h
set_option maxHeartbeats 1000000 in
theorem CoL.step (h : CoL c n N ml st) (hM : CoM c n N ml st) (y : CoLy c n N ml) {B : Int} (hB : CoB c B st) (hB0 : 1 ≤ B) (hB1 : B ≤ 10000000000000) (hm4 : c.m ≤ 4) {i : Nat} (hi : i < n) : CoL c n N ml (coStep c st i) := by
  have hM' := hM.step y hB hB0 hB1 hi
  have ha := y.nd i hi
  have hlk := hM.v.k i hi
  have hq := hM.v.lpc hi
  have hg := hM.v.gpc hi
  have sL := stepK_pc (t := c.tl (c.node i)) (m := c.m) (s := st.s) (i := (c.slot i : Int)) y.k.2 hq
  have sG := stepK_pc (t := c.tg) (m := c.m) (s := st.s) (i := (c.node i : Int)) y.k.1 hg
  have hiT : i < st.T.length := by have := hM.v.lT; omega
  have hGl : c.node i < st.G.length := by rw [hM.fG.len]; exact ha.1
  have gne : ∀ q a, a ≠ c.node i → sv (st.G.set (c.node i) q) a = sv st.G a := fun q a e => by rw [svS hGl, if_neg e]
  have geq : ∀ q, sv (st.G.set (c.node i) q) (c.node i) = q := fun q => by rw [svS hGl, if_pos rfl]
  have hst := hM.sj i hi
  have hmm : 1 ≤ c.m ∧ c.m ≤ 4 := ⟨hM.fG.m1, hm4⟩
  have hfr : ¬ busyP (sv st.T i) → (lsp st.L (c.node i) (c.slot i)).pc = 10 → FrP (sv st.G (c.node i)) (ldW st.s.W (c.cw (c.node i))) := fun hb h10 => by
    refine hM.fr _ ha.1 (fun j hj hn hbj => ?_)
    have e := hM.uniq y hi hj hn.symm h10 hbj
    rw [← e] at hbj
    exact hb hbj
  -- another at 13 keeps this one out
  have no13 : (lsp (coStep c st i).L (c.node i) (c.slot i)).pc = 10 → (∀ k, k ≠ i → sv (coStep c st i).T k = sv st.T k) → ∀ k, k < n → k ≠ i → c.node k = c.node i → (sv st.T k).pc ≠ 13 := fun h10 hTk k hk hki hn h13 => by
    refine hki (hM'.uniq y hi hk hn.symm h10 ?_).symm
    rw [hTk k hki]
    unfold busyP; omega
  have wk : ∀ p', ∀ k, k ≠ i → sv (st.T.set i p') k = sv st.T k := fun p' k e => by rw [svS hiT, if_neg e]
  have hpaI : seeP (sv st.T i) → ∀ p', seeP p' → (sv st.G (c.node i)).pc = 10 → seeP p' ∨ ∃ j, j < n ∧ j ≠ i ∧ c.node j = c.node i ∧ seeP (sv st.T j) := fun _ p' hp _ => .inl hp
  have hpaO : ¬ seeP (sv st.T i) → (sv st.G (c.node i)).pc = 10 → ∃ j, j < n ∧ j ≠ i ∧ c.node j = c.node i ∧ seeP (sv st.T j) := fun hns hg => by
    obtain ⟨j, hj, hn, hse⟩ := h.pa _ ha.1 hg
    exact ⟨j, hj, fun e => hns (by rw [e] at hse; exact hse), hn, hse⟩
  unfold coStep at hM' no13 ⊢
  split
  · exact h
  rename_i hne
  rw [if_neg hne] at hM' no13
  obtain ⟨p, hp⟩ : ∃ p, p = sv st.T i := ⟨_, rfl⟩
  rw [← hp] at hlk hne hst hfr hM' no13 hpaI hpaO ⊢
  have hc : p.pc = 1 ∨ p.pc = 2 ∨ p.pc = 3 ∨ p.pc = 4 ∨ p.pc = 11 ∨ p.pc = 12 ∨ p.pc = 13 ∨ p.pc = 14 ∨ p.pc = 15 ∨ p.pc = 16 := by unfold linkP at hlk; omega
  have hbp : ¬ busyP p → ¬ busyP (sv st.T i) := by rw [hp]; exact id
  -- a step of the local lock
  have LS := (hM.fL _ ha.1).step y.k.2 hB.w (by omega) hB1 ha.2 hq
  have LF := h.frL hM y ha.1 LS.2
  have LV := (h.fL _ ha.1).step (hM.fL _ ha.1) y.k.2 hB.w (by omega) hB1 ha.2 hq
  have inL : inR st.s.W (c.tl (c.node i)) = true := by
    have f := hM.fL _ ha.1
    have := f.m1
    have g1 := y.gl _ ha.1
    exact inOwn f (Int.le_refl _) (by have hk := y.k.2; unfold szI; (repeat' split) <;> omega)
  have inG : inR st.s.W c.tg = true := inOwn hM.fG (Int.le_refl _) (by have hk := y.k.1; have := hM.fG.m1; unfold szI; (repeat' split) <;> omega)
  -- of the global one
  have GS := hM.fG.step y.k.1 hB.w (by omega) hB1 ha.1 hg
  have GF := h.frG hM y GS.2
  have GV := h.fG.step hM.fG y.k.1 hB.w (by omega) hB1 ha.1 hg
  have tL : (lsp st.L (c.node i) (c.slot i)).pc ≠ 0 → (lsp st.L (c.node i) (c.slot i)).pc ≠ 10 → tasB c.kl (stL c st i).2 := fun a0 a1 => (lv_step y.k.2 hq (h.bL _ ha.1 _ ha.2) hmm inL ⟨a0, a1⟩).tb
  have tG : (sv st.G (c.node i)).pc ≠ 0 → (sv st.G (c.node i)).pc ≠ 10 → tasB c.kg (stG c st i).2 := fun a0 a1 => (lv_step y.k.1 hg (h.bG _ ha.1) hmm inG ⟨a0, a1⟩).tb
  obtain ⟨pc, u, b, z⟩ := p
  simp only at hc
  have hL10 : pc ≠ 0 → pc ≠ 1 → pc ≠ 16 → (lsp st.L (c.node i) (c.slot i)).pc = 10 := fun a0 a1 a2 => by unfold linkP at hlk; simp only at hlk; omega
  have fLs : ∀ b, b < N → LvF c.kl (c.tl b) c.m (ml b) (ldW (stL c st i).1.W) (sv ((setL c st i (stL c st i).2).getD b [])) := CoL.setLL hM ha.1 LF.2 LV
  have hSL := setL_ne hM y hi (stL c st i).2
  have hSv := setL_ne hM y hi (leaveK (lsp st.L (c.node i) (c.slot i)))
  have bl0 := h.bL _ ha.1 _ ha.2
  have bg0 := h.bG _ ha.1
  rcases hc with rfl | rfl | rfl | rfl | rfl | rfl | rfl | rfl | rfl | rfl
  · rw [mv1] at hM' no13 ⊢
    have hl1 : 0 < (lsp st.L (c.node i) (c.slot i)).pc ∧ (lsp st.L (c.node i) (c.slot i)).pc < 10 := by unfold linkP at hlk; simp only at hlk; omega
    have ec : camL c st i = decide ((stL c st i).2.pc = 10) := came_in hl1.1 hl1.2 (sL.2.1 hl1.1 hl1.2).1
    have hse : seeP (if camL c st i then ⟨2, u, b, z⟩ else ⟨1, u, b, z⟩ : Sp) := by unfold seeP; split <;> simp
    refine h.upd hM y hi (p' := if camL c st i then ⟨2, u, b, z⟩ else ⟨1, u, b, z⟩) rfl LF.1 fLs bg0 (fun _ _ => rfl) ?_ hSL.1 (fun _ => .inl hse) (fun e => by split at e <;> simp at e) (fun _ => ?_) (fun _ => .inl hse)
    · show tasB c.kl (lsp (setL c st i _) _ _)
      rw [hSL.2]; exact tL (by omega) (by omega)
    · by_cases e : camL c st i = true
      · right
        refine no13 ?_ (wk _)
        show (lsp (setL c st i _) _ _).pc = 10
        rw [hSL.2]
        rw [ec] at e
        exact of_decide_eq_true e
      · left; rw [if_neg e]
  · have h10 := hL10 (by decide) (by decide) (by decide)
    have hF := (hfr (by unfold busyP; simp) h10).of
    rw [mv2] at hM' ⊢
    split
    · have hse : seeP ⟨10, ldW st.s.W (c.cw (c.node i)), b, z⟩ := by unfold seeP; simp
      exact h.upd hM y (p' := ⟨10, ldW st.s.W (c.cw (c.node i)), b, z⟩) hi rfl (by show LvF _ _ _ _ (ldW (loadA _ _).W) _; rw [loadA_W]; exact h.fG) (fun a ha' => by show LvF _ _ _ _ (ldW (loadA _ _).W) _; rw [loadA_W]; exact h.fL a ha') bg0 (fun _ _ => rfl) bl0 (fun _ _ _ => rfl) (fun _ => .inl hse) (fun e => by simp at e) (fun e => by rw [← hp] at e; simp at e) (fun _ => .inl hse)
    · rename_i hpos
      have g0 := hF.2 hpos
      have hn10 : (sv (st.G.set (c.node i) (askK c.kg (sv st.G (c.node i)))) (c.node i)).pc ≠ 10 := by rw [geq, askK_pc g0]; decide
      exact h.upd hM y (p' := ⟨3, ldW st.s.W (c.cw (c.node i)), b, z⟩) hi rfl (by show LvF _ _ _ _ (ldW (loadA _ _).W) _; rw [loadA_W]; exact h.fG.upd hM.fG y.k.1 ha.1 (.inl ⟨g0, askK_pc g0⟩)) (fun a ha' => by show LvF _ _ _ _ (ldW (loadA _ _).W) _; rw [loadA_W]; exact h.fL a ha') (by show tasB _ (sv (st.G.set _ _) _); rw [geq]; exact tasB_ask bg0) (fun a e => gne _ a e) bl0 (fun _ _ _ => rfl) (fun e => absurd e hn10) (fun e => by simp at e) (fun e => by rw [← hp] at e; simp at e) (fun _ => .inr (.inl hn10))
  · have h10 := hL10 (by decide) (by decide) (by decide)
    have hs3 := hst.1 rfl
    have s2 := sG.2.1 hs3.1.1 hs3.1.2
    have ec : camG c st i = decide ((stG c st i).2.pc = 10) := came_in hs3.1.1 hs3.1.2 s2.1
    rw [mv3] at hM' ⊢
    refine h.upd hM y (p' := if camG c st i then ⟨4, u, b, z⟩ else ⟨3, u, b, z⟩) hi rfl GV GF (by show tasB _ (sv (st.G.set _ _) _); rw [geq]; exact tG (by omega) (by omega)) (fun a e => gne _ a e) bl0 (fun _ _ _ => rfl) (fun e => .inl ?_) (fun e => by split at e <;> simp at e) (fun e => by rw [← hp] at e; simp at e) (fun e => by rw [← hp] at e; unfold seeP at e; simp at e)
    have e' : (sv (st.G.set (c.node i) (stG c st i).2) (c.node i)).pc = 10 := e
    rw [geq] at e'
    rw [ec, decide_eq_true e']
    unfold seeP; simp
  · have CF := h.frC hM y ha.1 1
    rw [mv4] at hM' ⊢
    have hse : seeP ⟨10, 1, b, z⟩ := by unfold seeP; simp
    exact h.upd hM y (p' := ⟨10, 1, b, z⟩) hi rfl (by show LvF _ _ _ _ (ldW (storeA _ _ _).W) _; rw [storeA_W]; exact CF.1) (fun a ha' => by show LvF _ _ _ _ (ldW (storeA _ _ _).W) _; rw [storeA_W]; exact CF.2 a ha') bg0 (fun _ _ => rfl) bl0 (fun _ _ _ => rfl) (fun _ => .inl hse) (fun e => by simp at e) (fun e => by rw [← hp] at e; simp at e) (fun _ => .inl hse)
  · rw [mv11] at hM' ⊢
    have hse : seeP ⟨if c.bud < ldW st.s.W (c.cw (c.node i)) then 14 else 12, ldW st.s.W (c.cw (c.node i)), b, z⟩ := by unfold seeP; simp only; split <;> simp
    exact h.upd hM y (p' := ⟨if c.bud < ldW st.s.W (c.cw (c.node i)) then 14 else 12, ldW st.s.W (c.cw (c.node i)), b, z⟩) hi rfl (by show LvF _ _ _ _ (ldW (loadA _ _).W) _; rw [loadA_W]; exact h.fG) (fun a ha' => by show LvF _ _ _ _ (ldW (loadA _ _).W) _; rw [loadA_W]; exact h.fL a ha') bg0 (fun _ _ => rfl) bl0 (fun _ _ _ => rfl) (fun _ => .inl hse) (fun e => by simp only at e; split at e <;> omega) (fun e => by rw [← hp] at e; simp at e) (fun _ => .inl hse)
  · have h10 := hL10 (by decide) (by decide) (by decide)
    rw [mv12] at hM' ⊢
    have hal : (aloneK c.kl (c.tl (c.node i)) st.s (c.slot i) (lsp st.L (c.node i) (c.slot i))).1.W = st.s.W := by
      unfold aloneK
      (repeat' split) <;> first | rfl | exact loadA_W _ _
    have hse : seeP ⟨if passB u c.bud (aloneK c.kl (c.tl (c.node i)) st.s (c.slot i) (lsp st.L (c.node i) (c.slot i))).2 then 13 else 14, u, b, z⟩ := by unfold seeP; simp only; split <;> simp
    refine h.upd hM y (p' := ⟨if passB u c.bud (aloneK c.kl (c.tl (c.node i)) st.s (c.slot i) (lsp st.L (c.node i) (c.slot i))).2 then 13 else 14, u, b, z⟩) hi rfl (by show LvF _ _ _ _ (ldW (aloneK _ _ _ _ _).1.W) _; rw [hal]; exact h.fG) (fun a ha' => by show LvF _ _ _ _ (ldW (aloneK _ _ _ _ _).1.W) _; rw [hal]; exact h.fL a ha') bg0 (fun _ _ => rfl) bl0 (fun _ _ _ => rfl) (fun _ => .inl hse) (fun e => ?_) (fun e => by rw [← hp] at e; simp at e) (fun _ => .inl hse)
    have hpass : passB u c.bud (aloneK c.kl (c.tl (c.node i)) st.s (c.slot i) (lsp st.L (c.node i) (c.slot i))).2 = true := by
      apply Classical.byContradiction
      intro hn
      simp only [hn] at e
      simp at e
    unfold passB at hpass
    simp only [Bool.and_eq_true, decide_eq_true_eq, Bool.not_eq_true'] at hpass
    obtain ⟨w, hw, hwi, hw0, hw1⟩ := lv_alone (s := st.s) (hM.fL _ ha.1) y.k.2 (h.fL _ ha.1) (fun w hw => by
      have hx := hM.v.l (st.L.getD (c.node i) []) (by
        have := (hM.v.lL i hi).1
        rw [List.getD_eq_getElem?_getD, List.getElem?_eq_getElem this]
        exact List.getElem_mem this)
      have hwl : w < (st.L.getD (c.node i) []).length := by rw [(hM.fL _ ha.1).len]; exact hw
      exact hx _ (sv_mem hwl)) ha.2 h10 hpass.2
    obtain ⟨j, hj, hn, hsj⟩ := h.ow _ ha.1 w hw (by rw [ls_sv]; omega)
    have hkj := hM.v.k j hj
    rw [hn, hsj, ls_sv] at hkj
    refine ⟨j, hj, fun e2 => hwi (by rw [← hsj, e2]), hn, ?_⟩
    unfold linkP at hkj; omega
  · have h10 := hL10 (by decide) (by decide) (by decide)
    have CF := h.frC hM y ha.1 (u + 1)
    have CM := hM.frC y ha.1 (u + 1)
    obtain ⟨j, hj, hn, h1⟩ := h.q13 i hi (by rw [← hp])
    have hji : j ≠ i := fun e => by rw [e, ← hp] at h1; simp at h1
    rw [mv13] at hM' ⊢
    refine h.upd hM y (p' := ⟨16, u, b, z⟩) hi rfl (by show LvF _ _ _ _ (ldW (storeA _ _ _).W) _; rw [storeA_W]; exact CF.1) ?_ bg0 (fun _ _ => rfl) (by show tasB c.kl (lsp (setL c st i _) _ _); rw [hSv.2]; exact tasB_leave bl0) hSv.1 (fun _ => .inr ⟨j, hj, hji, hn, .inl h1⟩) (fun e => by simp at e) (fun e => by rw [← hp] at e; simp at e) (fun _ => .inr (.inr ⟨j, hj, hji, hn, .inl h1⟩))
    show ∀ b, b < N → LvF _ _ _ _ (ldW (storeA _ _ _).W) _
    rw [storeA_W]
    exact CoL.setLL hM ha.1 (fun b hb _ => CF.2 b hb) ((CF.2 _ ha.1).upd (CM.2.1 _ ha.1) y.k.2 ha.2 (.inr ⟨h10, leaveK_pc h10, by unfold leaveK; rw [if_pos h10]; rfl⟩))
  · have hs := hst.2.2.1 (by simp)
    have CF := h.frC hM y ha.1 0
    have CM := hM.frC y ha.1 0
    rw [mv14] at hM' ⊢
    have hn10 : (sv (st.G.set (c.node i) (leaveK (sv st.G (c.node i)))) (c.node i)).pc ≠ 10 := by rw [geq, leaveK_pc hs]; decide
    refine h.upd hM y (p' := ⟨15, u, b, z⟩) hi rfl ?_ (fun a ha' => by show LvF _ _ _ _ (ldW (storeA _ _ _).W) _; rw [storeA_W]; exact CF.2 a ha') (by show tasB _ (sv (st.G.set _ _) _); rw [geq]; exact tasB_leave bg0) (fun a e => gne _ a e) bl0 (fun _ _ _ => rfl) (fun e => absurd e hn10) (fun e => by simp at e) (fun e => by rw [← hp] at e; simp at e) (fun _ => .inr (.inl hn10))
    show LvF _ _ _ _ (ldW (storeA _ _ _).W) _
    rw [storeA_W]
    exact CF.1.upd CM.1 y.k.1 ha.1 (.inr ⟨hs, leaveK_pc hs, by unfold leaveK; rw [if_pos hs]⟩)
  · have h10 := hL10 (by decide) (by decide) (by decide)
    have hs := hst.2.2.2.2 rfl
    have s2 := sG.2.2 hs.1
    have hn10 : (sv (st.G.set (c.node i) (stG c st i).2) (c.node i)).pc ≠ 10 := by rw [geq]; show (stG c st i).2.pc ≠ 10; unfold stG; omega
    have tg := tG (by omega) (by omega)
    rw [mv15] at hM' ⊢
    split
    · refine h.upd hM y (p' := ⟨16, u, b, z⟩) hi rfl GV ?_ (by show tasB _ (sv (st.G.set _ _) _); rw [geq]; exact tg) (fun a e => gne _ a e) (by show tasB c.kl (lsp (setL c st i _) _ _); rw [hSv.2]; exact tasB_leave bl0) hSv.1 (fun e => absurd e hn10) (fun e => by simp at e) (fun e => by rw [← hp] at e; simp at e) (fun _ => .inr (.inl hn10))
      exact CoL.setLL hM ha.1 (fun b hb _ => GF b hb) ((GF _ ha.1).upd ((hM.frG y (near_stepK _ _ _ _ _ _).2 GS.2).1 _ ha.1) y.k.2 ha.2 (.inr ⟨h10, leaveK_pc h10, by unfold leaveK; rw [if_pos h10]; rfl⟩))
    · exact h.upd hM y (p' := ⟨15, u, b, z⟩) hi rfl GV GF (by show tasB _ (sv (st.G.set _ _) _); rw [geq]; exact tg) (fun a e => gne _ a e) bl0 (fun _ _ _ => rfl) (fun e => absurd e hn10) (fun e => by simp at e) (fun e => by rw [← hp] at e; simp at e) (fun _ => .inr (.inl hn10))
  · have hl1 : 10 < (lsp st.L (c.node i) (c.slot i)).pc := by unfold linkP at hlk; simp only at hlk; omega
    rw [mv16] at hM' ⊢
    have hns : ¬ seeP (⟨16, u, b, z⟩ : Sp) := by unfold seeP; simp
    refine h.upd hM y (p' := if camL c st i then ⟨0, u, b, z⟩ else ⟨16, u, b, z⟩) hi rfl LF.1 fLs bg0 (fun _ _ => rfl) ?_ hSL.1 (fun e => .inr (hpaO hns e)) (fun e => by split at e <;> simp at e) (fun e => by rw [← hp] at e; simp at e) (fun e => by rw [← hp] at e; exact absurd e hns)
    show tasB c.kl (lsp (setL c st i _) _ _)
    rw [hSL.2]; exact tL (by omega) (by omega)
end
end Go.Proofs.YtmlcfmickonfbaaGreat
end
