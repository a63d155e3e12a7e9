/- Joined: Lv4, Lv5, Lv6, Lv7. -/
import Derived.Test.YtmlcfmickonfbaaGreatMgReadersAll16
import Derived.Test.YtmlcfmickonfbaaGreatMgReadersAll26
section
set_option linter.unusedVariables false
set_option linter.unusedSimpArgs false
/- Layer 24 (cohort), plain: how far each thread is from where it goes; a step that leads on lowers that; some thread's step leads on. No program in sight. -/
namespace Go.Proofs.YtmlcfmickonfbaaGreat
open Go

def CWit (c : CoC) (st : Co) (i : Nat) : Prop :=
  (sv st.T i).pc = 2 ∨ (sv st.T i).pc = 4 ∨ (sv st.T i).pc = 11 ∨ (sv st.T i).pc = 12 ∨ (sv st.T i).pc = 13 ∨ (sv st.T i).pc = 14 ∨
    (((sv st.T i).pc = 1 ∨ (sv st.T i).pc = 16) ∧ FWit c.kl (c.tl (c.node i)) c.m st.s.W (c.slot i) (lsp st.L (c.node i) (c.slot i))) ∨
    (((sv st.T i).pc = 3 ∨ (sv st.T i).pc = 15) ∧ FWit c.kg c.tg c.m st.s.W (c.node i) (sv st.G (c.node i)))
/-- what is left, by where one is, and one's two slots -/
def cwP (pc : Int) (wl wg : Nat) : Nat :=
  if pc = 0 then 0 else if pc = 16 then wl else if pc = 15 then 5 + wg else if pc = 14 then 10 else if pc = 13 then 5 else if pc = 12 then 11 else if pc = 11 then 12 else if pc = 10 then 13
  else if pc = 4 then 14 else if pc = 3 then 15 + wg else if pc = 2 then 41 else 42 + wl
def cwt (c : CoC) (st : Co) (i : Nat) : Nat :=
  cwP (sv st.T i).pc (fw c.kl (freeK (c.tl (c.node i)) st.s.W) (lsp st.L (c.node i) (c.slot i))) (fw c.kg (freeK c.tg st.s.W) (sv st.G (c.node i)))
section
variable {c : CoC} {n N : Nat} {ml : Nat → Nat} {st st' : Co} {B : Int}
theorem cwP_mono {pc : Int} {wl wg wl' wg' e : Nat} (h1 : pc ≠ 3 → wl' ≤ wl + e) (h2 : (pc = 3 ∨ pc = 15) → wg' ≤ wg + e) : cwP pc wl' wg' ≤ cwP pc wl wg + e := by
  unfold cwP
  by_cases a0 : pc = 0
  · rw [if_pos a0, if_pos a0]; omega
  rw [if_neg a0, if_neg a0]
  by_cases a16 : pc = 16
  · rw [if_pos a16, if_pos a16]; omega
  rw [if_neg a16, if_neg a16]
  by_cases a15 : pc = 15
  · rw [if_pos a15, if_pos a15]; omega
  rw [if_neg a15, if_neg a15]
  by_cases a14 : pc = 14
  · rw [if_pos a14, if_pos a14]; omega
  rw [if_neg a14, if_neg a14]
  by_cases a13 : pc = 13
  · rw [if_pos a13, if_pos a13]; omega
  rw [if_neg a13, if_neg a13]
  by_cases a12 : pc = 12
  · rw [if_pos a12, if_pos a12]; omega
  rw [if_neg a12, if_neg a12]
  by_cases a11 : pc = 11
  · rw [if_pos a11, if_pos a11]; omega
  rw [if_neg a11, if_neg a11]
  by_cases a10 : pc = 10
  · rw [if_pos a10, if_pos a10]; omega
  rw [if_neg a10, if_neg a10]
  by_cases a4 : pc = 4
  · rw [if_pos a4, if_pos a4]; omega
  rw [if_neg a4, if_neg a4]
  by_cases a3 : pc = 3
  · rw [if_pos a3, if_pos a3]; omega
  rw [if_neg a3, if_neg a3]
  by_cases a2 : pc = 2
  · rw [if_pos a2, if_pos a2]; omega
  rw [if_neg a2, if_neg a2]
  have := h1 a3
  omega
theorem cwP_le {pc : Int} {wl wg : Nat} (h1 : wl ≤ 25) (h2 : wg ≤ 25) : cwP pc wl wg ≤ 67 := by
  unfold cwP
  (repeat' split) <;> omega
/-- another thread's own, where this one has acted -/
theorem cwt_oth (hM : CoM c n N ml st) (hL : CoL c n N ml st) (y : CoLy c n N ml) {i : Nat} (hi : i < n) {p' : Sp} (hT : st'.T = st.T.set i p') (hG : ∀ a, a ≠ c.node i → sv st'.G a = sv st.G a) (hGb : sv st'.G (c.node i) = sv st.G (c.node i) ∨ (lsp st.L (c.node i) (c.slot i)).pc = 10)
    (lne : ∀ a z, ¬ (a = c.node i ∧ z = c.slot i) → lsp st'.L a z = lsp st.L a z) {e : Nat} (hwl : ∀ a, a < N → c.kl = 1 → freeK (c.tl a) st'.s.W = freeK (c.tl a) st.s.W ∨ freeK (c.tl a) st'.s.W = true ∨ 4 ≤ e) (hwg : c.kg = 1 → freeK c.tg st'.s.W = freeK c.tg st.s.W ∨ freeK c.tg st'.s.W = true ∨ 4 ≤ e)
    {j : Nat} (hj : j < n) (hji : j ≠ i) : cwt c st' j ≤ cwt c st j + e := by
  have hiT : i < st.T.length := by have := hM.v.lT; omega
  have eT : sv st'.T j = sv st.T j := by rw [hT, svS hiT, if_neg hji]
  have eL : lsp st'.L (c.node j) (c.slot j) = lsp st.L (c.node j) (c.slot j) := lne _ _ (fun q => hji (y.inj j i hj hi q.1 q.2))
  have ha := y.nd j hj
  have bl := hL.bL _ ha.1 _ ha.2
  have bg := hL.bG _ ha.1
  have key : ∀ (k : Nat) (p : Sp) (f f' : Bool), pcK k p → tasB k p → (k = 1 → f' = f ∨ f' = true ∨ 4 ≤ e) → fw k f' p ≤ fw k f p + e := fun k p f f' hc hb h => by
    have h0 := fw_fr k hc hb f' f
    by_cases hk : k = 1
    · rcases h hk with q | q | q
      · rw [q]; omega
      · rw [q]
        cases f
        · have := h0.2.2; omega
        · omega
      · omega
    · rw [h0.2.1 hk]; omega
  unfold cwt
  rw [eT, eL]
  refine cwP_mono (fun _ => key _ _ _ _ (hM.v.lpc hj) bl (hwl _ ha.1)) (fun hpc => ?_)
  have eG : sv st'.G (c.node j) = sv st.G (c.node j) := by
    by_cases q : c.node j = c.node i
    · rcases hGb with q2 | q2
      · rw [q]; exact q2
      · exact absurd (hM.uniq y hi hj q.symm q2 (by unfold busyP; omega)).symm hji
    · exact hG _ q
  rw [eG]
  exact key _ _ _ _ (hM.v.gpc hj) bg hwg
theorem freeK_eq {t : Int} {W W' : List Int} (h : ldW W' t = ldW W t) : freeK t W' = freeK t W := by unfold freeK; rw [h]
/-- a thread's own, and its being able, where another's act was none -/
theorem cwit_oth (hM : CoM c n N ml st) (y : CoLy c n N ml) {i : Nat} (hi : i < n) (hT : ∀ j, j ≠ i → sv st'.T j = sv st.T j) (hG : ∀ a, a ≠ c.node i → sv st'.G a = sv st.G a) (hGb : sv st'.G (c.node i) = sv st.G (c.node i) ∨ (lsp st.L (c.node i) (c.slot i)).pc = 10)
    (lne : ∀ a z, ¬ (a = c.node i ∧ z = c.slot i) → lsp st'.L a z = lsp st.L a z) (hW : st'.s.W = st.s.W) {j : Nat} (hj : j < n) (hji : j ≠ i) : cwt c st' j = cwt c st j ∧ (CWit c st j → CWit c st' j) := by
  have eT := hT j hji
  have eL : lsp st'.L (c.node j) (c.slot j) = lsp st.L (c.node j) (c.slot j) := lne _ _ (fun q => hji (y.inj j i hj hi q.1 q.2))
  have eG : ((sv st.T j).pc = 3 ∨ (sv st.T j).pc = 15) → sv st'.G (c.node j) = sv st.G (c.node j) := fun hpc => by
    by_cases q : c.node j = c.node i
    · rcases hGb with q2 | q2
      · rw [q]; exact q2
      · exact absurd (hM.uniq y hi hj q.symm q2 (by unfold busyP; omega)).symm hji
    · exact hG _ q
  constructor
  · unfold cwt
    rw [eT, eL, hW]
    by_cases hpc : (sv st.T j).pc = 3 ∨ (sv st.T j).pc = 15
    · rw [eG hpc]
    · unfold cwP
      rw [if_neg (c := (sv st.T j).pc = 15) (by omega), if_neg (c := (sv st.T j).pc = 15) (by omega), if_neg (c := (sv st.T j).pc = 3) (by omega), if_neg (c := (sv st.T j).pc = 3) (by omega)]
  · unfold CWit
    rw [eT, eL, hW]
    intro q
    rcases q with q | q | q | q | q | q | q | ⟨q, q2⟩
    · exact .inl q
    · exact .inr (.inl q)
    · exact .inr (.inr (.inl q))
    · exact .inr (.inr (.inr (.inl q)))
    · exact .inr (.inr (.inr (.inr (.inl q))))
    · exact .inr (.inr (.inr (.inr (.inr (.inl q)))))
    · exact .inr (.inr (.inr (.inr (.inr (.inr (.inl q))))))
    · refine .inr (.inr (.inr (.inr (.inr (.inr (.inr ⟨q, ?_⟩))))))
      rw [eG q]; exact q2
/-- a step that leads on -/
def COn (c : CoC) (n : Nat) (st st' : Co) (i : Nat) : Prop := ∃ e, (e = 0 ∨ e = 4) ∧ cwt c st' i + 1 + 5 * e ≤ cwt c st i ∧ ∀ j, j < n → j ≠ i → cwt c st' j ≤ cwt c st j + e
def COff (c : CoC) (n : Nat) (st st' : Co) (i : Nat) : Prop := st'.s.W = st.s.W ∧ (∀ j, (sv st'.T j).pc = (sv st.T j).pc) ∧ cwt c st' i = cwt c st i ∧ ∀ j, j < n → j ≠ i → cwt c st' j = cwt c st j ∧ (CWit c st j → CWit c st' j)
theorem tl_words (y : CoLy c n N ml) {a : Nat} (ha : a < N) {W W' : List Int} (hf : ∀ x, ¬ (c.tl a ≤ x ∧ x < c.tl a + szI c.kl (ml a) c.m) → ldW W' x = ldW W x) (h1 : 1 ≤ c.m) : ldW W' c.tg = ldW W c.tg ∧ ∀ b, b < N → b ≠ a → ldW W' (c.tl b) = ldW W (c.tl b) := by
  have g1 := y.gl a ha
  have s0 : 1 ≤ szI c.kg N c.m := by have := y.k.1; unfold szI; (repeat' split) <;> omega
  refine ⟨hf _ (by omega), fun b hb hn => hf _ ?_⟩
  have := y.ap a b ha hb (fun e => hn e.symm)
  have c1 := y.cw a ha
  have c2 := y.cw b hb
  have s2 := y.sz b hb
  omega
theorem tg_words (y : CoLy c n N ml) {W W' : List Int} (hf : ∀ x, ¬ (c.tg ≤ x ∧ x < c.tg + szI c.kg N c.m) → ldW W' x = ldW W x) : ∀ b, b < N → ldW W' (c.tl b) = ldW W (c.tl b) := fun b hb => hf _ (by have := y.gl b hb; omega)
theorem cw_words (hM : CoM c n N ml st) (y : CoLy c n N ml) {a : Nat} (ha : a < N) (u : Int) : ldW (stW st.s.W (c.cw a) u) c.tg = ldW st.s.W c.tg ∧ ∀ b, b < N → ldW (stW st.s.W (c.cw a) u) (c.tl b) = ldW st.s.W (c.tl b) := by
  have hw := ldW_st (inR_true.2 (hM.lW a ha)) u
  have g1 := y.gl a ha
  have c1 := y.cw a ha
  have s1 := y.sz a ha
  have h1 := hM.fG.m1
  have s0 : 1 ≤ szI c.kg N c.m := by have := y.k.1; unfold szI; (repeat' split) <;> omega
  have s2 : ∀ b, 1 ≤ szI c.kl (ml b) c.m := fun b => by have := y.k.2; unfold szI; (repeat' split) <;> omega
  refine ⟨by rw [hw, if_neg (by omega)], fun b hb => by
    rw [hw, if_neg]
    have := s2 b
    by_cases e : b = a
    · subst e; omega
    · have := y.ap a b ha hb (fun e2 => e e2.symm)
      have := y.cw b hb
      omega⟩
theorem tas_out {t m : Int} {s : Ar} {i : Int} {p : Sp} (hin : inR s.W t = true) (h : 10 < p.pc) (hc : pcK 1 p) : freeK t (stepK 1 t m s i p).1.W = true := by
  have h2 := pcK1 hc rfl
  have h11 : p.pc = 11 := by omega
  show freeK t (tasK t m s i p).1.W = true
  unfold tasK
  rw [if_neg (by omega), if_neg (by omega), if_pos h11]
  unfold freeK
  show decide (ldW (storeA s t 0).W t = 0) = true
  rw [storeA_W, ldW_st hin, if_pos rfl]
  rfl
theorem fw_leave {k : Nat} {fr : Bool} {p : Sp} (h : p.pc = 10) : fw k fr (leaveK p) ≤ 4 := by
  unfold fw
  rw [leaveK_pc h, if_neg (by decide), if_pos (by decide)]
  split <;> decide
theorem fw_tas {fr : Bool} {p : Sp} (h : 0 < p.pc ∧ p.pc < 10) : 21 ≤ fw 1 fr p := by
  unfold fw
  rw [if_neg (by omega), if_neg (by omega), if_pos rfl]
  omega
set_option maxHeartbeats 2000000 in
/-- a step of a thread that is under way -/
theorem co_go (hM : CoM c n N ml st) (hL : CoL c n N ml st) (y : CoLy c n N ml) (hB : CoB c B st) (hB0 : 1 ≤ B) (hB1 : B ≤ 10000000000000) (hm4 : c.m ≤ 4) {i : Nat} (hi : i < n) (hact : (sv st.T i).pc ≠ 0 ∧ (sv st.T i).pc ≠ 10) :
    (CWit c st i → COn c n st (coStep c st i) i) ∧ (¬ CWit c st i → COff c n st (coStep c st i) i) := by
  have ha := y.nd i hi
  have hlk := hM.v.k i hi
  have hq := hM.v.lpc hi
  have hg := hM.v.gpc hi
  have sL := stepK_pc (t := c.tl (c.node i)) (m := c.m) (s := st.s) (i := (c.slot i : Int)) y.k.2 hq
  have sG := stepK_pc (t := c.tg) (m := c.m) (s := st.s) (i := (c.node i : Int)) y.k.1 hg
  have hiT : i < st.T.length := by have := hM.v.lT; omega
  have hGl : c.node i < st.G.length := by rw [hM.fG.len]; exact ha.1
  have gne : ∀ q a, a ≠ c.node i → sv (st.G.set (c.node i) q) a = sv st.G a := fun q a e => by rw [svS hGl, if_neg e]
  have geq : ∀ q, sv (st.G.set (c.node i) q) (c.node i) = q := fun q => by rw [svS hGl, if_pos rfl]
  have hst := hM.sj i hi
  have hm1 := hM.fG.m1
  have hmm : 1 ≤ c.m ∧ c.m ≤ 4 := ⟨hm1, hm4⟩
  have hfr : ¬ busyP (sv st.T i) → (lsp st.L (c.node i) (c.slot i)).pc = 10 → FrP (sv st.G (c.node i)) (ldW st.s.W (c.cw (c.node i))) := fun hb h10 => by
    refine hM.fr _ ha.1 (fun j hj hn hbj => ?_)
    have e := hM.uniq y hi hj hn.symm h10 hbj
    rw [← e] at hbj
    exact hb hbj
  have inL : inR st.s.W (c.tl (c.node i)) = true := by
    have f := hM.fL _ ha.1
    have := f.m1
    exact inOwn f (Int.le_refl _) (by have hk := y.k.2; unfold szI; (repeat' split) <;> omega)
  have inG : inR st.s.W c.tg = true := inOwn hM.fG (Int.le_refl _) (by have hk := y.k.1; unfold szI; (repeat' split) <;> omega)
  have bl0 := hL.bL _ ha.1 _ ha.2
  have bg0 := hL.bG _ ha.1
  have LS := (hM.fL _ ha.1).step y.k.2 hB.w (by omega) hB1 ha.2 hq
  have GS := hM.fG.step y.k.1 hB.w (by omega) hB1 ha.1 hg
  have LW := tl_words y ha.1 LS.2 hm1
  have GW := tg_words y GS.2
  have eT : ∀ p', sv (st.T.set i p') i = p' := fun p' => by rw [svS hiT, if_pos rfl]
  have same : ∀ b, b < N → c.kl = 1 → ∀ W' : List Int, W' = st.s.W → freeK (c.tl b) W' = freeK (c.tl b) st.s.W ∨ freeK (c.tl b) W' = true ∨ 4 ≤ 0 := fun b hb _ W' e => .inl (by rw [e])
  have hpe : coStep c st i = coSet st i (coMv c st i (sv st.T i)) := by unfold coStep; rw [if_neg (by omega)]
  rw [hpe]
  unfold CWit
  have hc : (sv st.T i).pc = 1 ∨ (sv st.T i).pc = 2 ∨ (sv st.T i).pc = 3 ∨ (sv st.T i).pc = 4 ∨ (sv st.T i).pc = 11 ∨ (sv st.T i).pc = 12 ∨ (sv st.T i).pc = 13 ∨ (sv st.T i).pc = 14 ∨ (sv st.T i).pc = 15 ∨ (sv st.T i).pc = 16 := by unfold linkP at hlk; omega
  have hw0 : ∀ q, cwt c st i = q ↔ cwP (sv st.T i).pc (fw c.kl (freeK (c.tl (c.node i)) st.s.W) (lsp st.L (c.node i) (c.slot i))) (fw c.kg (freeK c.tg st.s.W) (sv st.G (c.node i))) = q := fun q => Iff.rfl
  obtain ⟨p, hp⟩ : ∃ p, p = sv st.T i := ⟨_, rfl⟩
  have hwt : cwt c st i = cwP p.pc (fw c.kl (freeK (c.tl (c.node i)) st.s.W) (lsp st.L (c.node i) (c.slot i))) (fw c.kg (freeK c.tg st.s.W) (sv st.G (c.node i))) := by rw [hp]; rfl
  rw [← hp] at hlk hst hfr hc hact ⊢
  clear hw0 hpe
  obtain ⟨pc, u, b, z⟩ := p
  simp only at hc hwt
  have hL10 : pc ≠ 0 → pc ≠ 1 → pc ≠ 16 → (lsp st.L (c.node i) (c.slot i)).pc = 10 := fun a0 a1 a2 => by unfold linkP at hlk; simp only at hlk; omega
  have hSL := setL_ne hM y hi (stL c st i).2
  have hSv := setL_ne hM y hi (leaveK (lsp st.L (c.node i) (c.slot i)))
  -- where a step writes the count, or nothing, and the two locks stay, or one of them is left or asked
  have quiet : ∀ (st' : Co) (p' : Sp), st'.T = st.T.set i p' → (∀ a, a ≠ c.node i → sv st'.G a = sv st.G a) → (sv st'.G (c.node i) = sv st.G (c.node i) ∨ (lsp st.L (c.node i) (c.slot i)).pc = 10) → (∀ a z, ¬ (a = c.node i ∧ z = c.slot i) → lsp st'.L a z = lsp st.L a z) →
      (∀ b, b < N → ldW st'.s.W (c.tl b) = ldW st.s.W (c.tl b)) → ldW st'.s.W c.tg = ldW st.s.W c.tg → cwt c st' i + 1 ≤ cwt c st i → COn c n st st' i := fun st' p' h1 h2 h3 h4 h5 h6 h7 => by
    refine ⟨0, .inl rfl, by omega, fun j hj hji => ?_⟩
    exact cwt_oth (st' := st') hM hL y hi h1 h2 h3 h4 (fun a ha' _ => .inl (freeK_eq (h5 a ha'))) (fun _ => .inl (freeK_eq h6)) hj hji
  rcases hc with rfl | rfl | rfl | rfl | rfl | rfl | rfl | rfl | rfl | rfl
  · -- 1: the local lock, in
    rw [mv1]
    have oth : ∀ (q : Sp) (e : Nat), (∀ a, a < N → c.kl = 1 → freeK (c.tl a) (stL c st i).1.W = freeK (c.tl a) st.s.W ∨ freeK (c.tl a) (stL c st i).1.W = true ∨ 4 ≤ e) → (c.kg = 1 → freeK c.tg (stL c st i).1.W = freeK c.tg st.s.W ∨ freeK c.tg (stL c st i).1.W = true ∨ 4 ≤ e) → ∀ j, j < n → j ≠ i → cwt c (coSet st i ((stL c st i).1, st.G, setL c st i (stL c st i).2, q)) j ≤ cwt c st j + e := fun q e h1 h2 j hj hji =>
      cwt_oth (st' := coSet st i ((stL c st i).1, st.G, setL c st i (stL c st i).2, q)) hM hL y hi (p' := q) rfl (fun _ _ => rfl) (.inl rfl) hSL.1 h1 h2 hj hji
    have hl1 : 0 < (lsp st.L (c.node i) (c.slot i)).pc ∧ (lsp st.L (c.node i) (c.slot i)).pc < 10 := by unfold linkP at hlk; simp only at hlk; omega
    have F := lv_step (t := c.tl (c.node i)) (m := c.m) (s := st.s) (i := c.slot i) y.k.2 hq bl0 hmm inL ⟨by omega, by omega⟩
    have hwt' : cwt c st i = 42 + fw c.kl (freeK (c.tl (c.node i)) st.s.W) (lsp st.L (c.node i) (c.slot i)) := hwt
    have ecam : camL c st i = cameK (lsp st.L (c.node i) (c.slot i)) (stepK c.kl (c.tl (c.node i)) c.m st.s (c.slot i) (lsp st.L (c.node i) (c.slot i))).2 := rfl
    have eSelf : ∀ q, cwt c (coSet st i ((stL c st i).1, st.G, setL c st i (stL c st i).2, q)) i = cwP q.pc (fw c.kl (freeK (c.tl (c.node i)) (stL c st i).1.W) (stL c st i).2) (fw c.kg (freeK c.tg (stL c st i).1.W) (sv st.G (c.node i))) := fun q => by
      unfold cwt coSet
      simp only
      rw [eT, hSL.2]
    refine ⟨fun hw => ?_, fun hw => ?_⟩
    · have hF : FWit c.kl (c.tl (c.node i)) c.m st.s.W (c.slot i) (lsp st.L (c.node i) (c.slot i)) := by
        rcases hw with q | q | q | q | q | q | q | q
        all_goals first | (simp at q; done) | exact q.2
      have fwp : 1 ≤ fw c.kl (freeK (c.tl (c.node i)) st.s.W) (lsp st.L (c.node i) (c.slot i)) ∨ True := .inr trivial
      by_cases hcam : camL c st i = true
      · rw [if_pos hcam]
        by_cases hk : c.kl = 1
        · have h21 : 21 ≤ fw c.kl (freeK (c.tl (c.node i)) st.s.W) (lsp st.L (c.node i) (c.slot i)) := by rw [hk]; exact fw_tas hl1
          refine ⟨4, .inr rfl, ?_, fun j hj hji => ?_⟩
          · rw [eSelf, hwt']
            show 41 + 1 + 5 * 4 ≤ _
            omega
          · exact oth _ _ (fun a ha' _ => .inr (.inr (Nat.le_refl _))) (fun _ => .inr (.inr (Nat.le_refl _))) j hj hji
        · refine ⟨0, .inl rfl, ?_, fun j hj hji => ?_⟩
          · rw [eSelf, hwt']
            show 41 + 1 + 5 * 0 ≤ _
            omega
          · exact oth _ _ (fun a ha' h => absurd h hk) (fun _ => .inl (freeK_eq LW.1)) j hj hji
      · rw [if_neg hcam]
        rcases F.go hF with q | ⟨q1, q2⟩
        · exact absurd (ecam.trans q) hcam
        · refine ⟨0, .inl rfl, ?_, fun j hj hji => ?_⟩
          · rw [eSelf, hwt']
            show 42 + fw c.kl (freeK (c.tl (c.node i)) (stepK c.kl (c.tl (c.node i)) c.m st.s (c.slot i) (lsp st.L (c.node i) (c.slot i))).1.W) (stepK c.kl (c.tl (c.node i)) c.m st.s (c.slot i) (lsp st.L (c.node i) (c.slot i))).2 + 1 + 5 * 0 ≤ _
            omega
          · refine oth _ _ (fun a ha' h => ?_) (fun _ => .inl (freeK_eq LW.1)) j hj hji
            by_cases e : a = c.node i
            · rw [e]; exact .inl (q1 h)
            · exact .inl (freeK_eq (LW.2 a ha' e))
    · have hF : ¬ FWit c.kl (c.tl (c.node i)) c.m st.s.W (c.slot i) (lsp st.L (c.node i) (c.slot i)) := fun q => hw (.inr (.inr (.inr (.inr (.inr (.inr (.inl ⟨.inl rfl, q⟩)))))))
      obtain ⟨s1, s2, s3⟩ := F.st hF
      have hW : (stL c st i).1.W = st.s.W := s1
      have hcam : camL c st i = false := ecam.trans s2
      rw [hcam, if_neg (by decide)]
      have o := fun j hj hji => cwit_oth (st' := coSet st i ((stL c st i).1, st.G, setL c st i (stL c st i).2, ⟨1, u, b, z⟩)) hM y hi (fun j e => by show sv (st.T.set i _) j = _; rw [svS hiT, if_neg e]) (fun _ _ => rfl) (.inl rfl) hSL.1 hW (j := j) hj hji
      refine ⟨hW, fun j => ?_, ?_, o⟩
      · show (sv (st.T.set i _) j).pc = _
        rw [svS hiT]
        split
        · rename_i e; rw [e, ← hp]
        · rfl
      · rw [eSelf, hwt', hW]
        show 42 + _ = 42 + _
        have := s3 (freeK (c.tl (c.node i)) st.s.W) (fun _ => rfl)
        exact congrArg (42 + ·) this
  · -- 2
    have h10 := hL10 (by decide) (by decide) (by decide)
    have hF := (hfr (by unfold busyP; simp) h10).of
    have hwt' : cwt c st i = 41 := hwt
    refine ⟨fun _ => ?_, fun hw => absurd (.inl rfl) hw⟩
    rw [mv2]
    split
    · refine quiet _ ⟨10, ldW st.s.W (c.cw (c.node i)), b, z⟩ rfl (fun _ _ => rfl) (.inl rfl) (fun _ _ _ => rfl) (fun a _ => by show ldW (loadA _ _).W _ = _; rw [loadA_W]) (by show ldW (loadA _ _).W _ = _; rw [loadA_W]) ?_
      rw [hwt']
      unfold cwt coSet
      simp only
      rw [eT]
      show 13 + 1 ≤ 41
      decide
    · rename_i hpos
      have g0 := hF.2 hpos
      refine quiet _ ⟨3, ldW st.s.W (c.cw (c.node i)), b, z⟩ rfl (fun a e => gne _ a e) (.inr h10) (fun _ _ _ => rfl) (fun a _ => by show ldW (loadA _ _).W _ = _; rw [loadA_W]) (by show ldW (loadA _ _).W _ = _; rw [loadA_W]) ?_
      rw [hwt']
      unfold cwt coSet
      simp only
      rw [eT, geq]
      have := fw_le c.kg (fr := freeK c.tg (loadA st.s (c.cw (c.node i))).W) (askK_pcK hg) (tasB_ask bg0)
      show 15 + _ + 1 ≤ 41
      omega
  · -- 3: the global lock, in
    have oth : ∀ (L' : List (List Sp)) (q : Sp) (e : Nat), (∀ a z, ¬ (a = c.node i ∧ z = c.slot i) → lsp L' a z = lsp st.L a z) → (lsp st.L (c.node i) (c.slot i)).pc = 10 → (∀ a, a < N → c.kl = 1 → freeK (c.tl a) (stG c st i).1.W = freeK (c.tl a) st.s.W ∨ freeK (c.tl a) (stG c st i).1.W = true ∨ 4 ≤ e) → (c.kg = 1 → freeK c.tg (stG c st i).1.W = freeK c.tg st.s.W ∨ freeK c.tg (stG c st i).1.W = true ∨ 4 ≤ e) → ∀ j, j < n → j ≠ i → cwt c (coSet st i ((stG c st i).1, st.G.set (c.node i) (stG c st i).2, L', q)) j ≤ cwt c st j + e := fun L' q e h0 h10 h1 h2 j hj hji =>
      cwt_oth (st' := coSet st i ((stG c st i).1, st.G.set (c.node i) (stG c st i).2, L', q)) hM hL y hi (p' := q) rfl (fun a e => gne _ a e) (.inr h10) h0 h1 h2 hj hji
    have h10 := hL10 (by decide) (by decide) (by decide)
    have hs3 := hst.1 rfl
    rw [mv3]
    have F := lv_step (t := c.tg) (m := c.m) (s := st.s) (i := c.node i) y.k.1 hg bg0 hmm inG ⟨by omega, by omega⟩
    have hwt' : cwt c st i = 15 + fw c.kg (freeK c.tg st.s.W) (sv st.G (c.node i)) := hwt
    have ecam : camG c st i = cameK (sv st.G (c.node i)) (stepK c.kg c.tg c.m st.s (c.node i) (sv st.G (c.node i))).2 := rfl
    have eSelf : ∀ q, cwt c (coSet st i ((stG c st i).1, st.G.set (c.node i) (stG c st i).2, st.L, q)) i = cwP q.pc (fw c.kl (freeK (c.tl (c.node i)) (stG c st i).1.W) (lsp st.L (c.node i) (c.slot i))) (fw c.kg (freeK c.tg (stG c st i).1.W) (stG c st i).2) := fun q => by
      unfold cwt coSet
      simp only
      rw [eT, geq]
    refine ⟨fun hw => ?_, fun hw => ?_⟩
    · have hF : FWit c.kg c.tg c.m st.s.W (c.node i) (sv st.G (c.node i)) := by
        rcases hw with q | q | q | q | q | q | q | q
        all_goals first | (simp at q; done) | exact q.2
      by_cases hcam : camG c st i = true
      · rw [if_pos hcam]
        by_cases hk : c.kg = 1
        · have h21 : 21 ≤ fw c.kg (freeK c.tg st.s.W) (sv st.G (c.node i)) := by rw [hk]; exact fw_tas hs3.1
          refine ⟨4, .inr rfl, ?_, fun j hj hji => ?_⟩
          · rw [eSelf, hwt']
            show 14 + 1 + 5 * 4 ≤ _
            omega
          · exact oth _ _ _ (fun _ _ _ => rfl) h10 (fun a ha' _ => .inr (.inr (Nat.le_refl _))) (fun _ => .inr (.inr (Nat.le_refl _))) j hj hji
        · refine ⟨0, .inl rfl, ?_, fun j hj hji => ?_⟩
          · rw [eSelf, hwt']
            show 14 + 1 + 5 * 0 ≤ _
            omega
          · exact oth _ _ _ (fun _ _ _ => rfl) h10 (fun a ha' _ => .inl (freeK_eq (GW a ha'))) (fun h => absurd h hk) j hj hji
      · rw [if_neg hcam]
        rcases F.go hF with q | ⟨q1, q2⟩
        · exact absurd (ecam.trans q) hcam
        · refine ⟨0, .inl rfl, ?_, fun j hj hji => ?_⟩
          · rw [eSelf, hwt']
            show 15 + fw c.kg (freeK c.tg (stepK c.kg c.tg c.m st.s (c.node i) (sv st.G (c.node i))).1.W) (stepK c.kg c.tg c.m st.s (c.node i) (sv st.G (c.node i))).2 + 1 + 5 * 0 ≤ _
            omega
          · exact oth _ _ _ (fun _ _ _ => rfl) h10 (fun a ha' _ => .inl (freeK_eq (GW a ha'))) (fun h => .inl (q1 h)) j hj hji
    · have hF : ¬ FWit c.kg c.tg c.m st.s.W (c.node i) (sv st.G (c.node i)) := fun q => hw (.inr (.inr (.inr (.inr (.inr (.inr (.inr ⟨.inl rfl, q⟩)))))))
      obtain ⟨s1, s2, s3⟩ := F.st hF
      have hW : (stG c st i).1.W = st.s.W := s1
      have hcam : camG c st i = false := ecam.trans s2
      rw [hcam, if_neg (by decide)]
      have o := fun j hj hji => cwit_oth (st' := coSet st i ((stG c st i).1, st.G.set (c.node i) (stG c st i).2, st.L, ⟨3, u, b, z⟩)) hM y hi (fun j e => by show sv (st.T.set i _) j = _; rw [svS hiT, if_neg e]) (fun a e => gne _ a e) (.inr h10) (fun _ _ _ => rfl) hW (j := j) hj hji
      refine ⟨hW, fun j => ?_, ?_, o⟩
      · show (sv (st.T.set i _) j).pc = _
        rw [svS hiT]
        split
        · rename_i e; rw [e, ← hp]
        · rfl
      · rw [eSelf, hwt', hW]
        show 15 + _ = 15 + _
        have := s3 (freeK c.tg st.s.W) (fun _ => rfl)
        exact congrArg (15 + ·) this
  · -- 4
    have hwt' : cwt c st i = 14 := hwt
    have CW := cw_words hM y ha.1 1
    refine ⟨fun _ => ?_, fun hw => absurd (.inr (.inl rfl)) hw⟩
    rw [mv4]
    refine quiet _ ⟨10, 1, b, z⟩ rfl (fun _ _ => rfl) (.inl rfl) (fun _ _ _ => rfl) (fun a ha' => by show ldW (storeA _ _ _).W _ = _; rw [storeA_W]; exact CW.2 a ha') (by show ldW (storeA _ _ _).W _ = _; rw [storeA_W]; exact CW.1) ?_
    rw [hwt']
    unfold cwt coSet
    simp only
    rw [eT]
    show 13 + 1 ≤ 14
    decide
  · -- 11
    have hwt' : cwt c st i = 12 := hwt
    refine ⟨fun _ => ?_, fun hw => absurd (.inr (.inr (.inl rfl))) hw⟩
    rw [mv11]
    refine quiet _ ⟨if c.bud < ldW st.s.W (c.cw (c.node i)) then 14 else 12, ldW st.s.W (c.cw (c.node i)), b, z⟩ rfl (fun _ _ => rfl) (.inl rfl) (fun _ _ _ => rfl) (fun a _ => by show ldW (loadA _ _).W _ = _; rw [loadA_W]) (by show ldW (loadA _ _).W _ = _; rw [loadA_W]) ?_
    rw [hwt']
    unfold cwt coSet
    simp only
    rw [eT]
    split
    · show 10 + 1 ≤ 12; decide
    · show 11 + 1 ≤ 12; decide
  · -- 12
    have hwt' : cwt c st i = 11 := hwt
    have hal : (aloneK c.kl (c.tl (c.node i)) st.s (c.slot i) (lsp st.L (c.node i) (c.slot i))).1.W = st.s.W := by
      unfold aloneK
      (repeat' split) <;> first | rfl | exact loadA_W _ _
    refine ⟨fun _ => ?_, fun hw => absurd (.inr (.inr (.inr (.inl rfl)))) hw⟩
    rw [mv12]
    refine quiet _ ⟨if passB u c.bud (aloneK c.kl (c.tl (c.node i)) st.s (c.slot i) (lsp st.L (c.node i) (c.slot i))).2 then 13 else 14, u, b, z⟩ rfl (fun _ _ => rfl) (.inl rfl) (fun _ _ _ => rfl) (fun a _ => by show ldW (aloneK _ _ _ _ _).1.W _ = _; rw [hal]) (by show ldW (aloneK _ _ _ _ _).1.W _ = _; rw [hal]) ?_
    rw [hwt']
    unfold cwt coSet
    simp only
    rw [eT]
    split
    · show 5 + 1 ≤ 11; decide
    · show 10 + 1 ≤ 11; decide
  · -- 13
    have h10 := hL10 (by decide) (by decide) (by decide)
    have hwt' : cwt c st i = 5 := hwt
    have CW := cw_words hM y ha.1 (u + 1)
    refine ⟨fun _ => ?_, fun hw => absurd (.inr (.inr (.inr (.inr (.inl rfl))))) hw⟩
    rw [mv13]
    refine quiet _ ⟨16, u, b, z⟩ rfl (fun _ _ => rfl) (.inl rfl) hSv.1 (fun a ha' => by show ldW (storeA _ _ _).W _ = _; rw [storeA_W]; exact CW.2 a ha') (by show ldW (storeA _ _ _).W _ = _; rw [storeA_W]; exact CW.1) ?_
    rw [hwt']
    unfold cwt coSet
    simp only
    rw [eT, hSv.2]
    have := fw_leave (k := c.kl) (fr := freeK (c.tl (c.node i)) (storeA st.s (c.cw (c.node i)) (u + 1)).W) h10
    show fw _ _ _ + 1 ≤ 5
    omega
  · -- 14
    have h10 := hL10 (by decide) (by decide) (by decide)
    have hs := hst.2.2.1 (by simp)
    have hwt' : cwt c st i = 10 := hwt
    have CW := cw_words hM y ha.1 0
    refine ⟨fun _ => ?_, fun hw => absurd (.inr (.inr (.inr (.inr (.inr (.inl rfl)))))) hw⟩
    rw [mv14]
    refine quiet _ ⟨15, u, b, z⟩ rfl (fun a e => gne _ a e) (.inr h10) (fun _ _ _ => rfl) (fun a ha' => by show ldW (storeA _ _ _).W _ = _; rw [storeA_W]; exact CW.2 a ha') (by show ldW (storeA _ _ _).W _ = _; rw [storeA_W]; exact CW.1) ?_
    rw [hwt']
    unfold cwt coSet
    simp only
    rw [eT, geq]
    have := fw_leave (k := c.kg) (fr := freeK c.tg (storeA st.s (c.cw (c.node i)) 0).W) hs
    show 5 + fw _ _ _ + 1 ≤ 10
    omega
  · -- 15: the global lock, out
    have oth : ∀ (L' : List (List Sp)) (q : Sp) (e : Nat), (∀ a z, ¬ (a = c.node i ∧ z = c.slot i) → lsp L' a z = lsp st.L a z) → (lsp st.L (c.node i) (c.slot i)).pc = 10 → (∀ a, a < N → c.kl = 1 → freeK (c.tl a) (stG c st i).1.W = freeK (c.tl a) st.s.W ∨ freeK (c.tl a) (stG c st i).1.W = true ∨ 4 ≤ e) → (c.kg = 1 → freeK c.tg (stG c st i).1.W = freeK c.tg st.s.W ∨ freeK c.tg (stG c st i).1.W = true ∨ 4 ≤ e) → ∀ j, j < n → j ≠ i → cwt c (coSet st i ((stG c st i).1, st.G.set (c.node i) (stG c st i).2, L', q)) j ≤ cwt c st j + e := fun L' q e h0 h10 h1 h2 j hj hji =>
      cwt_oth (st' := coSet st i ((stG c st i).1, st.G.set (c.node i) (stG c st i).2, L', q)) hM hL y hi (p' := q) rfl (fun a e => gne _ a e) (.inr h10) h0 h1 h2 hj hji
    have h10 := hL10 (by decide) (by decide) (by decide)
    have hs := hst.2.2.2.2 rfl
    have F := lv_step (t := c.tg) (m := c.m) (s := st.s) (i := c.node i) y.k.1 hg bg0 hmm inG ⟨by omega, by omega⟩
    have hwt' : cwt c st i = 5 + fw c.kg (freeK c.tg st.s.W) (sv st.G (c.node i)) := hwt
    have ecam : camG c st i = cameK (sv st.G (c.node i)) (stepK c.kg c.tg c.m st.s (c.node i) (sv st.G (c.node i))).2 := rfl
    have hgf : c.kg = 1 → freeK c.tg (stG c st i).1.W = freeK c.tg st.s.W ∨ freeK c.tg (stG c st i).1.W = true ∨ 4 ≤ 0 := fun h => by
      right; left
      have hg1 : pcK 1 (sv st.G (c.node i)) := by rw [← h]; exact hg
      have := tas_out (t := c.tg) (m := c.m) (s := st.s) (i := (c.node i : Int)) inG hs.1 hg1
      show freeK c.tg (stepK c.kg c.tg c.m st.s (c.node i) (sv st.G (c.node i))).1.W = true
      rw [h]; exact this
    have eSelf : cwt c (coSet st i ((stG c st i).1, st.G.set (c.node i) (stG c st i).2, st.L, ⟨15, u, b, z⟩)) i = 5 + (fw c.kg (freeK c.tg (stG c st i).1.W) (stG c st i).2) := by
      unfold cwt coSet
      simp only
      rw [eT, geq]; rfl
    rw [mv15]
    refine ⟨fun hw => ?_, fun hw => ?_⟩
    · have hF : FWit c.kg c.tg c.m st.s.W (c.node i) (sv st.G (c.node i)) := by
        rcases hw with q | q | q | q | q | q | q | q
        all_goals first | (simp at q; done) | exact q.2
      by_cases hcam : camG c st i = true
      · rw [if_pos hcam]
        refine ⟨0, .inl rfl, ?_, fun j hj hji => ?_⟩
        · rw [hwt']
          unfold cwt coSet
          simp only
          rw [eT, hSv.2]
          have := fw_leave (k := c.kl) (fr := freeK (c.tl (c.node i)) (stG c st i).1.W) h10
          show fw _ _ _ + 1 + 5 * 0 ≤ _
          omega
        · exact oth _ _ _ hSv.1 h10 (fun a ha' _ => .inl (freeK_eq (GW a ha'))) hgf j hj hji
      · rw [if_neg hcam]
        rcases F.go hF with q | ⟨q1, q2⟩
        · exact absurd (ecam.trans q) hcam
        · refine ⟨0, .inl rfl, ?_, fun j hj hji => ?_⟩
          · rw [eSelf, hwt']
            show 5 + fw c.kg (freeK c.tg (stepK c.kg c.tg c.m st.s (c.node i) (sv st.G (c.node i))).1.W) (stepK c.kg c.tg c.m st.s (c.node i) (sv st.G (c.node i))).2 + 1 + 5 * 0 ≤ _
            omega
          · exact oth _ _ _ (fun _ _ _ => rfl) h10 (fun a ha' _ => .inl (freeK_eq (GW a ha'))) hgf j hj hji
    · have hF : ¬ FWit c.kg c.tg c.m st.s.W (c.node i) (sv st.G (c.node i)) := fun q => hw (.inr (.inr (.inr (.inr (.inr (.inr (.inr ⟨.inr rfl, q⟩)))))))
      obtain ⟨s1, s2, s3⟩ := F.st hF
      have hW : (stG c st i).1.W = st.s.W := s1
      have hcam : camG c st i = false := ecam.trans s2
      rw [if_neg (by rw [hcam]; decide)]
      have o := fun j hj hji => cwit_oth (st' := coSet st i ((stG c st i).1, st.G.set (c.node i) (stG c st i).2, st.L, ⟨15, u, b, z⟩)) hM y hi (fun j e => by show sv (st.T.set i _) j = _; rw [svS hiT, if_neg e]) (fun a e => gne _ a e) (.inr h10) (fun _ _ _ => rfl) hW (j := j) hj hji
      refine ⟨hW, fun j => ?_, ?_, o⟩
      · show (sv (st.T.set i _) j).pc = _
        rw [svS hiT]
        split
        · rename_i e; rw [e, ← hp]
        · rfl
      · rw [eSelf, hwt', hW]
        have := s3 (freeK c.tg st.s.W) (fun _ => rfl)
        exact congrArg (5 + ·) this
  · -- 16: the local lock, out
    have oth : ∀ (q : Sp) (e : Nat), (∀ a, a < N → c.kl = 1 → freeK (c.tl a) (stL c st i).1.W = freeK (c.tl a) st.s.W ∨ freeK (c.tl a) (stL c st i).1.W = true ∨ 4 ≤ e) → (c.kg = 1 → freeK c.tg (stL c st i).1.W = freeK c.tg st.s.W ∨ freeK c.tg (stL c st i).1.W = true ∨ 4 ≤ e) → ∀ j, j < n → j ≠ i → cwt c (coSet st i ((stL c st i).1, st.G, setL c st i (stL c st i).2, q)) j ≤ cwt c st j + e := fun q e h1 h2 j hj hji =>
      cwt_oth (st' := coSet st i ((stL c st i).1, st.G, setL c st i (stL c st i).2, q)) hM hL y hi (p' := q) rfl (fun _ _ => rfl) (.inl rfl) hSL.1 h1 h2 hj hji
    have hl1 : 10 < (lsp st.L (c.node i) (c.slot i)).pc := by unfold linkP at hlk; simp only at hlk; omega
    have F := lv_step (t := c.tl (c.node i)) (m := c.m) (s := st.s) (i := c.slot i) y.k.2 hq bl0 hmm inL ⟨by omega, by omega⟩
    have hwt' : cwt c st i = fw c.kl (freeK (c.tl (c.node i)) st.s.W) (lsp st.L (c.node i) (c.slot i)) := hwt
    have hpos : 1 ≤ fw c.kl (freeK (c.tl (c.node i)) st.s.W) (lsp st.L (c.node i) (c.slot i)) := by
      unfold fw
      rw [if_neg (by omega), if_pos hl1]
      split
      · rename_i h4
        have hq4 : mcsPc (lsp st.L (c.node i) (c.slot i)) := by have := hq; rw [h4] at this; exact this
        unfold mcsPc at hq4
        omega
      · decide
    have ecam : camL c st i = cameK (lsp st.L (c.node i) (c.slot i)) (stepK c.kl (c.tl (c.node i)) c.m st.s (c.slot i) (lsp st.L (c.node i) (c.slot i))).2 := rfl
    have hlf : ∀ a, a < N → c.kl = 1 → freeK (c.tl a) (stL c st i).1.W = freeK (c.tl a) st.s.W ∨ freeK (c.tl a) (stL c st i).1.W = true ∨ 4 ≤ 0 := fun a ha' h => by
      by_cases e : a = c.node i
      · right; left
        have hg1 : pcK 1 (lsp st.L (c.node i) (c.slot i)) := by rw [← h]; exact hq
        have := tas_out (t := c.tl (c.node i)) (m := c.m) (s := st.s) (i := (c.slot i : Int)) inL hl1 hg1
        rw [e]
        show freeK _ (stepK c.kl (c.tl (c.node i)) c.m st.s (c.slot i) (lsp st.L (c.node i) (c.slot i))).1.W = true
        rw [h]; exact this
      · exact .inl (freeK_eq (LW.2 a ha' e))
    have eSelf : cwt c (coSet st i ((stL c st i).1, st.G, setL c st i (stL c st i).2, ⟨16, u, b, z⟩)) i = fw c.kl (freeK (c.tl (c.node i)) (stL c st i).1.W) (stL c st i).2 := by
      unfold cwt coSet
      simp only
      rw [eT, hSL.2]; rfl
    rw [mv16]
    refine ⟨fun hw => ?_, fun hw => ?_⟩
    · have hF : FWit c.kl (c.tl (c.node i)) c.m st.s.W (c.slot i) (lsp st.L (c.node i) (c.slot i)) := by
        rcases hw with q | q | q | q | q | q | q | q
        all_goals first | (simp at q; done) | exact q.2
      by_cases hcam : camL c st i = true
      · rw [if_pos hcam]
        refine ⟨0, .inl rfl, ?_, fun j hj hji => ?_⟩
        · rw [hwt']
          unfold cwt coSet
          simp only
          rw [eT]
          show 0 + 1 + 5 * 0 ≤ _
          omega
        · exact oth _ _ hlf (fun _ => .inl (freeK_eq LW.1)) j hj hji
      · rw [if_neg hcam]
        rcases F.go hF with q | ⟨q1, q2⟩
        · exact absurd (ecam.trans q) hcam
        · refine ⟨0, .inl rfl, ?_, fun j hj hji => ?_⟩
          · rw [eSelf, hwt']
            show fw c.kl (freeK (c.tl (c.node i)) (stepK c.kl (c.tl (c.node i)) c.m st.s (c.slot i) (lsp st.L (c.node i) (c.slot i))).1.W) (stepK c.kl (c.tl (c.node i)) c.m st.s (c.slot i) (lsp st.L (c.node i) (c.slot i))).2 + 1 + 5 * 0 ≤ _
            omega
          · exact oth _ _ hlf (fun _ => .inl (freeK_eq LW.1)) j hj hji
    · have hF : ¬ FWit c.kl (c.tl (c.node i)) c.m st.s.W (c.slot i) (lsp st.L (c.node i) (c.slot i)) := fun q => hw (.inr (.inr (.inr (.inr (.inr (.inr (.inl ⟨.inr rfl, q⟩)))))))
      obtain ⟨s1, s2, s3⟩ := F.st hF
      have hW : (stL c st i).1.W = st.s.W := s1
      have hcam : camL c st i = false := ecam.trans s2
      rw [if_neg (by rw [hcam]; decide)]
      have o := fun j hj hji => cwit_oth (st' := coSet st i ((stL c st i).1, st.G, setL c st i (stL c st i).2, ⟨16, u, b, z⟩)) hM y hi (fun j e => by show sv (st.T.set i _) j = _; rw [svS hiT, if_neg e]) (fun _ _ => rfl) (.inl rfl) hSL.1 hW (j := j) hj hji
      refine ⟨hW, fun j => ?_, ?_, o⟩
      · show (sv (st.T.set i _) j).pc = _
        rw [svS hiT]
        split
        · rename_i e; rw [e, ← hp]
        · rfl
      · rw [eSelf, hwt', hW]
        exact s3 (freeK (c.tl (c.node i)) st.s.W) (fun _ => rfl)
theorem co_lpc (hM : CoM c n N ml st) {a : Nat} (ha : a < N) : ∀ w, w < ml a → pcK c.kl (sv (st.L.getD a []) w) := fun w hw => by
  have hal : a < st.L.length := by rw [hM.lL]; exact ha
  have hx := hM.v.l (st.L.getD a []) (by
    rw [List.getD_eq_getElem?_getD, List.getElem?_eq_getElem hal]
    exact List.getElem_mem hal)
  exact hx _ (sv_mem (by rw [(hM.fL _ ha).len]; exact hw))
/-- a node's lock that some slot is under way in, and none holds -/
theorem co_aliveL (hM : CoM c n N ml st) (hL : CoL c n N ml st) (y : CoLy c n N ml) {a : Nat} (ha : a < N) (hno : ∀ w, w < ml a → (lsp st.L a w).pc ≠ 10) {w : Nat} (hw : w < ml a) (h0 : (lsp st.L a w).pc ≠ 0) : ∃ j, j < n ∧ ((sv st.T j).pc = 1 ∨ (sv st.T j).pc = 16) ∧ CWit c st j := by
  obtain ⟨v, hv, hv0, hF⟩ := fl_alive (hM.fL a ha) y.k.2 (hL.fL a ha) (co_lpc hM ha) hno hw h0
  obtain ⟨j, hj, hn, hs⟩ := hL.ow a ha v hv hv0
  have hk := hM.v.k j hj
  have h10 := hno v hv
  rw [hn, hs] at hk
  have hv0' : (lsp st.L a v).pc ≠ 0 := hv0
  have hpc : (sv st.T j).pc = 1 ∨ (sv st.T j).pc = 16 := by unfold linkP at hk; omega
  refine ⟨j, hj, hpc, .inr (.inr (.inr (.inr (.inr (.inr (.inl ⟨hpc, ?_⟩))))))⟩
  rw [hn, hs]; exact hF
/-- the global one -/
theorem co_aliveG (hM : CoM c n N ml st) (hL : CoL c n N ml st) (y : CoLy c n N ml) (hno : ∀ a, a < N → (sv st.G a).pc ≠ 10) {a : Nat} (ha : a < N) (h0 : (sv st.G a).pc ≠ 0) : ∃ j, j < n ∧ ((sv st.T j).pc = 3 ∨ (sv st.T j).pc = 15) ∧ CWit c st j := by
  obtain ⟨v, hv, hv0, hF⟩ := fl_alive hM.fG y.k.1 hL.fG (fun w hw => hM.v.g _ (sv_mem (by rw [hM.fG.len]; exact hw))) hno ha h0
  have h10 := hno v hv
  have ex : ∃ j, j < n ∧ c.node j = v ∧ busyP (sv st.T j) := by
    apply Classical.byContradiction
    intro hn
    have := hM.fr v hv (fun j hj hjn hb => hn ⟨j, hj, hjn, hb⟩)
    unfold FrP at this
    split at this <;> omega
  obtain ⟨j, hj, hn, hb⟩ := ex
  have hs := hM.sj j hj
  rw [hn] at hs
  have hpc : (sv st.T j).pc = 3 ∨ (sv st.T j).pc = 15 := by
    obtain ⟨s1, s2, s3, s4, s5⟩ := hs
    unfold busyP at hb
    rcases hb with hb | hb | hb
    · exact .inl hb
    · exact absurd (s2 hb).1 h10
    · by_cases e : (sv st.T j).pc = 15
      · exact .inr e
      · exact absurd (s3 (by omega)) h10
  refine ⟨j, hj, hpc, .inr (.inr (.inr (.inr (.inr (.inr (.inr ⟨hpc, ?_⟩))))))⟩
  rw [hn]; exact hF
/-- while somebody goes out, some thread's step leads on -/
theorem co_aliveOut (hM : CoM c n N ml st) (hL : CoL c n N ml st) (y : CoLy c n N ml) {i : Nat} (hi : i < n) (h : 10 < (sv st.T i).pc) : ∃ j, j < n ∧ (sv st.T j).pc ≠ 0 ∧ (sv st.T j).pc ≠ 10 ∧ CWit c st j := by
  have ha := y.nd i hi
  have hk := hM.v.k i hi
  have hs := hM.sj i hi
  by_cases h14 : (sv st.T i).pc ≤ 14
  · refine ⟨i, hi, by omega, by omega, ?_⟩
    unfold CWit; omega
  have h15 : (sv st.T i).pc = 15 ∨ (sv st.T i).pc = 16 := by unfold linkP at hk; omega
  rcases h15 with h15 | h16
  · have hg := hs.2.2.2.2 h15
    have hno : ∀ a, a < N → (sv st.G a).pc ≠ 10 := fun a ha' h10 => by
      have := fl_one10 hM.fG y.k.1 ha.1 ha' (hM.v.gpc hi) (hM.v.g _ (sv_mem (by rw [hM.fG.len]; exact ha'))) (by omega) (by omega)
      rw [this] at hg; omega
    obtain ⟨j, hj, hpc, hw⟩ := co_aliveG hM hL y hno ha.1 (by omega)
    exact ⟨j, hj, by omega, by omega, hw⟩
  · have hl : 10 < (lsp st.L (c.node i) (c.slot i)).pc := by unfold linkP at hk; omega
    have hno : ∀ w, w < ml (c.node i) → (lsp st.L (c.node i) w).pc ≠ 10 := fun w hw h10 => by
      have := fl_one10 (hM.fL _ ha.1) y.k.2 ha.2 hw (hM.v.lpc hi) (co_lpc hM ha.1 w hw) (show 10 ≤ (lsp st.L (c.node i) (c.slot i)).pc by omega) (show 10 ≤ (lsp st.L (c.node i) w).pc by omega)
      rw [this] at hl; omega
    obtain ⟨j, hj, hpc, hw⟩ := co_aliveL hM hL y ha.1 hno ha.2 (by omega)
    exact ⟨j, hj, by omega, by omega, hw⟩
/-- while somebody is under way, and nobody holds, some thread's step leads on -/
theorem co_alive (hM : CoM c n N ml st) (hL : CoL c n N ml st) (y : CoLy c n N ml) (hno : ∀ i, i < n → (sv st.T i).pc ≠ 10) {i : Nat} (hi : i < n) (h : (sv st.T i).pc ≠ 0) : ∃ j, j < n ∧ (sv st.T j).pc ≠ 0 ∧ (sv st.T j).pc ≠ 10 ∧ CWit c st j := by
  apply Classical.byContradiction
  intro hcon
  -- all are at 0, 1 or 3
  have rest : ∀ j, j < n → (sv st.T j).pc = 0 ∨ (sv st.T j).pc = 1 ∨ (sv st.T j).pc = 3 := fun j hj => by
    have hk := hM.v.k j hj
    have h10 := hno j hj
    by_cases q : 10 < (sv st.T j).pc
    · exact absurd (co_aliveOut hM hL y hj q) hcon
    by_cases q2 : (sv st.T j).pc = 2 ∨ (sv st.T j).pc = 4
    · exact absurd ⟨j, hj, by omega, h10, by unfold CWit; omega⟩ hcon
    · unfold linkP at hk; omega
  -- a node's lock: who holds it stands at 3
  have hold : ∀ a, a < N → ∀ w, w < ml a → (lsp st.L a w).pc = 10 → ∃ j, j < n ∧ c.node j = a ∧ (sv st.T j).pc = 3 := fun a ha w hw h10 => by
    obtain ⟨j, hj, hn, hs⟩ := hL.ow a ha w hw (by omega)
    have hk := hM.v.k j hj
    rw [hn, hs] at hk
    have := rest j hj
    exact ⟨j, hj, hn, by unfold linkP at hk; omega⟩
  have no3 : ∀ j, j < n → (sv st.T j).pc ≠ 3 := fun j hj h3 => by
    have ha := y.nd j hj
    have hs := (hM.sj j hj).1 h3
    by_cases hg : ∀ a, a < N → (sv st.G a).pc ≠ 10
    · obtain ⟨k, hk, hpc, hw⟩ := co_aliveG hM hL y hg ha.1 (by omega)
      exact hcon ⟨k, hk, by omega, by omega, hw⟩
    · obtain ⟨b, hb⟩ := Classical.not_forall.1 hg
      obtain ⟨hb1, hb2⟩ := Classical.not_imp.1 hb
      have hb10 : (sv st.G b).pc = 10 := Classical.byContradiction hb2
      obtain ⟨k, hk, hn, hse⟩ := hL.pa b hb1 hb10
      have hk1 : (sv st.T k).pc = 1 := by have := rest k hk; unfold seeP at hse; omega
      have hlk := hM.v.k k hk
      rw [hn] at hlk
      have hkk := y.nd k hk
      rw [hn] at hkk
      by_cases hno2 : ∀ w, w < ml b → (lsp st.L b w).pc ≠ 10
      · obtain ⟨k2, hk2, hpc, hw⟩ := co_aliveL hM hL y hb1 hno2 hkk.2 (by unfold linkP at hlk; omega)
        exact hcon ⟨k2, hk2, by omega, by omega, hw⟩
      · obtain ⟨w, hw⟩ := Classical.not_forall.1 hno2
        obtain ⟨hw1, hw2⟩ := Classical.not_imp.1 hw
        obtain ⟨k2, hk2, hn2, h32⟩ := hold b hb1 w hw1 (Classical.byContradiction hw2)
        have := (hM.sj k2 hk2).1 h32
        rw [hn2] at this
        omega
  have h1 : (sv st.T i).pc = 1 := by have := rest i hi; have := no3 i hi; omega
  have hlk := hM.v.k i hi
  have ha := y.nd i hi
  by_cases hno2 : ∀ w, w < ml (c.node i) → (lsp st.L (c.node i) w).pc ≠ 10
  · obtain ⟨k2, hk2, hpc, hw⟩ := co_aliveL hM hL y ha.1 hno2 ha.2 (by unfold linkP at hlk; omega)
    exact hcon ⟨k2, hk2, by omega, by omega, hw⟩
  · obtain ⟨w, hw⟩ := Classical.not_forall.1 hno2
    obtain ⟨hw1, hw2⟩ := Classical.not_imp.1 hw
    obtain ⟨k2, hk2, hn2, h32⟩ := hold _ ha.1 w hw1 (Classical.byContradiction hw2)
    exact no3 k2 hk2 h32
end
end Go.Proofs.YtmlcfmickonfbaaGreat
end
section
set_option linter.unusedVariables false
set_option linter.unusedSimpArgs false
/- Plain: sums over threads, rounds in which each has its turn, the levels of a drain. No program in sight. -/
namespace Go.Proofs.YtmlcfmickonfbaaGreat
open Go

def sumN : Nat → (Nat → Nat) → Nat
  | 0, _ => 0
  | n + 1, f => sumN n f + f n
theorem sumN_le {f : Nat → Nat} {b : Nat} : ∀ n, (∀ i, i < n → f i ≤ b) → sumN n f ≤ n * b
  | 0, _ => by simp [sumN]
  | n + 1, h => by
    have := sumN_le n (fun i hi => h i (by omega))
    have := h n (by omega)
    show sumN n f + f n ≤ _
    rw [Nat.succ_mul]; omega
theorem sumN_eq {f g : Nat → Nat} : ∀ n, (∀ i, i < n → g i = f i) → sumN n g = sumN n f
  | 0, _ => rfl
  | n + 1, h => by
    show sumN n g + g n = sumN n f + f n
    rw [sumN_eq n (fun i hi => h i (by omega)), h n (by omega)]
theorem sumN_up {f g : Nat → Nat} {e : Nat} : ∀ n, (∀ i, i < n → g i ≤ f i + e) → sumN n g ≤ sumN n f + n * e
  | 0, _ => by simp [sumN]
  | n + 1, h => by
    have := sumN_up n (fun i hi => h i (by omega))
    have := h n (by omega)
    show sumN n g + g n ≤ sumN n f + f n + _
    rw [Nat.succ_mul]; omega
theorem sumN_one {f g : Nat → Nat} {e r : Nat} {i : Nat} (hg : g i + r ≤ f i) : ∀ n, i < n → (∀ j, j < n → j ≠ i → g j ≤ f j + e) → sumN n g + r ≤ sumN n f + (n - 1) * e
  | 0, h, _ => by omega
  | n + 1, h, ho => by
    show sumN n g + g n + r ≤ sumN n f + f n + _
    by_cases q : i = n
    · subst q
      have := sumN_up (f := f) (g := g) (e := e) i (fun j hj => ho j (by omega) (by omega))
      rw [Nat.add_sub_cancel]; omega
    · have ih := sumN_one (e := e) hg n (by omega) (fun j hj hji => ho j (by omega) hji)
      have := ho n (by omega) (fun e => q e.symm)
      obtain ⟨m, rfl⟩ : ∃ m, n = m + 1 := ⟨n - 1, by omega⟩
      rw [Nat.add_sub_cancel] at ih ⊢
      rw [Nat.succ_mul]; omega
section
variable {X : Type}
/-- the first turns of a round -/
def turnsN (turn : X → Nat → X) : Nat → X → X
  | 0, x => x
  | k + 1, x => turn (turnsN turn k x) k
def rounds (turn : X → Nat → X) (n : Nat) : Nat → X → X
  | 0, x => x
  | k + 1, x => turnsN turn n (rounds turn n k x)
/-- a round: something leads on, or nothing could -/
theorem round_drop {inv : Nat → X → Prop} {turn : X → Nat → X} {n : Nat} {F : X → Nat} {wit : X → Nat → Prop} (M : Nat) (h1 : ∀ m x i, m ≤ M → inv m x → i < n → inv (m + 1) (turn x i))
    (h2 : ∀ m x i, m ≤ M → inv m x → i < n → F (turn x i) < F x ∨ (F (turn x i) = F x ∧ ¬ wit x i ∧ ∀ j, j < n → j ≠ i → wit x j → wit (turn x i) j)) {m : Nat} {x : X} (hx : inv m x) (hM : m + n ≤ M) :
    ∀ k, k ≤ n → inv (m + k) (turnsN turn k x) ∧ (F (turnsN turn k x) < F x ∨ (F (turnsN turn k x) = F x ∧ (∀ j, j < k → ¬ wit x j) ∧ ∀ j, j < n → k ≤ j → wit x j → wit (turnsN turn k x) j))
  | 0, _ => ⟨hx, .inr ⟨rfl, fun j hj => absurd hj (Nat.not_lt_zero _), fun j _ _ h => h⟩⟩
  | k + 1, hk => by
    obtain ⟨i1, i2⟩ := round_drop M h1 h2 hx hM k (by omega)
    refine ⟨h1 (m + k) _ k (by omega) i1 (by omega), ?_⟩
    show F (turn (turnsN turn k x) k) < F x ∨ (F (turn (turnsN turn k x) k) = F x ∧ _)
    have s := h2 (m + k) (turnsN turn k x) k (by omega) i1 (by omega)
    rcases i2 with q | ⟨q1, q2, q3⟩
    · rcases s with s | s
      · exact .inl (by omega)
      · exact .inl (by omega)
    · rcases s with s | ⟨s1, s2, s3⟩
      · exact .inl (by omega)
      · refine .inr ⟨by omega, fun j hj => ?_, fun j hj hkj hw => ?_⟩
        · by_cases e : j = k
          · rw [e]; exact fun hw => s2 (q3 k (by omega) (Nat.le_refl _) hw)
          · exact q2 j (by omega)
        · exact s3 j hj (by omega) (q3 j hj (by omega) hw)
/-- rounds enough: all come to rest -/
theorem rounds_rest {inv : Nat → X → Prop} {turn : X → Nat → X} {n : Nat} {F : X → Nat} {wit : X → Nat → Prop} {rest : X → Prop} (M : Nat) (h1 : ∀ m x i, m ≤ M → inv m x → i < n → inv (m + 1) (turn x i))
    (h2 : ∀ m x i, m ≤ M → inv m x → i < n → F (turn x i) < F x ∨ (F (turn x i) = F x ∧ ¬ wit x i ∧ ∀ j, j < n → j ≠ i → wit x j → wit (turn x i) j))
    (h3 : ∀ m x, m ≤ M → inv m x → ¬ rest x → ∃ j, j < n ∧ wit x j) (h4 : ∀ x i, i < n → rest x → turn x i = x) {x : X} (hx : inv 0 x) :
    ∀ k, n * k ≤ M → inv (n * k) (rounds turn n k x) ∧ (rest (rounds turn n k x) ∨ F (rounds turn n k x) + k ≤ F x)
  | 0, _ => ⟨hx, .inr (Nat.le_refl _)⟩
  | k + 1, hM => by
    rw [Nat.mul_succ] at hM
    obtain ⟨i1, i2⟩ := rounds_rest M h1 h2 h3 h4 hx k (by omega)
    have r := round_drop M h1 h2 i1 (by omega) n (Nat.le_refl _)
    refine ⟨by rw [Nat.mul_succ]; exact r.1, ?_⟩
    show rest (turnsN turn n (rounds turn n k x)) ∨ F (turnsN turn n (rounds turn n k x)) + (k + 1) ≤ F x
    by_cases hr : rest (rounds turn n k x)
    · left
      have : ∀ j, j ≤ n → turnsN turn j (rounds turn n k x) = rounds turn n k x := fun j => by
        induction j with
        | zero => intro _; rfl
        | succ j ih =>
          intro hj
          show turn (turnsN turn j (rounds turn n k x)) j = _
          rw [ih (by omega)]
          exact h4 _ j (by omega) hr
      rw [this n (Nat.le_refl _)]; exact hr
    · right
      rcases i2 with q | q
      · exact absurd q hr
      · rcases r.2 with s | ⟨s1, s2, s3⟩
        · omega
        · obtain ⟨j, hj, hw⟩ := h3 _ _ (by omega) i1 hr
          exact absurd hw (s2 j hj)
end
/-- where a drain that waits stands, at its node -/
def drLv (d : Dr) (W : List Int) : Nat := if ldW W (gaA d.at_) = ldW W (gaW d.at_) then (if d.second then (if d.out = ldW W (gaA d.at_) then 0 else 2) else 1) else 1
def drD (d : Dr) (W : List Int) : Nat := 2 * (d.lim - d.at_) + drLv d W
theorem drLv_le (d : Dr) (W : List Int) : drLv d W ≤ 2 := by unfold drLv; (repeat' split) <;> omega
theorem drLv_same {d : Dr} {W W' : List Int} (h1 : ldW W' (gaA d.at_) = ldW W (gaA d.at_)) (h2 : ldW W' (gaW d.at_) = ldW W (gaW d.at_)) : drD d W' = drD d W := by
  unfold drD drLv; rw [h1, h2]
/-- one comes in, or goes out, at some node -/
theorem drLv_op {d : Dr} {W W' : List Int} (h : (ldW W' (gaA d.at_) = ldW W (gaA d.at_) ∧ ldW W' (gaW d.at_) = ldW W (gaW d.at_)) ∨ (ldW W' (gaA d.at_) = ldW W (gaA d.at_) + 1 ∧ ldW W' (gaW d.at_) = ldW W (gaW d.at_) ∧ ldW W (gaW d.at_) ≤ ldW W (gaA d.at_)) ∨ (ldW W' (gaA d.at_) = ldW W (gaA d.at_) ∧ ldW W' (gaW d.at_) = ldW W (gaW d.at_) + 1 ∧ ldW W (gaW d.at_) < ldW W (gaA d.at_))) : drD d W' ≤ drD d W + 1 := by
  unfold drD drLv
  rcases h with ⟨h1, h2⟩ | ⟨h1, h2, h3⟩ | ⟨h1, h2, h3⟩
  · rw [h1, h2]; omega
  · rw [if_neg (by omega)]
    have : 0 ≤ (if ldW W (gaA d.at_) = ldW W (gaW d.at_) then (if d.second then (if d.out = ldW W (gaA d.at_) then 0 else 2) else 1) else 1 : Nat) := Nat.zero_le _
    omega
  · rw [if_neg (c := ldW W (gaA d.at_) = ldW W (gaW d.at_)) (by omega)]
    (repeat' split) <;> omega
/-- a step of a drain that waits -/
theorem drD_step {d : Dr} {s : Ar} {N : Nat} (q1 : d.busy = true) (q2 : d.once = false) (q3 : d.at_ < N) (q4 : d.lim = N) (q5 : d.second = true → d.out ≤ ldW s.W (gaW d.at_)) (hg : ldW s.W (gaW d.at_) ≤ ldW s.W (gaA d.at_)) :
    (ldW s.W (gaA d.at_) = ldW s.W (gaW d.at_) → drD (drStep s d).2.1 s.W + 1 ≤ drD d s.W ∨ ((drStep s d).2.2 = true ∧ 2 ≤ drD d s.W)) ∧
      (ldW s.W (gaA d.at_) ≠ ldW s.W (gaW d.at_) → (drStep s d).2.2 = false ∧ drD (drStep s d).2.1 s.W = drD d s.W ∧ (drStep s d).2.1.at_ = d.at_) ∧ ((drStep s d).2.2 = false → (drStep s d).2.1.lim = N) := by
  unfold drStep
  rw [if_pos q1]
  by_cases hsec : d.second = true
  · rw [if_pos hsec]
    show (_ → drD (drLast s d).1 s.W + 1 ≤ _ ∨ ((drLast s d).2 = true ∧ _)) ∧ (_ → (drLast s d).2 = false ∧ drD (drLast s d).1 s.W = _ ∧ (drLast s d).1.at_ = _) ∧ ((drLast s d).2 = false → (drLast s d).1.lim = N)
    unfold drLast
    by_cases hv : ldW s.W (gaA d.at_) = d.out
    · rw [if_neg (by simpa using hv)]
      have hq := q5 hsec
      by_cases hend : d.at_ + 1 = d.lim
      · rw [if_pos hend]
        refine ⟨fun _ => .inr ⟨rfl, by unfold drD; omega⟩, fun h => absurd (by omega) h, fun h => by simp at h⟩
      · rw [if_neg hend]
        refine ⟨fun h => .inl ?_, fun h => absurd (by omega) h, fun _ => q4⟩
        have e0 : drD d s.W = 2 * (d.lim - d.at_) := by unfold drD drLv; rw [if_pos h, if_pos hsec, if_pos hv.symm]; rfl
        have e1 : drLv { d with second := false, at_ := d.at_ + 1 } s.W ≤ 1 := by unfold drLv; simp only [Bool.false_eq_true, if_false]; split <;> omega
        show 2 * (d.lim - (d.at_ + 1)) + drLv { d with second := false, at_ := d.at_ + 1 } s.W + 1 ≤ drD d s.W
        omega
    · rw [if_pos hv, if_neg (by rw [q2]; decide)]
      refine ⟨fun h => .inl ?_, fun h => ⟨rfl, ?_, rfl⟩, fun _ => q4⟩
      · have e0 : drLv d s.W = 2 := by unfold drLv; rw [if_pos h, if_pos hsec, if_neg (fun e => hv e.symm)]
        have e1 : drLv { d with second := false } s.W = 1 := by unfold drLv; simp only [Bool.false_eq_true, if_false]; split <;> rfl
        unfold drD
        rw [e0]
        show 2 * (d.lim - d.at_) + drLv { d with second := false } s.W + 1 ≤ _
        rw [e1]; omega
      · have e0 : drLv d s.W = 1 := by unfold drLv; rw [if_neg h]
        have e1 : drLv { d with second := false } s.W = 1 := by unfold drLv; rw [if_neg h]
        unfold drD
        rw [e0, e1]
  · rw [if_neg hsec]
    refine ⟨fun h => .inl ?_, fun h => ⟨rfl, ?_, rfl⟩, fun _ => q4⟩
    · have e0 : drLv d s.W = 1 := by unfold drLv; rw [if_pos h, if_neg hsec]
      have e1 : drLv { d with out := ldW s.W (gaW d.at_), second := true } s.W = 0 := by unfold drLv; rw [if_pos h]; simp only [reduceIte]; rw [if_pos h.symm]
      unfold drD
      rw [e0]
      show 2 * (d.lim - d.at_) + drLv { d with out := ldW s.W (gaW d.at_), second := true } s.W + 1 ≤ _
      rw [e1]; omega
    · have e0 : drLv d s.W = 1 := by unfold drLv; rw [if_neg h]
      have e1 : drLv { d with out := ldW s.W (gaW d.at_), second := true } s.W = 1 := by unfold drLv; rw [if_neg h]
      unfold drD
      rw [e0]
      show 2 * (d.lim - d.at_) + drLv { d with out := ldW s.W (gaW d.at_), second := true } s.W = _
      rw [e1]
end Go.Proofs.YtmlcfmickonfbaaGreat
end
section
set_option linter.unusedVariables false
set_option linter.unusedSimpArgs false
/- Layer 36 (neutral), plain: whoever has asked holds some time: each round some thread's step leads on. No program in sight. -/
namespace Go.Proofs.YtmlcfmickonfbaaGreat
open Go

section
variable {c : CoC} {n N : Nat} {ml : Nat → Nat} {st st' : Co} {s' : Ar} {B : Int}
/-- words below the cohort lock's own -/
theorem CoL.low (h : CoL c n N ml st) (hM : CoM c n N ml st) (y : CoLy c n N ml) (hf : ∀ q, c.tg ≤ q → ldW s'.W q = ldW st.s.W q) : CoL c n N ml (onA st s') := by
  have hz := szI_nn c.kg N hM.fG.m1
  exact ⟨h.fG.congr y.k.1 hM.fG.m1 (fun q h1 _ => hf q h1), fun a ha => (h.fL a ha).congr y.k.2 hM.fG.m1 (fun q h1 _ => hf q (by have := y.gl a ha; omega)), h.bG, h.bL, h.ow, h.pa, h.q13⟩
theorem cwt_low (hM : CoM c n N ml st) (y : CoLy c n N ml) (hf : ∀ q, c.tg ≤ q → ldW s'.W q = ldW st.s.W q) {j : Nat} (hj : j < n) : cwt c (onA st s') j = cwt c st j := by
  have hz := szI_nn c.kg N hM.fG.m1
  have := y.gl _ (y.nd j hj).1
  unfold cwt onA
  simp only
  rw [freeK_eq (hf c.tg (Int.le_refl _)), freeK_eq (hf (c.tl (c.node j)) (by omega))]
theorem cwt_idle {j : Nat} (h : (sv st.T j).pc = 0) : cwt c st j = 0 := by unfold cwt cwP; rw [if_pos h]
theorem cwt_hold {j : Nat} (h : (sv st.T j).pc = 10) : cwt c st j = 13 := by unfold cwt cwP; rw [h]; rfl
theorem cwt_le (hM : CoM c n N ml st) (hL : CoL c n N ml st) (y : CoLy c n N ml) {j : Nat} (hj : j < n) : cwt c st j ≤ 67 := by
  have ha := y.nd j hj
  exact cwP_le (fw_le _ (hM.v.lpc hj) (hL.bL _ ha.1 _ ha.2)) (fw_le _ (hM.v.gpc hj) (hL.bG _ ha.1))
theorem coLeave_cwt (hM : CoM c n N ml st) (hL : CoL c n N ml st) (y : CoLy c n N ml) {i : Nat} (hi : i < n) (h10 : (sv st.T i).pc = 10) : (∀ j, j < n → j ≠ i → cwt c (coLeave st i) j ≤ cwt c st j) ∧ cwt c (coLeave st i) i = 12 := by
  have hiT : i < st.T.length := by have := hM.v.lT; omega
  unfold coLeave
  rw [if_pos h10]
  refine ⟨fun j hj hji => ?_, ?_⟩
  · exact cwt_oth (st' := { st with T := st.T.set i { (sv st.T i) with pc := 11 } }) hM hL y hi (p' := { (sv st.T i) with pc := 11 }) rfl (fun _ _ => rfl) (.inl rfl) (fun _ _ _ => rfl) (e := 0) (fun _ _ _ => .inl rfl) (fun _ => .inl rfl) hj hji
  · unfold cwt
    simp only
    rw [svS hiT, if_pos rfl]
    rfl
theorem cwt_words (hW : s'.W = st.s.W) (j : Nat) : cwt c (onA st s') j = cwt c st j ∧ (CWit c st j → CWit c (onA st s') j) := by
  unfold cwt CWit onA
  simp only
  rw [hW]
  exact ⟨rfl, id⟩
end
section
variable {c : CoC} {n N : Nat} {ml : Nat → Nat} {x : Nu} {B : Int}
end
end Go.Proofs.YtmlcfmickonfbaaGreat
end
section
set_option linter.unusedVariables false
set_option linter.unusedSimpArgs false
/- Layer 24 (cohort), plain: a new lock never stands still. No program in sight. -/
namespace Go.Proofs.YtmlcfmickonfbaaGreat
open Go

/-- a new flat lock -/
theorem lvf_new {k : Nat} (hk : 1 ≤ k ∧ k ≤ 5) (s : Ar) {n m : Nat} (hm : 1 ≤ m) : LvF k (s.W.length + 1 : Nat) (m : Int) n (ldW (newAr_ k s n m).W) (sv (newSpK k n)) := by
  have p0 := newSp_sv0 k n
  have hr : ∀ y : Int, (s.W.length : Int) < y → y ≤ s.W.length + szK k n m → inR (takeS s (szK k n m)).W y = true := fun y h1 h2 => inR_true.2 ⟨by omega, by rw [takeS_len]; omega⟩
  have h0 : ∀ y : Int, (s.W.length : Int) < y → ldW (takeS s (szK k n m)).W y = 0 := fun y hy => ldW_new _ _ hy
  have hk' : k = 1 ∨ k = 2 ∨ k = 3 ∨ k = 4 ∨ k = 5 := by omega
  rcases hk' with rfl | rfl | rfl | rfl | rfl
  · show ldW (takeS s (szK 1 n m)).W _ ≠ 0 → _
    intro h
    exact absurd (h0 _ (by omega)) h
  · show OwnK n _ (ldW (takeS s (szK 2 n m)).W _) (ldW (takeS s (szK 2 n m)).W _)
    rw [h0 _ (by omega), h0 _ (by omega)]
    intro v h1 h2; omega
  · show ∀ v, PartI _ _ n (ldW (storeA (takeS s (szK 3 n m)) ((s.W.length : Int) + 2) 1).W) _ v → OwnK n _ v (ldW (storeA (takeS s (szK 3 n m)) ((s.W.length : Int) + 2) 1).W _)
    intro v hv
    have hw := ldW_st (hr ((s.W.length : Int) + 2) (by omega) (by show (s.W.length : Int) + 2 ≤ s.W.length + (1 + m : Nat); omega)) 1
    have h1 := hv.v0
    rw [storeA_W, hw, if_neg (by omega), h0 _ (by omega)]
    intro u h2 h3; omega
  · show ∀ i, i < n → (sv (newSpK 4 n) i).pc = 13 → _
    intro i hi hc
    rw [p0] at hc; omega
  · trivial
section
variable {kg kl par : Nat} {bud : Int} {P T : List Int} {s : Ar}
theorem l_new (hc : chkT P T = 0) (hkg : 1 ≤ kg ∧ kg ≤ 5) (hkl : 1 ≤ kl ∧ kl ≤ 5) (hp : 1 ≤ par ∧ par ≤ 4) : CoL (coCN kg kl par bud P T s) T.length (leavesL P).length (mtQ P T) (coStN kg kl par P T s) := by
  have y := ly_new (bud := bud) (s := s) hc hkg hkl hp
  obtain ⟨s7, hs7⟩ : ∃ x, x = newAr_ kg s (leavesL P).length par := ⟨_, rfl⟩
  have eW : (coStN kg kl par P T s).s = coNewS kl par (mtQ P T) s7 (leavesL P).length := by rw [hs7]; rfl
  have hlen0 : (coNewS kl par (mtQ P T) s7 0).W.length = s.W.length + szK kg (leavesL P).length par := by rw [hs7]; exact newAr_len _ _ _ _
  have hget : ∀ n, n < (leavesL P).length → (coStN kg kl par P T s).L.getD n [] = newSpK kl (mtQ P T n) := fun n hn => by
    rw [List.getD_eq_getElem?_getD]
    simp [coStN, coNewL, hn]
  have hT0 : ∀ j, (sv (coStN kg kl par P T s).T j).pc = 0 := fun j => by
    show (sv (List.replicate T.length Sp.zero) j).pc = 0
    unfold sv
    rw [List.getD_eq_getElem?_getD, List.getElem?_replicate]
    split <;> rfl
  have t0 : ∀ {k : Nat} {p : Sp}, p.pc = 0 → tasB k p := fun {k p} h _ => ⟨fun q => by omega, fun q => by omega⟩
  refine ⟨?_, fun a ha => ?_, fun a ha => t0 (newSp_sv0 _ _ _), fun a ha z hz => ?_, fun a ha z hz hp => ?_, fun a ha hg => ?_, fun i hi h13 => ?_⟩
  · have h1 := lvf_new hkg s (n := (leavesL P).length) hp.1
    rw [eW]
    refine h1.congr y.k.1 (by show (1 : Int) ≤ (par : Nat); omega) (fun x h2 h3 => ?_)
    have h3' : x < ((s.W.length + 1 : Nat) : Int) + szI kg (leavesL P).length (par : Int) := h3
    rw [szI_K] at h3'
    rw [coNewS_pre (Nat.zero_le _) (by rw [hlen0]; omega), hs7]; rfl
  · rw [hget a ha, eW]
    have h1 := lvf_new hkl (coNewS kl par (mtQ P T) s7 a) (n := mtQ P T a) hp.1
    have et : (coCN kg kl par bud P T s).tl a = (((coNewS kl par (mtQ P T) s7 a).W.length + 1 : Nat) : Int) := by rw [hs7]; rfl
    rw [et]
    refine h1.congr y.k.2 (by show (1 : Int) ≤ (par : Nat); omega) (fun x h2 h3 => ?_)
    have h3' : x < (((coNewS kl par (mtQ P T) s7 a).W.length + 1 : Nat) : Int) + szI kl (mtQ P T a) (par : Int) := h3
    rw [szI_K] at h3'
    have e1 : ((coNewS kl par (mtQ P T) s7 (a + 1)).W.length : Int) = (coNewS kl par (mtQ P T) s7 a).W.length + szK kl (mtQ P T a) par + 1 := by
      show ((takeS (newAr_ _ _ _ _) 1).W.length : Int) = _
      rw [takeS_len, newAr_len]; omega
    rw [coNewS_pre (j := a + 1) ha (by omega)]
    show ldW (takeS (newAr_ kl (coNewS kl par (mtQ P T) s7 a) (mtQ P T a) par) 1).W x = _
    exact ldW_app _ _ (by rw [newAr_len]; omega)
  · refine t0 ?_
    rw [ls_sv, hget a ha]; exact newSp_sv0 _ _ _
  · exfalso
    rw [ls_sv, hget a ha] at hp
    exact hp (newSp_sv0 _ _ _)
  · exfalso
    have : (sv (newSpK kg (leavesL P).length) a).pc = 10 := hg
    rw [newSp_sv0] at this; omega
  · rw [hT0] at h13; omega
end
end Go.Proofs.YtmlcfmickonfbaaGreat
end
