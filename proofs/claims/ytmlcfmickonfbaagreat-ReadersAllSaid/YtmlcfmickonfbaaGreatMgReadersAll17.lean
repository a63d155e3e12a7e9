/- Joined: Rs2. -/
import Derived.Test.YtmlcfmickonfbaaGreatMgReadersAll16
section
set_option linter.unusedVariables false
set_option linter.unusedSimpArgs false
/- Layer 37 (readers), plain: each act keeps the invariant. No program in sight. (printed by gen_rs2.py out of XNs2) -/
namespace Go.Proofs.YtmlcfmickonfbaaGreat
open Go

section
variable {c : CoC} {n N : Nat} {ml : Nat → Nat} {x : Nu} {B : Int}
theorem rdIn_fR {p : Sp} (h : ¬ (p.a = 1 ∧ (p.pc = 2 ∨ p.pc = 10 ∨ p.pc = 11))) : rdInR p = false := decide_eq_false h
theorem rdIn_tR {p : Sp} (h : p.a = 1 ∧ (p.pc = 2 ∨ p.pc = 10 ∨ p.pc = 11)) : rdInR p = true := decide_eq_true h
theorem RsI.ask (h : RsI c n N ml x) (y : CoLy c n N ml) {i : Nat} (hi : i < n) (r : Bool) : RsI c n N ml (nuAsk c x i r) := by
  unfold nuAsk
  split
  · rename_i h0
    have hk := h.k i hi
    have ht : (sv x.st.T i).pc = 0 := by unfold linkR at hk; omega
    have hb : rdInR (sv x.U i) = false := rdIn_fR (by omega)
    split
    · exact h.upd (p' := ⟨1, 1, 0, 0⟩) hi h.m (fun _ _ => rfl) (.inr (.inl ⟨rfl, .inl rfl, ht⟩)) (g_sameR h hi (by rw [hb]; rfl) (fun _ _ => rfl)) (fun j hj _ hw => h.fl j hj hw) (fun hw => by unfold wrPR at hw; simp at hw) (fun _ _ => Int.le_refl _) (fun hr => by unfold rdStR at hr; simp at hr) (fun _ _ _ _ _ => rfl) (fun e => by simp at e) (fun e => by simp at e)
    · have hm := h.m.ask y hi
      have hs := coAsk_s c x.st i
      have hT := (coAsk_T (c := c) (j := i) h.m.v hi).2 ht
      exact h.upd (p' := ⟨7, 0, 0, 0⟩) hi hm (fun j hj => (coAsk_T (c := c) h.m.v hi).1 hj) (.inr (.inr (.inl ⟨rfl, rfl, by omega, by omega⟩))) (by rw [hs]; exact g_sameR h hi (by rw [hb]; rfl) (fun _ _ => rfl)) (fun j hj _ hw => by rw [hs]; exact h.fl j hj hw) (fun hw => by unfold wrPR at hw; simp at hw) (fun a _ => by rw [hs]; exact Int.le_refl _) (fun hr => by unfold rdStR at hr; simp at hr) (fun _ _ _ _ _ => rfl) (fun _ e => by simp at e) (fun _ e => by simp at e)
  · exact h
theorem RsI.leave (h : RsI c n N ml x) {i : Nat} (hi : i < n) : RsI c n N ml (nuLeave x i) := by
  unfold nuLeave
  split
  · rename_i h10
    have hk := h.k i hi
    obtain ⟨p, hp⟩ : ∃ p, p = sv x.U i := ⟨_, rfl⟩
    have hw0 := h.fl i hi
    rw [← hp] at hk h10 hw0 ⊢
    have hcase : (p.a = 1 ∧ (sv x.st.T i).pc = 0) ∨ (p.a = 0 ∧ (sv x.st.T i).pc = 10) := by unfold linkR at hk; omega
    obtain ⟨pc, u, b, z⟩ := p
    simp only at h10 hcase
    subst h10
    rcases hcase with ⟨rfl, ht⟩ | ⟨rfl, ht⟩
    · exact h.upd (p' := ⟨11, 1, b, z⟩) hi h.m (fun _ _ => rfl) (.inr (.inl ⟨rfl, .inr (.inr (.inr rfl)), ht⟩)) (g_sameR h hi (by rw [← hp]; rfl) (fun _ _ => rfl)) (fun j hj _ hw => h.fl j hj hw) (fun hw => by unfold wrPR at hw; simp at hw) (fun _ _ => Int.le_refl _) (fun hr => .inl (by rw [← hp]; exact ⟨rfl, .inl rfl⟩)) (fun _ _ _ _ _ => rfl) (fun e => by simp at e) (fun e => by simp at e)
    · exact h.upd (p' := ⟨12, 0, b, z⟩) hi h.m (fun _ _ => rfl) (.inr (.inr (.inr (.inl ⟨rfl, .inr (.inr (.inr (.inr (.inr rfl)))), ht⟩)))) (g_sameR h hi (by rw [← hp]; rfl) (fun _ _ => rfl)) (fun j hj _ hw => h.fl j hj hw) (fun _ => hw0 ⟨rfl, .inr (.inr (.inl rfl))⟩) (fun _ _ => Int.le_refl _) (fun hr => by unfold rdStR at hr; simp at hr) (fun _ _ _ _ _ => rfl) (fun _ e => by simp at e) (fun _ e => by simp at e)
  · exact h
set_option maxHeartbeats 4000000 in
theorem RsI.s1 (h : RsI c n N ml x) (y : CoLy c n N ml) (l : NuL c N x.st.s.W) (hB : CoB c B x.st) (hB0 : 40 ≤ B) (hB1 : B ≤ 1000000000000) {i : Nat} (hi : i < n) (b z : Int) (hp : (⟨1, 1, b, z⟩ : Sp) = sv x.U i) (ht : (sv x.st.T i).pc = 0) : RsI c n N ml (rsStep c N x i) := by
  have hn := (y.nd i hi).1
  have hnn : ∀ j, j < n → c.node j < N := fun j hj => (y.nd j hj).1
  have hk := h.k i hi
  have hw0 := h.fl i hi
  have hdr := h.dr i hi
  have oth : (sv x.st.T i).pc = 10 → ∀ j, j < n → j ≠ i → ¬ wrPR (sv x.U j) := fun ht j hj e hw => e (h.one y hj hi (wr_tR (h.k j hj) hw) ht)
  have oth9 : (sv x.st.T i).pc = 10 → ∀ j, j < n → j ≠ i → (sv x.U j).a = 0 → (sv x.U j).pc = 9 → False := fun ht j hj e h0 h9 => oth ht j hj e ⟨h0, .inr (.inl h9)⟩
  have bA := hB.w.ld (by omega) (gaA (c.node i))
  have bW := hB.w.ld (by omega) (gaW (c.node i))
  have wA : IntKind.i64.wrap (ldW x.st.s.W (gaA (c.node i)) + 1) = ldW x.st.s.W (gaA (c.node i)) + 1 := IntWalk.i64_in _ (by omega)
  have wW : IntKind.i64.wrap (ldW x.st.s.W (gaW (c.node i)) + 1) = ldW x.st.s.W (gaW (c.node i)) + 1 := IntWalk.i64_in _ (by omega)
  have lA := low_stR h y l (z := gaA (c.node i)) ⟨(gaA_lt hn).1, by have := (gaA_lt hn).2; omega⟩ (ldW x.st.s.W (gaA (c.node i)) + 1) (s' := addA x.st.s (gaA (c.node i)) 1) (by rw [addA_W, wA])
  have lW := low_stR h y l (z := gaW (c.node i)) ⟨(gaW_lt hn).1, by have := (gaW_lt hn).2; omega⟩ (ldW x.st.s.W (gaW (c.node i)) + 1) (s' := addA x.st.s (gaW (c.node i)) 1) (by rw [addA_W, wW])
  have lF := fun v => low_stR h y l (z := nuFl N) ⟨by unfold nuFl; omega, Int.le_refl _⟩ v (s' := storeA x.st.s (nuFl N) v) (storeA_W _ _ _)
  have fA : ldW (addA x.st.s (gaA (c.node i)) 1).W (nuFl N) = ldW x.st.s.W (nuFl N) := by rw [lA.1, if_neg (by have := (gaA_lt hn).2; omega)]
  have fW : ldW (addA x.st.s (gaW (c.node i)) 1).W (nuFl N) = ldW x.st.s.W (nuFl N) := by rw [lW.1, if_neg (by have := (gaW_lt hn).2; omega)]
  have HA : ∀ a, a < N → ldW x.st.s.W (gaW a) ≤ ldW (addA x.st.s (gaA (c.node i)) 1).W (gaW a) := fun a _ => by rw [lA.1, if_neg (by unfold gaA gaW; omega)]; exact Int.le_refl _
  have HW : ∀ a, a < N → ldW x.st.s.W (gaW a) ≤ ldW (addA x.st.s (gaW (c.node i)) 1).W (gaW a) := fun a _ => by
    rw [lW.1]
    split
    · rename_i e; rw [e]; omega
    · exact Int.le_refl _
  have HF : ∀ v a, a < N → ldW x.st.s.W (gaW a) ≤ ldW (storeA x.st.s (nuFl N) v).W (gaW a) := fun v a ha => by rw [(lF v).1, if_neg (by have := (gaW_lt ha).2; omega)]; exact Int.le_refl _
  have SF : ∀ v q, q < nuFl N → ldW (storeA x.st.s (nuFl N) v).W q = ldW x.st.s.W q := fun v q hq => by rw [(lF v).1, if_neg (by omega)]
  have mS := h.m.step y hB (by omega) (by omega) hi
  have lS := h.m.stepLow y hB (by omega) (by omega) hi
  have lS' : ∀ q, q ≤ nuFl N → ldW (coStep c x.st i).s.W q = ldW x.st.s.W q := fun q hq => lS q (by have := l.tg; unfold nuFl at hq; omega)
  have tS : ∀ j, j ≠ i → sv (coStep c x.st i).T j = sv x.st.T j := fun j hj => coStep_T h.m.v hi hj
  have aS := coStep_at h.m.v hi
  unfold rsStep
  rw [← hp]
  rw [← hp] at hk hw0 hdr
  rw [if_neg (by simp)]
  show RsI c n N ml ⟨onA x.st (addA x.st.s (gaA (c.node i)) 1), x.d, x.U.set i ⟨2, 1, b, z⟩⟩
  exact h.upd (p' := ⟨2, 1, b, z⟩) hi lA.2 (fun _ _ => rfl) (.inr (.inl ⟨rfl, .inr (.inl rfl), ht⟩)) (g_inR h hnn hi (by rw [← hp]; rfl) rfl lA.1) (fun j hj _ hw => by rw [show ldW (onA x.st (addA x.st.s (gaA (c.node i)) 1)).s.W (nuFl N) = _ from fA]; exact h.fl j hj hw) (fun hw => by unfold wrPR at hw; simp at hw) HA (fun hr => by unfold rdStR at hr; simp at hr) (fun _ _ _ _ _ => rfl) (fun e => by simp at e) (fun e => by simp at e)
set_option maxHeartbeats 4000000 in
theorem RsI.s2 (h : RsI c n N ml x) (y : CoLy c n N ml) (l : NuL c N x.st.s.W) (hB : CoB c B x.st) (hB0 : 40 ≤ B) (hB1 : B ≤ 1000000000000) {i : Nat} (hi : i < n) (b z : Int) (hp : (⟨2, 1, b, z⟩ : Sp) = sv x.U i) (ht : (sv x.st.T i).pc = 0) : RsI c n N ml (rsStep c N x i) := by
  have hn := (y.nd i hi).1
  have hnn : ∀ j, j < n → c.node j < N := fun j hj => (y.nd j hj).1
  have hk := h.k i hi
  have hw0 := h.fl i hi
  have hdr := h.dr i hi
  have oth : (sv x.st.T i).pc = 10 → ∀ j, j < n → j ≠ i → ¬ wrPR (sv x.U j) := fun ht j hj e hw => e (h.one y hj hi (wr_tR (h.k j hj) hw) ht)
  have oth9 : (sv x.st.T i).pc = 10 → ∀ j, j < n → j ≠ i → (sv x.U j).a = 0 → (sv x.U j).pc = 9 → False := fun ht j hj e h0 h9 => oth ht j hj e ⟨h0, .inr (.inl h9)⟩
  have bA := hB.w.ld (by omega) (gaA (c.node i))
  have bW := hB.w.ld (by omega) (gaW (c.node i))
  have wA : IntKind.i64.wrap (ldW x.st.s.W (gaA (c.node i)) + 1) = ldW x.st.s.W (gaA (c.node i)) + 1 := IntWalk.i64_in _ (by omega)
  have wW : IntKind.i64.wrap (ldW x.st.s.W (gaW (c.node i)) + 1) = ldW x.st.s.W (gaW (c.node i)) + 1 := IntWalk.i64_in _ (by omega)
  have lA := low_stR h y l (z := gaA (c.node i)) ⟨(gaA_lt hn).1, by have := (gaA_lt hn).2; omega⟩ (ldW x.st.s.W (gaA (c.node i)) + 1) (s' := addA x.st.s (gaA (c.node i)) 1) (by rw [addA_W, wA])
  have lW := low_stR h y l (z := gaW (c.node i)) ⟨(gaW_lt hn).1, by have := (gaW_lt hn).2; omega⟩ (ldW x.st.s.W (gaW (c.node i)) + 1) (s' := addA x.st.s (gaW (c.node i)) 1) (by rw [addA_W, wW])
  have lF := fun v => low_stR h y l (z := nuFl N) ⟨by unfold nuFl; omega, Int.le_refl _⟩ v (s' := storeA x.st.s (nuFl N) v) (storeA_W _ _ _)
  have fA : ldW (addA x.st.s (gaA (c.node i)) 1).W (nuFl N) = ldW x.st.s.W (nuFl N) := by rw [lA.1, if_neg (by have := (gaA_lt hn).2; omega)]
  have fW : ldW (addA x.st.s (gaW (c.node i)) 1).W (nuFl N) = ldW x.st.s.W (nuFl N) := by rw [lW.1, if_neg (by have := (gaW_lt hn).2; omega)]
  have HA : ∀ a, a < N → ldW x.st.s.W (gaW a) ≤ ldW (addA x.st.s (gaA (c.node i)) 1).W (gaW a) := fun a _ => by rw [lA.1, if_neg (by unfold gaA gaW; omega)]; exact Int.le_refl _
  have HW : ∀ a, a < N → ldW x.st.s.W (gaW a) ≤ ldW (addA x.st.s (gaW (c.node i)) 1).W (gaW a) := fun a _ => by
    rw [lW.1]
    split
    · rename_i e; rw [e]; omega
    · exact Int.le_refl _
  have HF : ∀ v a, a < N → ldW x.st.s.W (gaW a) ≤ ldW (storeA x.st.s (nuFl N) v).W (gaW a) := fun v a ha => by rw [(lF v).1, if_neg (by have := (gaW_lt ha).2; omega)]; exact Int.le_refl _
  have SF : ∀ v q, q < nuFl N → ldW (storeA x.st.s (nuFl N) v).W q = ldW x.st.s.W q := fun v q hq => by rw [(lF v).1, if_neg (by omega)]
  have mS := h.m.step y hB (by omega) (by omega) hi
  have lS := h.m.stepLow y hB (by omega) (by omega) hi
  have lS' : ∀ q, q ≤ nuFl N → ldW (coStep c x.st i).s.W q = ldW x.st.s.W q := fun q hq => lS q (by have := l.tg; unfold nuFl at hq; omega)
  have tS : ∀ j, j ≠ i → sv (coStep c x.st i).T j = sv x.st.T j := fun j hj => coStep_T h.m.v hi hj
  have aS := coStep_at h.m.v hi
  unfold rsStep
  rw [← hp]
  rw [← hp] at hk hw0 hdr
  rw [if_neg (by simp)]
  have e : (loadA x.st.s (nuFl N)).W = x.st.s.W := loadA_W _ _
  show RsI c n N ml ⟨onA x.st (loadA x.st.s (nuFl N)), x.d, x.U.set i ⟨if ldW x.st.s.W (nuFl N) = 0 then 10 else 2, 1, b, z⟩⟩
  by_cases hf0 : ldW x.st.s.W (nuFl N) = 0
  · rw [if_pos hf0]
    exact h.upd (p' := ⟨10, 1, b, z⟩) hi (low_idR h y e) (fun _ _ => rfl) (.inr (.inl ⟨rfl, .inr (.inr (.inl rfl)), ht⟩)) (g_sameR h hi (by rw [← hp]; rfl) (fun q _ => by show ldW (loadA _ _).W q = _; rw [e])) (fun j hj _ hw => by show ldW (loadA _ _).W _ ≠ 0; rw [e]; exact h.fl j hj hw) (fun hw => by unfold wrPR at hw; simp at hw) (fun a _ => by show _ ≤ ldW (loadA _ _).W _; rw [e]; exact Int.le_refl _) (fun _ => .inr (fun j hj _ hw => h.fl j hj hw hf0)) (fun _ _ _ _ _ => rfl) (fun e => by simp at e) (fun e => by simp at e)
  · rw [if_neg hf0]
    exact h.upd (p' := ⟨2, 1, b, z⟩) hi (low_idR h y e) (fun _ _ => rfl) (.inr (.inl ⟨rfl, .inr (.inl rfl), ht⟩)) (g_sameR h hi (by rw [← hp]) (fun q _ => by show ldW (loadA _ _).W q = _; rw [e])) (fun j hj _ hw => by show ldW (loadA _ _).W _ ≠ 0; rw [e]; exact h.fl j hj hw) (fun hw => by unfold wrPR at hw; simp at hw) (fun a _ => by show _ ≤ ldW (loadA _ _).W _; rw [e]; exact Int.le_refl _) (fun hr => by unfold rdStR at hr; simp at hr) (fun _ _ _ _ _ => rfl) (fun e => by simp at e) (fun e => by simp at e)
set_option maxHeartbeats 4000000 in
theorem RsI.s11 (h : RsI c n N ml x) (y : CoLy c n N ml) (l : NuL c N x.st.s.W) (hB : CoB c B x.st) (hB0 : 40 ≤ B) (hB1 : B ≤ 1000000000000) {i : Nat} (hi : i < n) (b z : Int) (hp : (⟨11, 1, b, z⟩ : Sp) = sv x.U i) (ht : (sv x.st.T i).pc = 0) : RsI c n N ml (rsStep c N x i) := by
  have hn := (y.nd i hi).1
  have hnn : ∀ j, j < n → c.node j < N := fun j hj => (y.nd j hj).1
  have hk := h.k i hi
  have hw0 := h.fl i hi
  have hdr := h.dr i hi
  have oth : (sv x.st.T i).pc = 10 → ∀ j, j < n → j ≠ i → ¬ wrPR (sv x.U j) := fun ht j hj e hw => e (h.one y hj hi (wr_tR (h.k j hj) hw) ht)
  have oth9 : (sv x.st.T i).pc = 10 → ∀ j, j < n → j ≠ i → (sv x.U j).a = 0 → (sv x.U j).pc = 9 → False := fun ht j hj e h0 h9 => oth ht j hj e ⟨h0, .inr (.inl h9)⟩
  have bA := hB.w.ld (by omega) (gaA (c.node i))
  have bW := hB.w.ld (by omega) (gaW (c.node i))
  have wA : IntKind.i64.wrap (ldW x.st.s.W (gaA (c.node i)) + 1) = ldW x.st.s.W (gaA (c.node i)) + 1 := IntWalk.i64_in _ (by omega)
  have wW : IntKind.i64.wrap (ldW x.st.s.W (gaW (c.node i)) + 1) = ldW x.st.s.W (gaW (c.node i)) + 1 := IntWalk.i64_in _ (by omega)
  have lA := low_stR h y l (z := gaA (c.node i)) ⟨(gaA_lt hn).1, by have := (gaA_lt hn).2; omega⟩ (ldW x.st.s.W (gaA (c.node i)) + 1) (s' := addA x.st.s (gaA (c.node i)) 1) (by rw [addA_W, wA])
  have lW := low_stR h y l (z := gaW (c.node i)) ⟨(gaW_lt hn).1, by have := (gaW_lt hn).2; omega⟩ (ldW x.st.s.W (gaW (c.node i)) + 1) (s' := addA x.st.s (gaW (c.node i)) 1) (by rw [addA_W, wW])
  have lF := fun v => low_stR h y l (z := nuFl N) ⟨by unfold nuFl; omega, Int.le_refl _⟩ v (s' := storeA x.st.s (nuFl N) v) (storeA_W _ _ _)
  have fA : ldW (addA x.st.s (gaA (c.node i)) 1).W (nuFl N) = ldW x.st.s.W (nuFl N) := by rw [lA.1, if_neg (by have := (gaA_lt hn).2; omega)]
  have fW : ldW (addA x.st.s (gaW (c.node i)) 1).W (nuFl N) = ldW x.st.s.W (nuFl N) := by rw [lW.1, if_neg (by have := (gaW_lt hn).2; omega)]
  have HA : ∀ a, a < N → ldW x.st.s.W (gaW a) ≤ ldW (addA x.st.s (gaA (c.node i)) 1).W (gaW a) := fun a _ => by rw [lA.1, if_neg (by unfold gaA gaW; omega)]; exact Int.le_refl _
  have HW : ∀ a, a < N → ldW x.st.s.W (gaW a) ≤ ldW (addA x.st.s (gaW (c.node i)) 1).W (gaW a) := fun a _ => by
    rw [lW.1]
    split
    · rename_i e; rw [e]; omega
    · exact Int.le_refl _
  have HF : ∀ v a, a < N → ldW x.st.s.W (gaW a) ≤ ldW (storeA x.st.s (nuFl N) v).W (gaW a) := fun v a ha => by rw [(lF v).1, if_neg (by have := (gaW_lt ha).2; omega)]; exact Int.le_refl _
  have SF : ∀ v q, q < nuFl N → ldW (storeA x.st.s (nuFl N) v).W q = ldW x.st.s.W q := fun v q hq => by rw [(lF v).1, if_neg (by omega)]
  have mS := h.m.step y hB (by omega) (by omega) hi
  have lS := h.m.stepLow y hB (by omega) (by omega) hi
  have lS' : ∀ q, q ≤ nuFl N → ldW (coStep c x.st i).s.W q = ldW x.st.s.W q := fun q hq => lS q (by have := l.tg; unfold nuFl at hq; omega)
  have tS : ∀ j, j ≠ i → sv (coStep c x.st i).T j = sv x.st.T j := fun j hj => coStep_T h.m.v hi hj
  have aS := coStep_at h.m.v hi
  unfold rsStep
  rw [← hp]
  rw [← hp] at hk hw0 hdr
  rw [if_neg (by simp)]
  show RsI c n N ml ⟨onA x.st (addA x.st.s (gaW (c.node i)) 1), x.d, x.U.set i ⟨0, 1, b, z⟩⟩
  exact h.upd (p' := ⟨0, 1, b, z⟩) hi lW.2 (fun _ _ => rfl) (.inl ⟨rfl, ht⟩) (g_outR h hnn hi (by rw [← hp]; rfl) rfl lW.1) (fun j hj _ hw => by rw [show ldW (onA x.st (addA x.st.s (gaW (c.node i)) 1)).s.W (nuFl N) = _ from fW]; exact h.fl j hj hw) (fun hw => by unfold wrPR at hw; simp at hw) HW (fun hr => by unfold rdStR at hr; simp at hr) (fun _ _ _ _ _ => rfl) (fun e => by simp at e) (fun e => by simp at e)
set_option maxHeartbeats 4000000 in
theorem RsI.s7 (h : RsI c n N ml x) (y : CoLy c n N ml) (l : NuL c N x.st.s.W) (hB : CoB c B x.st) (hB0 : 40 ≤ B) (hB1 : B ≤ 1000000000000) {i : Nat} (hi : i < n) (b z : Int) (hp : (⟨7, 0, b, z⟩ : Sp) = sv x.U i) (ht : 0 < (sv x.st.T i).pc ∧ (sv x.st.T i).pc < 10) : RsI c n N ml (rsStep c N x i) := by
  have hn := (y.nd i hi).1
  have hnn : ∀ j, j < n → c.node j < N := fun j hj => (y.nd j hj).1
  have hk := h.k i hi
  have hw0 := h.fl i hi
  have hdr := h.dr i hi
  have oth : (sv x.st.T i).pc = 10 → ∀ j, j < n → j ≠ i → ¬ wrPR (sv x.U j) := fun ht j hj e hw => e (h.one y hj hi (wr_tR (h.k j hj) hw) ht)
  have oth9 : (sv x.st.T i).pc = 10 → ∀ j, j < n → j ≠ i → (sv x.U j).a = 0 → (sv x.U j).pc = 9 → False := fun ht j hj e h0 h9 => oth ht j hj e ⟨h0, .inr (.inl h9)⟩
  have bA := hB.w.ld (by omega) (gaA (c.node i))
  have bW := hB.w.ld (by omega) (gaW (c.node i))
  have wA : IntKind.i64.wrap (ldW x.st.s.W (gaA (c.node i)) + 1) = ldW x.st.s.W (gaA (c.node i)) + 1 := IntWalk.i64_in _ (by omega)
  have wW : IntKind.i64.wrap (ldW x.st.s.W (gaW (c.node i)) + 1) = ldW x.st.s.W (gaW (c.node i)) + 1 := IntWalk.i64_in _ (by omega)
  have lA := low_stR h y l (z := gaA (c.node i)) ⟨(gaA_lt hn).1, by have := (gaA_lt hn).2; omega⟩ (ldW x.st.s.W (gaA (c.node i)) + 1) (s' := addA x.st.s (gaA (c.node i)) 1) (by rw [addA_W, wA])
  have lW := low_stR h y l (z := gaW (c.node i)) ⟨(gaW_lt hn).1, by have := (gaW_lt hn).2; omega⟩ (ldW x.st.s.W (gaW (c.node i)) + 1) (s' := addA x.st.s (gaW (c.node i)) 1) (by rw [addA_W, wW])
  have lF := fun v => low_stR h y l (z := nuFl N) ⟨by unfold nuFl; omega, Int.le_refl _⟩ v (s' := storeA x.st.s (nuFl N) v) (storeA_W _ _ _)
  have fA : ldW (addA x.st.s (gaA (c.node i)) 1).W (nuFl N) = ldW x.st.s.W (nuFl N) := by rw [lA.1, if_neg (by have := (gaA_lt hn).2; omega)]
  have fW : ldW (addA x.st.s (gaW (c.node i)) 1).W (nuFl N) = ldW x.st.s.W (nuFl N) := by rw [lW.1, if_neg (by have := (gaW_lt hn).2; omega)]
  have HA : ∀ a, a < N → ldW x.st.s.W (gaW a) ≤ ldW (addA x.st.s (gaA (c.node i)) 1).W (gaW a) := fun a _ => by rw [lA.1, if_neg (by unfold gaA gaW; omega)]; exact Int.le_refl _
  have HW : ∀ a, a < N → ldW x.st.s.W (gaW a) ≤ ldW (addA x.st.s (gaW (c.node i)) 1).W (gaW a) := fun a _ => by
    rw [lW.1]
    split
    · rename_i e; rw [e]; omega
    · exact Int.le_refl _
  have HF : ∀ v a, a < N → ldW x.st.s.W (gaW a) ≤ ldW (storeA x.st.s (nuFl N) v).W (gaW a) := fun v a ha => by rw [(lF v).1, if_neg (by have := (gaW_lt ha).2; omega)]; exact Int.le_refl _
  have SF : ∀ v q, q < nuFl N → ldW (storeA x.st.s (nuFl N) v).W q = ldW x.st.s.W q := fun v q hq => by rw [(lF v).1, if_neg (by omega)]
  have mS := h.m.step y hB (by omega) (by omega) hi
  have lS := h.m.stepLow y hB (by omega) (by omega) hi
  have lS' : ∀ q, q ≤ nuFl N → ldW (coStep c x.st i).s.W q = ldW x.st.s.W q := fun q hq => lS q (by have := l.tg; unfold nuFl at hq; omega)
  have tS : ∀ j, j ≠ i → sv (coStep c x.st i).T j = sv x.st.T j := fun j hj => coStep_T h.m.v hi hj
  have aS := coStep_at h.m.v hi
  unfold rsStep
  rw [← hp]
  rw [← hp] at hk hw0 hdr
  rw [if_neg (by simp)]
  have a1 := aS.1 ht
  show RsI c n N ml ⟨coStep c x.st i, x.d, x.U.set i ⟨if cameK (sv x.st.T i) (sv (coStep c x.st i).T i) then 8 else 7, 0, b, z⟩⟩
  rw [a1.2]
  by_cases e10 : (sv (coStep c x.st i).T i).pc = 10
  · rw [decide_eq_true e10]
    exact h.upd (p' := ⟨8, 0, b, z⟩) hi mS tS (.inr (.inr (.inr (.inl ⟨rfl, .inr (.inr (.inl rfl)), by omega⟩)))) (g_sameR h hi (by rw [← hp]; rfl) (fun q hq => lS' q (by omega))) (fun j hj _ hw => by rw [lS' _ (Int.le_refl _)]; exact h.fl j hj hw) (fun hw => by unfold wrPR at hw; simp at hw) (fun a ha => by rw [lS' _ (by have := (gaW_lt ha).2; omega)]; exact Int.le_refl _) (fun hr => by unfold rdStR at hr; simp at hr) (fun _ _ _ _ _ => rfl) (fun _ e => by simp at e) (fun _ e => by simp at e)
  · rw [decide_eq_false e10]
    have a2 := a1.1
    exact h.upd (p' := ⟨7, 0, b, z⟩) hi mS tS (.inr (.inr (.inl ⟨rfl, rfl, by omega, by omega⟩))) (g_sameR h hi (by rw [← hp]) (fun q hq => lS' q (by omega))) (fun j hj _ hw => by rw [lS' _ (Int.le_refl _)]; exact h.fl j hj hw) (fun hw => by unfold wrPR at hw; simp at hw) (fun a ha => by rw [lS' _ (by have := (gaW_lt ha).2; omega)]; exact Int.le_refl _) (fun hr => by unfold rdStR at hr; simp at hr) (fun _ _ _ _ _ => rfl) (fun _ e => by simp at e) (fun _ e => by simp at e)
set_option maxHeartbeats 4000000 in
theorem RsI.s5 (h : RsI c n N ml x) (y : CoLy c n N ml) (l : NuL c N x.st.s.W) (hB : CoB c B x.st) (hB0 : 40 ≤ B) (hB1 : B ≤ 1000000000000) {i : Nat} (hi : i < n) (b z : Int) (hp : (⟨5, 0, b, z⟩ : Sp) = sv x.U i) (ht : (sv x.st.T i).pc = 10) : RsI c n N ml (rsStep c N x i) := by
  have hn := (y.nd i hi).1
  have hnn : ∀ j, j < n → c.node j < N := fun j hj => (y.nd j hj).1
  have hk := h.k i hi
  have hw0 := h.fl i hi
  have hdr := h.dr i hi
  have oth : (sv x.st.T i).pc = 10 → ∀ j, j < n → j ≠ i → ¬ wrPR (sv x.U j) := fun ht j hj e hw => e (h.one y hj hi (wr_tR (h.k j hj) hw) ht)
  have oth9 : (sv x.st.T i).pc = 10 → ∀ j, j < n → j ≠ i → (sv x.U j).a = 0 → (sv x.U j).pc = 9 → False := fun ht j hj e h0 h9 => oth ht j hj e ⟨h0, .inr (.inl h9)⟩
  have bA := hB.w.ld (by omega) (gaA (c.node i))
  have bW := hB.w.ld (by omega) (gaW (c.node i))
  have wA : IntKind.i64.wrap (ldW x.st.s.W (gaA (c.node i)) + 1) = ldW x.st.s.W (gaA (c.node i)) + 1 := IntWalk.i64_in _ (by omega)
  have wW : IntKind.i64.wrap (ldW x.st.s.W (gaW (c.node i)) + 1) = ldW x.st.s.W (gaW (c.node i)) + 1 := IntWalk.i64_in _ (by omega)
  have lA := low_stR h y l (z := gaA (c.node i)) ⟨(gaA_lt hn).1, by have := (gaA_lt hn).2; omega⟩ (ldW x.st.s.W (gaA (c.node i)) + 1) (s' := addA x.st.s (gaA (c.node i)) 1) (by rw [addA_W, wA])
  have lW := low_stR h y l (z := gaW (c.node i)) ⟨(gaW_lt hn).1, by have := (gaW_lt hn).2; omega⟩ (ldW x.st.s.W (gaW (c.node i)) + 1) (s' := addA x.st.s (gaW (c.node i)) 1) (by rw [addA_W, wW])
  have lF := fun v => low_stR h y l (z := nuFl N) ⟨by unfold nuFl; omega, Int.le_refl _⟩ v (s' := storeA x.st.s (nuFl N) v) (storeA_W _ _ _)
  have fA : ldW (addA x.st.s (gaA (c.node i)) 1).W (nuFl N) = ldW x.st.s.W (nuFl N) := by rw [lA.1, if_neg (by have := (gaA_lt hn).2; omega)]
  have fW : ldW (addA x.st.s (gaW (c.node i)) 1).W (nuFl N) = ldW x.st.s.W (nuFl N) := by rw [lW.1, if_neg (by have := (gaW_lt hn).2; omega)]
  have HA : ∀ a, a < N → ldW x.st.s.W (gaW a) ≤ ldW (addA x.st.s (gaA (c.node i)) 1).W (gaW a) := fun a _ => by rw [lA.1, if_neg (by unfold gaA gaW; omega)]; exact Int.le_refl _
  have HW : ∀ a, a < N → ldW x.st.s.W (gaW a) ≤ ldW (addA x.st.s (gaW (c.node i)) 1).W (gaW a) := fun a _ => by
    rw [lW.1]
    split
    · rename_i e; rw [e]; omega
    · exact Int.le_refl _
  have HF : ∀ v a, a < N → ldW x.st.s.W (gaW a) ≤ ldW (storeA x.st.s (nuFl N) v).W (gaW a) := fun v a ha => by rw [(lF v).1, if_neg (by have := (gaW_lt ha).2; omega)]; exact Int.le_refl _
  have SF : ∀ v q, q < nuFl N → ldW (storeA x.st.s (nuFl N) v).W q = ldW x.st.s.W q := fun v q hq => by rw [(lF v).1, if_neg (by omega)]
  have mS := h.m.step y hB (by omega) (by omega) hi
  have lS := h.m.stepLow y hB (by omega) (by omega) hi
  have lS' : ∀ q, q ≤ nuFl N → ldW (coStep c x.st i).s.W q = ldW x.st.s.W q := fun q hq => lS q (by have := l.tg; unfold nuFl at hq; omega)
  have tS : ∀ j, j ≠ i → sv (coStep c x.st i).T j = sv x.st.T j := fun j hj => coStep_T h.m.v hi hj
  have aS := coStep_at h.m.v hi
  unfold rsStep
  rw [← hp]
  rw [← hp] at hk hw0 hdr
  rw [if_neg (by simp)]
  show RsI c n N ml ⟨onA x.st (storeA x.st.s (nuFl N) 0), drBeg x.d N false, x.U.set i ⟨6, 0, b, z⟩⟩
  exact h.upd (p' := ⟨6, 0, b, z⟩) hi (lF 0).2 (fun _ _ => rfl) (.inr (.inr (.inr (.inl ⟨rfl, .inr (.inl rfl), ht⟩)))) (g_sameR h hi (by rw [← hp]; rfl) (SF 0)) (fun j hj e hw => absurd hw (oth ht j hj e)) (fun hw => by unfold wrPR at hw; simp at hw) (HF 0) (fun hr => by unfold rdStR at hr; simp at hr) (fun j hj e h0 h9 => (oth9 ht j hj e h0 h9).elim) (fun _ e => by simp at e) (fun _ e => by simp at e)
set_option maxHeartbeats 4000000 in
theorem RsI.s6 (h : RsI c n N ml x) (y : CoLy c n N ml) (l : NuL c N x.st.s.W) (hB : CoB c B x.st) (hB0 : 40 ≤ B) (hB1 : B ≤ 1000000000000) {i : Nat} (hi : i < n) (b z : Int) (hp : (⟨6, 0, b, z⟩ : Sp) = sv x.U i) (ht : (sv x.st.T i).pc = 10) : RsI c n N ml (rsStep c N x i) := by
  have hn := (y.nd i hi).1
  have hnn : ∀ j, j < n → c.node j < N := fun j hj => (y.nd j hj).1
  have hk := h.k i hi
  have hw0 := h.fl i hi
  have hdr := h.dr i hi
  have oth : (sv x.st.T i).pc = 10 → ∀ j, j < n → j ≠ i → ¬ wrPR (sv x.U j) := fun ht j hj e hw => e (h.one y hj hi (wr_tR (h.k j hj) hw) ht)
  have oth9 : (sv x.st.T i).pc = 10 → ∀ j, j < n → j ≠ i → (sv x.U j).a = 0 → (sv x.U j).pc = 9 → False := fun ht j hj e h0 h9 => oth ht j hj e ⟨h0, .inr (.inl h9)⟩
  have bA := hB.w.ld (by omega) (gaA (c.node i))
  have bW := hB.w.ld (by omega) (gaW (c.node i))
  have wA : IntKind.i64.wrap (ldW x.st.s.W (gaA (c.node i)) + 1) = ldW x.st.s.W (gaA (c.node i)) + 1 := IntWalk.i64_in _ (by omega)
  have wW : IntKind.i64.wrap (ldW x.st.s.W (gaW (c.node i)) + 1) = ldW x.st.s.W (gaW (c.node i)) + 1 := IntWalk.i64_in _ (by omega)
  have lA := low_stR h y l (z := gaA (c.node i)) ⟨(gaA_lt hn).1, by have := (gaA_lt hn).2; omega⟩ (ldW x.st.s.W (gaA (c.node i)) + 1) (s' := addA x.st.s (gaA (c.node i)) 1) (by rw [addA_W, wA])
  have lW := low_stR h y l (z := gaW (c.node i)) ⟨(gaW_lt hn).1, by have := (gaW_lt hn).2; omega⟩ (ldW x.st.s.W (gaW (c.node i)) + 1) (s' := addA x.st.s (gaW (c.node i)) 1) (by rw [addA_W, wW])
  have lF := fun v => low_stR h y l (z := nuFl N) ⟨by unfold nuFl; omega, Int.le_refl _⟩ v (s' := storeA x.st.s (nuFl N) v) (storeA_W _ _ _)
  have fA : ldW (addA x.st.s (gaA (c.node i)) 1).W (nuFl N) = ldW x.st.s.W (nuFl N) := by rw [lA.1, if_neg (by have := (gaA_lt hn).2; omega)]
  have fW : ldW (addA x.st.s (gaW (c.node i)) 1).W (nuFl N) = ldW x.st.s.W (nuFl N) := by rw [lW.1, if_neg (by have := (gaW_lt hn).2; omega)]
  have HA : ∀ a, a < N → ldW x.st.s.W (gaW a) ≤ ldW (addA x.st.s (gaA (c.node i)) 1).W (gaW a) := fun a _ => by rw [lA.1, if_neg (by unfold gaA gaW; omega)]; exact Int.le_refl _
  have HW : ∀ a, a < N → ldW x.st.s.W (gaW a) ≤ ldW (addA x.st.s (gaW (c.node i)) 1).W (gaW a) := fun a _ => by
    rw [lW.1]
    split
    · rename_i e; rw [e]; omega
    · exact Int.le_refl _
  have HF : ∀ v a, a < N → ldW x.st.s.W (gaW a) ≤ ldW (storeA x.st.s (nuFl N) v).W (gaW a) := fun v a ha => by rw [(lF v).1, if_neg (by have := (gaW_lt ha).2; omega)]; exact Int.le_refl _
  have SF : ∀ v q, q < nuFl N → ldW (storeA x.st.s (nuFl N) v).W q = ldW x.st.s.W q := fun v q hq => by rw [(lF v).1, if_neg (by omega)]
  have mS := h.m.step y hB (by omega) (by omega) hi
  have lS := h.m.stepLow y hB (by omega) (by omega) hi
  have lS' : ∀ q, q ≤ nuFl N → ldW (coStep c x.st i).s.W q = ldW x.st.s.W q := fun q hq => lS q (by have := l.tg; unfold nuFl at hq; omega)
  have tS : ∀ j, j ≠ i → sv (coStep c x.st i).T j = sv x.st.T j := fun j hj => coStep_T h.m.v hi hj
  have aS := coStep_at h.m.v hi
  unfold rsStep
  rw [← hp]
  rw [← hp] at hk hw0 hdr
  rw [if_neg (by simp)]
  have hW := drStep_W x.st.s x.d
  have go : ∀ (pc' : Int) (d' : Dr), (pc' = 6 ∨ pc' = 8) → RsI c n N ml ⟨onA x.st (drStep x.st.s x.d).1, d', x.U.set i ⟨pc', 0, b, z⟩⟩ := fun pc' d' hpc => by
    refine h.upd (p' := ⟨pc', 0, b, z⟩) hi (low_idR h y hW) (fun _ _ => rfl) (by rcases hpc with rfl | rfl; exact .inr (.inr (.inr (.inl ⟨rfl, .inr (.inl rfl), ht⟩))); exact .inr (.inr (.inr (.inl ⟨rfl, .inr (.inr (.inl rfl)), ht⟩)))) (g_sameR h hi ?_ (fun q _ => by show ldW (drStep _ _).1.W q = _; rw [hW])) (fun j hj _ hw => by show ldW (drStep _ _).1.W _ ≠ 0; rw [hW]; exact h.fl j hj hw) (fun hw => by unfold wrPR at hw; simp only at hw; omega) (fun a _ => by show _ ≤ ldW (drStep _ _).1.W _; rw [hW]; exact Int.le_refl _) (fun hr => by unfold rdStR at hr; simp at hr) (fun j hj e h0 h9 => (oth9 ht j hj e h0 h9).elim) (fun _ e => by simp only at e; omega) (fun _ e => by simp only at e; omega)
    rw [← hp, rdIn_fR (by simp), rdIn_fR (by simp)]
  show RsI c n N ml ⟨onA x.st (drStep x.st.s x.d).1, (drStep x.st.s x.d).2.1, x.U.set i ⟨if (drStep x.st.s x.d).2.2 = false then 6 else 8, 0, b, z⟩⟩
  exact go _ _ (by split <;> omega)
set_option maxHeartbeats 4000000 in
theorem RsI.s8 (h : RsI c n N ml x) (y : CoLy c n N ml) (l : NuL c N x.st.s.W) (hB : CoB c B x.st) (hB0 : 40 ≤ B) (hB1 : B ≤ 1000000000000) {i : Nat} (hi : i < n) (b z : Int) (hp : (⟨8, 0, b, z⟩ : Sp) = sv x.U i) (ht : (sv x.st.T i).pc = 10) : RsI c n N ml (rsStep c N x i) := by
  have hn := (y.nd i hi).1
  have hnn : ∀ j, j < n → c.node j < N := fun j hj => (y.nd j hj).1
  have hk := h.k i hi
  have hw0 := h.fl i hi
  have hdr := h.dr i hi
  have oth : (sv x.st.T i).pc = 10 → ∀ j, j < n → j ≠ i → ¬ wrPR (sv x.U j) := fun ht j hj e hw => e (h.one y hj hi (wr_tR (h.k j hj) hw) ht)
  have oth9 : (sv x.st.T i).pc = 10 → ∀ j, j < n → j ≠ i → (sv x.U j).a = 0 → (sv x.U j).pc = 9 → False := fun ht j hj e h0 h9 => oth ht j hj e ⟨h0, .inr (.inl h9)⟩
  have bA := hB.w.ld (by omega) (gaA (c.node i))
  have bW := hB.w.ld (by omega) (gaW (c.node i))
  have wA : IntKind.i64.wrap (ldW x.st.s.W (gaA (c.node i)) + 1) = ldW x.st.s.W (gaA (c.node i)) + 1 := IntWalk.i64_in _ (by omega)
  have wW : IntKind.i64.wrap (ldW x.st.s.W (gaW (c.node i)) + 1) = ldW x.st.s.W (gaW (c.node i)) + 1 := IntWalk.i64_in _ (by omega)
  have lA := low_stR h y l (z := gaA (c.node i)) ⟨(gaA_lt hn).1, by have := (gaA_lt hn).2; omega⟩ (ldW x.st.s.W (gaA (c.node i)) + 1) (s' := addA x.st.s (gaA (c.node i)) 1) (by rw [addA_W, wA])
  have lW := low_stR h y l (z := gaW (c.node i)) ⟨(gaW_lt hn).1, by have := (gaW_lt hn).2; omega⟩ (ldW x.st.s.W (gaW (c.node i)) + 1) (s' := addA x.st.s (gaW (c.node i)) 1) (by rw [addA_W, wW])
  have lF := fun v => low_stR h y l (z := nuFl N) ⟨by unfold nuFl; omega, Int.le_refl _⟩ v (s' := storeA x.st.s (nuFl N) v) (storeA_W _ _ _)
  have fA : ldW (addA x.st.s (gaA (c.node i)) 1).W (nuFl N) = ldW x.st.s.W (nuFl N) := by rw [lA.1, if_neg (by have := (gaA_lt hn).2; omega)]
  have fW : ldW (addA x.st.s (gaW (c.node i)) 1).W (nuFl N) = ldW x.st.s.W (nuFl N) := by rw [lW.1, if_neg (by have := (gaW_lt hn).2; omega)]
  have HA : ∀ a, a < N → ldW x.st.s.W (gaW a) ≤ ldW (addA x.st.s (gaA (c.node i)) 1).W (gaW a) := fun a _ => by rw [lA.1, if_neg (by unfold gaA gaW; omega)]; exact Int.le_refl _
  have HW : ∀ a, a < N → ldW x.st.s.W (gaW a) ≤ ldW (addA x.st.s (gaW (c.node i)) 1).W (gaW a) := fun a _ => by
    rw [lW.1]
    split
    · rename_i e; rw [e]; omega
    · exact Int.le_refl _
  have HF : ∀ v a, a < N → ldW x.st.s.W (gaW a) ≤ ldW (storeA x.st.s (nuFl N) v).W (gaW a) := fun v a ha => by rw [(lF v).1, if_neg (by have := (gaW_lt ha).2; omega)]; exact Int.le_refl _
  have SF : ∀ v q, q < nuFl N → ldW (storeA x.st.s (nuFl N) v).W q = ldW x.st.s.W q := fun v q hq => by rw [(lF v).1, if_neg (by omega)]
  have mS := h.m.step y hB (by omega) (by omega) hi
  have lS := h.m.stepLow y hB (by omega) (by omega) hi
  have lS' : ∀ q, q ≤ nuFl N → ldW (coStep c x.st i).s.W q = ldW x.st.s.W q := fun q hq => lS q (by have := l.tg; unfold nuFl at hq; omega)
  have tS : ∀ j, j ≠ i → sv (coStep c x.st i).T j = sv x.st.T j := fun j hj => coStep_T h.m.v hi hj
  have aS := coStep_at h.m.v hi
  unfold rsStep
  rw [← hp]
  rw [← hp] at hk hw0 hdr
  rw [if_neg (by simp)]
  show RsI c n N ml ⟨onA x.st (storeA x.st.s (nuFl N) 1), drBeg x.d N true, x.U.set i ⟨9, 0, b, z⟩⟩
  have hN : 1 ≤ N := by omega
  refine h.upd (p' := ⟨9, 0, b, z⟩) hi (lF 1).2 (fun _ _ => rfl) (.inr (.inr (.inr (.inl ⟨rfl, .inr (.inr (.inr (.inl rfl))), ht⟩)))) (g_sameR h hi (by rw [← hp]; rfl) (SF 1)) (fun j hj e hw => absurd hw (oth ht j hj e)) (fun _ => by show ldW (storeA _ _ _).W _ ≠ 0; rw [(lF 1).1, if_pos rfl]; decide) (HF 1) (fun hr => by unfold rdStR at hr; simp at hr) (fun j hj e h0 h9 => (oth9 ht j hj e h0 h9).elim) (fun _ _ => ?_) (fun _ e => by simp at e)
  exact ⟨⟨rfl, rfl, hN, rfl⟩, fun e => by simp [drBeg] at e, fun j hj _ => Nat.zero_le _⟩
set_option maxHeartbeats 4000000 in
theorem RsI.s9 (h : RsI c n N ml x) (y : CoLy c n N ml) (l : NuL c N x.st.s.W) (hB : CoB c B x.st) (hB0 : 40 ≤ B) (hB1 : B ≤ 1000000000000) {i : Nat} (hi : i < n) (b z : Int) (hp : (⟨9, 0, b, z⟩ : Sp) = sv x.U i) (ht : (sv x.st.T i).pc = 10) : RsI c n N ml (rsStep c N x i) := by
  have hn := (y.nd i hi).1
  have hnn : ∀ j, j < n → c.node j < N := fun j hj => (y.nd j hj).1
  have hk := h.k i hi
  have hw0 := h.fl i hi
  have hdr := h.dr i hi
  have oth : (sv x.st.T i).pc = 10 → ∀ j, j < n → j ≠ i → ¬ wrPR (sv x.U j) := fun ht j hj e hw => e (h.one y hj hi (wr_tR (h.k j hj) hw) ht)
  have oth9 : (sv x.st.T i).pc = 10 → ∀ j, j < n → j ≠ i → (sv x.U j).a = 0 → (sv x.U j).pc = 9 → False := fun ht j hj e h0 h9 => oth ht j hj e ⟨h0, .inr (.inl h9)⟩
  have bA := hB.w.ld (by omega) (gaA (c.node i))
  have bW := hB.w.ld (by omega) (gaW (c.node i))
  have wA : IntKind.i64.wrap (ldW x.st.s.W (gaA (c.node i)) + 1) = ldW x.st.s.W (gaA (c.node i)) + 1 := IntWalk.i64_in _ (by omega)
  have wW : IntKind.i64.wrap (ldW x.st.s.W (gaW (c.node i)) + 1) = ldW x.st.s.W (gaW (c.node i)) + 1 := IntWalk.i64_in _ (by omega)
  have lA := low_stR h y l (z := gaA (c.node i)) ⟨(gaA_lt hn).1, by have := (gaA_lt hn).2; omega⟩ (ldW x.st.s.W (gaA (c.node i)) + 1) (s' := addA x.st.s (gaA (c.node i)) 1) (by rw [addA_W, wA])
  have lW := low_stR h y l (z := gaW (c.node i)) ⟨(gaW_lt hn).1, by have := (gaW_lt hn).2; omega⟩ (ldW x.st.s.W (gaW (c.node i)) + 1) (s' := addA x.st.s (gaW (c.node i)) 1) (by rw [addA_W, wW])
  have lF := fun v => low_stR h y l (z := nuFl N) ⟨by unfold nuFl; omega, Int.le_refl _⟩ v (s' := storeA x.st.s (nuFl N) v) (storeA_W _ _ _)
  have fA : ldW (addA x.st.s (gaA (c.node i)) 1).W (nuFl N) = ldW x.st.s.W (nuFl N) := by rw [lA.1, if_neg (by have := (gaA_lt hn).2; omega)]
  have fW : ldW (addA x.st.s (gaW (c.node i)) 1).W (nuFl N) = ldW x.st.s.W (nuFl N) := by rw [lW.1, if_neg (by have := (gaW_lt hn).2; omega)]
  have HA : ∀ a, a < N → ldW x.st.s.W (gaW a) ≤ ldW (addA x.st.s (gaA (c.node i)) 1).W (gaW a) := fun a _ => by rw [lA.1, if_neg (by unfold gaA gaW; omega)]; exact Int.le_refl _
  have HW : ∀ a, a < N → ldW x.st.s.W (gaW a) ≤ ldW (addA x.st.s (gaW (c.node i)) 1).W (gaW a) := fun a _ => by
    rw [lW.1]
    split
    · rename_i e; rw [e]; omega
    · exact Int.le_refl _
  have HF : ∀ v a, a < N → ldW x.st.s.W (gaW a) ≤ ldW (storeA x.st.s (nuFl N) v).W (gaW a) := fun v a ha => by rw [(lF v).1, if_neg (by have := (gaW_lt ha).2; omega)]; exact Int.le_refl _
  have SF : ∀ v q, q < nuFl N → ldW (storeA x.st.s (nuFl N) v).W q = ldW x.st.s.W q := fun v q hq => by rw [(lF v).1, if_neg (by omega)]
  have mS := h.m.step y hB (by omega) (by omega) hi
  have lS := h.m.stepLow y hB (by omega) (by omega) hi
  have lS' : ∀ q, q ≤ nuFl N → ldW (coStep c x.st i).s.W q = ldW x.st.s.W q := fun q hq => lS q (by have := l.tg; unfold nuFl at hq; omega)
  have tS : ∀ j, j ≠ i → sv (coStep c x.st i).T j = sv x.st.T j := fun j hj => coStep_T h.m.v hi hj
  have aS := coStep_at h.m.v hi
  unfold rsStep
  rw [← hp]
  rw [← hp] at hk hw0 hdr
  rw [if_neg (by simp)]
  obtain ⟨⟨q1, q2, q3, q4⟩, q5, q6⟩ := hdr rfl rfl
  have hfl := hw0 ⟨rfl, .inr (.inl rfl)⟩
  have hW := drStep_W x.st.s x.d
  have hs := svS (show i < x.U.length by rw [h.lU]; exact hi)
  have nr : ∀ pc' j, rdStR (sv (x.U.set i ⟨pc', 0, b, z⟩) j) → j ≠ i ∧ rdStR (sv x.U j) := fun pc' j hr => by
    rw [hs] at hr
    split at hr
    · unfold rdStR at hr; simp at hr
    · rename_i e; exact ⟨e, hr⟩
  have go : ∀ (pc' : Int) (d' : Dr), (pc' = 9 ∨ pc' = 10 ∨ pc' = 5) → (pc' = 9 → DrIR c n N d' x.st.s.W (x.U.set i ⟨pc', 0, b, z⟩)) → (pc' = 10 → ∀ j, j < n → j ≠ i → ¬ rdStR (sv x.U j)) → RsI c n N ml ⟨onA x.st (drStep x.st.s x.d).1, d', x.U.set i ⟨pc', 0, b, z⟩⟩ := fun pc' d' hpc o9 o10 => by
    refine h.upd (p' := ⟨pc', 0, b, z⟩) hi (low_idR h y hW) (fun _ _ => rfl) (by rcases hpc with rfl | rfl | rfl; exact .inr (.inr (.inr (.inl ⟨rfl, .inr (.inr (.inr (.inl rfl))), ht⟩))); exact .inr (.inr (.inr (.inl ⟨rfl, .inr (.inr (.inr (.inr (.inl rfl)))), ht⟩))); exact .inr (.inr (.inr (.inl ⟨rfl, .inl rfl, ht⟩)))) (g_sameR h hi ?_ (fun q _ => by show ldW (drStep _ _).1.W q = _; rw [hW])) (fun j hj _ hw => by show ldW (drStep _ _).1.W _ ≠ 0; rw [hW]; exact h.fl j hj hw) (fun _ => by show ldW (drStep _ _).1.W _ ≠ 0; rw [hW]; exact hfl) (fun a _ => by show _ ≤ ldW (drStep _ _).1.W _; rw [hW]; exact Int.le_refl _) (fun hr => by unfold rdStR at hr; simp at hr) (fun j hj e h0 h9 => (oth9 ht j hj e h0 h9).elim) (fun _ h9 => ?_) (fun _ h10 => o10 h10)
    · rw [← hp, rdIn_fR (by simp), rdIn_fR (by simp)]
    · show DrIR c n N d' (drStep _ _).1.W _
      rw [hW]; exact o9 h9
  show RsI c n N ml ⟨onA x.st (drStep x.st.s x.d).1, (drStep x.st.s x.d).2.1, x.U.set i ⟨if (drStep x.st.s x.d).2.2 = false then 9 else if (9 : Int) = 6 then 8 else if (drStep x.st.s x.d).2.1.clear = true then 10 else 5, 0, b, z⟩⟩
  by_cases hsec : x.d.second = true
  · have e1 : drStep x.st.s x.d = (loadA x.st.s (gaA x.d.at_), drLast x.st.s x.d) := by unfold drStep; rw [q1, hsec]; rfl
    have e2 : (drStep x.st.s x.d).2 = drLast x.st.s x.d := by rw [e1]
    rw [e2]
    unfold drLast
    by_cases hv : ldW x.st.s.W (gaA x.d.at_) = x.d.out
    · rw [if_neg (by simpa using hv)]
      have hg := h.g x.d.at_ q3
      have hout := q5 hsec
      have hcz : cntIR c n x.U x.d.at_ = 0 := by omega
      have hno : ∀ j, j < n → rdStR (sv x.U j) → c.node j ≠ x.d.at_ := fun j hj hr e => by
        have : 0 < cntIR c n x.U x.d.at_ := cntN_pos (P := fun j => decide (c.node j = x.d.at_) && rdInR (sv x.U j)) hj (by
          simp only [Bool.and_eq_true, decide_eq_true_eq]
          exact ⟨e, rdIn_tR ⟨hr.1, .inr hr.2⟩⟩)
        omega
      by_cases hend : x.d.at_ + 1 = x.d.lim
      · rw [if_pos hend]
        refine go 10 _ (by omega) (fun e => by simp at e) (fun _ j hj e hr => ?_)
        have h1 := q6 j hj hr
        have h2 := hno j hj hr
        have h3 := hnn j hj
        omega
      · rw [if_neg hend]
        refine go 9 _ (by omega) (fun _ => ⟨⟨q1, q2, by show x.d.at_ + 1 < N; omega, q4⟩, fun e => by simp at e, fun j hj hr => ?_⟩) (fun e => by simp at e)
        have hr' := (nr 9 j hr).2
        have h1 := q6 j hj hr'
        have h2 := hno j hj hr'
        show x.d.at_ + 1 ≤ c.node j
        omega
    · rw [if_pos hv, if_pos q2]
      exact go 5 _ (by omega) (fun e => by simp at e) (fun e => by simp at e)
  · have e1 : drStep x.st.s x.d = (loadA x.st.s (gaW x.d.at_), { x.d with out := ldW x.st.s.W (gaW x.d.at_), second := true }, false) := by unfold drStep; rw [if_pos q1, if_neg hsec]
    have e2 : (drStep x.st.s x.d).2 = ({ x.d with out := ldW x.st.s.W (gaW x.d.at_), second := true }, false) := by rw [e1]
    rw [e2]
    exact go 9 _ (by omega) (fun _ => ⟨⟨q1, q2, q3, q4⟩, fun _ => Int.le_refl _, fun j hj hr => q6 j hj (nr 9 j hr).2⟩) (fun e => by simp at e)
set_option maxHeartbeats 4000000 in
theorem RsI.s12 (h : RsI c n N ml x) (y : CoLy c n N ml) (l : NuL c N x.st.s.W) (hB : CoB c B x.st) (hB0 : 40 ≤ B) (hB1 : B ≤ 1000000000000) {i : Nat} (hi : i < n) (b z : Int) (hp : (⟨12, 0, b, z⟩ : Sp) = sv x.U i) (ht : (sv x.st.T i).pc = 10) : RsI c n N ml (rsStep c N x i) := by
  have hn := (y.nd i hi).1
  have hnn : ∀ j, j < n → c.node j < N := fun j hj => (y.nd j hj).1
  have hk := h.k i hi
  have hw0 := h.fl i hi
  have hdr := h.dr i hi
  have oth : (sv x.st.T i).pc = 10 → ∀ j, j < n → j ≠ i → ¬ wrPR (sv x.U j) := fun ht j hj e hw => e (h.one y hj hi (wr_tR (h.k j hj) hw) ht)
  have oth9 : (sv x.st.T i).pc = 10 → ∀ j, j < n → j ≠ i → (sv x.U j).a = 0 → (sv x.U j).pc = 9 → False := fun ht j hj e h0 h9 => oth ht j hj e ⟨h0, .inr (.inl h9)⟩
  have bA := hB.w.ld (by omega) (gaA (c.node i))
  have bW := hB.w.ld (by omega) (gaW (c.node i))
  have wA : IntKind.i64.wrap (ldW x.st.s.W (gaA (c.node i)) + 1) = ldW x.st.s.W (gaA (c.node i)) + 1 := IntWalk.i64_in _ (by omega)
  have wW : IntKind.i64.wrap (ldW x.st.s.W (gaW (c.node i)) + 1) = ldW x.st.s.W (gaW (c.node i)) + 1 := IntWalk.i64_in _ (by omega)
  have lA := low_stR h y l (z := gaA (c.node i)) ⟨(gaA_lt hn).1, by have := (gaA_lt hn).2; omega⟩ (ldW x.st.s.W (gaA (c.node i)) + 1) (s' := addA x.st.s (gaA (c.node i)) 1) (by rw [addA_W, wA])
  have lW := low_stR h y l (z := gaW (c.node i)) ⟨(gaW_lt hn).1, by have := (gaW_lt hn).2; omega⟩ (ldW x.st.s.W (gaW (c.node i)) + 1) (s' := addA x.st.s (gaW (c.node i)) 1) (by rw [addA_W, wW])
  have lF := fun v => low_stR h y l (z := nuFl N) ⟨by unfold nuFl; omega, Int.le_refl _⟩ v (s' := storeA x.st.s (nuFl N) v) (storeA_W _ _ _)
  have fA : ldW (addA x.st.s (gaA (c.node i)) 1).W (nuFl N) = ldW x.st.s.W (nuFl N) := by rw [lA.1, if_neg (by have := (gaA_lt hn).2; omega)]
  have fW : ldW (addA x.st.s (gaW (c.node i)) 1).W (nuFl N) = ldW x.st.s.W (nuFl N) := by rw [lW.1, if_neg (by have := (gaW_lt hn).2; omega)]
  have HA : ∀ a, a < N → ldW x.st.s.W (gaW a) ≤ ldW (addA x.st.s (gaA (c.node i)) 1).W (gaW a) := fun a _ => by rw [lA.1, if_neg (by unfold gaA gaW; omega)]; exact Int.le_refl _
  have HW : ∀ a, a < N → ldW x.st.s.W (gaW a) ≤ ldW (addA x.st.s (gaW (c.node i)) 1).W (gaW a) := fun a _ => by
    rw [lW.1]
    split
    · rename_i e; rw [e]; omega
    · exact Int.le_refl _
  have HF : ∀ v a, a < N → ldW x.st.s.W (gaW a) ≤ ldW (storeA x.st.s (nuFl N) v).W (gaW a) := fun v a ha => by rw [(lF v).1, if_neg (by have := (gaW_lt ha).2; omega)]; exact Int.le_refl _
  have SF : ∀ v q, q < nuFl N → ldW (storeA x.st.s (nuFl N) v).W q = ldW x.st.s.W q := fun v q hq => by rw [(lF v).1, if_neg (by omega)]
  have mS := h.m.step y hB (by omega) (by omega) hi
  have lS := h.m.stepLow y hB (by omega) (by omega) hi
  have lS' : ∀ q, q ≤ nuFl N → ldW (coStep c x.st i).s.W q = ldW x.st.s.W q := fun q hq => lS q (by have := l.tg; unfold nuFl at hq; omega)
  have tS : ∀ j, j ≠ i → sv (coStep c x.st i).T j = sv x.st.T j := fun j hj => coStep_T h.m.v hi hj
  have aS := coStep_at h.m.v hi
  unfold rsStep
  rw [← hp]
  rw [← hp] at hk hw0 hdr
  rw [if_neg (by simp)]
  show RsI c n N ml ⟨coLeave (onA x.st (storeA x.st.s (nuFl N) 0)) i, x.d, x.U.set i ⟨13, 0, b, z⟩⟩
  have hm := (lF 0).2.leave y hi
  have hs := coLeave_s (onA x.st (storeA x.st.s (nuFl N) 0)) i
  have hT' : (sv (coLeave (onA x.st (storeA x.st.s (nuFl N) 0)) i).T i).pc = 11 := (coLeave_T (st := onA x.st (storeA x.st.s (nuFl N) 0)) (j := i) (lF 0).2.v hi).2 ht
  refine h.upd (p' := ⟨13, 0, b, z⟩) hi hm (fun j hj => (coLeave_T (st := onA x.st (storeA x.st.s (nuFl N) 0)) (lF 0).2.v hi).1 hj) (.inr (.inr (.inr (.inr ⟨rfl, rfl, by omega⟩)))) ?_ (fun j hj e hw => absurd hw (oth ht j hj e)) (fun hw => by unfold wrPR at hw; simp at hw) (fun a ha => ?_) (fun hr => by unfold rdStR at hr; simp at hr) (fun _ _ _ _ _ => rfl) (fun _ e => by simp at e) (fun _ e => by simp at e)
  · show ∀ a, a < N → ldW (coLeave _ i).s.W _ = _
    rw [hs]
    exact g_sameR h hi (by rw [← hp]; rfl) (SF 0)
  · show _ ≤ ldW (coLeave _ i).s.W _
    rw [hs]; exact HF 0 a ha
set_option maxHeartbeats 4000000 in
theorem RsI.s13 (h : RsI c n N ml x) (y : CoLy c n N ml) (l : NuL c N x.st.s.W) (hB : CoB c B x.st) (hB0 : 40 ≤ B) (hB1 : B ≤ 1000000000000) {i : Nat} (hi : i < n) (b z : Int) (hp : (⟨13, 0, b, z⟩ : Sp) = sv x.U i) (ht : 10 < (sv x.st.T i).pc) : RsI c n N ml (rsStep c N x i) := by
  have hn := (y.nd i hi).1
  have hnn : ∀ j, j < n → c.node j < N := fun j hj => (y.nd j hj).1
  have hk := h.k i hi
  have hw0 := h.fl i hi
  have hdr := h.dr i hi
  have oth : (sv x.st.T i).pc = 10 → ∀ j, j < n → j ≠ i → ¬ wrPR (sv x.U j) := fun ht j hj e hw => e (h.one y hj hi (wr_tR (h.k j hj) hw) ht)
  have oth9 : (sv x.st.T i).pc = 10 → ∀ j, j < n → j ≠ i → (sv x.U j).a = 0 → (sv x.U j).pc = 9 → False := fun ht j hj e h0 h9 => oth ht j hj e ⟨h0, .inr (.inl h9)⟩
  have bA := hB.w.ld (by omega) (gaA (c.node i))
  have bW := hB.w.ld (by omega) (gaW (c.node i))
  have wA : IntKind.i64.wrap (ldW x.st.s.W (gaA (c.node i)) + 1) = ldW x.st.s.W (gaA (c.node i)) + 1 := IntWalk.i64_in _ (by omega)
  have wW : IntKind.i64.wrap (ldW x.st.s.W (gaW (c.node i)) + 1) = ldW x.st.s.W (gaW (c.node i)) + 1 := IntWalk.i64_in _ (by omega)
  have lA := low_stR h y l (z := gaA (c.node i)) ⟨(gaA_lt hn).1, by have := (gaA_lt hn).2; omega⟩ (ldW x.st.s.W (gaA (c.node i)) + 1) (s' := addA x.st.s (gaA (c.node i)) 1) (by rw [addA_W, wA])
  have lW := low_stR h y l (z := gaW (c.node i)) ⟨(gaW_lt hn).1, by have := (gaW_lt hn).2; omega⟩ (ldW x.st.s.W (gaW (c.node i)) + 1) (s' := addA x.st.s (gaW (c.node i)) 1) (by rw [addA_W, wW])
  have lF := fun v => low_stR h y l (z := nuFl N) ⟨by unfold nuFl; omega, Int.le_refl _⟩ v (s' := storeA x.st.s (nuFl N) v) (storeA_W _ _ _)
  have fA : ldW (addA x.st.s (gaA (c.node i)) 1).W (nuFl N) = ldW x.st.s.W (nuFl N) := by rw [lA.1, if_neg (by have := (gaA_lt hn).2; omega)]
  have fW : ldW (addA x.st.s (gaW (c.node i)) 1).W (nuFl N) = ldW x.st.s.W (nuFl N) := by rw [lW.1, if_neg (by have := (gaW_lt hn).2; omega)]
  have HA : ∀ a, a < N → ldW x.st.s.W (gaW a) ≤ ldW (addA x.st.s (gaA (c.node i)) 1).W (gaW a) := fun a _ => by rw [lA.1, if_neg (by unfold gaA gaW; omega)]; exact Int.le_refl _
  have HW : ∀ a, a < N → ldW x.st.s.W (gaW a) ≤ ldW (addA x.st.s (gaW (c.node i)) 1).W (gaW a) := fun a _ => by
    rw [lW.1]
    split
    · rename_i e; rw [e]; omega
    · exact Int.le_refl _
  have HF : ∀ v a, a < N → ldW x.st.s.W (gaW a) ≤ ldW (storeA x.st.s (nuFl N) v).W (gaW a) := fun v a ha => by rw [(lF v).1, if_neg (by have := (gaW_lt ha).2; omega)]; exact Int.le_refl _
  have SF : ∀ v q, q < nuFl N → ldW (storeA x.st.s (nuFl N) v).W q = ldW x.st.s.W q := fun v q hq => by rw [(lF v).1, if_neg (by omega)]
  have mS := h.m.step y hB (by omega) (by omega) hi
  have lS := h.m.stepLow y hB (by omega) (by omega) hi
  have lS' : ∀ q, q ≤ nuFl N → ldW (coStep c x.st i).s.W q = ldW x.st.s.W q := fun q hq => lS q (by have := l.tg; unfold nuFl at hq; omega)
  have tS : ∀ j, j ≠ i → sv (coStep c x.st i).T j = sv x.st.T j := fun j hj => coStep_T h.m.v hi hj
  have aS := coStep_at h.m.v hi
  unfold rsStep
  rw [← hp]
  rw [← hp] at hk hw0 hdr
  rw [if_neg (by simp)]
  have a1 := aS.2 ht
  show RsI c n N ml ⟨coStep c x.st i, x.d, x.U.set i ⟨if cameK (sv x.st.T i) (sv (coStep c x.st i).T i) then 0 else 13, 0, b, z⟩⟩
  rw [a1.2]
  by_cases e10 : (sv (coStep c x.st i).T i).pc = 0
  · rw [decide_eq_true e10]
    exact h.upd (p' := ⟨0, 0, b, z⟩) hi mS tS (.inl ⟨rfl, by omega⟩) (g_sameR h hi (by rw [← hp]; rfl) (fun q hq => lS' q (by omega))) (fun j hj _ hw => by rw [lS' _ (Int.le_refl _)]; exact h.fl j hj hw) (fun hw => by unfold wrPR at hw; simp at hw) (fun a ha => by rw [lS' _ (by have := (gaW_lt ha).2; omega)]; exact Int.le_refl _) (fun hr => by unfold rdStR at hr; simp at hr) (fun _ _ _ _ _ => rfl) (fun _ e => by simp at e) (fun _ e => by simp at e)
  · rw [decide_eq_false e10]
    have a2 := a1.1
    exact h.upd (p' := ⟨13, 0, b, z⟩) hi mS tS (.inr (.inr (.inr (.inr ⟨rfl, rfl, by omega⟩)))) (g_sameR h hi (by rw [← hp]) (fun q hq => lS' q (by omega))) (fun j hj _ hw => by rw [lS' _ (Int.le_refl _)]; exact h.fl j hj hw) (fun hw => by unfold wrPR at hw; simp at hw) (fun a ha => by rw [lS' _ (by have := (gaW_lt ha).2; omega)]; exact Int.le_refl _) (fun hr => by unfold rdStR at hr; simp at hr) (fun _ _ _ _ _ => rfl) (fun _ e => by simp at e) (fun _ e => by simp at e)
set_option maxHeartbeats 4000000 in
theorem RsI.step (h : RsI c n N ml x) (y : CoLy c n N ml) (l : NuL c N x.st.s.W) (hB : CoB c B x.st) (hB0 : 40 ≤ B) (hB1 : B ≤ 1000000000000) {i : Nat} (hi : i < n) : RsI c n N ml (rsStep c N x i) := by
  have hk := h.k i hi
  obtain ⟨p, hp⟩ : ∃ p, p = sv x.U i := ⟨_, rfl⟩
  rw [← hp] at hk
  by_cases hne : p.pc = 0 ∨ p.pc = 10
  · unfold rsStep; rw [← hp, if_pos hne]; exact h
  unfold linkR at hk
  obtain ⟨pc, u, b, z⟩ := p
  simp only at hk hne
  rcases hk with ⟨q1, q2⟩ | ⟨rfl, q2, q3⟩ | ⟨rfl, rfl, q3⟩ | ⟨rfl, q2, q3⟩ | ⟨rfl, rfl, q3⟩
  · exact absurd (.inl q1) hne
  · rcases q2 with rfl | rfl | rfl | rfl
    · exact h.s1 y l hB hB0 hB1 hi b z hp q3
    · exact h.s2 y l hB hB0 hB1 hi b z hp q3
    · exact absurd (.inr rfl) hne
    · exact h.s11 y l hB hB0 hB1 hi b z hp q3
  · exact h.s7 y l hB hB0 hB1 hi b z hp q3
  · rcases q2 with rfl | rfl | rfl | rfl | rfl | rfl
    · exact h.s5 y l hB hB0 hB1 hi b z hp q3
    · exact h.s6 y l hB hB0 hB1 hi b z hp q3
    · exact h.s8 y l hB hB0 hB1 hi b z hp q3
    · exact h.s9 y l hB hB0 hB1 hi b z hp q3
    · exact absurd (.inr rfl) hne
    · exact h.s12 y l hB hB0 hB1 hi b z hp q3
  · exact h.s13 y l hB hB0 hB1 hi b z hp q3
end
end Go.Proofs.YtmlcfmickonfbaaGreat
end
