/- Joined: Lv7, Lv8, LvW. -/
import Derived.Test.YtndipiockdmaoaaGreatMgWritersAll18
import Derived.Test.YtndipiockdmaoaaGreatMgWritersAll27
section
set_option linter.unusedVariables false
set_option linter.unusedSimpArgs false
/- Layer 24 (cohort), plain: a new lock never stands still. No program in sight. -/
namespace Go.Proofs.YtndipiockdmaoaaGreat
open Go

/-- a new flat lock -/
theorem lvf_new {k : Nat} (hk : 1 ≤ k ∧ k ≤ 5) (s : Ar) {n m : Nat} (hm : 1 ≤ m) : LvF k (s.W.length + 1 : Nat) (m : Int) n (ldW (newAr_ k s n m).W) (sv (newSpK k n)) := by
  have p0 := newSp_sv0 k n
  have hr : ∀ y : Int, (s.W.length : Int) < y → y ≤ s.W.length + szK k n m → inR (takeS s (szK k n m)).W y = true := fun y h1 h2 => inR_true.2 ⟨by omega, by rw [takeS_len]; omega⟩
  have h0 : ∀ y : Int, (s.W.length : Int) < y → ldW (takeS s (szK k n m)).W y = 0 := fun y hy => ldW_new _ _ hy
  have hk' : k = 1 ∨ k = 2 ∨ k = 3 ∨ k = 4 ∨ k = 5 := by omega
  rcases hk' with rfl | rfl | rfl | rfl | rfl
  · show ldW (takeS s (szK 1 n m)).W _ ≠ 0 → _
    intro h
    exact absurd (h0 _ (by omega)) h
  · show OwnK n _ (ldW (takeS s (szK 2 n m)).W _) (ldW (takeS s (szK 2 n m)).W _)
    rw [h0 _ (by omega), h0 _ (by omega)]
    intro v h1 h2; omega
  · show ∀ v, PartI _ _ n (ldW (storeA (takeS s (szK 3 n m)) ((s.W.length : Int) + 2) 1).W) _ v → OwnK n _ v (ldW (storeA (takeS s (szK 3 n m)) ((s.W.length : Int) + 2) 1).W _)
    intro v hv
    have hw := ldW_st (hr ((s.W.length : Int) + 2) (by omega) (by show (s.W.length : Int) + 2 ≤ s.W.length + (1 + m : Nat); omega)) 1
    have h1 := hv.v0
    rw [storeA_W, hw, if_neg (by omega), h0 _ (by omega)]
    intro u h2 h3; omega
  · show ∀ i, i < n → (sv (newSpK 4 n) i).pc = 13 → _
    intro i hi hc
    rw [p0] at hc; omega
  · trivial
section
variable {kg kl par : Nat} {bud : Int} {P T : List Int} {s : Ar}
theorem l_new (hc : chkT P T = 0) (hkg : 1 ≤ kg ∧ kg ≤ 5) (hkl : 1 ≤ kl ∧ kl ≤ 5) (hp : 1 ≤ par ∧ par ≤ 4) : CoL (coCN kg kl par bud P T s) T.length (leavesL P).length (mtQ P T) (coStN kg kl par P T s) := by
  have y := ly_new (bud := bud) (s := s) hc hkg hkl hp
  obtain ⟨s7, hs7⟩ : ∃ x, x = newAr_ kg s (leavesL P).length par := ⟨_, rfl⟩
  have eW : (coStN kg kl par P T s).s = coNewS kl par (mtQ P T) s7 (leavesL P).length := by rw [hs7]; rfl
  have hlen0 : (coNewS kl par (mtQ P T) s7 0).W.length = s.W.length + szK kg (leavesL P).length par := by rw [hs7]; exact newAr_len _ _ _ _
  have hget : ∀ n, n < (leavesL P).length → (coStN kg kl par P T s).L.getD n [] = newSpK kl (mtQ P T n) := fun n hn => by
    rw [List.getD_eq_getElem?_getD]
    simp [coStN, coNewL, hn]
  have hT0 : ∀ j, (sv (coStN kg kl par P T s).T j).pc = 0 := fun j => by
    show (sv (List.replicate T.length Sp.zero) j).pc = 0
    unfold sv
    rw [List.getD_eq_getElem?_getD, List.getElem?_replicate]
    split <;> rfl
  have t0 : ∀ {k : Nat} {p : Sp}, p.pc = 0 → tasB k p := fun {k p} h _ => ⟨fun q => by omega, fun q => by omega⟩
  refine ⟨?_, fun a ha => ?_, fun a ha => t0 (newSp_sv0 _ _ _), fun a ha z hz => ?_, fun a ha z hz hp => ?_, fun a ha hg => ?_, fun i hi h13 => ?_⟩
  · have h1 := lvf_new hkg s (n := (leavesL P).length) hp.1
    rw [eW]
    refine h1.congr y.k.1 (by show (1 : Int) ≤ (par : Nat); omega) (fun x h2 h3 => ?_)
    have h3' : x < ((s.W.length + 1 : Nat) : Int) + szI kg (leavesL P).length (par : Int) := h3
    rw [szI_K] at h3'
    rw [coNewS_pre (Nat.zero_le _) (by rw [hlen0]; omega), hs7]; rfl
  · rw [hget a ha, eW]
    have h1 := lvf_new hkl (coNewS kl par (mtQ P T) s7 a) (n := mtQ P T a) hp.1
    have et : (coCN kg kl par bud P T s).tl a = (((coNewS kl par (mtQ P T) s7 a).W.length + 1 : Nat) : Int) := by rw [hs7]; rfl
    rw [et]
    refine h1.congr y.k.2 (by show (1 : Int) ≤ (par : Nat); omega) (fun x h2 h3 => ?_)
    have h3' : x < (((coNewS kl par (mtQ P T) s7 a).W.length + 1 : Nat) : Int) + szI kl (mtQ P T a) (par : Int) := h3
    rw [szI_K] at h3'
    have e1 : ((coNewS kl par (mtQ P T) s7 (a + 1)).W.length : Int) = (coNewS kl par (mtQ P T) s7 a).W.length + szK kl (mtQ P T a) par + 1 := by
      show ((takeS (newAr_ _ _ _ _) 1).W.length : Int) = _
      rw [takeS_len, newAr_len]; omega
    rw [coNewS_pre (j := a + 1) ha (by omega)]
    show ldW (takeS (newAr_ kl (coNewS kl par (mtQ P T) s7 a) (mtQ P T a) par) 1).W x = _
    exact ldW_app _ _ (by rw [newAr_len]; omega)
  · refine t0 ?_
    rw [ls_sv, hget a ha]; exact newSp_sv0 _ _ _
  · exfalso
    rw [ls_sv, hget a ha] at hp
    exact hp (newSp_sv0 _ _ _)
  · exfalso
    have : (sv (newSpK kg (leavesL P).length) a).pc = 10 := hg
    rw [newSp_sv0] at this; omega
  · rw [hT0] at h13; omega
end
end Go.Proofs.YtndipiockdmaoaaGreat
end
section
set_option linter.unusedVariables false
set_option linter.unusedSimpArgs false
/- Layer 36 (neutral), plain: whoever has asked holds some time: by rounds. No program in sight. -/
namespace Go.Proofs.YtndipiockdmaoaaGreat
open Go

theorem cntN_exL {P : Nat → Bool} : ∀ n, 0 < cntN n P → ∃ i, i < n ∧ P i = true
  | 0, h => absurd h (Nat.lt_irrefl _)
  | n + 1, h => by
    rw [cntN_succ] at h
    by_cases hp : P n = true
    · exact ⟨n, by omega, hp⟩
    · rw [if_neg hp] at h
      obtain ⟨i, hi, hpi⟩ := cntN_exL n (by omega)
      exact ⟨i, by omega, hpi⟩
section
variable {c : CoC} {n N L : Nat} {ml : Nat → Nat} {x : Nu} {B : Int}
theorem CoL.same {st : Co} {s' : Ar} (h : CoL c n N ml st) (hM : CoM c n N ml st) (y : CoLy c n N ml) (hW : s'.W = st.s.W) : CoL c n N ml (onA st s') := h.low hM y (fun q _ => by rw [hW])
def nuRest (n : Nat) (x : Nu) : Prop := ∀ i, i < n → (sv x.U i).pc = 0
end
end Go.Proofs.YtndipiockdmaoaaGreat
end
section
set_option linter.unusedVariables false
set_option linter.unusedSimpArgs false
/- Layer 38 (writers), plain: whoever has asked holds some time. No program in sight. (printed by gen_lvw.py) -/
namespace Go.Proofs.YtndipiockdmaoaaGreat
open Go

/-- what is left to a thread, as the flag is up or not -/
def nvW (f : Bool) (p : Sp) : Nat :=
  if p.pc = 0 then 0 else if p.a = 1 then (if p.pc = 11 then 6 else if p.pc = 10 then 7 else if p.pc = 4 then 21 else if p.pc = 3 then (if f then 22 else 8) else if p.pc = 2 then (if f then 28 else 14) else 15)
  else (if p.pc = 13 then 1 else if p.pc = 12 then 2 else if p.pc = 10 then 3 else if p.pc = 9 then 4 else if p.pc = 7 then 70 else 209)
theorem nvW_f (f g : Bool) (p : Sp) : nvW f p ≤ nvW g p + 14 ∧ nvW false p ≤ nvW g p := by
  unfold nvW
  cases f <;> cases g <;> simp only [Bool.false_eq_true, if_false, if_true] <;> constructor <;> ((repeat' split) <;> omega)
def upNf (N : Nat) (W : List Int) : Bool := decide (ldW W (nuFl N) ≠ 0)
def wwt (c : CoC) (N : Nat) (x : Nu) (i : Nat) : Nat := nvW (upNf N x.st.s.W) (sv x.U i) + cwt c x.st i + (if (sv x.U i).a = 0 ∧ (sv x.U i).pc = 9 then drD x.d x.st.s.W else 0)
def WWit (c : CoC) (N : Nat) (x : Nu) (i : Nat) : Prop :=
  ((sv x.U i).pc = 2 ∨ (sv x.U i).pc = 3 ∨ (sv x.U i).pc = 4 ∨ (sv x.U i).pc = 5 ∨ (sv x.U i).pc = 10 ∨ (sv x.U i).pc = 11 ∨ (sv x.U i).pc = 12) ∨ ((sv x.U i).pc = 1 ∧ ldW x.st.s.W (nuFl N) = 0) ∨
    (((sv x.U i).pc = 7 ∨ (sv x.U i).pc = 13) ∧ CWit c x.st i) ∨ ((sv x.U i).pc = 9 ∧ ldW x.st.s.W (gaA x.d.at_) = ldW x.st.s.W (gaW x.d.at_))
def WOn (c : CoC) (n N : Nat) (x x' : Nu) (i : Nat) : Prop := ∃ e, wwt c N x' i + 1 + 5 * e ≤ wwt c N x i ∧ ∀ j, j < n → j ≠ i → wwt c N x' j ≤ wwt c N x j + e
def WOff (c : CoC) (n N : Nat) (x x' : Nu) (i : Nat) : Prop := x'.U = x.U ∧ wwt c N x' i = wwt c N x i ∧ ∀ j, j < n → j ≠ i → wwt c N x' j = wwt c N x j ∧ (WWit c N x j → WWit c N x' j)
section
variable {c : CoC} {n N L : Nat} {ml : Nat → Nat} {x : Nu} {B : Int}
theorem set_same {U : List Sp} {i : Nat} {p : Sp} (hl : i < U.length) (h : p = sv U i) : U.set i p = U := by
  rw [h]
  unfold sv
  rw [List.getD_eq_getElem?_getD, List.getElem?_eq_getElem hl]
  exact List.set_getElem_self hl
theorem wwt_set {st' : Co} {d' : Dr} {p' : Sp} {i : Nat} (hl : i < x.U.length) : wwt c N ⟨st', d', x.U.set i p'⟩ i = nvW (upNf N st'.s.W) p' + cwt c st' i + (if p'.a = 0 ∧ p'.pc = 9 then drD d' st'.s.W else 0) := by
  unfold wwt
  simp only
  rw [svS hl, if_pos rfl]
theorem wwt_oth {st' : Co} {d' : Dr} {p' : Sp} {i j : Nat} (hl : i < x.U.length) (hji : j ≠ i) {e1 e2 e3 : Nat} (h1 : cwt c st' j ≤ cwt c x.st j + e1) (h2 : (sv x.U j).a = 0 → (sv x.U j).pc = 9 → drD d' st'.s.W ≤ drD x.d x.st.s.W + e2) (h3 : nvW (upNf N st'.s.W) (sv x.U j) ≤ nvW (upNf N x.st.s.W) (sv x.U j) + e3) : wwt c N ⟨st', d', x.U.set i p'⟩ j ≤ wwt c N x j + (e1 + e2 + e3) := by
  unfold wwt
  simp only
  rw [svS hl, if_neg hji]
  split
  · rename_i q
    have := h2 q.1 q.2
    omega
  · omega
theorem upNf_eq {W W' : List Int} (h : ldW W' (nuFl N) = ldW W (nuFl N)) : upNf N W' = upNf N W := by unfold upNf; rw [h]
theorem wsStep_L (h : WsI c n N ml x) (hL : CoL c n N ml x.st) (y : CoLy c n N ml) (l : NuL c N x.st.s.W) (hB : CoB c B x.st) (hB0 : 40 ≤ B) (hB1 : B ≤ 1000000000000) (hm4 : c.m ≤ 4) {i : Nat} (hi : i < n) : CoL c n N ml (wsStep c N x i).st := by
  have hn := (y.nd i hi).1
  have bA := hB.w.ld (by omega) (gaA (c.node i))
  have bW := hB.w.ld (by omega) (gaW (c.node i))
  have bF := hB.w.ld (by omega) (nuFl N)
  have lA := low_stW h y l (z := gaA (c.node i)) ⟨(gaA_lt hn).1, by have := (gaA_lt hn).2; omega⟩ (ldW x.st.s.W (gaA (c.node i)) + 1) (s' := addA x.st.s (gaA (c.node i)) 1) (by rw [addA_W, IntWalk.i64_in _ (by omega)])
  have lW := low_stW h y l (z := gaW (c.node i)) ⟨(gaW_lt hn).1, by have := (gaW_lt hn).2; omega⟩ (ldW x.st.s.W (gaW (c.node i)) + 1) (s' := addA x.st.s (gaW (c.node i)) 1) (by rw [addA_W, IntWalk.i64_in _ (by omega)])
  have lF : ∀ v : Int, (v = 1 ∨ v = -1) → _ := fun v hv => low_stW h y l (z := nuFl N) ⟨by unfold nuFl; omega, Int.le_refl _⟩ (ldW x.st.s.W (nuFl N) + v) (s' := addA x.st.s (nuFl N) v) (by rw [addA_W, IntWalk.i64_in _ (by omega)])
  have LA := hL.low h.m y (s' := addA x.st.s (gaA (c.node i)) 1) (fun q hq => by rw [lA.1, if_neg (by have := (gaA_lt hn).2; have := l.tg; unfold nuFl at *; omega)])
  have LW := hL.low h.m y (s' := addA x.st.s (gaW (c.node i)) 1) (fun q hq => by rw [lW.1, if_neg (by have := (gaW_lt hn).2; have := l.tg; unfold nuFl at *; omega)])
  have LF : ∀ v : Int, (v = 1 ∨ v = -1) → CoL c n N ml (onA x.st (addA x.st.s (nuFl N) v)) := fun v hv => hL.low h.m y (s' := addA x.st.s (nuFl N) v) (fun q hq => by rw [(lF v hv).1, if_neg (by have := l.tg; unfold nuFl; omega)])
  have ST := hL.step h.m y hB (by omega) (by omega) hm4 hi
  unfold wsStep
  split
  · exact hL
  · show CoL c n N ml (wsDoes c N x i (sv x.U i)).1
    unfold wsDoes
    split
    · split
      · exact hL.same h.m y (loadA_W _ _)
      split
      · exact LA
      split
      · exact hL.same h.m y (loadA_W _ _)
      split
      · exact LW
      · exact LW
    split
    · exact (LF 1 (.inl rfl)).ask (lF 1 (.inl rfl)).2 y hi
    split
    · exact ST
    split
    · exact hL.same h.m y (drStep_W _ _)
    split
    · exact (LF (-1) (.inr rfl)).leave (lF (-1) (.inr rfl)).2 y hi
    · exact ST
set_option maxHeartbeats 4000000 in
theorem ws_go (h : WsI c n N ml x) (hL : CoL c n N ml x.st) (y : CoLy c n N ml) (l : NuL c N x.st.s.W) (hB : CoB c B x.st) (hB0 : 40 ≤ B) (hB1 : B ≤ 1000000000000) (hm4 : c.m ≤ 4) (hN : N ≤ 32) {i : Nat} (hi : i < n) (h0 : (sv x.U i).pc ≠ 0) (h10 : (sv x.U i).pc ≠ 10) :
    (WWit c N x i → WOn c n N x (wsStep c N x i) i) ∧ (¬ WWit c N x i → WOff c n N x (wsStep c N x i) i) := by
  have hn := (y.nd i hi).1
  have hk := h.k i hi
  have hdr := h.dr i hi
  have hl : i < x.U.length := by rw [h.lU]; exact hi
  have ex : wsStep c N x i = ⟨(wsDoes c N x i (sv x.U i)).1, (wsDoes c N x i (sv x.U i)).2.1, x.U.set i { (sv x.U i) with pc := (wsDoes c N x i (sv x.U i)).2.2 }⟩ := by
    unfold wsStep; rw [if_neg (by omega)]
  have bA := hB.w.ld (by omega) (gaA (c.node i))
  have bW := hB.w.ld (by omega) (gaW (c.node i))
  have bF := hB.w.ld (by omega) (nuFl N)
  have lA := low_stW h y l (z := gaA (c.node i)) ⟨(gaA_lt hn).1, by have := (gaA_lt hn).2; omega⟩ (ldW x.st.s.W (gaA (c.node i)) + 1) (s' := addA x.st.s (gaA (c.node i)) 1) (by rw [addA_W, IntWalk.i64_in _ (by omega)])
  have lW := low_stW h y l (z := gaW (c.node i)) ⟨(gaW_lt hn).1, by have := (gaW_lt hn).2; omega⟩ (ldW x.st.s.W (gaW (c.node i)) + 1) (s' := addA x.st.s (gaW (c.node i)) 1) (by rw [addA_W, IntWalk.i64_in _ (by omega)])
  have lF : ∀ v : Int, (v = 1 ∨ v = -1) → _ := fun v hv => low_stW h y l (z := nuFl N) ⟨by unfold nuFl; omega, Int.le_refl _⟩ (ldW x.st.s.W (nuFl N) + v) (s' := addA x.st.s (nuFl N) v) (by rw [addA_W, IntWalk.i64_in _ (by omega)])
  have tgA : ∀ q, c.tg ≤ q → ldW (addA x.st.s (gaA (c.node i)) 1).W q = ldW x.st.s.W q := fun q hq => by rw [lA.1, if_neg (by have := (gaA_lt hn).2; have := l.tg; unfold nuFl at *; omega)]
  have tgW : ∀ q, c.tg ≤ q → ldW (addA x.st.s (gaW (c.node i)) 1).W q = ldW x.st.s.W q := fun q hq => by rw [lW.1, if_neg (by have := (gaW_lt hn).2; have := l.tg; unfold nuFl at *; omega)]
  have tgF : ∀ v : Int, (v = 1 ∨ v = -1) → ∀ q, c.tg ≤ q → ldW (addA x.st.s (nuFl N) v).W q = ldW x.st.s.W q := fun v hv q hq => by rw [(lF v hv).1, if_neg (by have := l.tg; unfold nuFl; omega)]
  have fA : upNf N (addA x.st.s (gaA (c.node i)) 1).W = upNf N x.st.s.W := upNf_eq (by rw [lA.1, if_neg (by have := (gaA_lt hn).2; omega)])
  have fW : upNf N (addA x.st.s (gaW (c.node i)) 1).W = upNf N x.st.s.W := upNf_eq (by rw [lW.1, if_neg (by have := (gaW_lt hn).2; omega)])
  have LF : ∀ v : Int, (v = 1 ∨ v = -1) → CoL c n N ml (onA x.st (addA x.st.s (nuFl N) v)) := fun v hv => hL.low h.m y (tgF v hv)
  have hat : ∀ j, j < n → (sv x.U j).a = 0 → (sv x.U j).pc = 9 → x.d.at_ < N := fun j hj a9 p9 => (h.dr j hj a9 p9).1.2.2.1
  have hgn : ∀ a, a < N → ldW x.st.s.W (gaW a) ≤ ldW x.st.s.W (gaA a) := fun a ha => by have := h.g a ha; omega
  have dA : ∀ j, j < n → (sv x.U j).a = 0 → (sv x.U j).pc = 9 → drD x.d (addA x.st.s (gaA (c.node i)) 1).W ≤ drD x.d x.st.s.W + 1 := fun j hj a9 p9 => by
    refine drLv_op ?_
    rw [lA.1, lA.1]
    by_cases q : x.d.at_ = c.node i
    · right; left
      rw [q, if_pos rfl, if_neg (by unfold gaA gaW; omega)]
      exact ⟨rfl, rfl, hgn _ hn⟩
    · left
      rw [if_neg (by unfold gaA; omega), if_neg (by unfold gaA gaW; omega)]
      exact ⟨rfl, rfl⟩
  have dW : rdInW (sv x.U i) = true → ∀ j, j < n → (sv x.U j).a = 0 → (sv x.U j).pc = 9 → drD x.d (addA x.st.s (gaW (c.node i)) 1).W ≤ drD x.d x.st.s.W + 1 := fun hin j hj a9 p9 => by
    refine drLv_op ?_
    rw [lW.1, lW.1]
    by_cases q : x.d.at_ = c.node i
    · right; right
      rw [q, if_neg (by unfold gaA gaW; omega), if_pos rfl]
      refine ⟨rfl, rfl, ?_⟩
      have hg := h.g _ hn
      have : 0 < cntIW c n x.U (c.node i) := cntN_pos (P := fun j => decide (c.node j = c.node i) && rdInW (sv x.U j)) hi (by simp only [Bool.and_eq_true, decide_eq_true_eq]; exact ⟨trivial, hin⟩)
      omega
    · left
      rw [if_neg (by unfold gaA gaW; omega), if_neg (by unfold gaW; omega)]
      exact ⟨rfl, rfl⟩
  have low9 : ∀ j, j < n → (sv x.U j).a = 0 → (sv x.U j).pc = 9 → gaA x.d.at_ < nuFl N ∧ gaW x.d.at_ < nuFl N := fun j hj a9 p9 => ⟨(gaA_lt (hat j hj a9 p9)).2, (gaW_lt (hat j hj a9 p9)).2⟩
  have dF : ∀ v : Int, (v = 1 ∨ v = -1) → ∀ j, j < n → (sv x.U j).a = 0 → (sv x.U j).pc = 9 → drD x.d (addA x.st.s (nuFl N) v).W ≤ drD x.d x.st.s.W + 0 := fun v hv j hj a9 p9 => by
    have := low9 j hj a9 p9
    have e := drLv_same (d := x.d) (W := x.st.s.W) (W' := (addA x.st.s (nuFl N) v).W) (by rw [(lF v hv).1, if_neg (by omega)]) (by rw [(lF v hv).1, if_neg (by omega)])
    rw [e]
    exact Nat.le_refl _
  have oth9 : (sv x.st.T i).pc = 10 → ∀ j, j < n → j ≠ i → (sv x.U j).a = 0 → (sv x.U j).pc = 9 → False := fun ht j hj e a9 p9 => e (h.one y hj hi (wr_tW (h.k j hj) ⟨a9, .inl p9⟩) ht)
  have lS := h.m.stepLow y hB (by omega) (by omega) hi
  have mS := h.m.step y hB (by omega) (by omega) hi
  have tS : ∀ j, j ≠ i → sv (coStep c x.st i).T j = sv x.st.T j := fun j hj => coStep_T h.m.v hi hj
  have CG := co_go h.m hL y hB (by omega) (by omega) hm4 hi
  have fS : upNf N (coStep c x.st i).s.W = upNf N x.st.s.W := upNf_eq (lS _ (by have := l.tg; unfold nuFl; omega))
  -- a step of the cohort lock
  have cohort : ∀ (yes : Int) (d9 : Dr), ((sv x.U i).pc = 7 ∨ (sv x.U i).pc = 13) → (sv x.U i).a = 0 → (sv x.st.T i).pc ≠ 0 → (sv x.st.T i).pc ≠ 10 → wsStep c N x i = ⟨coStep c x.st i, if cameK (sv x.st.T i) (sv (coStep c x.st i).T i) then d9 else x.d, x.U.set i { (sv x.U i) with pc := if cameK (sv x.st.T i) (sv (coStep c x.st i).T i) then yes else (sv x.U i).pc }⟩ →
      nvW (upNf N x.st.s.W) ⟨yes, (sv x.U i).a, (sv x.U i).b, (sv x.U i).c⟩ + (if yes = 9 then drD d9 (coStep c x.st i).s.W else 0) ≤ nvW (upNf N x.st.s.W) (sv x.U i) → (cameK (sv x.st.T i) (sv (coStep c x.st i).T i) = true → ∀ j, j < n → j ≠ i → (sv x.U j).a = 0 → (sv x.U j).pc = 9 → d9 = x.d) →
      (WWit c N x i → WOn c n N x (wsStep c N x i) i) ∧ (¬ WWit c N x i → WOff c n N x (wsStep c N x i) i) := fun yes d9 hpc ha t0 t10 e hv hd9 => by
    have cg := CG ⟨t0, t10⟩
    rw [e]
    have eW : WWit c N x i ↔ CWit c x.st i := by
      unfold WWit
      constructor
      · rintro (q | q | q | q)
        · omega
        · omega
        · exact q.2
        · omega
      · exact fun q => .inr (.inr (.inl ⟨hpc, q⟩))
    have dd : ∀ j, j < n → (sv x.U j).a = 0 → (sv x.U j).pc = 9 → drD x.d (coStep c x.st i).s.W = drD x.d x.st.s.W := fun j hj a9 p9 => by
      have := low9 j hj a9 p9
      have tg := l.tg
      unfold nuFl at this
      exact drLv_same (lS _ (by omega)) (lS _ (by omega))
    have h9 : ¬ ((sv x.U i).a = 0 ∧ (sv x.U i).pc = 9) := by omega
    rw [eW]
    refine ⟨fun hw => ?_, fun hw => ?_⟩
    · obtain ⟨e', _, q1, q2⟩ := cg.1 hw
      refine ⟨e', ?_, fun j hj hji => ?_⟩
      · rw [wwt_set hl, fS]
        unfold wwt
        rw [if_neg h9]
        by_cases hb : cameK (sv x.st.T i) (sv (coStep c x.st i).T i) = true
        · rw [if_pos hb, if_pos hb]
          simp only
          by_cases y9 : yes = 9
          · rw [if_pos y9] at hv
            rw [if_pos ⟨ha, y9⟩]; omega
          · rw [if_neg y9] at hv
            rw [if_neg (fun q => y9 q.2)]; omega
        · rw [if_neg hb]
          simp only
          have ee : nvW (upNf N x.st.s.W) ⟨(sv x.U i).pc, (sv x.U i).a, (sv x.U i).b, (sv x.U i).c⟩ = nvW (upNf N x.st.s.W) (sv x.U i) := rfl
          rw [if_neg h9]; omega
      · have := wwt_oth (c := c) (N := N) (x := x) (st' := coStep c x.st i) (d' := if cameK (sv x.st.T i) (sv (coStep c x.st i).T i) then d9 else x.d) (p' := { (sv x.U i) with pc := if cameK (sv x.st.T i) (sv (coStep c x.st i).T i) then yes else (sv x.U i).pc }) hl hji (q2 j hj hji) (e2 := 0) (e3 := 0) (fun a9 p9 => by
          split
          · rename_i hb
            rw [hd9 hb j hj hji a9 p9, dd j hj a9 p9]; exact Nat.le_refl _
          · rw [dd j hj a9 p9]; exact Nat.le_refl _) (by rw [fS]; exact Nat.le_refl _)
        exact this
    · obtain ⟨q1, q2, q3, q4⟩ := cg.2 hw
      have hb : cameK (sv x.st.T i) (sv (coStep c x.st i).T i) = false := by
        unfold cameK
        rw [q2 i]
        exact decide_eq_false (fun q => by omega)
      have eU : x.U.set i { (sv x.U i) with pc := if false = true then yes else (sv x.U i).pc } = x.U := set_same hl rfl
      rw [hb, eU]
      simp only [Bool.false_eq_true, if_false]
      refine ⟨rfl, ?_, fun j hj hji => ⟨?_, fun hwj => ?_⟩⟩
      · unfold wwt
        simp only
        rw [q3, q1]
      · unfold wwt
        simp only
        rw [(q4 j hj hji).1, q1]
      · unfold WWit at hwj ⊢
        simp only
        rw [q1]
        rcases hwj with q | q | q | q
        · exact .inl q
        · exact .inr (.inl q)
        · exact .inr (.inr (.inl ⟨q.1, (q4 j hj hji).2 q.2⟩))
        · exact .inr (.inr (.inr q))
  obtain ⟨p, hp⟩ : ∃ p, p = sv x.U i := ⟨_, rfl⟩
  have hnw : wwt c N x i = nvW (upNf N x.st.s.W) p + cwt c x.st i + (if p.a = 0 ∧ p.pc = 9 then drD x.d x.st.s.W else 0) := by rw [hp]; rfl
  have eNW : WWit c N x i ↔ ((p.pc = 2 ∨ p.pc = 3 ∨ p.pc = 4 ∨ p.pc = 5 ∨ p.pc = 10 ∨ p.pc = 11 ∨ p.pc = 12) ∨ (p.pc = 1 ∧ ldW x.st.s.W (nuFl N) = 0) ∨ ((p.pc = 7 ∨ p.pc = 13) ∧ CWit c x.st i) ∨ (p.pc = 9 ∧ ldW x.st.s.W (gaA x.d.at_) = ldW x.st.s.W (gaW x.d.at_))) := by rw [hp]; exact Iff.rfl
  rw [← hp] at hk h0 h10 hdr dW ex cohort
  unfold linkW at hk
  obtain ⟨pc, u, b, z⟩ := p
  simp only at hk h0 h10 hnw eNW
  have eL : (loadA x.st.s (nuFl N)).W = x.st.s.W := loadA_W _ _
  have on : (pc = 2 ∨ pc = 3 ∨ pc = 4 ∨ pc = 5 ∨ pc = 10 ∨ pc = 11 ∨ pc = 12) → WOn c n N x (wsStep c N x i) i → (WWit c N x i → WOn c n N x (wsStep c N x i) i) ∧ (¬ WWit c N x i → WOff c n N x (wsStep c N x i) i) := fun q hq => ⟨fun _ => hq, fun hw => absurd (eNW.2 (.inl q)) hw⟩
  -- a load of the flag
  have ld : ∀ (p' : Sp) (j : Nat), j ≠ i → wwt c N ⟨onA x.st (loadA x.st.s (nuFl N)), x.d, x.U.set i p'⟩ j ≤ wwt c N x j + 0 := fun p' j hji => by
    have := wwt_oth (c := c) (N := N) (x := x) (st' := onA x.st (loadA x.st.s (nuFl N))) (d' := x.d) (p' := p') hl hji (e1 := 0) (e2 := 0) (e3 := 0) (by rw [(cwt_words eL j).1]; exact Nat.le_refl _) (fun _ _ => by show drD x.d (loadA _ _).W ≤ _; rw [eL]; exact Nat.le_refl _) (by show nvW (upNf N (loadA _ _).W) _ ≤ _; rw [eL]; exact Nat.le_refl _)
    exact this
  rcases hk with ⟨q1, q2⟩ | ⟨rfl, q2, q3⟩ | ⟨rfl, rfl, q3⟩ | ⟨rfl, rfl, q3, q4⟩ | ⟨rfl, q2, q3⟩ | ⟨rfl, rfl, q3⟩
  · exact absurd q1 h0
  · have ct := cwt_idle (c := c) q3
    rcases q2 with rfl | rfl | rfl | rfl | rfl | rfl
    · -- 1
      have e : wsStep c N x i = ⟨onA x.st (loadA x.st.s (nuFl N)), x.d, x.U.set i ⟨if ldW x.st.s.W (nuFl N) = 0 then 2 else 1, 1, b, z⟩⟩ := ex
      have eN : WWit c N x i ↔ ldW x.st.s.W (nuFl N) = 0 := by rw [eNW]; simp
      rw [eN, e]
      refine ⟨fun hz => ⟨0, ?_, fun j hj hji => ld _ j hji⟩, fun hz => ?_⟩
      · rw [wwt_set hl, hnw, (cwt_words eL i).1, ct, if_pos hz]
        have f0 : upNf N x.st.s.W = false := by unfold upNf; rw [hz]; rfl
        show nvW (upNf N (loadA x.st.s (nuFl N)).W) ⟨2, 1, b, z⟩ + 0 + 0 + 1 + 5 * 0 ≤ nvW (upNf N x.st.s.W) ⟨1, 1, b, z⟩ + 0 + 0
        rw [eL, f0]
        show 14 + 0 + 0 + 1 + 5 * 0 ≤ 15 + 0 + 0
        decide
      · rw [if_neg hz]
        have eU : x.U.set i ⟨1, 1, b, z⟩ = x.U := set_same hl hp
        rw [eU]
        have eW : (onA x.st (loadA x.st.s (nuFl N))).s.W = x.st.s.W := eL
        refine ⟨rfl, ?_, fun j hj hji => ⟨?_, fun hwj => ?_⟩⟩
        · unfold wwt; simp only; rw [(cwt_words eL i).1, eW]
        · unfold wwt; simp only; rw [(cwt_words eL j).1, eW]
        · unfold WWit at hwj ⊢
          simp only
          rw [eW]
          rcases hwj with q | q | q | q
          · exact .inl q
          · exact .inr (.inl q)
          · exact .inr (.inr (.inl ⟨q.1, (cwt_words eL j).2 q.2⟩))
          · exact .inr (.inr (.inr q))
    · -- 2
      refine on (by omega) ?_
      have e : wsStep c N x i = ⟨onA x.st (addA x.st.s (gaA (c.node i)) 1), x.d, x.U.set i ⟨3, 1, b, z⟩⟩ := ex
      rw [e]
      refine ⟨1, ?_, fun j hj hji => ?_⟩
      · rw [wwt_set hl, hnw, cwt_low h.m y tgA hi, ct]
        show nvW (upNf N (addA x.st.s (gaA (c.node i)) 1).W) ⟨3, 1, b, z⟩ + 0 + 0 + 1 + 5 * 1 ≤ nvW (upNf N x.st.s.W) ⟨2, 1, b, z⟩ + 0 + 0
        rw [fA]
        cases upNf N x.st.s.W
        · show 8 + 0 + 0 + 1 + 5 * 1 ≤ 14 + 0 + 0; decide
        · show 22 + 0 + 0 + 1 + 5 * 1 ≤ 28 + 0 + 0; decide
      · exact wwt_oth (st' := onA x.st (addA x.st.s (gaA (c.node i)) 1)) hl hji (e1 := 0) (e2 := 1) (e3 := 0) (by rw [cwt_low h.m y tgA hj]; exact Nat.le_refl _) (dA j hj) (by show nvW (upNf N (addA x.st.s (gaA (c.node i)) 1).W) _ ≤ _; rw [fA]; exact Nat.le_refl _)
    · -- 3
      refine on (by omega) ?_
      have e : wsStep c N x i = ⟨onA x.st (loadA x.st.s (nuFl N)), x.d, x.U.set i ⟨if ldW x.st.s.W (nuFl N) = 0 then 10 else 4, 1, b, z⟩⟩ := ex
      rw [e]
      refine ⟨0, ?_, fun j hj hji => ld _ j hji⟩
      rw [wwt_set hl, hnw, (cwt_words eL i).1, ct]
      show nvW (upNf N (loadA x.st.s (nuFl N)).W) ⟨if ldW x.st.s.W (nuFl N) = 0 then 10 else 4, 1, b, z⟩ + 0 + 0 + 1 + 5 * 0 ≤ nvW (upNf N x.st.s.W) ⟨3, 1, b, z⟩ + 0 + 0
      rw [eL]
      by_cases hz : ldW x.st.s.W (nuFl N) = 0
      · have f0 : upNf N x.st.s.W = false := by unfold upNf; rw [hz]; rfl
        rw [if_pos hz, f0]
        show 7 + 0 + 0 + 1 + 5 * 0 ≤ 8 + 0 + 0; decide
      · have f0 : upNf N x.st.s.W = true := by unfold upNf; exact decide_eq_true hz
        rw [if_neg hz, f0]
        show 21 + 0 + 0 + 1 + 5 * 0 ≤ 22 + 0 + 0; decide
    · -- 4
      refine on (by omega) ?_
      have e : wsStep c N x i = ⟨onA x.st (addA x.st.s (gaW (c.node i)) 1), x.d, x.U.set i ⟨1, 1, b, z⟩⟩ := ex
      rw [e]
      refine ⟨1, ?_, fun j hj hji => ?_⟩
      · rw [wwt_set hl, hnw, cwt_low h.m y tgW hi, ct]
        show 15 + 0 + 0 + 1 + 5 * 1 ≤ 21 + 0 + 0
        decide
      · exact wwt_oth (st' := onA x.st (addA x.st.s (gaW (c.node i)) 1)) hl hji (e1 := 0) (e2 := 1) (e3 := 0) (by rw [cwt_low h.m y tgW hj]; exact Nat.le_refl _) (dW rfl j hj) (by show nvW (upNf N (addA x.st.s (gaW (c.node i)) 1).W) _ ≤ _; rw [fW]; exact Nat.le_refl _)
    · exact absurd rfl h10
    · -- 11
      refine on (by omega) ?_
      have e : wsStep c N x i = ⟨onA x.st (addA x.st.s (gaW (c.node i)) 1), x.d, x.U.set i ⟨0, 1, b, z⟩⟩ := ex
      rw [e]
      refine ⟨1, ?_, fun j hj hji => ?_⟩
      · rw [wwt_set hl, hnw, cwt_low h.m y tgW hi, ct]
        show 0 + 0 + 0 + 1 + 5 * 1 ≤ 6 + 0 + 0
        decide
      · exact wwt_oth (st' := onA x.st (addA x.st.s (gaW (c.node i)) 1)) hl hji (e1 := 0) (e2 := 1) (e3 := 0) (by rw [cwt_low h.m y tgW hj]; exact Nat.le_refl _) (dW rfl j hj) (by show nvW (upNf N (addA x.st.s (gaW (c.node i)) 1).W) _ ≤ _; rw [fW]; exact Nat.le_refl _)
  · -- 5
    have ct := cwt_idle (c := c) q3
    refine on (by omega) ?_
    have e : wsStep c N x i = ⟨coAsk c (onA x.st (addA x.st.s (nuFl N) 1)) i, x.d, x.U.set i ⟨7, 0, b, z⟩⟩ := ex
    have hs := coAsk_s c (onA x.st (addA x.st.s (nuFl N) 1)) i
    have CA := coAsk_cwt (lF 1 (.inl rfl)).2 (LF 1 (.inl rfl)) y hi
    have c67 := cwt_le ((lF 1 (.inl rfl)).2.ask y hi) ((LF 1 (.inl rfl)).ask (lF 1 (.inl rfl)).2 y hi) y hi
    rw [e]
    refine ⟨14, ?_, fun j hj hji => ?_⟩
    · rw [wwt_set hl, hnw, ct]
      show 70 + _ + 0 + 1 + 5 * 14 ≤ 209 + 0 + 0
      omega
    · refine wwt_oth (st' := coAsk c (onA x.st (addA x.st.s (nuFl N) 1)) i) (d' := x.d) (p' := ⟨7, 0, b, z⟩) hl hji (e1 := 0) (e2 := 0) (e3 := 14) ?_ (fun a9 p9 => ?_) (nvW_f _ _ _).1
      · have := CA j hj hji
        rw [cwt_low h.m y (tgF 1 (.inl rfl)) hj] at this
        exact this
      · rw [hs]; exact dF 1 (.inl rfl) j hj a9 p9
  · -- 7
    refine cohort 9 (drBeg x.d N false) (.inl rfl) rfl (by omega) (by omega) ex ?_ (fun hb j hj hji a9 p9 => ?_)
    · have d1 : drD (drBeg x.d N false) (coStep c x.st i).s.W ≤ 2 * N + 1 := by
        unfold drD drLv drBeg
        simp only [Bool.false_eq_true, if_false]
        split <;> omega
      show 4 + drD (drBeg x.d N false) (coStep c x.st i).s.W ≤ 70
      omega
    · exfalso
      have tj : (sv x.st.T j).pc = 10 := wr_tW (h.k j hj) ⟨a9, .inl p9⟩
      have ti : (sv (coStep c x.st i).T i).pc = 10 := by
        have aS := (coStep_at h.m.v hi).1 ⟨q3, q4⟩
        rw [aS.2] at hb
        exact of_decide_eq_true hb
      exact hji (mS.one y hj hi (by rw [tS j hji]; omega) (by omega))
  · have ct := cwt_hold (c := c) q3
    rcases q2 with rfl | rfl | rfl
    · -- 9
      obtain ⟨⟨d1, d2, d3, d4⟩, d5, d6⟩ := hdr rfl rfl
      have hW := drStep_W x.st.s x.d
      have DS := drD_step (s := x.st.s) d1 d2 d3 d4 d5 (hgn _ d3)
      have e : wsStep c N x i = ⟨onA x.st (drStep x.st.s x.d).1, (drStep x.st.s x.d).2.1, x.U.set i ⟨if (drStep x.st.s x.d).2.2 = true then 10 else 9, 0, b, z⟩⟩ := ex
      have eN : WWit c N x i ↔ ldW x.st.s.W (gaA x.d.at_) = ldW x.st.s.W (gaW x.d.at_) := by rw [eNW]; simp
      rw [eN, e]
      refine ⟨fun hw => ⟨0, ?_, fun j hj hji => ?_⟩, fun hw => ?_⟩
      · rw [wwt_set hl, hnw, (cwt_words hW i).1, ct]
        show nvW (upNf N (drStep x.st.s x.d).1.W) ⟨if (drStep x.st.s x.d).2.2 = true then 10 else 9, 0, b, z⟩ + 13 + _ + 1 + 5 * 0 ≤ 4 + 13 + drD x.d x.st.s.W
        by_cases hb : (drStep x.st.s x.d).2.2 = true
        · rw [if_pos hb]
          show 3 + 13 + 0 + 1 + 5 * 0 ≤ _
          omega
        · rw [if_neg hb]
          show 4 + 13 + drD (drStep x.st.s x.d).2.1 (drStep x.st.s x.d).1.W + 1 + 5 * 0 ≤ _
          rw [hW]
          rcases DS.1 hw with q | q
          · omega
          · exact absurd q.1 hb
      · exact wwt_oth (st' := onA x.st (drStep x.st.s x.d).1) hl hji (e1 := 0) (e2 := 0) (e3 := 0) (by rw [(cwt_words hW j).1]; exact Nat.le_refl _) (fun a9 p9 => (oth9 q3 j hj hji a9 p9).elim) (by show nvW (upNf N (drStep x.st.s x.d).1.W) _ ≤ _; rw [hW]; exact Nat.le_refl _)
      · obtain ⟨b1, b2, b3⟩ := DS.2.1 hw
        have eU : x.U.set i ⟨if (drStep x.st.s x.d).2.2 = true then 10 else 9, 0, b, z⟩ = x.U := by
          rw [b1]
          exact set_same hl hp
        rw [eU]
        have eW : (onA x.st (drStep x.st.s x.d).1).s.W = x.st.s.W := hW
        refine ⟨rfl, ?_, fun j hj hji => ⟨?_, fun hwj => ?_⟩⟩
        · unfold wwt; simp only; rw [(cwt_words hW i).1, eW, b2]
        · unfold wwt; simp only; rw [(cwt_words hW j).1, eW, b2]
        · unfold WWit at hwj ⊢
          simp only
          rw [eW, b3]
          rcases hwj with q | q | q | q
          · exact .inl q
          · exact .inr (.inl q)
          · exact .inr (.inr (.inl ⟨q.1, (cwt_words hW j).2 q.2⟩))
          · exact .inr (.inr (.inr q))
    · exact absurd rfl h10
    · -- 12
      refine on (by omega) ?_
      have e : wsStep c N x i = ⟨coLeave (onA x.st (addA x.st.s (nuFl N) (-1))) i, x.d, x.U.set i ⟨13, 0, b, z⟩⟩ := ex
      have hs := coLeave_s (onA x.st (addA x.st.s (nuFl N) (-1))) i
      have CA := coLeave_cwt (lF (-1) (.inr rfl)).2 (LF (-1) (.inr rfl)) y hi q3
      rw [e]
      refine ⟨0, ?_, fun j hj hji => ?_⟩
      · rw [wwt_set hl, hnw, ct, CA.2]
        show 1 + 12 + 0 + 1 + 5 * 0 ≤ 2 + 13 + 0
        decide
      · refine wwt_oth (st' := coLeave (onA x.st (addA x.st.s (nuFl N) (-1))) i) (d' := x.d) (p' := ⟨13, 0, b, z⟩) hl hji (e1 := 0) (e2 := 0) (e3 := 0) ?_ (fun a9 p9 => ?_) ?_
        · have := CA.1 j hj hji
          rw [cwt_low h.m y (tgF (-1) (.inr rfl)) hj] at this
          exact this
        · rw [hs]; exact dF (-1) (.inr rfl) j hj a9 p9
        · have hup : upNf N x.st.s.W = true := by
            unfold upNf
            refine decide_eq_true (fun hz => ?_)
            exact h.none hz hi ⟨by rw [← hp], by rw [← hp]; exact .inr (.inr (.inr rfl))⟩
          rw [hup]
          cases upNf N (coLeave (onA x.st (addA x.st.s (nuFl N) (-1))) i).s.W
          · exact (nvW_f false true _).2
          · exact Nat.le_refl _
  · exact cohort 0 x.d (.inr rfl) rfl (by omega) (by omega) (by rw [ex]; show _ = _; congr 1; split <;> rfl) (by show 0 + 0 ≤ 1; decide) (fun _ _ _ _ _ _ => rfl)
/-- what holds behind any acts -/
structure WsT (c : CoC) (n N L : Nat) (ml : Nat → Nat) (B : Int) (x : Nu) : Prop where
  s : WsS c n N L ml B x
  l : CoL c n N ml x.st
theorem WsT.act (h : WsT c n N L ml B x) (k : NuK c n N L ml) (hB : 40 ≤ B) (hB2 : B ≤ 1000000000000) (hm4 : c.m ≤ 4) (kd i : Int) : WsT c n N L ml (B + 4) (actWs c N x kd i) := by
  refine ⟨(h.s.act k hB hB2 kd i).1, ?_⟩
  unfold actWs
  split
  · rename_i hok
    have hi : i.toNat < n := by
      obtain ⟨h0, h1⟩ := hok
      have := h.s.i.lU
      omega
    have ask : ∀ r, CoL c n N ml (wsAsk x i.toNat r).st := fun r => by
      rw [wsAsk_st]; exact h.l
    split
    · exact wsStep_L h.s.i h.l k.y ⟨k.tg, by rw [h.s.ok.len]; exact k.len⟩ h.s.ok.bd hB hB2 hm4 hi
    split
    · exact ask false
    split
    · rw [nuLeave_st]; exact h.l
    split
    · exact ask true
    · exact h.l
  · exact h.l
/-- a step, and a leave at once -/
def wsTurn (c : CoC) (N : Nat) (x : Nu) (i : Nat) : Nu := actWs c N (actWs c N x 0 (i : Int)) 2 (i : Int)
theorem wsTurn_eq (h : x.U.length = n) {i : Nat} (hi : i < n) : wsTurn c N x i = nuLeave (wsStep c N x i) i := by
  have ok1 : okI x.U (i : Int) := ⟨by omega, by omega⟩
  have e1 : actWs c N x 0 (i : Int) = wsStep c N x i := by
    unfold actWs; rw [if_pos ok1, if_pos rfl, Int.toNat_natCast]
  have hl : (wsStep c N x i).U.length = n := by
    unfold wsStep
    (repeat' split) <;> simp [h]
  have ok2 : okI (wsStep c N x i).U (i : Int) := ⟨by omega, by omega⟩
  unfold wsTurn
  rw [e1]
  unfold actWs
  rw [if_pos ok2, if_neg (by decide), if_neg (by decide), if_pos rfl, Int.toNat_natCast]
/-- some thread's step leads on -/
theorem ws_alive (h : WsI c n N ml x) (hL : CoL c n N ml x.st) (y : CoLy c n N ml) (hr : ¬ nuRest n x) : ∃ j, j < n ∧ WWit c N x j := by
  apply Classical.byContradiction
  intro hcon
  have no : ∀ j, j < n → ¬ WWit c N x j := fun j hj hw => hcon ⟨j, hj, hw⟩
  have pcs : ∀ j, j < n → (sv x.U j).pc = 0 ∨ (sv x.U j).pc = 1 ∨ (sv x.U j).pc = 7 ∨ (sv x.U j).pc = 9 ∨ (sv x.U j).pc = 13 := fun j hj => by
    have hk := h.k j hj
    have := no j hj
    unfold WWit at this
    unfold linkW at hk
    omega
  have mk : ∀ j, j < n → (sv x.st.T j).pc ≠ 0 → (sv x.st.T j).pc ≠ 10 → CWit c x.st j → False := fun j hj h0 h10 hw => by
    have hk := h.k j hj
    have hp := pcs j hj
    refine no j hj (.inr (.inr (.inl ⟨?_, hw⟩)))
    unfold linkW at hk; omega
  have noOut : ∀ j, j < n → ¬ 10 < (sv x.st.T j).pc := fun j hj hq => by
    obtain ⟨k, hk, h0, h10, hw⟩ := co_aliveOut h.m hL y hj hq
    exact mk k hk h0 h10 hw
  have no9 : ∀ j, j < n → (sv x.U j).pc ≠ 9 := fun j hj h9 => by
    have hk := h.k j hj
    have ha : (sv x.U j).a = 0 := by unfold linkW at hk; omega
    obtain ⟨⟨d1, d2, d3, d4⟩, d5, d6⟩ := h.dr j hj ha h9
    have hg := h.g _ d3
    by_cases hc : cntIW c n x.U x.d.at_ = 0
    · exact no j hj (.inr (.inr (.inr ⟨h9, by omega⟩)))
    · obtain ⟨i, hi, hb⟩ := cntN_exL (P := fun j => decide (c.node j = x.d.at_) && rdInW (sv x.U j)) n (by unfold cntIW at hc; omega)
      simp only [Bool.and_eq_true, decide_eq_true_eq] at hb
      have hin := of_decide_eq_true hb.2
      have hp := pcs i hi
      omega
  have no10 : ∀ j, j < n → (sv x.st.T j).pc ≠ 10 := fun j hj h10 => by
    have hk := h.k j hj
    have hp := pcs j hj
    have := no9 j hj
    unfold linkW at hk; omega
  have ex : ∃ j, j < n ∧ (sv x.U j).pc ≠ 0 := by
    apply Classical.byContradiction
    intro hq
    exact hr (fun i hi => Classical.byContradiction (fun h0 => hq ⟨i, hi, h0⟩))
  obtain ⟨j, hj, h0⟩ := ex
  by_cases h7 : ∃ k, k < n ∧ (sv x.U k).pc = 7
  · obtain ⟨k, hk, hk7⟩ := h7
    have hlk := h.k k hk
    obtain ⟨k2, hk2, k0, k10, hw⟩ := co_alive h.m hL y no10 hk (by unfold linkW at hlk; omega)
    exact mk k2 hk2 k0 k10 hw
  · have n13 : ∀ k, k < n → (sv x.U k).pc ≠ 13 := fun k hk h13 => by
      have hlk := h.k k hk
      exact noOut k hk (by unfold linkW at hlk; omega)
    have h1 : ∀ k, k < n → (sv x.U k).pc ≠ 0 → (sv x.U k).pc = 1 := fun k hk hk0 => by
      have := pcs k hk
      have := no9 k hk
      have := n13 k hk
      have : (sv x.U k).pc ≠ 7 := fun e => h7 ⟨k, hk, e⟩
      omega
    have hz : cntF n x.U = 0 := by
      unfold cntF cntN
      refine List.countP_eq_zero.2 (fun k hk => ?_)
      have hk' := List.mem_range.1 hk
      have q := h1 k hk'
      intro hc
      have := of_decide_eq_true hc
      omega
    have hfl := h.fl
    rw [hz] at hfl
    exact no j hj (.inr (.inl ⟨h1 j hj h0, hfl⟩))
theorem wwt_le (h : WsI c n N ml x) (hL : CoL c n N ml x.st) (y : CoLy c n N ml) (hN : N ≤ 32) {i : Nat} (hi : i < n) : wwt c N x i ≤ 213 := by
  have c67 := cwt_le h.m hL y hi
  unfold wwt
  split
  · rename_i q
    obtain ⟨⟨d1, d2, d3, d4⟩, d5, d6⟩ := h.dr i hi q.1 q.2
    have := drLv_le x.d x.st.s.W
    have e : nvW (upNf N x.st.s.W) (sv x.U i) = 4 := by
      unfold nvW
      rw [q.2, q.1]; rfl
    rw [e]
    unfold drD
    omega
  · by_cases ht : (sv x.st.T i).pc = 0
    · have : nvW (upNf N x.st.s.W) (sv x.U i) ≤ 209 := by unfold nvW; (repeat' split) <;> omega
      have := cwt_idle (c := c) ht
      omega
    · have hk := h.k i hi
      have : nvW (upNf N x.st.s.W) (sv x.U i) ≤ 70 := by
        unfold linkW at hk
        unfold nvW
        (repeat' split) <;> omega
      omega
/-- a turn, as the rounds want it -/
theorem ws_turn (h : WsT c n N L ml B x) (k : NuK c n N L ml) (hB : 40 ≤ B) (hB2 : B ≤ 1000000000000) (hm4 : c.m ≤ 4) (hN : N ≤ 32) (hn : n ≤ 6) {i : Nat} (hi : i < n) :
    sumN n (wwt c N (wsTurn c N x i)) < sumN n (wwt c N x) ∨ (sumN n (wwt c N (wsTurn c N x i)) = sumN n (wwt c N x) ∧ ¬ WWit c N x i ∧ ∀ j, j < n → j ≠ i → WWit c N x j → WWit c N (wsTurn c N x i) j) := by
  have hlen := h.s.i.lU
  have hl : i < x.U.length := by rw [hlen]; exact hi
  rw [wsTurn_eq hlen hi]
  have l : NuL c N x.st.s.W := ⟨k.tg, by rw [h.s.ok.len]; exact k.len⟩
  -- a leave
  have lv : ∀ z : Nu, z.U.length = n → WsI c n N ml z → wwt c N (nuLeave z i) i ≤ wwt c N z i ∧ ((sv z.U i).pc = 10 → wwt c N (nuLeave z i) i + 1 ≤ wwt c N z i) ∧ (∀ j, j ≠ i → wwt c N (nuLeave z i) j = wwt c N z j) ∧ ((sv z.U i).pc ≠ 10 → nuLeave z i = z) := fun z hz hI => by
    have hzl : i < z.U.length := by rw [hz]; exact hi
    unfold nuLeave
    split
    · rename_i h10
      have hk := hI.k i hi
      have ha : (sv z.U i).a = 0 ∨ (sv z.U i).a = 1 := by unfold linkW at hk; omega
      have e : wwt c N { z with U := z.U.set i { (sv z.U i) with pc := 12 - (sv z.U i).a } } i + 1 ≤ wwt c N z i := by
        rw [show ({ z with U := z.U.set i { (sv z.U i) with pc := 12 - (sv z.U i).a } } : Nu) = ⟨z.st, z.d, z.U.set i { (sv z.U i) with pc := 12 - (sv z.U i).a }⟩ from rfl, wwt_set hzl]
        unfold wwt
        obtain ⟨p, hp⟩ : ∃ p, p = sv z.U i := ⟨_, rfl⟩
        rw [← hp] at h10 ha ⊢
        obtain ⟨pc, u, b, w⟩ := p
        simp only at h10 ha ⊢
        subst h10
        rcases ha with rfl | rfl
        · show 2 + _ + 0 + 1 ≤ 3 + _ + 0; omega
        · show 6 + _ + 0 + 1 ≤ 7 + _ + 0; omega
      refine ⟨by omega, fun _ => e, fun j hji => ?_, fun hne => absurd h10 hne⟩
      unfold wwt
      simp only
      rw [svS hzl, if_neg hji]
    · rename_i h10
      exact ⟨Nat.le_refl _, fun q => absurd q h10, fun _ _ => rfl, fun _ => rfl⟩
  by_cases h0 : (sv x.U i).pc = 0
  · have e : wsStep c N x i = x := by unfold wsStep; rw [if_pos (.inl h0)]
    rw [e, (lv x hlen h.s.i).2.2.2 (by omega)]
    refine .inr ⟨rfl, fun hw => ?_, fun j _ _ hw => hw⟩
    unfold WWit at hw; omega
  by_cases h10 : (sv x.U i).pc = 10
  · have e : wsStep c N x i = x := by unfold wsStep; rw [if_pos (.inr h10)]
    rw [e]
    have q := lv x hlen h.s.i
    exact .inl (sumN_drop (e := 0) hn hi (by have := q.2.1 h10; omega) (fun j _ hji => by rw [q.2.2.1 j hji]; exact Nat.le_refl _))
  · have hI' := h.s.i.step k.y l h.s.ok.bd hB hB2 hi
    have q := lv _ hI'.lU hI'
    have g := ws_go h.s.i h.l k.y l h.s.ok.bd hB hB2 hm4 hN hi h0 h10
    by_cases hw : WWit c N x i
    · obtain ⟨e, g1, g2⟩ := g.1 hw
      exact .inl (sumN_drop (e := e) hn hi (by omega) (fun j hj hji => by rw [q.2.2.1 j hji]; exact g2 j hj hji))
    · obtain ⟨g0, g1, g2⟩ := g.2 hw
      rw [q.2.2.2 (by rw [g0]; exact h10)]
      refine .inr ⟨sumN_eq n (fun j hj => ?_), hw, fun j hj hji hwj => (g2 j hj hji).2 hwj⟩
      by_cases e : j = i
      · rw [e]; exact g1
      · exact (g2 j hj e).1
/-- enough rounds -/
theorem ws_all (h : WsT c n N L ml B x) (k : NuK c n N L ml) (hB : 40 ≤ B) (hB2 : B ≤ 100000000000) (hm4 : c.m ≤ 4) (hN : N ≤ 32) (hn : n ≤ 6) {R : Nat} (hR : 213 * n < R) (hR2 : R ≤ 1000000) :
    nuRest n (rounds (wsTurn c N) n R x) := by
  have key := rounds_rest (X := Nu) (inv := fun m z => WsT c n N L ml (B + 8 * (m : Int)) z) (turn := wsTurn c N) (n := n) (F := fun z => sumN n (wwt c N z)) (wit := WWit c N) (rest := nuRest n) (6 * 1000000)
    (fun m z i hm hz hi => by
      have h1 := hz.act k (by omega) (by omega) hm4 0 (i : Int)
      have h2 := h1.act k (by omega) (by omega) hm4 2 (i : Int)
      have e : B + 8 * ((m + 1 : Nat) : Int) = B + 8 * (m : Int) + 4 + 4 := by omega
      show WsT c n N L ml (B + 8 * ((m + 1 : Nat) : Int)) _
      rw [e]; exact h2)
    (fun m z i hm hz hi => ws_turn hz k (by omega) (by omega) hm4 hN hn hi)
    (fun m z hm hz hr => ws_alive hz.s.i hz.l k.y hr)
    (fun z i hi hz => by
      have h0 := hz i hi
      have e0 : actWs c N z 0 (i : Int) = z := by
        unfold actWs
        split
        · rw [if_pos rfl]
          unfold wsStep
          rw [Int.toNat_natCast, if_pos (.inl h0)]
        · rfl
      have e2 : actWs c N z 2 (i : Int) = z := by
        unfold actWs
        split
        · rw [if_neg (by decide), if_neg (by decide), if_pos rfl]
          unfold nuLeave
          rw [Int.toNat_natCast, if_neg (by omega)]
        · rfl
      show actWs c N (actWs c N z 0 (i : Int)) 2 (i : Int) = z
      rw [e0, e2])
    (x := x) (by show WsT c n N L ml (B + 8 * ((0 : Nat) : Int)) x; simpa using h) R (by
      have : n * R ≤ 6 * R := Nat.mul_le_mul_right R hn
      omega)
  rcases key.2 with q | q
  · exact q
  · exfalso
    have h2 := sumN_le (f := wwt c N x) (b := 213) n (fun i hi => wwt_le h.s.i h.l k.y hN hi)
    have q' : sumN n (wwt c N (rounds (wsTurn c N) n R x)) + R ≤ sumN n (wwt c N x) := q
    omega
end
end Go.Proofs.YtndipiockdmaoaaGreat
end
