/- Joined: Rf1, RwGr, Xq1, Xq2, Xq3. -/
import Derived.WalkKit
import Derived.WalkSpells
import Derived.ProofKit
import Derived.Below
import Derived.Laws.StructEq
import Derived.Test.YtkennofbilmbcaaGreatMgRwReaderFirst17
import Derived.Test.YtkennofbilmbcaaGreatMgRwReaderFirst19
section
set_option linter.unusedVariables false
set_option linter.unusedSimpArgs false
/- Layer 39 (rw), plain: who comes first, where readers, or writers, are preferred. No program in sight. -/
namespace Go.Proofs.YtkennofbilmbcaaGreat
open Go

theorem getS_sv {U : List Sp} {i : Int} (h : okI U i) : getS U i = sv U i.toNat := by unfold getS sv; exact if_pos h
section
variable {c : CoC} {n N L : Nat} {ml : Nat → Nat} {x : Nu} {B : Int} {kd i : Int}
theorem rsStep_U (i k : Nat) (hk : k ≠ i) : sv (rsStep c N x i).U k = sv x.U k := by
  unfold rsStep
  split
  · rfl
  · show sv (x.U.set i _) k = _
    rw [sv_set, if_neg (fun e => hk e.1.symm)]
theorem actRs_len (kd i : Int) : (actRs c N x kd i).U.length = x.U.length := by
  unfold actRs rsStep nuAsk nuLeave
  (repeat' split) <;> simp
/-- a reader that has come in at its node, and not yet looked -/
def wt2 (p : Sp) : Prop := p.a = 1 ∧ p.pc = 2
def at9 (p : Sp) : Prop := p.a = 0 ∧ p.pc = 9
/-- how often a reader was passed: once at most, and if once, then no look has gone by it -/
def RfP (c : CoC) (n : Nat) (x : Nu) (f : Nat → Int) : Prop := ∀ k, k < n → wt2 (sv x.U k) → f k = 0 ∨ f k = 1 ∧ ∀ i, i < n → at9 (sv x.U i) → x.d.at_ ≤ c.node k
/-- what a step of a thread at 9 finds, while a reader waits behind the look -/
theorem RsI.look (h : RsI c n N ml x) (y : CoLy c n N ml) {i : Nat} (hi : i < n) (h9 : at9 (sv x.U i)) {k : Nat} (hk : k < n) (hw : wt2 (sv x.U k)) (hle : x.d.at_ ≤ c.node k) :
    (drStep x.st.s x.d).2.2 = false ∧ (drStep x.st.s x.d).2.1.at_ ≤ c.node k ∨ (drStep x.st.s x.d).2.1.clear = false ∧ (drStep x.st.s x.d).2.2 = true := by
  obtain ⟨⟨q1, q2, q3, q4⟩, q5, q6⟩ := h.dr i hi h9.1 h9.2
  have hkn := (y.nd k hk).1
  unfold drStep
  rw [if_pos q1]
  by_cases hsec : x.d.second = true
  · rw [if_pos hsec]
    show ((drLast x.st.s x.d).2 = false ∧ (drLast x.st.s x.d).1.at_ ≤ _) ∨ ((drLast x.st.s x.d).1.clear = false ∧ (drLast x.st.s x.d).2 = true)
    unfold drLast
    by_cases hv : ldW x.st.s.W (gaA x.d.at_) = x.d.out
    · rw [if_neg (by simpa using hv)]
      have hg := h.g x.d.at_ q3
      have hout := q5 hsec
      have hcz : cntIR c n x.U x.d.at_ = 0 := by omega
      have hne : c.node k ≠ x.d.at_ := fun e => by
        have : 0 < cntIR c n x.U x.d.at_ := cntN_pos (P := fun j => decide (c.node j = x.d.at_) && rdInR (sv x.U j)) hk (by
          simp only [Bool.and_eq_true, decide_eq_true_eq]
          exact ⟨e, rdIn_tR ⟨hw.1, .inl hw.2⟩⟩)
        omega
      rw [if_neg (by omega)]
      exact .inl ⟨rfl, by show x.d.at_ + 1 ≤ _; omega⟩
    · rw [if_pos hv, if_pos q2]
      exact .inr ⟨rfl, rfl⟩
  · rw [if_neg hsec]
    exact .inl ⟨rfl, hle⟩
/-- a step of a thread in the words of its place: who enters as a writer stood at 9, and its look is over and clear -/
theorem rsStep_enter (h : RsI c n N ml x) {i : Nat} (hi : i < n) (e0 : (sv x.U i).pc < 10) (e1 : (sv (rsStep c N x i).U i).pc = 10) (ea : (sv (rsStep c N x i).U i).a ≠ 1) :
    at9 (sv x.U i) ∧ (drStep x.st.s x.d).2.2 = true ∧ (drStep x.st.s x.d).2.1.clear = true := by
  have hlk := h.k _ hi
  have hl : i < x.U.length := by rw [h.lU]; exact hi
  unfold rsStep at e1 ea
  split at e1
  · exfalso; omega
  rename_i hne2
  rw [if_neg hne2] at ea
  have s1 : sv (x.U.set i { sv x.U i with pc := (rsDoes c N x i (sv x.U i)).2.2 }) i = { sv x.U i with pc := (rsDoes c N x i (sv x.U i)).2.2 } := by rw [svS hl, if_pos rfl]
  simp only at e1 ea
  rw [s1] at e1 ea
  simp only at e1 ea
  have a0 : (sv x.U i).a = 0 := by unfold linkR at hlk; omega
  unfold rsDoes at e1
  rw [if_neg ea] at e1
  split at e1
  · simp only at e1; split at e1 <;> omega
  split at e1
  · simp at e1
  split at e1
  · simp only at e1; split at e1 <;> omega
  split at e1
  · simp at e1
  split at e1
  · simp at e1
  · simp only at e1
    split at e1
    · exfalso; omega
    rename_i n1
    split at e1
    · simp at e1
    rename_i n2
    split at e1
    · rename_i n3
      refine ⟨⟨a0, ?_⟩, by simpa using n1, n3⟩
      unfold linkR at hlk; omega
    · simp at e1
/-- what becomes of the drain, and of who is at 9, by a step -/
theorem rsStep_drain (h : RsI c n N ml x) (y : CoLy c n N ml) {i : Nat} (hi : i < n) {j : Nat} (hj : j < n) (h9 : at9 (sv (rsStep c N x i).U j)) :
    (rsStep c N x i).d = x.d ∧ at9 (sv x.U j) ∨ (rsStep c N x i).d.at_ = 0 ∨ (j = i ∧ at9 (sv x.U i) ∧ (rsStep c N x i).d = (drStep x.st.s x.d).2.1 ∧ (drStep x.st.s x.d).2.2 = false) := by
  have hlk := h.k _ hi
  have hl : i < x.U.length := by rw [h.lU]; exact hi
  by_cases hji : j = i
  · subst hji
    unfold rsStep at h9 ⊢
    split at h9
    · rename_i q; rw [if_pos q]; exact .inl ⟨rfl, h9⟩
    rename_i hne2
    rw [if_neg hne2]
    have s1 : sv (x.U.set j { sv x.U j with pc := (rsDoes c N x j (sv x.U j)).2.2 }) j = { sv x.U j with pc := (rsDoes c N x j (sv x.U j)).2.2 } := by rw [svS hl, if_pos rfl]
    simp only at h9
    rw [s1] at h9
    obtain ⟨g1, g2⟩ := h9
    simp only at g1 g2
    have ea : ¬ (sv x.U j).a = 1 := by omega
    simp only
    unfold rsDoes at g2 ⊢
    rw [if_neg ea] at g2 ⊢
    split at g2
    · exfalso; simp only at g2; split at g2 <;> omega
    rename_i m1
    rw [if_neg m1]
    split at g2
    · simp at g2
    rename_i m2
    rw [if_neg m2]
    split at g2
    · exfalso; simp only at g2; split at g2 <;> omega
    rename_i m3
    rw [if_neg m3]
    split at g2
    · simp at g2
    rename_i m4
    rw [if_neg m4]
    split
    · exact .inr (.inl rfl)
    rename_i m5
    rw [if_neg m5] at g2
    right; right
    simp only at g2 ⊢
    split at g2
    · rename_i q; exact ⟨trivial, ⟨g1, g2⟩, trivial, q⟩
    · split at g2
      · omega
      split at g2 <;> omega
  · rw [rsStep_U i j hji] at h9
    by_cases hd : (rsStep c N x i).d = x.d
    · exact .inl ⟨hd, h9⟩
    · -- who moves the drain stands in the cohort lock, as j does
      exfalso
      have tj : (sv x.st.T j).pc = 10 := wr_tR (h.k j hj) ⟨h9.1, .inr (.inl h9.2)⟩
      have ti : (sv x.st.T i).pc = 10 := by
        unfold rsStep at hd
        split at hd
        · exact absurd rfl hd
        simp only at hd
        unfold rsDoes at hd
        split at hd
        · exfalso; revert hd; (repeat' split) <;> simp
        rename_i ea
        split at hd
        · exact absurd rfl hd
        rename_i m1
        split at hd
        · exact absurd rfl hd
        rename_i m2
        split at hd
        · exact absurd rfl hd
        rename_i m3 
        unfold linkR at hlk; omega
      exact hji (h.m.one y hj hi (by omega) (by omega))
theorem rsStep_wt2 (h : RsI c n N ml x) {i : Nat} (hi : i < n) (h2 : wt2 (sv (rsStep c N x i).U i)) (h1 : (sv x.U i).pc ≠ 1) : wt2 (sv x.U i) := by
  have hlk := h.k _ hi
  have hl : i < x.U.length := by rw [h.lU]; exact hi
  obtain ⟨g1, g2⟩ := h2
  unfold rsStep at g1 g2
  split at g1
  · rename_i q; rw [if_pos q] at g2; exact ⟨g1, g2⟩
  rename_i hne2
  rw [if_neg hne2] at g2
  have s1 : sv (x.U.set i { sv x.U i with pc := (rsDoes c N x i (sv x.U i)).2.2 }) i = { sv x.U i with pc := (rsDoes c N x i (sv x.U i)).2.2 } := by rw [svS hl, if_pos rfl]
  simp only at g1 g2
  rw [s1] at g1 g2
  simp only at g1 g2
  refine ⟨g1, ?_⟩
  unfold rsDoes at g2
  rw [if_pos g1, if_neg h1] at g2
  split at g2
  · assumption
  · simp at g2
/-- a step: nobody waiting is passed twice -/
theorem RfP.step {f : Nat → Int} {i : Nat} (hf : RfP c n x f) (h : RsI c n N ml x) (h' : RsI c n N ml (rsStep c N x i)) (y : CoLy c n N ml) (hi : i < n) (w : Bool)
    (hw : w = true → (sv x.U i).pc < 10 ∧ (sv (rsStep c N x i).U i).pc = 10 ∧ (sv (rsStep c N x i).U i).a ≠ 1) {f' : Nat → Int}
    (hf' : ∀ k, k < n → wt2 (sv (rsStep c N x i).U k) → f' k = (if k = i ∧ (sv x.U i).pc = 1 then 0 else f k) + if w = true ∧ k ≠ i then 1 else 0) : RfP c n (rsStep c N x i) f' := fun k hk h2 => by
  rw [hf' k hk h2]
  by_cases hs : k = i ∧ (sv x.U i).pc = 1
  · rw [if_pos hs, if_neg (fun q => q.2 hs.1)]; exact .inl rfl
  rw [if_neg hs]
  have h2' : wt2 (sv x.U k) := by
    by_cases hki : k = i
    · subst hki
      exact rsStep_wt2 h hi h2 (fun e => hs ⟨rfl, e⟩)
    · rw [rsStep_U i k hki] at h2; exact h2
  have hk0 := hf k hk h2'
  by_cases hww : w = true ∧ k ≠ i
  · rw [if_pos hww]
    have he := hw hww.1
    obtain ⟨g9, gb, gc⟩ := rsStep_enter h hi he.1 he.2.1 he.2.2
    rcases hk0 with h0 | ⟨h1, hat⟩
    · refine .inr ⟨by omega, fun j hj h9 => ?_⟩
      -- who has entered holds the cohort lock: nobody is at 9
      exfalso
      have ti : (sv (rsStep c N x i).st.T i).pc = 10 := wr_tR (h'.k i hi) ⟨by have := h'.k i hi; unfold linkR at this; omega, .inr (.inr (.inl he.2.1))⟩
      have tj : (sv (rsStep c N x i).st.T j).pc = 10 := wr_tR (h'.k j hj) ⟨h9.1, .inr (.inl h9.2)⟩
      have e := h'.m.one y hj hi (by omega) (by omega)
      rw [e] at h9
      have := h9.2
      omega
    · exfalso
      rcases h.look y hi g9 hk h2' (hat i hi g9) with q | q
      · rw [q.1] at gb; cases gb
      · rw [q.1] at gc; cases gc
  · rw [if_neg hww]
    rcases hk0 with h0 | ⟨h1, hat⟩
    · exact .inl (by omega)
    · refine .inr ⟨by omega, fun j hj h9 => ?_⟩
      rcases rsStep_drain h y hi hj h9 with ⟨e1, e2⟩ | e | ⟨rfl, e2, e3, e4⟩
      · rw [e1]; exact hat j hj e2
      · rw [e]; exact Nat.zero_le _
      · rw [e3]
        rcases h.look y hi e2 hk h2' (hat _ hi e2) with q | q
        · exact q.2
        · rw [q.2] at e4; cases e4
theorem RfP.le {f : Nat → Int} (hf : RfP c n x f) {k : Nat} (hk : k < n) (h2 : wt2 (sv x.U k)) : 0 ≤ f k ∧ f k ≤ 1 := by
  rcases hf k hk h2 with e | e <;> omega
/-- asks and leaves -/
theorem RfP.set {f f' : Nat → Int} {i : Nat} {p : Sp} {st' : Co} (hf : RfP c n x f) (hp : ¬ wt2 p ∧ ¬ at9 p) (hf' : ∀ k, k < n → k ≠ i → f' k = f k) (hl : i < x.U.length) : RfP c n ⟨st', x.d, x.U.set i p⟩ f' := fun k hk h2 => by
  have h2' : wt2 (sv (x.U.set i p) k) := h2
  rw [svS hl] at h2'
  split at h2'
  · exact absurd h2' hp.1
  · rename_i hki
    rw [hf' k hk hki]
    rcases hf k hk h2' with e | ⟨e, hat⟩
    · exact .inl e
    · refine .inr ⟨e, fun j hj h9 => ?_⟩
      have h9' : at9 (sv (x.U.set i p) j) := h9
      rw [svS hl] at h9'
      split at h9'
      · exact absurd h9' hp.2
      · exact hat j hj h9'
/-- what the law counts -/
def rfEnt (u v : Sp) : Prop := u.pc < 10 ∧ v.pc = 10 ∧ v.a ≠ 1
instance (u v : Sp) : Decidable (rfEnt u v) := by unfold rfEnt; exact inferInstance
instance (p : Sp) : Decidable (wt2 p) := by unfold wt2; exact inferInstance
def rfZero (u v : Sp) : Prop := u.pc = 1 ∧ u.a = 1 ∧ v.pc = 2
instance (u v : Sp) : Decidable (rfZero u v) := by unfold rfZero; exact inferInstance
/-- what the law's row becomes by an act -/
def rf1 (f : Nat → Int) (u v : Sp) (i : Int) (k : Nat) : Int := if rfZero u v ∧ (k : Int) = i then 0 else f k
def rf2 (f : Nat → Int) (u v : Sp) (i : Int) (U' : List Sp) (k : Nat) : Int := rf1 f u v i k + if rfEnt u v ∧ (k : Int) ≠ i ∧ wt2 (sv U' k) then 1 else 0
theorem RfP.act {f : Nat → Int} (hf : RfP c n x f) (h : RsI c n N ml x) (h' : RsI c n N ml (actRs c N x kd i)) (y : CoLy c n N ml) :
    RfP c n (actRs c N x kd i) (rf2 f (getS x.U i) (getS (actRs c N x kd i).U i) i (actRs c N x kd i).U) := by
  by_cases hok : okI x.U i
  · have hok' : okI (actRs c N x kd i).U i := by unfold okI at hok ⊢; rw [actRs_len]; exact hok
    obtain ⟨u, hu⟩ : ∃ u, u = getS x.U i := ⟨_, rfl⟩
    obtain ⟨v, hv⟩ : ∃ v, v = getS (actRs c N x kd i).U i := ⟨_, rfl⟩
    rw [← hu, ← hv]
    rw [getS_sv hok] at hu
    rw [getS_sv hok'] at hv
    have hi0 := hok.1
    have hi : i.toNat < n := by
      obtain ⟨h0, h1⟩ := hok
      have := h.lU
      omega
    have hl : i.toNat < x.U.length := by rw [h.lU]; exact hi
    have hlk := h.k _ hi
    have ex : ∀ k : Nat, (k : Int) = i ↔ k = i.toNat := fun k => by omega
    by_cases k0 : kd = 0
    · subst k0
      have e0 : actRs c N x 0 i = rsStep c N x i.toNat := by unfold actRs; rw [if_pos hok, if_pos rfl]
      rw [e0] at hv h' ⊢
      refine hf.step h h' y hi (decide (rfEnt u v)) (fun q => by have := of_decide_eq_true q; rw [hu, hv] at this; exact this) (fun k hk h2 => ?_)
      unfold rf2 rf1 rfZero
      have e1 : (if (u.pc = 1 ∧ u.a = 1 ∧ v.pc = 2) ∧ (k : Int) = i then (0 : Int) else f k) = if k = i.toNat ∧ (sv x.U i.toNat).pc = 1 then 0 else f k := by
        by_cases q : k = i.toNat ∧ (sv x.U i.toNat).pc = 1
        · rw [if_pos q, if_pos]
          refine ⟨⟨by rw [hu]; exact q.2, ?_, ?_⟩, (ex k).2 q.1⟩
          · have g1 := h2.1
            rw [q.1] at g1
            rw [hu]
            have hne : ¬ ((sv x.U i.toNat).pc = 0 ∨ (sv x.U i.toNat).pc = 10) := by omega
            unfold rsStep at g1
            rw [if_neg hne] at g1
            simp only at g1
            rw [svS hl, if_pos rfl] at g1
            exact g1
          · have g2 := h2.2
            rw [q.1] at g2
            rw [hv]; exact g2
        · rw [if_neg q, if_neg]
          intro g
          exact q ⟨(ex k).1 g.2, by rw [← hu]; exact g.1.1⟩
      rw [e1]
      congr 1
      by_cases q : rfEnt u v ∧ k ≠ i.toNat
      · rw [if_pos ⟨q.1, fun e => q.2 ((ex k).1 e), h2⟩, if_pos ⟨by simpa using q.1, q.2⟩]
      · rw [if_neg (fun g => q ⟨g.1, fun e => g.2.1 ((ex k).2 e)⟩), if_neg (fun g => q ⟨by simpa using g.1, g.2⟩)]
    · -- no step
      have same : ∀ w : Sp, w = v → (w.pc = 10 → u.pc = 10) → (w.pc = 2 → u.pc = 2) → ∀ k, k < n → k ≠ i.toNat → rf2 f u v i (actRs c N x kd i).U k = f k := fun w hw h10 h2 k hk hki => by
        subst hw
        unfold rf2 rf1
        rw [if_neg (fun g => hki ((ex k).1 g.2)), if_neg (fun g => by have := g.1.1; have := h10 g.1.2.1; omega)]
        omega
      have nochange : actRs c N x kd i = x → RfP c n (actRs c N x kd i) (rf2 f u v i (actRs c N x kd i).U) := fun e k hk h2 => by
        rw [e] at h2 hv
        have huv : u = v := by rw [hu, hv]
        have e2 : rf2 f u v i (actRs c N x kd i).U k = f k := by
          unfold rf2 rf1 rfZero rfEnt
          rw [huv, if_neg (by omega), if_neg (by omega)]; omega
        rw [e2, e]
        exact hf k hk h2
      have setc : ∀ (st' : Co) (p : Sp), actRs c N x kd i = ⟨st', x.d, x.U.set i.toNat p⟩ → ¬ wt2 p ∧ ¬ at9 p → (p.pc = 10 → u.pc = 10) → RfP c n (actRs c N x kd i) (rf2 f u v i (actRs c N x kd i).U) := fun st' p e hp h10 => by
        have hvp : v = p := by rw [hv, e]; simp only; rw [svS hl, if_pos rfl]
        have hf' : ∀ k, k < n → k ≠ i.toNat → rf2 f u v i (actRs c N x kd i).U k = f k := fun k hk hki => by
          unfold rf2 rf1
          rw [if_neg (fun g => hki ((ex k).1 g.2)), if_neg (fun g => by have g1 := g.1.1; have g2 := g.1.2.1; rw [hvp] at g2; have := h10 g2; omega)]
          omega
        rw [e] at hf' ⊢
        exact hf.set hp hf' hl
      have ask : ∀ r, actRs c N x kd i = nuAsk c x i.toNat r → RfP c n (actRs c N x kd i) (rf2 f u v i (actRs c N x kd i).U) := fun r e => by
        unfold nuAsk at e
        split at e
        · split at e
          · exact setc _ _ e ⟨fun q => by have := q.2; simp at this, fun q => by have := q.1; simp at this⟩ (fun q => by simp at q)
          · exact setc _ _ e ⟨fun q => by have := q.1; simp at this, fun q => by have := q.2; simp at this⟩ (fun q => by simp at q)
        · exact nochange e
      by_cases k1 : kd = 1
      · exact ask false (by unfold actRs; rw [if_pos hok, if_neg k0, if_pos k1])
      by_cases k2 : kd = 2
      · have e : actRs c N x kd i = nuLeave x i.toNat := by unfold actRs; rw [if_pos hok, if_neg k0, if_neg k1, if_pos k2]
        unfold nuLeave at e
        split at e
        · rename_i q10
          have : (sv x.U i.toNat).a = 0 ∨ (sv x.U i.toNat).a = 1 := by unfold linkR at hlk; omega
          refine setc _ _ e ⟨fun q => ?_, fun q => ?_⟩ (fun q => ?_)
          · have := q.2; simp only at this; omega
          · have := q.2; simp only at this; omega
          · simp only at q; omega
        · exact nochange e
      by_cases k3 : kd = 3
      · exact ask true (by unfold actRs; rw [if_pos hok, if_neg k0, if_neg k1, if_neg k2, if_pos k3])
      · exact nochange (by unfold actRs; rw [if_pos hok, if_neg k0, if_neg k1, if_neg k2, if_neg k3])
  · have e : actRs c N x kd i = x := by unfold actRs; rw [if_neg hok]
    rw [e]
    intro k hk h2
    have e2 : rf2 f (getS x.U i) (getS x.U i) i x.U k = f k := by
      unfold rf2 rf1 rfZero rfEnt
      rw [if_neg (by omega), if_neg (by omega)]; omega
    rw [e2]
    exact hf k hk h2
end
end Go.Proofs.YtkennofbilmbcaaGreat
end
section
set_option linter.unusedVariables false
set_option linter.unusedSimpArgs false
/- Layer 39 (rw): the row of how often each reader was passed, beside the lock. (printed by gen_rwf.py) -/
namespace Go.Proofs.YtkennofbilmbcaaGreat
open Go.RowKit

theorem Tryz.infoInR : (Tryz.prog.info? 3).map (fun i => (i.zero, i.size, i.bytes)) = some (some (.int .i64 0), 1, 8) := by kernel_rfl
theorem getD_repR (n k : Nat) : (List.replicate n (0 : Int)).getD k 0 = 0 := by
  rw [List.getD_eq_getElem?_getD, List.getElem?_replicate]
  split <;> rfl
def FR (n : Nat) (L : List Int) (f : Nat → Int) : Prop := L.length = n ∧ ∀ k, k < n → L.getD k 0 = f k
def rfM (f : Nat → Int) (p v : Sp) (i : Int) (U : List Sp) (m k : Nat) : Int := if k < m then rf2 f p v i U k else rf1 f p v i k
section
variable {n j m : Nat} {f : Nat → Int} {p v : Sp} {i : Int}
theorem getD_setR {L : List Int} {j k : Nat} {x : Int} (h : j < L.length) : (L.set j x).getD k 0 = if k = j then x else L.getD k 0 := by
  rw [List.getD_eq_getElem?_getD, List.getElem?_set]
  by_cases e : j = k
  · subst e; simp [h]
  · rw [if_neg e, if_neg (fun q => e q.symm), List.getD_eq_getElem?_getD]
theorem FR.z0 {L : List Int} (h : FR n L f) (hz : ¬ rfZero p v) : FR n L (rf1 f p v i) := ⟨h.1, fun k hk => by
  unfold rf1
  rw [if_neg (fun q => hz q.1)]; exact h.2 k hk⟩
theorem FR.z1 {L : List Int} (h : FR n L f) (hz : rfZero p v) (hj : j < n) : FR n (L.set j 0) (rf1 f p v (j : Int)) := ⟨by rw [List.length_set]; exact h.1, fun k hk => by
  have := h.1
  rw [getD_setR (by omega)]
  unfold rf1
  by_cases e : k = j
  · rw [if_pos e, if_pos ⟨hz, by omega⟩]
  · rw [if_neg e, if_neg (fun q => e (by omega))]; exact h.2 k hk⟩
theorem FR.c0 {L : List Int} {U : List Sp} (h : FR n L (rf1 f p v i)) (he : ¬ rfEnt p v) : FR n L (rf2 f p v i U) := ⟨h.1, fun k hk => by
  unfold rf2
  rw [if_neg (fun q => he q.1), Int.add_zero]; exact h.2 k hk⟩
theorem FR.m0 {L : List Int} {U : List Sp} (h : FR n L (rf1 f p v i)) : FR n L (rfM f p v i U 0) := ⟨h.1, fun k hk => by
  unfold rfM
  rw [if_neg (Nat.not_lt_zero _)]; exact h.2 k hk⟩
theorem rfM_at {U : List Sp} : rfM f p v i U m m = rf1 f p v i m := by
  unfold rfM
  rw [if_neg (Nat.lt_irrefl _)]
theorem FR.m1 {L : List Int} {U : List Sp} (h : FR n L (rfM f p v i U m)) (he : rfEnt p v) (hc : (m : Int) ≠ i ∧ wt2 (sv U m)) (hm : m < n) : FR n (L.set m (rf1 f p v i m + 1)) (rfM f p v i U (m + 1)) := ⟨by rw [List.length_set]; exact h.1, fun k hk => by
  have := h.1
  rw [getD_setR (by omega)]
  by_cases e : k = m
  · subst e
    rw [if_pos rfl]
    unfold rfM rf2
    rw [if_pos (Nat.lt_succ_self _), if_pos ⟨he, hc.1, hc.2⟩]
  · rw [if_neg e, h.2 k hk]
    unfold rfM
    by_cases q : k < m
    · rw [if_pos q, if_pos (by omega)]
    · rw [if_neg q, if_neg (by omega)]⟩
theorem FR.m2 {L : List Int} {U : List Sp} (h : FR n L (rfM f p v i U m)) (hc : ¬ ((m : Int) ≠ i ∧ wt2 (sv U m))) : FR n L (rfM f p v i U (m + 1)) := ⟨h.1, fun k hk => by
  rw [h.2 k hk]
  unfold rfM
  by_cases q : k < m
  · rw [if_pos q, if_pos (by omega)]
  · by_cases e : k = m
    · subst e
      rw [if_neg q, if_pos (by omega)]
      unfold rf2
      rw [if_neg (fun q => hc ⟨q.2.1, q.2.2⟩), Int.add_zero]
    · rw [if_neg q, if_neg (by omega)]⟩
theorem FR.done {L : List Int} {U : List Sp} (h : FR n L (rfM f p v i U n)) : FR n L (rf2 f p v i U) := ⟨h.1, fun k hk => by
  rw [h.2 k hk]
  unfold rfM
  rw [if_pos hk]⟩
theorem rf2_at {U : List Sp} (he : rfEnt p v) (hc : (m : Int) ≠ i ∧ wt2 (sv U m)) : rf2 f p v i U m = rf1 f p v i m + 1 := by
  unfold rf2
  rw [if_pos ⟨he, hc.1, hc.2⟩]
theorem getS_ok {S : List Sp} {i : Int} (h : (getS S i).pc ≠ 0) : ∃ j : Nat, j < S.length ∧ i = (j : Int) := by
  unfold getS at h
  split at h
  · rename_i q
    exact ⟨i.toNat, by omega, by omega⟩
  · exact absurd rfl h
end
/-- the lock beside the row -/
structure PcR (w0 w : World) (B BC : Nat → Prop) (a g q : Nat) (X : SmX) (c : CoC) (P T : List Int) (L : Nat) (x : Nu) (BB : Int) (M pb : Nat) (F : List Int) : Prop where
  st : RwStR w0 w B BC a g q X c P T L x BB M
  blk : Blk w pb 3 (F.map fun x => Value.int .i64 x).toArray
  np : pb ∉ SmS a g X
  nb : ¬ B pb ∧ ¬ CoBlk X.x BC pb ∧ pb ≠ X.l ∧ pb ≠ X.gg
  nq : q ≠ pb
  nw : w0.heap.size ≤ pb
section
variable {w0 w w' : World} {B BC : Nat → Prop} {a g q : Nat} {X : SmX} {c : CoC} {P T : List Int} {L M M' pb : Nat} {x x' : Nu} {BB BB' : Int} {F : List Int}
theorem PcR.below (s : PcR w0 w B BC a g q X c P T L x BB M pb F) (k : Below w.heap.size w w') : PcR w0 w' B BC a g q X c P T L x BB M pb F :=
  ⟨s.st.below k, (Turns.of_below (S := []) k).blk s.blk (by simp), s.np, s.nb, s.nq, s.nw⟩
theorem PcR.up (s : PcR w0 w B BC a g q X c P T L x BB M pb F) (h1 : BB ≤ BB') (h2 : M ≤ M') : PcR w0 w B BC a g q X c P T L x BB' M' pb F := ⟨s.st.up h1 h2, s.blk, s.np, s.nb, s.nq, s.nw⟩
theorem PcR.next (s : PcR w0 w B BC a g q X c P T L x BB M pb F) (k : Turns (SmS a g X) w w') (hs : RwStR w0 w' B BC a g q X c P T L x' BB' M') : PcR w0 w' B BC a g q X c P T L x' BB' M' pb F :=
  ⟨hs, k.blk s.blk s.np, s.np, s.nb, s.nq, s.nw⟩
theorem PcR.at (s : PcR w0 w B BC a g q X c P T L x BB M pb F) {i : Nat} (hi : i < F.length) : w.cell? ⟨pb, i, none⟩ = some (.int .i64 (F.getD i 0)) := by
  rw [s.blk.cell i]
  simp [List.getD_eq_getElem?_getD, List.getElem?_eq_getElem hi]
theorem PcR.put (s : PcR w0 w B BC a g q X c P T L x BB M pb F) (i : Nat) (z : Int) : PcR w0 (w.setCell ⟨pb, i, none⟩ (.int .i64 z)) B BC a g q X c P T L x BB M pb (F.set i z) := by
  have k : Turns [pb] w (w.setCell ⟨pb, i, none⟩ (.int .i64 z)) := (Turns.refl _ _).setCell (.inl (by simp)) _
  have h := s.st
  refine ⟨⟨⟨h.s.is.foreign s.nb s.np i _, h.s.s, h.s.bel.setCell s.nw _, h.s.hl, h.s.op⟩, k.blk h.b (by simpa using s.nq), h.ql, h.qn⟩, ?_, s.np, s.nb, s.nq, s.nw⟩
  have := s.blk.set_ i (.int .i64 z)
  rw [show (F.map fun x => Value.int .i64 x).toArray.setIfInBounds i (.int .i64 z) = ((F.set i z).map fun x => Value.int .i64 x).toArray by simp] at this
  exact this
end
end Go.Proofs.YtkennofbilmbcaaGreat
end
section
set_option linter.unusedVariables false
set_option linter.unusedSimpArgs false
/- Running closed code: plain data that stands for values and memory, by names in the place of blocks; what it means for such data to be what a world holds. No program in sight. -/
namespace Go.Proofs.YtkennofbilmbcaaGreat
open Go.RowKit

/-! ### A tree of numbers -/
inductive Tr (α : Type) where
  | nil
  | nd (x : Option α) (l r : Tr α)
namespace Tr
variable {α : Type}
def get : Tr α → Nat → Option α
  | nil, _ => none
  | nd x l r, k => bif Nat.beq k 0 then x else bif Nat.beq (k % 2) 1 then l.get (k / 2) else r.get (k / 2 - 1)
def single : Nat → Nat → α → Tr α
  | 0, _, v => nd (some v) nil nil
  | f + 1, k, v => bif Nat.beq k 0 then nd (some v) nil nil else bif Nat.beq (k % 2) 1 then nd none (single f (k / 2) v) nil else nd none nil (single f (k / 2 - 1) v)
def set : Tr α → Nat → α → Tr α
  | nil, k, v => single k k v
  | nd x l r, k, v => bif Nat.beq k 0 then nd (some v) l r else bif Nat.beq (k % 2) 1 then nd x (l.set (k / 2) v) r else nd x l (r.set (k / 2 - 1) v)
def del : Tr α → Nat → Tr α
  | nil, _ => nil
  | nd x l r, k => bif Nat.beq k 0 then nd none l r else bif Nat.beq (k % 2) 1 then nd x (l.del (k / 2)) r else nd x l (r.del (k / 2 - 1))
theorem beqd (a b : Nat) : Nat.beq a b = decide (a = b) := by
  rw [Bool.eq_iff_iff, Nat.beq_eq]; simp
theorem get_single (v : α) : ∀ (f k : Nat), k ≤ f → ∀ j, (single f k v).get j = if j = k then some v else none
  | 0, k, h, j => by
    obtain rfl : k = 0 := by omega
    simp only [single, get, beqd]
    by_cases hj : j = 0 <;> simp [hj]
  | f + 1, k, h, j => by
    simp only [single, beqd]
    by_cases hk : k = 0
    · subst hk
      by_cases hj : j = 0 <;> simp [get, hj, beqd]
    · by_cases ho : k % 2 = 1
      · simp only [hk, ho, decide_false, decide_true, cond_false, cond_true, get, beqd]
        rw [get_single v f (k / 2) (by omega)]
        by_cases hj : j = 0
        · have : ¬ j = k := by omega
          simp [hj]; omega
        · by_cases hjo : j % 2 = 1
          · simp only [hj, hjo, decide_false, decide_true, cond_false, cond_true]
            by_cases e : j = k
            · subst e; simp
            · rw [if_neg (by omega), if_neg e]
          · simp only [hj, hjo, decide_false, cond_false]
            rw [if_neg (by omega)]
      · simp only [hk, ho, decide_false, cond_false, get, beqd]
        rw [get_single v f (k / 2 - 1) (by omega)]
        by_cases hj : j = 0
        · simp [hj]; omega
        · by_cases hjo : j % 2 = 1
          · simp only [hj, hjo, decide_false, decide_true, cond_false, cond_true]
            rw [if_neg (by omega)]
          · simp only [hj, hjo, decide_false, cond_false]
            by_cases e : j = k
            · subst e; simp
            · rw [if_neg (by omega), if_neg e]
theorem get_set (v : α) : ∀ (t : Tr α) (k j : Nat), (t.set k v).get j = if j = k then some v else t.get j
  | nil, k, j => by
    show (single k k v).get j = _
    rw [get_single v k k (Nat.le_refl _) j]; rfl
  | nd x l r, k, j => by
    simp only [set, beqd]
    by_cases hk : k = 0
    · subst hk
      by_cases hj : j = 0 <;> simp [get, hj, beqd]
    · by_cases ho : k % 2 = 1
      · simp only [hk, ho, decide_false, decide_true, cond_false, cond_true, get, beqd]
        by_cases hj : j = 0
        · simp [hj]; omega
        · by_cases hjo : j % 2 = 1
          · simp only [hj, hjo, decide_false, decide_true, cond_false, cond_true]
            rw [get_set v l]
            by_cases e : j = k
            · subst e; simp
            · rw [if_neg (by omega), if_neg e]
          · simp only [hj, hjo, decide_false, cond_false]
            rw [if_neg (by omega)]
      · simp only [hk, ho, decide_false, cond_false, get, beqd]
        by_cases hj : j = 0
        · simp [hj]; omega
        · by_cases hjo : j % 2 = 1
          · simp only [hj, hjo, decide_false, decide_true, cond_false, cond_true]
            rw [if_neg (by omega)]
          · simp only [hj, hjo, decide_false, cond_false]
            rw [get_set v r]
            by_cases e : j = k
            · subst e; simp
            · rw [if_neg (by omega), if_neg e]
theorem get_del : ∀ (t : Tr α) (k j : Nat), (t.del k).get j = if j = k then none else t.get j
  | nil, k, j => by simp [del, get]
  | nd x l r, k, j => by
    simp only [del, beqd]
    by_cases hk : k = 0
    · subst hk
      by_cases hj : j = 0 <;> simp [get, hj, beqd]
    · by_cases ho : k % 2 = 1
      · simp only [hk, ho, decide_false, decide_true, cond_false, cond_true, get, beqd]
        by_cases hj : j = 0
        · simp [hj]; omega
        · by_cases hjo : j % 2 = 1
          · simp only [hj, hjo, decide_false, decide_true, cond_false, cond_true]
            rw [get_del l]
            by_cases e : j = k
            · subst e; simp
            · rw [if_neg (by omega), if_neg e]
          · simp only [hj, hjo, decide_false, cond_false]
            rw [if_neg (by omega)]
      · simp only [hk, ho, decide_false, cond_false, get, beqd]
        by_cases hj : j = 0
        · simp [hj]; omega
        · by_cases hjo : j % 2 = 1
          · simp only [hj, hjo, decide_false, decide_true, cond_false, cond_true]
            rw [if_neg (by omega)]
          · simp only [hj, hjo, decide_false, cond_false]
            rw [get_del r]
            by_cases e : j = k
            · subst e; simp
            · rw [if_neg (by omega), if_neg e]
end Tr

/-! ### Values by names -/
/-- a slice's capacity: known, or what its block has room for (cells an element) -/
inductive Cp where
  | k (c : Nat)
  | u (es : Nat)
/-- what one cell holds -/
inductive C where
  | b (x : Bool)
  | i (k : IntKind) (n : Int)
  | s (x : ByteArray)
  | p (x : Option (Nat × Nat))
  | l (x : Option (Nat × Nat)) (n : Nat) (c : Cp)
  | f (fn : Nat) (first cap : List (Nat × Nat))
  | nf
  | ni
  /-- an interface's value: a cell, or a struct of one cell -/
  | d (t : TypeId) (agg : Bool) (x : C)
/-- a cell, or a struct's or an array's cells -/
inductive Wv where
  | c (x : C)
  | a (cs : List C)
/-- a value of a temporary -/
inductive V where
  | w (x : Wv)
  | t (xs : List Wv)
/-- names' blocks, and how many cells these have -/
abbrev Nm := Nat → Option (Nat × Nat)
def Nm.le (r s : Nm) : Prop := ∀ k x, r k = some x → s k = some x
theorem Nm.le_refl (r : Nm) : r.le r := fun _ _ h => h
theorem Nm.le_trans {r s t : Nm} (h : r.le s) (k : s.le t) : r.le t := fun _ _ e => k _ _ (h _ _ e)
def ptrOf (b o : Nat) : Value := .pointer (some ⟨b, o, none⟩)
inductive AR (r : Nm) : List (Nat × Nat) → List Value → Prop where
  | nil : AR r [] []
  | cons {k o b sz xs vs} (h : r k = some (b, sz)) (t : AR r xs vs) : AR r ((k, o) :: xs) (ptrOf b o :: vs)
inductive CR (r : Nm) : C → Value → Prop where
  | b (x) : CR r (.b x) (.bool x)
  | i (k n) : CR r (.i k n) (.int k n)
  | s (x) : CR r (.s x) (.string x)
  | p0 : CR r (.p none) (.pointer none)
  | p {k o b sz} (h : r k = some (b, sz)) : CR r (.p (some (k, o))) (ptrOf b o)
  | l0 (n c) : CR r (.l none n (.k c)) (.slice none n c)
  | l {k o b sz} (n c) (h : r k = some (b, sz)) : CR r (.l (some (k, o)) n (.k c)) (.slice (some ⟨b, o, none⟩) n c)
  | u {k o b sz} (n c es) (h : r k = some (b, sz)) (h1 : n ≤ c) (h2 : c ≤ maxLen) (h3 : o + c * es = sz) : CR r (.l (some (k, o)) n (.u es)) (.slice (some ⟨b, o, none⟩) n c)
  | f (fn) {a c va vc} (ha : AR r a va) (hc : AR r c vc) : CR r (.f fn a c) (.func (.func fn) va.toArray vc.toArray)
  | nf : CR r .nf .nilFunc
  | ni : CR r .ni .nilIface
  | d (t) {c v} (h : CR r c v) : CR r (.d t false c) (.iface t v)
  | da (t) {c v} (h : CR r c v) : CR r (.d t true c) (.iface t (.agg #[v]))
inductive CsR (r : Nm) : List C → List Value → Prop where
  | nil : CsR r [] []
  | cons {c v cs vs} (h : CR r c v) (t : CsR r cs vs) : CsR r (c :: cs) (v :: vs)
inductive WR (r : Nm) : Wv → Value → Prop where
  | c {x v} (h : CR r x v) : WR r (.c x) v
  | a {cs vs} (h : CsR r cs vs) : WR r (.a cs) (.agg vs.toArray)
inductive WsR (r : Nm) : List Wv → List Value → Prop where
  | nil : WsR r [] []
  | cons {c v cs vs} (h : WR r c v) (t : WsR r cs vs) : WsR r (c :: cs) (v :: vs)
inductive VR (r : Nm) : V → Value → Prop where
  | w {x v} (h : WR r x v) : VR r (.w x) v
  | t {xs vs} (h : WsR r xs vs) : VR r (.t xs) (.tuple vs.toArray)
section mono
variable {r s : Nm} (h : r.le s)
include h
theorem AR.mono {x v} (k : AR r x v) : AR s x v := by
  induction k with
  | nil => exact .nil
  | cons e _ ih => exact .cons (h _ _ e) ih
theorem CR.mono {x v} (k : CR r x v) : CR s x v := by
  induction k with
  | b => exact .b _
  | i => exact .i _ _
  | s => exact .s _
  | p0 => exact .p0
  | p e => exact .p (h _ _ e)
  | l0 => exact .l0 _ _
  | l n c e => exact .l n c (h _ _ e)
  | u n c es e h1 h2 h3 => exact .u n c es (h _ _ e) h1 h2 h3
  | f fn ha hc => exact .f fn (ha.mono h) (hc.mono h)
  | nf => exact .nf
  | ni => exact .ni
  | d t _ ih => exact .d t ih
  | da t _ ih => exact .da t ih
theorem CsR.mono {x v} (k : CsR r x v) : CsR s x v := by
  induction k with
  | nil => exact .nil
  | cons e _ ih => exact .cons (e.mono h) ih
theorem WR.mono {x v} (k : WR r x v) : WR s x v := by
  cases k with
  | c e => exact .c (e.mono h)
  | a e => exact .a (e.mono h)
theorem WsR.mono {x v} (k : WsR r x v) : WsR s x v := by
  induction k with
  | nil => exact .nil
  | cons e _ ih => exact .cons (e.mono h) ih
theorem VR.mono {x v} (k : VR r x v) : VR s x v := by
  cases k with
  | w e => exact .w (e.mono h)
  | t e => exact .t (e.mono h)
end mono

/-! ### Memory by names -/
structure Bk where
  e : TypeId
  n : Nat
  /-- what a cell holds that u does not name: this pattern, again and again -/
  d : List C
  u : Tr C
def Bk.cell (b : Bk) (j : Nat) : C := match b.u.get j with
  | some c => c
  | none => b.d.getD (j % b.d.length) .ni
abbrev Hp := Tr Bk
/-- what a block holds, as far as it is known -/
structure BR (r : Nm) (w : World) (B : Bk) (b sz : Nat) : Prop where
  ex : ∃ cs, w.heap[b]? = some (.cells cs B.e (0, 0)) ∧ cs.size = sz ∧ B.n ≤ sz ∧ ∀ j, j < B.n → ∃ v, cs[j]? = some v ∧ CR r (B.cell j) v
/-- what a memory by names is in a world -/
structure RelH (r : Nm) (H : Hp) (w : World) : Prop where
  at_ : ∀ k B, H.get k = some B → ∃ b sz, r k = some (b, sz) ∧ BR r w B b sz
  inj : ∀ k j B D b s t, H.get k = some B → H.get j = some D → r k = some (b, s) → r j = some (b, t) → k = j
/-- what else a call leaves as it was -/
structure Fr (r : Nm) (H : Hp) (w w' : World) : Prop where
  os : w'.os = w.os
  tape : w'.tape = w.tape
  output : w'.output = w.output
  size : w.heap.size ≤ w'.heap.size
  block : ∀ b, b < w.heap.size → (∀ k B sz, H.get k = some B → r k ≠ some (b, sz)) → w'.heap[b]? = w.heap[b]?
theorem BR.mono {r s : Nm} {w : World} {B : Bk} {b sz : Nat} (h : r.le s) (k : BR r w B b sz) : BR s w B b sz := by
  obtain ⟨cs, h1, h2, h3, h4⟩ := k.ex
  exact ⟨cs, h1, h2, h3, fun j hj => by obtain ⟨v, a, c⟩ := h4 j hj; exact ⟨v, a, c.mono h⟩⟩
theorem BR.lt {r : Nm} {w : World} {B : Bk} {b sz : Nat} (k : BR r w B b sz) : b < w.heap.size := by
  obtain ⟨cs, h1, _⟩ := k.ex
  exact (Array.getElem?_eq_some_iff.1 h1).1
theorem BR.keep {r : Nm} {w w' : World} {B : Bk} {b sz : Nat} (k : BR r w B b sz) (h : w'.heap[b]? = w.heap[b]?) : BR r w' B b sz := by
  obtain ⟨cs, h1, h2⟩ := k.ex
  exact ⟨cs, h.trans h1, h2⟩
theorem Fr.refl (r : Nm) (H : Hp) (w : World) : Fr r H w w := ⟨rfl, rfl, rfl, Nat.le_refl _, fun _ _ _ => rfl⟩
theorem Fr.drew {r : Nm} {H : Hp} {w w' : World} (h : Fr r H w w') : Fr r H w w'.drew := ⟨h.os, h.tape, h.output, h.size, h.block⟩
end Go.Proofs.YtkennofbilmbcaaGreat
end
section
set_option linter.unusedVariables false
set_option linter.unusedSimpArgs false
/- Running closed code: operations that touch no memory. -/
namespace Go.Proofs.YtkennofbilmbcaaGreat
open Go.RowKit

/-! ### Constants -/
def cOf : Value → Option C
  | .bool b => some (.b b)
  | .int k n => some (.i k n)
  | .string s => some (.s s)
  | .pointer none => some (.p none)
  | .slice none n c => some (.l none n (.k c))
  | .nilFunc => some .nf
  | .nilIface => some .ni
  | _ => none
theorem cOf_ok {r : Nm} {v : Value} {c : C} (h : cOf v = some c) : CR r c v := by
  unfold cOf at h
  split at h <;> (try (injection h with h; subst h)) <;> first | exact .b _ | exact .i _ _ | exact .s _ | exact .p0 | exact .l0 _ _ | exact .nf | exact .ni | cases h
def csOf : List Value → Option (List C)
  | [] => some []
  | v :: vs => match cOf v, csOf vs with
    | some c, some cs => some (c :: cs)
    | _, _ => none
theorem csOf_ok {r : Nm} : ∀ {vs : List Value} {cs : List C}, csOf vs = some cs → CsR r cs vs
  | [], cs, h => by injection h with h; subst h; exact .nil
  | v :: vs, cs, h => by
    unfold csOf at h
    split at h
    · rename_i c cs' h1 h2
      injection h with h
      subst h
      exact .cons (cOf_ok h1) (csOf_ok h2)
    · cases h
def wOf : Value → Option Wv
  | .agg cs => (csOf cs.toList).map .a
  | v => (cOf v).map .c
theorem wOf_ok {r : Nm} {v : Value} {x : Wv} (h : wOf v = some x) : WR r x v := by
  unfold wOf at h
  split at h
  · rename_i cs
    cases hc : csOf cs.toList with
    | none => rw [hc] at h; cases h
    | some l =>
      rw [hc] at h
      injection h with h
      subst h
      have := WR.a (csOf_ok (r := r) hc)
      simpa using this
  · cases hc : cOf v with
    | none => rw [hc] at h; cases h
    | some l =>
      rw [hc] at h
      injection h with h
      subst h
      exact .c (cOf_ok hc)
def vOf : Value → Option V
  | .tuple vs => if vs.size = 0 then some (.t []) else none
  | v => (wOf v).map .w
theorem vOf_ok {r : Nm} {v : Value} {x : V} (h : vOf v = some x) : VR r x v := by
  unfold vOf at h
  split at h
  · rename_i vs
    split at h
    · rename_i hz
      injection h with h
      subst h
      have : vs = #[] := Array.eq_empty_of_size_eq_zero hz
      subst this
      exact .t .nil
    · cases h
  · cases hc : wOf v with
    | none => rw [hc] at h; cases h
    | some l =>
      rw [hc] at h
      injection h with h
      subst h
      exact .w (wOf_ok hc)
/-! ### Operands -/
def evO (tm : Tr V) : Operand → Option V
  | .tmp t => tm.get t
  | .const v => vOf v
  | .func f => some (.w (.c (.f f [] [])))
  | .global _ => none
/-- a frame -/
structure RelA (r : Nm) (tm : Tr V) (n : Nat) (a : Act) : Prop where
  size : a.tmps.size = n
  defers : a.defers = []
  val : ∀ i v, tm.get i = some v → ∃ u, a.tmps[i]? = some u ∧ VR r v u
theorem evO_ok {r : Nm} {tm : Tr V} {n : Nat} {a : Act} (h : RelA r tm n a) {x : Operand} {v : V} (e : evO tm x = some v) : VR r v (a.eval x) := by
  cases x with
  | tmp t =>
    obtain ⟨u, h1, h2⟩ := h.val t v e
    show VR r v (a.tmps.getD t undef)
    rw [Array.getD_eq_getD_getElem?, h1]
    exact h2
  | const u => exact vOf_ok e
  | func f =>
    injection e with e
    subst e
    exact .w (.c (.f f .nil .nil))
  | global g => cases e
theorem RelA.mono {r s : Nm} {tm : Tr V} {n : Nat} {a : Act} (h : RelA r tm n a) (k : r.le s) : RelA s tm n a :=
  ⟨h.size, h.defers, fun i v e => by obtain ⟨u, h1, h2⟩ := h.val i v e; exact ⟨u, h1, h2.mono k⟩⟩
theorem RelA.put {r : Nm} {tm : Tr V} {n : Nat} {a : Act} (h : RelA r tm n a) {d : Nat} (hd : d < n) {v : V} {u : Value} (hv : VR r v u) : RelA r (tm.set d v) n (a.put (some d) u) := by
  refine ⟨by simp [Act.put, h.size], h.defers, fun i x hx => ?_⟩
  rw [Tr.get_set] at hx
  show ∃ y, (a.tmps.setIfInBounds d u)[i]? = some y ∧ VR r x y
  by_cases e : i = d
  · subst e
    rw [if_pos rfl] at hx
    injection hx with hx
    subst hx
    exact ⟨u, by simp [h.size, hd], hv⟩
  · rw [if_neg e] at hx
    obtain ⟨y, h1, h2⟩ := h.val i x hx
    exact ⟨y, by rw [Array.getElem?_setIfInBounds_ne (fun e' => e e'.symm)]; exact h1, h2⟩
theorem RelA.lose {r : Nm} {tm : Tr V} {n : Nat} {a : Act} (h : RelA r tm n a) (d : Nat) (u : Value) : RelA r (tm.del d) n (a.put (some d) u) := by
  refine ⟨by simp [Act.put, h.size], h.defers, fun i x hx => ?_⟩
  rw [Tr.get_del] at hx
  show ∃ y, (a.tmps.setIfInBounds d u)[i]? = some y ∧ VR r x y
  by_cases e : i = d
  · rw [if_pos e] at hx; cases hx
  · rw [if_neg e] at hx
    obtain ⟨y, h1, h2⟩ := h.val i x hx
    exact ⟨y, by rw [Array.getElem?_setIfInBounds_ne (fun e' => e e'.symm)]; exact h1, h2⟩
theorem RelA.same {r : Nm} {tm : Tr V} {n : Nat} {a : Act} (h : RelA r tm n a) (u : Value) : RelA r tm n (a.put none u) := h
/-! ### Types -/
def szOf (P : Program) (t : TypeId) : Option Nat := (P.info? t).map (·.size)
def aggB (P : Program) (t : TypeId) : Option Bool := match P.underlying t with
  | some (.struct _) => some true
  | some (.array _ _) => some true
  | some _ => some false
  | none => none
theorem run_szOf {P : Program} {t : TypeId} {n : Nat} (h : szOf P t = some n) (w : World) : (sizeOf t).run P w = .ok n w := by
  unfold szOf at h
  cases hi : P.info? t with
  | none => rw [hi] at h; cases h
  | some i =>
    rw [hi] at h
    injection h with h
    subst h
    simp [sizeOf, typeInfo, hi, go_sem]
theorem run_aggB {P : Program} {t : TypeId} {b : Bool} (h : aggB P t = some b) (w : World) : (isAgg t).run P w = .ok b w := by
  unfold aggB at h
  cases hu : P.underlying t with
  | none => rw [hu] at h; cases h
  | some d =>
    rw [hu] at h
    have := run_underlying hu w
    cases d <;> simp at h <;> subst h <;> simp [isAgg, go_sem, this]
theorem CsR.length {r : Nm} {cs : List C} {vs : List Value} (h : CsR r cs vs) : vs.length = cs.length := by
  induction h with
  | nil => rfl
  | cons _ _ ih => simp [ih]
theorem CsR.get {r : Nm} {cs : List C} {vs : List Value} (h : CsR r cs vs) : ∀ (i : Nat) (c : C), cs[i]? = some c → ∃ v, vs[i]? = some v ∧ CR r c v := by
  induction h with
  | nil => intro i c h; simp at h
  | cons h t ih =>
    intro i c hc
    cases i with
    | zero => simp at hc; subst hc; exact ⟨_, rfl, h⟩
    | succ i => simpa using ih i c (by simpa using hc)
theorem CsR.drop {r : Nm} {cs : List C} {vs : List Value} (h : CsR r cs vs) : ∀ n, CsR r (cs.drop n) (vs.drop n) := by
  induction h with
  | nil => intro n; simp; exact .nil
  | cons h t ih =>
    intro n
    cases n with
    | zero => exact .cons h t
    | succ n => simpa using ih n
theorem CsR.take {r : Nm} {cs : List C} {vs : List Value} (h : CsR r cs vs) : ∀ n, CsR r (cs.take n) (vs.take n) := by
  induction h with
  | nil => intro n; simp; exact .nil
  | cons h t ih =>
    intro n
    cases n with
    | zero => exact .nil
    | succ n => simpa using .cons h (ih n)
theorem CsR.append {r : Nm} {cs ds : List C} {vs us : List Value} (h : CsR r cs vs) (k : CsR r ds us) : CsR r (cs ++ ds) (vs ++ us) := by
  induction h with
  | nil => exact k
  | cons h t ih => exact .cons h ih
/-- a part of a struct's or an array's cells -/
def partC (P : Program) (t : TypeId) (cs : List C) (off : Nat) : Option Wv := match aggB P t, szOf P t with
  | some true, some n => some (.a ((cs.drop off).take n))
  | some false, some _ => (cs[off]?).map .c
  | _, _ => none
theorem partC_ok {P : Program} {r : Nm} {t : TypeId} {cs : List C} {vs : List Value} {off : Nat} {x : Wv} (h : CsR r cs vs) (e : partC P t cs off = some x) :
    ∃ u, WR r x u ∧ ∀ w, (part t vs.toArray off).run P w = .ok u w := by
  unfold partC at e
  split at e
  · rename_i n h1 h2
    injection e with e
    subst e
    refine ⟨_, .a ((h.drop off).take n), fun w => ?_⟩
    have e1 := run_aggB h1 w
    have e2 := run_szOf h2 w
    simp [part, go_sem, e1, e2, List.extract_eq_take_drop]
  · rename_i n h1 h2
    cases hc : cs[off]? with
    | none => rw [hc] at e; cases e
    | some c =>
      rw [hc] at e
      injection e with e
      subst e
      obtain ⟨v, hv, hr⟩ := h.get off c hc
      refine ⟨v, .c hr, fun w => ?_⟩
      have e1 := run_aggB h1 w
      simp [part, go_sem, e1, hv]
  · cases e
end Go.Proofs.YtkennofbilmbcaaGreat
end
section
set_option linter.unusedVariables false
set_option linter.unusedSimpArgs false
/- Running closed code: operators on numbers, truth values, strings, and equality. -/
namespace Go.Proofs.YtkennofbilmbcaaGreat
open Go.RowKit

/-! ### Equality -/
def eqFs (rc : TypeId → Wv → Wv → Option Bool) (P : Program) : List Field → List C → List C → Option Bool
  | [], _, _ => some true
  | f :: fs, xs, ys => if f.name = "_" then none else
    match partC P f.type xs f.offset with
    | none => none
    | some a => match partC P f.type ys f.offset with
      | none => none
      | some b => match rc f.type a b with
        | none => none
        | some false => some false
        | some true => eqFs rc P fs xs ys
def eqW (P : Program) : Nat → TypeId → Wv → Wv → Option Bool
  | 0, _, _, _ => none
  | m + 1, t, x, y => match P.underlying t with
    | some .bool => match x, y with
      | .c (.b a), .c (.b b) => some (a == b)
      | _, _ => none
    | some (.int _) => match x, y with
      | .c (.i k a), .c (.i j b) => if k = j then some (a == b) else none
      | _, _ => none
    | some .string => match x, y with
      | .c (.s a), .c (.s b) => some (a.toList == b.toList)
      | _, _ => none
    | some (.struct fs) => match x, y with
      | .a xs, .a ys => if P.stoodInHeld t then none else eqFs (eqW P m) P fs.toList xs ys
      | _, _ => none
    | _ => none
theorem eqFs_ok {P : Program} {r : Nm} {rc : TypeId → Wv → Wv → Option Bool} {d : Nat} (hrc : ∀ t x y b u v, rc t x y = some b → WR r x u → WR r y v → ∀ w, (Op.equalIn d t u v).run P w = .ok b w)
    {xs ys : List C} {us vs : List Value} (hx : CsR r xs us) (hy : CsR r ys vs) : ∀ (fs : List Field) (b : Bool), eqFs rc P fs xs ys = some b → ∀ w, (Op.eqFields d us.toArray vs.toArray fs).run P w = .ok b w := by
  intro fs
  induction fs with
  | nil => intro b h w; injection h with h; subst h; simp [Op.eqFields]
  | cons f fs ih =>
    intro b h w
    unfold eqFs at h
    split at h
    · cases h
    · rename_i hn
      split at h
      · cases h
      · rename_i a ha
        split at h
        · cases h
        · rename_i c hc
          obtain ⟨u, hu, ru⟩ := partC_ok hx ha
          obtain ⟨v, hv, rv⟩ := partC_ok hy hc
          split at h
          · cases h
          · rename_i he
            injection h with h
            subst h
            have hr := hrc _ _ _ _ _ _ he hu hv
            simp only [Op.eqFields, ne_eq, hn, not_false_eq_true, if_true, Sem.run_bind, ru, rv, hr, Result.andThen_ok, Bool.not_false, Sem.run_pure]
          · rename_i he
            have hr := hrc _ _ _ _ _ _ he hu hv
            simp only [Op.eqFields, ne_eq, hn, not_false_eq_true, if_true, Sem.run_bind, ru, rv, hr, Result.andThen_ok, Bool.not_true, Bool.false_eq_true, if_false]
            exact ih b h w
theorem eqW_ok {P : Program} {r : Nm} : ∀ (m d : Nat), m ≤ d → ∀ t x y b u v, eqW P m t x y = some b → WR r x u → WR r y v → ∀ w, (Op.equalIn d t u v).run P w = .ok b w := by
  intro m
  induction m with
  | zero => intro d _ t x y b u v h; cases h
  | succ m ih =>
    intro d hd t x y b u v h hu hv w
    obtain ⟨d, rfl⟩ : ∃ e, d = e + 1 := ⟨d - 1, by omega⟩
    unfold eqW at h
    split at h
    · rename_i ht
      split at h
      · injection h with h
        subst h
        cases hu with
        | c hu => cases hu; cases hv with
          | c hv => cases hv; exact run_equalIn_bool' w d t _ _ ht
      · cases h
    · rename_i ht
      split at h
      · split at h
        · rename_i k a j c hk
          subst hk
          injection h with h
          subst h
          cases hu with
          | c hu => cases hu; cases hv with
            | c hv => cases hv; exact run_equalIn_int w d t _ _ _ _ ht
        · cases h
      · cases h
    · rename_i ht
      split at h
      · injection h with h
        subst h
        cases hu with
        | c hu => cases hu; cases hv with
          | c hv => cases hv; exact run_equalIn_string w d t _ _ ht
      · cases h
    · rename_i fs ht
      split at h
      · split at h
        · cases h
        · rename_i xs ys hs
          cases hu with
          | a hu => cases hv with
            | a hv =>
              have hf : P.fieldsOf t = fs := by unfold Program.fieldsOf; rw [ht]
              rw [run_equalIn_struct w d t _ _ (by rw [hf]; exact ht) (by simpa using hs), hf]
              exact eqFs_ok (fun t x y b u v => ih d (by omega) t x y b u v) hu hv fs.toList b h w
      · cases h
    · cases h
/-! ### Operators -/
def bitsI (op : BinOp) (k : IntKind) (x y : Int) : Option Int := match op with
  | .and => some (k.wrap (BitVec.ofInt k.bits x &&& BitVec.ofInt k.bits y).toNat)
  | .or => some (k.wrap (BitVec.ofInt k.bits x ||| BitVec.ofInt k.bits y).toNat)
  | .xor => some (k.wrap (BitVec.ofInt k.bits x ^^^ BitVec.ofInt k.bits y).toNat)
  | .andNot => some (k.wrap (BitVec.ofInt k.bits x &&& ~~~BitVec.ofInt k.bits y).toNat)
  | _ => none
def intBin (op : BinOp) (k : IntKind) (x y : Int) : Option C := match op with
  | .add => some (.i k (k.wrap (x + y)))
  | .sub => some (.i k (k.wrap (x - y)))
  | .mul => some (.i k (k.wrap (x * y)))
  | .quo => if y = 0 then none else some (.i k (k.wrap (x.tdiv y)))
  | .rem => if y = 0 then none else some (.i k (x.tmod y))
  | .eql => some (.b (x == y))
  | .neq => some (.b (x != y))
  | .lss => some (.b (x < y))
  | .leq => some (.b (x ≤ y))
  | .gtr => some (.b (x > y))
  | .geq => some (.b (x ≥ y))
  | .shl => none
  | .shr => none
  | op => (bitsI op k x y).map (.i k)
def shiftI (op : BinOp) (k : IntKind) (x y : Int) : Option C := if y < 0 then none else match op with
  | .shl => some (.i k (k.wrap (x * 2 ^ min y.toNat k.bits)))
  | .shr => some (.i k (x.fdiv (2 ^ min y.toNat k.bits)))
  | _ => none
def isShift : BinOp → Bool
  | .shl => true
  | .shr => true
  | _ => false
def strBin (op : BinOp) (x y : ByteArray) : Option C :=
  match op with
  | .add => if x.size + y.size ≤ 1000000 then some (.s (x ++ y)) else none
  | .eql => some (.b (x.toList == y.toList))
  | .neq => some (.b (!(x.toList == y.toList)))
  | _ => none
def eqB (op : BinOp) (b : Bool) : Option C := match op with
  | .eql => some (.b b)
  | .neq => some (.b (!b))
  | _ => none
def opBin (P : Program) (op : BinOp) (t : TypeId) (x y : V) : Option C := match x, y with
  | .w (.c (.i k a)), .w (.c (.i j b)) => if isShift op then shiftI op k a b else if k = j then intBin op k a b else none
  | .w (.c (.s a)), .w (.c (.s b)) => strBin op a b
  | .w (.c (.b a)), .w (.c (.b b)) => match P.underlying t with
    | some .bool => eqB op (a == b)
    | _ => none
  | .w (.c (.p a)), .w (.c (.p none)) => match P.underlying t with
    | some (.pointer _) => eqB op a.isNone
    | _ => none
  | .w (.c (.p none)), .w (.c (.p (some _))) => match P.underlying t with
    | some (.pointer _) => eqB op false
    | _ => none
  | .w (.c (.l a _ _)), .w (.c (.l none 0 (.k 0))) => match P.underlying t with
    | some (.slice _) => eqB op a.isNone
    | _ => none
  | .w (.c .nf), .w (.c .nf) => match P.underlying t with
    | some (.func _ _ _) => eqB op true
    | _ => none
  | .w (.c (.f _ _ _)), .w (.c .nf) => match P.underlying t with
    | some (.func _ _ _) => eqB op false
    | _ => none
  | .w (.a xs), .w (.a ys) => if P.eqGuardType P.depth t then none else match eqW P 12 t (.a xs) (.a ys) with
    | some b => eqB op b
    | none => none
  | _, _ => none
theorem bitsI_ok {P : Program} {op : BinOp} {k : IntKind} {x y z : Int} (h : bitsI op k x y = some z) (w : World) : (Op.intBits op k x y).run P w = .ok (.int k z) w := by
  unfold bitsI at h
  split at h <;> first | (injection h with h; subst h; simp [Op.intBits]) | cases h
theorem intBin_ok {P : Program} {r : Nm} {op : BinOp} {t : TypeId} {k : IntKind} {x y : Int} {c : C} (h : intBin op k x y = some c) : ∃ u, CR r c u ∧ ∀ w, (binOp op t (.int k x) (.int k y)).run P w = .ok u w := by
  unfold intBin at h
  split at h
  case h_14 =>
    cases hb : bitsI _ k x y with
    | none => rw [hb] at h; cases h
    | some z =>
      rw [hb] at h
      injection h with h
      subst h
      refine ⟨_, .i k z, fun w => ?_⟩
      have := bitsI_ok (P := P) hb w
      unfold bitsI at hb
      split at hb <;> first | (simpa [binOp] using this) | cases hb
  all_goals first
    | (injection h with h; subst h; refine ⟨_, by first | exact .i _ _ | exact .b _, fun w => ?_⟩; simp [binOp, Op.intArith, Op.intCmp, go_sem]; done)
    | (split at h
       · cases h
       · rename_i hz
         injection h with h; subst h; refine ⟨_, .i _ _, fun w => ?_⟩; simp [binOp, Op.intDiv, hz, go_sem])
    | cases h
theorem shiftI_ok {P : Program} {r : Nm} {op : BinOp} {t : TypeId} {k j : IntKind} {x y : Int} {c : C} (hs : isShift op = true) (h : shiftI op k x y = some c) : ∃ u, CR r c u ∧ ∀ w, (binOp op t (.int k x) (.int j y)).run P w = .ok u w := by
  unfold shiftI at h
  split at h
  · cases h
  · rename_i hz
    split at h
    · injection h with h; subst h; refine ⟨_, .i _ _, fun w => ?_⟩; simp [binOp, Op.shift, hz, go_sem]
    · injection h with h; subst h; refine ⟨_, .i _ _, fun w => ?_⟩; simp [binOp, Op.shift, hz, go_sem]
    · cases h
end Go.Proofs.YtkennofbilmbcaaGreat
end
