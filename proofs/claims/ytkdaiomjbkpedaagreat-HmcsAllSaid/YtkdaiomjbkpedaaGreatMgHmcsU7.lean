/- Joined: Hm8, Hm9, Hm10, Top1, Top2. -/
import Derived.Test.YtkdaiomjbkpedaaGreatRows
import Derived.RegionCalls
import Derived.Test.YtkdaiomjbkpedaaGreatMgHmcsU1
import Derived.Test.YtkdaiomjbkpedaaGreatMgHmcsU6
section
/- Layer 27 (hmcs): what others' acts leave as it was. No program in sight. -/
namespace Go.Proofs.YtkdaiomjbkpedaaGreat
open Go.RowKit

section
variable {T : HTr} {bud : Int} {m m' : Hm} {Q Q' : Nat → List Nat} {O O' : Nat → Nat → Option Nat} {i : Nat}
theorem sp_slot_ne (m : Hm) {v j a b : Nat} (p : Sp) (h : ¬ (a = v ∧ b = j)) : (m.slot v j p).sp a b = m.sp a b := by
  unfold Hm.sp Hm.slot
  show sv (updH m.P v ((m.P v).set j p) a) b = _
  by_cases e : a = v
  · subst e
    rw [updH_eq, sv_set, if_neg (fun h' => h ⟨rfl, h'.1.symm⟩)]
  · rw [updH_ne _ _ e]
theorem wthH_sp (m : Hm) {v j a b : Nat} (u c : Int) (h : ¬ (a = v ∧ b = j)) : (wthH m v j u c).sp a b = m.sp a b := by
  unfold wthH
  split
  · exact sp_slot_ne m _ h
  · rfl
theorem askH_sp (m : Hm) {v j a b : Nat} (h : ¬ (a = v ∧ b = j) ∨ (m.sp a b).pc ≠ 0) : (askH m v j).sp a b = m.sp a b := by
  unfold askH
  split
  · rename_i h0
    refine sp_slot_ne m _ fun e => ?_
    rcases h with h | h
    · exact h e
    · rw [e.1, e.2] at h; exact h h0
  · rfl
theorem thr_sp (m : Hm) (s : Sp) (a b : Nat) : (m.thr i s).sp a b = m.sp a b := rfl
theorem wthH_S (m : Hm) (v j : Nat) (u c : Int) : (wthH m v j u c).S = m.S := by unfold wthH; split <;> rfl
theorem wthH_W (m : Hm) (v j : Nat) (u c : Int) : (wthH m v j u c).W = m.W := by unfold wthH; split <;> rfl
theorem askH_S (m : Hm) (v j : Nat) : (askH m v j).S = m.S := by unfold askH; split <;> rfl
theorem askH_W (m : Hm) (v j : Nat) : (askH m v j).W = m.W := by unfold askH; split <;> rfl
theorem thr_S (m : Hm) {t : Nat} (s : Sp) (h : t ≠ i) : sv (m.thr i s).S t = sv m.S t := by
  show sv (m.S.set i s) t = _
  rw [sv_set, if_neg (fun e => h e.1.symm)]
theorem begH_keep (hi : i < T.n) : ∀ (f : Nat) (m : Hm) (k0 : Nat), k0 < T.D → (begH T bud f m i k0).W = m.W ∧ (∀ t, t ≠ i → sv (begH T bud f m i k0).S t = sv m.S t) ∧ ∀ a b, (∀ k, k0 ≤ k → k < T.D → ¬ (a = T.pl i k ∧ b = T.sl i k)) → (begH T bud f m i k0).sp a b = m.sp a b := by
  intro f
  induction f with
  | zero => intro m k0 _; exact ⟨rfl, fun _ _ => rfl, fun _ _ _ => rfl⟩
  | succ f ih =>
    intro m k0 hk
    unfold begH
    split
    · exact ⟨wthH_W _ _ _ _ _, fun t ht => by rw [thr_S _ _ ht, wthH_S], fun a b h => by rw [thr_sp]; exact wthH_sp m _ _ (h k0 (Nat.le_refl _) hk)⟩
    · split
      · exact ⟨wthH_W _ _ _ _ _, fun t ht => by rw [thr_S _ _ ht, wthH_S], fun a b h => by rw [thr_sp]; exact wthH_sp m _ _ (h k0 (Nat.le_refl _) hk)⟩
      · obtain ⟨h1, h2, h3⟩ := ih m (k0 + 1) (by omega)
        exact ⟨h1, h2, fun a b h => h3 a b fun k hk1 hk2 => h k (by omega) hk2⟩
theorem downH_keep (c : Nat) : (downH T m i c).W = m.W ∧ (∀ t, t ≠ i → sv (downH T m i c).S t = sv m.S t) ∧ ∀ a b, (c ≠ 0 → ¬ (a = T.pl i (c - 1) ∧ b = T.sl i (c - 1))) → (downH T m i c).sp a b = m.sp a b := by
  unfold downH
  split
  · exact ⟨rfl, fun t ht => thr_S _ _ ht, fun a b _ => rfl⟩
  · rename_i hc
    exact ⟨wthH_W _ _ _ _ _, fun t ht => by rw [thr_S _ _ ht, wthH_S], fun a b h => by rw [thr_sp]; exact wthH_sp m _ _ (h hc)⟩
theorem comeH_keep (c : Nat) : (comeH T m i c).W = m.W ∧ (∀ t, t ≠ i → sv (comeH T m i c).S t = sv m.S t) ∧ ∀ a b, (m.sp a b).pc ≠ 0 → (comeH T m i c).sp a b = m.sp a b := by
  unfold comeH
  split
  · exact ⟨rfl, fun t ht => thr_S _ _ ht, fun a b _ => rfl⟩
  · exact ⟨askH_W _ _ _, fun t ht => by rw [thr_S _ _ ht, askH_S], fun a b h => by rw [thr_sp]; exact askH_sp m (.inr h)⟩
/-- a slot that is somebody's is not at rest -/
theorem HInv.ownPc (h : HInv T bud m Q O) {a b t : Nat} (ho : O a b = some t) : (m.sp a b).pc ≠ 0 := by
  obtain ⟨ht, k, hk, rfl, rfl⟩ := (h.x 0).ow a b t ho
  obtain ⟨K, kk, o⟩ := h.t t ht
  have hkK := (o k hk).1 ho
  cases kk with
  | rest _ => omega
  | come c hh ha _ hb =>
    by_cases e : k = c
    · subst e; omega
    · have := hb k (by omega); omega
  | granted c hh ha hb =>
    by_cases e : k = c
    · subst e; omega
    · have := hb k hk e; omega
  | hold _ hb => have := hb k hk; omega
  | pass c hh ha hb =>
    by_cases e : k = c
    · subst e; omega
    · have := hb k hk e; omega
  | leave c hh ha _ hb =>
    by_cases e : k = c
    · subst e; omega
    · have := hb k (by omega); omega
/-- what an act of i leaves to the others -/
structure FrH (m m' : Hm) (O : Nat → Nat → Option Nat) (i : Nat) : Prop where
  S : ∀ t, t ≠ i → sv m'.S t = sv m.S t
  sp : ∀ a b t, t ≠ i → O a b = some t → m'.sp a b = m.sp a b
  sg : ∀ a b t, t ≠ i → O a b = some t → m.sg a b ≠ 0 → m'.sg a b ≠ 0
  nx : ∀ a b t, t ≠ i → O a b = some t → nxv (m.W a) b ≠ 0 → nxv (m'.W a) b ≠ 0
theorem FrH.refl (m : Hm) (O : Nat → Nat → Option Nat) (i : Nat) : FrH m m O i := ⟨fun _ _ => rfl, fun _ _ _ _ _ => rfl, fun _ _ _ _ _ h => h, fun _ _ _ _ _ h => h⟩
theorem HInv.leaveFr (h : HInv T bud m Q O) (hT : T.Ok) (hi : i < T.n) : FrH m (leaveHm T bud m i) O i := by
  unfold leaveHm
  split
  · rename_i h10
    obtain ⟨K, kk, o⟩ := h.t i hi
    obtain ⟨rfl, _⟩ := kk.of10 h10
    obtain ⟨h1, h2, h3⟩ := begH_keep (T := T) (bud := bud) hi T.D m 0 hT.d1
    refine ⟨h2, fun a b t ht ho => h3 a b fun k _ hk e => ?_, fun a b t _ _ hg => by unfold Hm.sg at hg ⊢; rw [h1]; exact hg, fun a b t _ _ hg => by rw [h1]; exact hg⟩
    rw [e.1, e.2, (o k hk).2 hk] at ho
    injection ho with ho
    exact ht ho.symm
  · exact FrH.refl _ _ _
theorem HInv.stepFr (h : HInv T bud m Q O) (hT : T.Ok) (hi : i < T.n) : FrH m (stepHm T bud m i) O i := by
  unfold stepHm
  by_cases c0 : (sv m.S i).pc = 0 ∨ (sv m.S i).pc = 10
  · rw [if_pos c0]; exact FrH.refl _ _ _
  rw [if_neg c0]
  have hx := h.x i
  obtain ⟨K, kk, o⟩ := h.t i hi
  obtain ⟨c, hc, hcD, hcK, a0, a10, a14⟩ := TOwn.act kk c0
  rw [hc]
  simp only [Int.toNat_natCast]
  have hv := hT.plt i c hi hcD
  have hj := hT.slt i c hi hcD
  have ho : O (T.pl i c) (T.sl i c) = some i := (o c hcD).2 hcK
  obtain ⟨v, hvd⟩ : ∃ v, v = T.pl i c := ⟨_, rfl⟩
  obtain ⟨j, hjd⟩ : ∃ j, j = T.sl i c := ⟨_, rfl⟩
  have hva := hx.va _ _ hv hj
  rw [← hvd] at hv hj ho hva a0 a10 a14 ⊢
  rw [← hjd] at hj ho hva a0 a10 a14 ⊢
  rw [if_neg (fun e => e.elim a0 a10)]
  have hcc : (sv (m.P v) j).pc = 14 ∨ (sv (m.P v) j).pc = 16 → (sv (m.P v) j).c ≠ 0 := fun e => by
    rcases e with e | e
    · exact a14 e
    · have e1 := hva.1 (.inr (.inr e))
      have e2 := hva.2 (.inr e)
      show (m.sp v j).c ≠ 0
      omega
  obtain ⟨Qn, R⟩ := rungStep (ar := arW (m.W v)) (hx.rg v hv) (hT.nv32 v hv) hj a0 a10 hcc
  obtain ⟨x, hxd⟩ : ∃ x, x = stepP (arW (m.W v)) 1 ((j : Int) + 1) (sv (m.P v) j) := ⟨_, rfl⟩
  have hm1 : rstH m v j = { m with W := updH m.W v x.1.W, P := updH m.P v ((m.P v).set j x.2) } := by rw [hxd]; rfl
  rw [← hxd] at R
  have hlen : j < (m.P v).length := by rw [hx.len hv]; exact hj
  have hsp : ∀ a b, (rstH m v j).sp a b = if a = v ∧ b = j then x.2 else m.sp a b := fun a b => by rw [hm1]; exact sp_slot m v j x.2 hlen a b
  have hs1 : (rstH m v j).sp v j = x.2 := by rw [hsp, if_pos ⟨rfl, rfl⟩]
  have hne : ∀ a b t, t ≠ i → O a b = some t → ¬ (a = v ∧ b = j) := fun a b t ht hab e => by
    rw [e.1, e.2, ho] at hab
    injection hab with hab
    exact ht hab.symm
  have hsp' : ∀ a b t, t ≠ i → O a b = some t → (rstH m v j).sp a b = m.sp a b := fun a b t ht hab => by rw [hsp, if_neg (hne a b t ht hab)]
  have hW : ∀ m2 : Hm, m2.W = (rstH m v j).W → (∀ a b t, t ≠ i → O a b = some t → m.sg a b ≠ 0 → m2.sg a b ≠ 0) ∧ (∀ a b t, t ≠ i → O a b = some t → nxv (m.W a) b ≠ 0 → nxv (m2.W a) b ≠ 0) := fun m2 hm2 => by
    have hw : ∀ a, m2.W a = updH m.W v x.1.W a := fun a => by rw [hm2, hm1]
    refine ⟨fun a b t ht hab hg => ?_, fun a b t ht hab hg => ?_⟩
    · unfold Hm.sg at hg ⊢
      rw [hw]
      by_cases e : a = v
      · subst e
        rw [updH_eq]
        have hbj : b ≠ j := fun e => hne a b t ht hab ⟨rfl, e⟩
        by_cases hgv : ((sv (m.P a) j).pc = 14 ∨ (sv (m.P a) j).pc = 16) ∧ Qn[0]? = some b
        · refine R.inv.hd5 b hgv.2 ?_
          cases R.case_ with
          | give s r e =>
            obtain ⟨_, _, _, e4, e5, _⟩ := e
            rw [e4] at hgv
            obtain rfl : s = b := by simpa using hgv.2
            rw [sv_set, if_neg (fun h' => hbj h'.1.symm)]; exact e5
          | walk e => have := e.1; omega
          | come e => have := e.1; omega
          | link e => have := e.1; omega
          | spin e => have := e.1; omega
          | told e => have := e.1; omega
          | sent e => have := e.1; omega
          | hold e => have := e.1; omega
          | out e => have := e.2.1; omega
          | free e => have := e.1; omega
          | look e => have := e.1; omega
        · rw [R.st b hbj (fun e e2 => hgv ⟨e, e2⟩)]; exact hg
      · rw [updH_ne _ _ e]; exact hg
    · rw [hw]
      by_cases e : a = v
      · subst e
        rw [updH_eq]
        exact R.nx b (fun e => hne a b t ht hab ⟨rfl, e⟩) hg
      · rw [updH_ne _ _ e]; exact hg
  rw [hs1]
  by_cases d1 : ¬ (x.2.pc = 0 ∨ x.2.pc = 10)
  · rw [if_pos d1]
    exact ⟨fun _ _ => rfl, hsp', (hW _ rfl).1, (hW _ rfl).2⟩
  · rw [if_neg d1]
    by_cases d2 : (sv m.S i).pc = 1
    · rw [if_pos d2]
      obtain ⟨h1, h2, h3⟩ := comeH_keep (T := T) (m := rstH m v j) (i := i) c
      refine ⟨h2, fun a b t ht hab => ?_, (hW _ h1).1, (hW _ h1).2⟩
      rw [h3 a b (by rw [hsp' a b t ht hab]; exact h.ownPc hab)]
      exact hsp' a b t ht hab
    · rw [if_neg d2]
      by_cases d3 : x.2.pc = 0
      · rw [if_pos d3]
        obtain ⟨h1, h2, h3⟩ := downH_keep (T := T) (m := rstH m v j) (i := i) c
        refine ⟨h2, fun a b t ht hab => ?_, (hW _ h1).1, (hW _ h1).2⟩
        rw [h3 a b (fun hc0 e => ?_)]
        · exact hsp' a b t ht hab
        · rw [e.1, e.2, (o (c - 1) (by omega)).2 (by omega)] at hab
          injection hab with hab
          exact ht hab.symm
      · rw [if_neg d3]
        have hx10 : x.2.pc = 10 := by
          apply Classical.byContradiction
          intro hn
          exact d1 fun e => e.elim d3 hn
        have hpass : K = T.D ∧ c + 1 < T.D := by
          cases kk with
          | rest hh => exact absurd (.inl hh) c0
          | hold hh _ => exact absurd (.inr hh) c0
          | come c' hh _ _ _ => exact absurd hh.1 d2
          | granted c' hh _ _ => exact absurd hh.1 d2
          | pass c' hh _ _ => exact ⟨rfl, by have := hh.2.1; omega⟩
          | leave c' hh ha _ _ =>
            exfalso
            obtain rfl : c = c' := by have := hh.2.1; omega
            rw [← hvd, ← hjd] at ha
            have ha' : 11 ≤ (sv (m.P v) j).pc ∧ (sv (m.P v) j).pc ≤ 14 := ha
            cases R.case_ with
            | give s r e => have := e.2.1; omega
            | walk e => have := e.1; omega
            | come e => have := e.1; omega
            | link e => have := e.1; omega
            | spin e => have := e.1; omega
            | told e => have := e.1; omega
            | sent e => have := e.1; omega
            | hold e => have := e.1; omega
            | out e => have := e.2.2.2.2.2; omega
            | free e => have := e.2.1; omega
            | look e => have := e.1; omega
        obtain ⟨h1, h2, h3⟩ := begH_keep (T := T) (bud := bud) hi T.D (rstH m v j) (c + 1) hpass.2
        refine ⟨h2, fun a b t ht hab => ?_, (hW _ h1).1, (hW _ h1).2⟩
        rw [h3 a b (fun k _ hk e => ?_)]
        · exact hsp' a b t ht hab
        · rw [e.1, e.2, (o k hk).2 (by rw [hpass.1]; exact hk)] at hab
          injection hab with hab
          exact ht hab.symm
end
end Go.Proofs.YtkdaiomjbkpedaaGreat
end
section
/- Layer 27 (hmcs): what is left to do grows less. No program in sight. -/
namespace Go.Proofs.YtkdaiomjbkpedaaGreat
open Go.RowKit

def wgH (D : Nat) (pc : Int) (c : Nat) (q : Int) : Nat :=
  if pc = 0 then 0 else if pc = 10 then 6 * D else if pc = 1 then 6 * D + (7 - q).toNat + 6 * (D - 1 - c)
  else if pc = 11 then (if q = 15 then 2 * (D - 1 - c) + 4 * D else 2 * (D - 1 - c) - 1 + 4 * D) else (15 - q).toNat + 4 * c
def wH (T : HTr) (m : Hm) (i : Nat) : Nat := wgH T.D (sv m.S i).pc (sv m.S i).c.toNat (m.sp (T.pl i (sv m.S i).c.toNat) (T.sl i (sv m.S i).c.toNat)).pc
theorem wg0 (D : Nat) (c : Nat) (q : Int) : wgH D 0 c q = 0 := by unfold wgH; rw [if_pos rfl]
theorem wg10 (D : Nat) (c : Nat) (q : Int) : wgH D 10 c q = 6 * D := by unfold wgH; rw [if_neg (by decide), if_pos rfl]
theorem wg1 (D : Nat) (c : Nat) (q : Int) : wgH D 1 c q = 6 * D + (7 - q).toNat + 6 * (D - 1 - c) := by unfold wgH; rw [if_neg (by decide), if_neg (by decide), if_pos rfl]
theorem wg11a (D : Nat) (c : Nat) : wgH D 11 c 15 = 2 * (D - 1 - c) + 4 * D := by unfold wgH; rw [if_neg (by decide), if_neg (by decide), if_neg (by decide), if_pos rfl, if_pos rfl]
theorem wg11b (D : Nat) (c : Nat) {q : Int} (h : q ≠ 15) : wgH D 11 c q = 2 * (D - 1 - c) - 1 + 4 * D := by unfold wgH; rw [if_neg (by decide), if_neg (by decide), if_neg (by decide), if_pos rfl, if_neg h]
theorem wg12 (D : Nat) (c : Nat) (q : Int) : wgH D 12 c q = (15 - q).toNat + 4 * c := by unfold wgH; rw [if_neg (by decide), if_neg (by decide), if_neg (by decide), if_neg (by decide)]
section
variable {T : HTr} {bud : Int} {m m' : Hm} {Q Q' : Nat → List Nat} {O O' : Nat → Nat → Option Nat} {i : Nat}
theorem wH_at {m : Hm} {s : Sp} {c : Nat} (hs : sv m.S i = s) (hc : s.c = c) : wH T m i = wgH T.D s.pc c (m.sp (T.pl i c) (T.sl i c)).pc := by
  unfold wH
  rw [hs, hc]
  simp only [Int.toNat_natCast]
theorem wH_thr {m : Hm} {s : Sp} {c : Nat} (hl : i < m.S.length) (hc : s.c = c) : wH T (m.thr i s) i = wgH T.D s.pc c (m.sp (T.pl i c) (T.sl i c)).pc := wH_at (sv_thr m s hl) hc
theorem FrH.wt {t : Nat} (f : FrH m m' O i) (h : HInv T bud m Q O) (ht : t < T.n) (hti : t ≠ i) : wH T m' t = wH T m t := by
  obtain ⟨K, kk, o⟩ := h.t t ht
  have hS := f.S t hti
  by_cases h0 : (sv m.S t).pc = 0 ∨ (sv m.S t).pc = 10
  · unfold wH
    rw [hS]
    rcases h0 with e | e
    · rw [e, wg0, wg0]
    · rw [e, wg10, wg10]
  · obtain ⟨c, hc, hcD, hcK, _⟩ := TOwn.act kk h0
    rw [wH_at hS hc, wH_at rfl hc, f.sp _ _ t hti ((o c hcD).2 hcK)]
theorem FrH.mov {u : Nat} (f : FrH m m' O i) (h : HInv T bud m Q O) (hu : u < T.n) (hui : u ≠ i) (k : MovH T m u) : MovH T m' u := by
  obtain ⟨K, kk, o⟩ := h.t u hu
  have hS := f.S u hui
  refine ⟨by rw [hS]; exact k.1, fun h10 c hc => ?_⟩
  rw [hS] at h10 hc
  obtain ⟨c', hc', hcD, hcK, _⟩ := TOwn.act kk (fun e => e.elim k.1 h10)
  obtain rfl : c = c' := by omega
  have ho := (o c hcD).2 hcK
  have hsp := f.sp _ _ u hui ho
  obtain ⟨k5, k13⟩ := k.2 h10 c hc
  rw [hsp]
  exact ⟨fun e => f.sg _ _ u hui ho (k5 e), fun e => f.nx _ _ u hui ho (k13 e)⟩
theorem begH_w (hi : i < T.n) (hT : T.Ok) : ∀ (f : Nat) (m : Hm) (k0 : Nat), i < m.S.length → (∀ v, v < T.np → (m.P v).length = T.nv v) → (∀ k, k < T.D → (m.sp (T.pl i k) (T.sl i k)).pc = 10) → k0 < T.D → T.D ≤ k0 + f → wH T (begH T bud f m i k0) i ≤ 2 * (T.D - 1 - k0) + 4 * T.D := by
  intro f
  induction f with
  | zero => intro m k0 _ _ _ h1 h2; omega
  | succ f ih =>
    intro m k0 hl hP h10 hk hf
    unfold begH
    have hv := hT.plt i k0 hi hk
    have hj := hT.slt i k0 hi hk
    have hlen : T.sl i k0 < (m.P (T.pl i k0)).length := by rw [hP _ hv]; exact hj
    by_cases c1 : k0 + 1 = T.D
    · rw [if_pos c1]
      have e : wthH m (T.pl i k0) (T.sl i k0) 11 1 = m.slot (T.pl i k0) (T.sl i k0) { m.sp (T.pl i k0) (T.sl i k0) with pc := 11, c := 1 } := by unfold wthH; rw [if_pos (h10 k0 hk)]
      rw [e]
      refine Nat.le_trans (Nat.le_of_eq (wH_thr (c := k0) hl rfl)) ?_
      rw [sp_slot _ _ _ _ hlen, if_pos ⟨rfl, rfl⟩]
      show wgH T.D 12 k0 11 ≤ _
      rw [wg12]; omega
    · rw [if_neg c1]
      split
      · have e : wthH m (T.pl i k0) (T.sl i k0) 15 ((m.sp (T.pl i k0) (T.sl i k0)).a + 1) = m.slot (T.pl i k0) (T.sl i k0) { m.sp (T.pl i k0) (T.sl i k0) with pc := 15, c := (m.sp (T.pl i k0) (T.sl i k0)).a + 1 } := by unfold wthH; rw [if_pos (h10 k0 hk)]
        rw [e]
        refine Nat.le_trans (Nat.le_of_eq (wH_thr (c := k0) hl rfl)) ?_
        rw [sp_slot _ _ _ _ hlen, if_pos ⟨rfl, rfl⟩]
        show wgH T.D 11 k0 15 ≤ _
        rw [wg11a]; omega
      · have := ih m (k0 + 1) hl hP h10 (by omega) (by omega)
        omega
theorem downH_w (hi : i < T.n) (hT : T.Ok) (hl : i < m.S.length) (hP : ∀ v, v < T.np → (m.P v).length = T.nv v) {c : Nat} (hc : c < T.D) (h10 : ∀ k, k < c → (m.sp (T.pl i k) (T.sl i k)).pc = 10) : wH T (downH T m i c) i ≤ 4 * c := by
  unfold downH
  by_cases c0 : c = 0
  · rw [if_pos c0]
    unfold wH
    rw [sv_thr m _ hl]
    show wgH T.D 0 _ _ ≤ _
    rw [wg0]; omega
  · rw [if_neg c0]
    obtain ⟨d, rfl⟩ : ∃ d, c = d + 1 := ⟨c - 1, by omega⟩
    simp only [Nat.add_sub_cancel]
    have hd : d < T.D := by omega
    have hlen : T.sl i d < (m.P (T.pl i d)).length := by rw [hP _ (hT.plt i d hi hd)]; exact hT.slt i d hi hd
    have e : wthH m (T.pl i d) (T.sl i d) 11 (-1) = m.slot (T.pl i d) (T.sl i d) { m.sp (T.pl i d) (T.sl i d) with pc := 11, c := -1 } := by unfold wthH; rw [if_pos (h10 d (by omega))]
    rw [e]
    refine Nat.le_trans (Nat.le_of_eq (wH_thr (c := d) hl (by show ((d + 1 : Nat) : Int) - 1 = d; omega))) ?_
    rw [sp_slot _ _ _ _ hlen, if_pos ⟨rfl, rfl⟩]
    show wgH T.D 12 d 11 ≤ _
    rw [wg12]; omega
theorem HInv.leaveW (h : HInv T bud m Q O) (hT : T.Ok) (hi : i < T.n) : wH T (leaveHm T bud m i) i ≤ wH T m i ∧ ((sv m.S i).pc = 10 → wH T (leaveHm T bud m i) i < wH T m i) := by
  unfold leaveHm
  by_cases c0 : (sv m.S i).pc = 10
  · rw [if_pos c0]
    have hd := hT.d1
    obtain ⟨K, kk, o⟩ := h.t i hi
    obtain ⟨rfl, h10⟩ := kk.of10 c0
    have h1 := begH_w (bud := bud) hi hT T.D m 0 (lenS (h.x i) hi) (fun v hv => (h.x i).len hv) h10 (by omega) (by omega)
    have h2 : wH T m i = 6 * T.D := by unfold wH; rw [c0, wg10]
    exact ⟨by omega, fun _ => by omega⟩
  · rw [if_neg c0]; exact ⟨Nat.le_refl _, fun e => absurd e c0⟩
theorem HInv.stepW (h : HInv T bud m Q O) (hT : T.Ok) (hi : i < T.n) : wH T (stepHm T bud m i) i ≤ wH T m i ∧ ((sv m.S i).pc ≠ 10 → MovH T m i → wH T (stepHm T bud m i) i < wH T m i) ∧ ((sv m.S i).pc = 10 → stepHm T bud m i = m) := by
  rw [and_left_comm]
  suffices hh : wH T (stepHm T bud m i) i < wH T m i ∨ (wH T (stepHm T bud m i) i = wH T m i ∧ ((sv m.S i).pc = 10 ∨ ¬ MovH T m i)) by
    refine ⟨fun h10 hm => ?_, ?_, fun e => by unfold stepHm; rw [if_pos (.inr e)]⟩
    · rcases hh with e | ⟨_, e | e⟩
      · exact e
      · exact absurd e h10
      · exact absurd hm e
    · rcases hh with e | ⟨e, _⟩ <;> omega
  unfold stepHm
  by_cases c0 : (sv m.S i).pc = 0 ∨ (sv m.S i).pc = 10
  · rw [if_pos c0]
    exact .inr ⟨rfl, c0.elim (fun e => .inr fun k => k.1 e) .inl⟩
  rw [if_neg c0]
  have hx := h.x i
  obtain ⟨K, kk, o⟩ := h.t i hi
  obtain ⟨c, hc, hcD, hcK, a0, a10, a14⟩ := TOwn.act kk c0
  have hw0 := wH_at (T := T) (m := m) (i := i) (c := c) rfl hc
  rw [hc]
  simp only [Int.toNat_natCast]
  have hv := hT.plt i c hi hcD
  have hj := hT.slt i c hi hcD
  have hlev : ∀ k, k < T.D → k ≠ c → T.pl i k ≠ T.pl i c := fun k hk hne e => by
    have e1 := hT.lv i k hi hk
    have e2 := hT.lv i c hi hcD
    rw [e] at e1; omega
  obtain ⟨v, hvd⟩ : ∃ v, v = T.pl i c := ⟨_, rfl⟩
  obtain ⟨j, hjd⟩ : ∃ j, j = T.sl i c := ⟨_, rfl⟩
  have hva := hx.va _ _ hv hj
  rw [← hvd] at hv hj hva a0 a10 a14 hlev hw0 ⊢
  rw [← hjd] at hj hva a0 a10 a14 hw0 ⊢
  rw [if_neg (fun e => e.elim a0 a10)]
  have hcc : (sv (m.P v) j).pc = 14 ∨ (sv (m.P v) j).pc = 16 → (sv (m.P v) j).c ≠ 0 := fun e => by
    rcases e with e | e
    · exact a14 e
    · have e1 := hva.1 (.inr (.inr e))
      have e2 := hva.2 (.inr e)
      show (m.sp v j).c ≠ 0
      omega
  obtain ⟨Qn, R⟩ := rungStep (ar := arW (m.W v)) (hx.rg v hv) (hT.nv32 v hv) hj a0 a10 hcc
  obtain ⟨x, hxd⟩ : ∃ x, x = stepP (arW (m.W v)) 1 ((j : Int) + 1) (sv (m.P v) j) := ⟨_, rfl⟩
  have hm1 : rstH m v j = { m with W := updH m.W v x.1.W, P := updH m.P v ((m.P v).set j x.2) } := by rw [hxd]; rfl
  rw [← hxd] at R
  have hlen : j < (m.P v).length := by rw [hx.len hv]; exact hj
  have hsp : ∀ a b, (rstH m v j).sp a b = if a = v ∧ b = j then x.2 else m.sp a b := fun a b => by rw [hm1]; exact sp_slot m v j x.2 hlen a b
  have hs1 : (rstH m v j).sp v j = x.2 := by rw [hsp, if_pos ⟨rfl, rfl⟩]
  have hS : (rstH m v j).S = m.S := rfl
  have hl1 : i < (rstH m v j).S.length := by rw [hS]; exact lenS hx hi
  have hP1 : ∀ w, w < T.np → ((rstH m v j).P w).length = T.nv w := fun w hw => by
    rw [hm1]
    show (updH m.P v ((m.P v).set j x.2) w).length = _
    by_cases e : w = v
    · subst e; rw [updH_eq, List.length_set]; exact hx.len hw
    · rw [updH_ne _ _ e]; exact hx.len hw
  have hsame : ∀ k, k < T.D → k ≠ c → (rstH m v j).sp (T.pl i k) (T.sl i k) = m.sp (T.pl i k) (T.sl i k) := fun k hk hne => by rw [hsp, if_neg (fun e => hlev k hk hne e.1)]
  have hw1 : wH T (rstH m v j) i = wgH T.D (sv m.S i).pc c x.2.pc := by
    have := wH_at (T := T) (m := rstH m v j) (i := i) (s := sv m.S i) (c := c) rfl hc
    rw [← hvd, ← hjd, hs1] at this
    exact this
  have hmv : ∀ k : MovH T m i, ((m.sp v j).pc = 5 → m.sg v j ≠ 0) ∧ ((m.sp v j).pc = 13 → nxv (m.W v) j ≠ 0) := fun k => by
    have := k.2 (fun e => c0 (.inr e)) c hc
    rw [← hvd, ← hjd] at this
    exact this
  rw [hs1]
  cases kk with
  | rest hh => exact absurd (.inl hh) c0
  | hold hh _ => exact absurd (.inr hh) c0
  | come c' hh ha hg hb =>
    obtain rfl : c = c' := by have := hh.2.1; omega
    rw [hh.1] at hw0 hw1
    rw [wg1] at hw0 hw1
    have stay : ¬ ¬ ¬ (x.2.pc = 0 ∨ x.2.pc = 10) → (m.sp v j).pc < x.2.pc → x.2.pc ≤ 6 → wH T (rstH m v j) i < wH T m i := fun _ h1 h2 => by omega
    cases R.case_ with
    | walk e =>
      obtain ⟨e1, e2, _⟩ := e
      have e2' : x.2.pc = (m.sp v j).pc + 1 := e2
      have e1' : (m.sp v j).pc = 1 ∨ (m.sp v j).pc = 2 := e1
      rw [if_pos (by omega)]; exact .inl (by omega)
    | come e =>
      obtain ⟨e1, _, e3⟩ := e
      have e1' : (m.sp v j).pc = 3 := e1
      rw [if_pos (by omega)]; exact .inl (by omega)
    | link e =>
      obtain ⟨e1, e2, _, _⟩ := e
      have e1' : (m.sp v j).pc = 4 := e1
      rw [if_pos (by omega)]; exact .inl (by omega)
    | spin e =>
      obtain ⟨e1, e2, e3, _, _⟩ := e
      have e1' : (m.sp v j).pc = 5 := e1
      rw [if_pos (by omega)]
      exact .inr ⟨by omega, .inr fun k => (hmv k).1 e1' e3⟩
    | told e =>
      obtain ⟨e1, e2, _, _, e5, _, _⟩ := e
      have e1' : (m.sp v j).pc = 5 := e1
      rw [if_neg (fun hn => hn (.inr e2)), if_pos hh.1]
      unfold comeH
      rw [← hvd, ← hjd, hs1, hS, if_pos (.inl e5)]
      refine .inl ?_
      unfold wH at hw0 ⊢
      rw [sv_thr _ _ hl1]
      show wgH T.D 10 _ _ < _
      rw [wg10, hw0]; omega
    | sent e =>
      obtain ⟨e1, e2, _, _, _⟩ := e
      have e1' : (m.sp v j).pc = 5 := e1
      rw [if_pos (by omega)]; exact .inl (by omega)
    | hold e =>
      obtain ⟨e1, e2, e3, e4, _, e6⟩ := e
      have e1' : (m.sp v j).pc = 6 := e1
      rw [if_neg (fun hn => hn (.inr e2)), if_pos hh.1]
      unfold comeH
      rw [← hvd, ← hjd, hs1, hS]
      by_cases hD : c + 1 = T.D
      · rw [if_pos (.inr hD)]
        refine .inl ?_
        unfold wH at hw0 ⊢
        rw [sv_thr _ _ hl1]
        show wgH T.D 10 _ _ < _
        rw [wg10, hw0]; omega
      · rw [if_neg (by omega)]
        have hcD1 : c + 1 < T.D := by omega
        have hv1 := hT.plt i (c + 1) hi hcD1
        have hj1 := hT.slt i (c + 1) hi hcD1
        have hl2 : i < (askH (rstH m v j) (T.pl i (c + 1)) (T.sl i (c + 1))).S.length := by rw [askH_S]; exact hl1
        refine .inl (Nat.lt_of_le_of_lt (Nat.le_of_eq (wH_thr (c := c + 1) hl2 (by show (c : Int) + 1 = ((c + 1 : Nat) : Int); omega))) ?_)
        have hq : 1 ≤ ((askH (rstH m v j) (T.pl i (c + 1)) (T.sl i (c + 1))).sp (T.pl i (c + 1)) (T.sl i (c + 1))).pc := by
          have hnn : 0 ≤ (m.sp (T.pl i (c + 1)) (T.sl i (c + 1))).pc := by
            have r := hx.rg _ hv1
            by_cases hQ : T.sl i (c + 1) ∈ Q (T.pl i (c + 1))
            · rcases r.inq hQ with ⟨_, hp⟩ | ⟨_, _, _, _, _, hp | hp⟩
              · unfold Hm.sp; omega
              · have := hp.1; unfold Hm.sp; omega
              · have := hp.1; unfold Hm.sp; omega
            · exact (r.out _ hj1 hQ).1.1
          rw [← hsame (c + 1) hcD1 (by omega)] at hnn
          by_cases h0 : ((rstH m v j).sp (T.pl i (c + 1)) (T.sl i (c + 1))).pc = 0
          · unfold askH
            rw [if_pos h0, sp_slot _ _ _ _ (by rw [hP1 _ hv1]; exact hj1), if_pos ⟨rfl, rfl⟩]
            show (1 : Int) ≤ 1; decide
          · rw [askH_sp _ (.inr h0)]; omega
        show wgH T.D (sv m.S i).pc (c + 1) _ < _
        rw [hh.1, wg1, hw0]
        omega
    | out e => have : 11 ≤ (m.sp v j).pc := e.1; rw [← hvd, ← hjd] at ha; omega
    | free e => have : (m.sp v j).pc = 12 := e.1; rw [← hvd, ← hjd] at ha; omega
    | give s r e => have : (m.sp v j).pc = 14 ∨ (m.sp v j).pc = 16 := e.1; rw [← hvd, ← hjd] at ha; omega
    | look e => have : (m.sp v j).pc = 15 := e.1; rw [← hvd, ← hjd] at ha; omega
  | granted c' hh ha hb =>
    obtain rfl : c = c' := by have := hh.2.1; omega
    rw [← hvd, ← hjd] at ha
    rw [hh.1, wg1] at hw0
    have ha2 : 0 < sgv (m.W v) j := ha.2
    cases R.case_ with
    | told e =>
      obtain ⟨e1, e2, _, _, e5, _, _⟩ := e
      rw [if_neg (fun hn => hn (.inr e2)), if_pos hh.1]
      unfold comeH
      rw [← hvd, ← hjd, hs1, hS, if_pos (.inl e5)]
      refine .inl ?_
      unfold wH at hw0 ⊢
      rw [sv_thr _ _ hl1]
      show wgH T.D 10 _ _ < _
      rw [wg10, hw0]; omega
    | spin e => have : sgv (m.W v) j = 0 := e.2.2.1; omega
    | sent e => have : sgv (m.W v) j < 0 := e.2.2.1; omega
    | walk e => have : (m.sp v j).pc = 1 ∨ (m.sp v j).pc = 2 := e.1; omega
    | come e => have : (m.sp v j).pc = 3 := e.1; omega
    | link e => have : (m.sp v j).pc = 4 := e.1; omega
    | hold e => have : (m.sp v j).pc = 6 := e.1; omega
    | out e => have : 11 ≤ (m.sp v j).pc := e.1; omega
    | free e => have : (m.sp v j).pc = 12 := e.1; omega
    | give s r e => have : (m.sp v j).pc = 14 ∨ (m.sp v j).pc = 16 := e.1; omega
    | look e => have : (m.sp v j).pc = 15 := e.1; omega
  | pass c' hh ha hb =>
    obtain rfl : c = c' := by have := hh.2.1; omega
    rw [← hvd, ← hjd] at ha
    rw [hh.1] at hw0 hw1
    cases R.case_ with
    | look e =>
      obtain ⟨e1, e2, _, _, _, _⟩ := e
      have e1' : (m.sp v j).pc = 15 := e1
      rw [e1', wg11a] at hw0
      rcases e2 with e2 | e2
      · rw [if_neg (fun hn => hn (.inr e2)), if_neg (by omega), if_neg (by omega)]
        have hbw := begH_w (bud := bud) hi hT T.D (rstH m v j) (c + 1) hl1 hP1 (fun k hk => by
          by_cases e : k = c
          · subst e; rw [← hvd, ← hjd, hs1]; exact e2
          · rw [hsame k hk e]; exact hb k hk e) hh.2.2 (by omega)
        have := hh.2.2
        exact .inl (by omega)
      · rw [if_pos (by omega)]
        rw [wg11b _ _ (by omega)] at hw1
        have := hh.2.2
        exact .inl (by omega)
    | give s r e =>
      obtain ⟨e1, e2, _⟩ := e
      have e1' : (m.sp v j).pc = 14 ∨ (m.sp v j).pc = 16 := e1
      rw [wg11b _ _ (by omega)] at hw0
      rw [if_neg (fun hn => hn (.inl e2)), if_neg (by omega), if_pos e2]
      have hdw := downH_w (m := rstH m v j) hi hT hl1 hP1 hcD (fun k hk => by rw [hsame k (by omega) (by omega)]; exact hb k (by omega) (by omega))
      have := hh.2.2
      exact .inl (by omega)
    | walk e => have : (m.sp v j).pc = 1 ∨ (m.sp v j).pc = 2 := e.1; omega
    | come e => have : (m.sp v j).pc = 3 := e.1; omega
    | link e => have : (m.sp v j).pc = 4 := e.1; omega
    | spin e => have : (m.sp v j).pc = 5 := e.1; omega
    | told e => have : (m.sp v j).pc = 5 := e.1; omega
    | sent e => have : (m.sp v j).pc = 5 := e.1; omega
    | hold e => have : (m.sp v j).pc = 6 := e.1; omega
    | out e => have : 11 ≤ (m.sp v j).pc := e.1; have : (m.sp v j).pc ≤ 13 := e.2.1; omega
    | free e => have : (m.sp v j).pc = 12 := e.1; omega
  | leave c' hh ha hcf hb =>
    obtain rfl : c = c' := by have := hh.2.1; omega
    rw [← hvd, ← hjd] at ha
    rw [hh.1] at hw0 hw1
    rw [wg12] at hw0 hw1
    have hdw := fun hz : x.2.pc = 0 => downH_w (m := rstH m v j) hi hT hl1 hP1 hcD (fun k hk => by rw [hsame k (by omega) (by omega)]; exact hb k hk)
    cases R.case_ with
    | out e =>
      obtain ⟨e1, e2, _, _, _, e6⟩ := e
      have e2' : (m.sp v j).pc ≤ 13 := e2
      rcases e6 with ⟨h1, h2⟩ | ⟨h1, h2, h3⟩
      · have h1' : (m.sp v j).pc < x.2.pc := h1
        rw [if_pos (by omega)]; exact .inl (by omega)
      · have h1' : (m.sp v j).pc = 13 := h1
        rw [if_pos (by omega)]
        exact .inr ⟨by omega, .inr fun k => (hmv k).2 h1' h3⟩
    | free e =>
      obtain ⟨e1, e2, _⟩ := e
      rw [if_neg (fun hn => hn (.inl e2)), if_neg (by omega), if_pos e2]
      have := hdw e2
      exact .inl (by omega)
    | give s r e =>
      obtain ⟨e1, e2, _⟩ := e
      rw [if_neg (fun hn => hn (.inl e2)), if_neg (by omega), if_pos e2]
      have := hdw e2
      exact .inl (by omega)
    | walk e => have : (m.sp v j).pc = 1 ∨ (m.sp v j).pc = 2 := e.1; omega
    | come e => have : (m.sp v j).pc = 3 := e.1; omega
    | link e => have : (m.sp v j).pc = 4 := e.1; omega
    | spin e => have : (m.sp v j).pc = 5 := e.1; omega
    | told e => have : (m.sp v j).pc = 5 := e.1; omega
    | sent e => have : (m.sp v j).pc = 5 := e.1; omega
    | hold e => have : (m.sp v j).pc = 6 := e.1; omega
    | look e => have : (m.sp v j).pc = 15 := e.1; omega
end
end Go.Proofs.YtkdaiomjbkpedaaGreat
end
section
/- Layer 27 (hmcs): rounds in which all step, and leave at once, come to an end. No program in sight. -/
namespace Go.Proofs.YtkdaiomjbkpedaaGreat
open Go.RowKit

def wtot (f : Nat → Nat) : Nat → Nat
  | 0 => 0
  | n + 1 => wtot f n + f n
theorem wtot_le {f g : Nat → Nat} : ∀ n, (∀ t, t < n → g t ≤ f t) → wtot g n ≤ wtot f n
  | 0, _ => Nat.le_refl _
  | n + 1, h => Nat.add_le_add (wtot_le n fun t ht => h t (by omega)) (h n (by omega))
theorem wtot_lt {f g : Nat → Nat} {i : Nat} : ∀ n, (∀ t, t < n → g t ≤ f t) → i < n → g i < f i → wtot g n < wtot f n
  | 0, _, hi, _ => by omega
  | n + 1, h, hi, hlt => by
    have h1 := wtot_le n fun t ht => h t (Nat.lt_succ_of_lt ht)
    have h2 := h n (by omega)
    show wtot g n + g n < wtot f n + f n
    by_cases e : i = n
    · subst e; omega
    · have := wtot_lt n (fun t ht => h t (Nat.lt_succ_of_lt ht)) (by omega) hlt
      omega
theorem wtot_mem {f : Nat → Nat} {i : Nat} : ∀ n, i < n → f i ≤ wtot f n
  | 0, hi => by omega
  | n + 1, hi => by
    show f i ≤ wtot f n + f n
    by_cases e : i = n
    · subst e; omega
    · have := wtot_mem (f := f) n (show i < n by omega); omega
theorem wtot_top {f : Nat → Nat} (b : Nat) : ∀ n, (∀ t, t < n → f t ≤ b) → wtot f n ≤ n * b
  | 0, _ => by simp [wtot]
  | n + 1, h => by
    have := wtot_top b n fun t ht => h t (by omega)
    have := h n (by omega)
    show wtot f n + f n ≤ (n + 1) * b
    rw [Nat.add_mul, Nat.one_mul]; omega
section
variable {T : HTr} {bud : Int} {m m' : Hm} {Q Q' : Nat → List Nat} {O O' : Nat → Nat → Option Nat} {i : Nat}
def wT (T : HTr) (m : Hm) : Nat := wtot (wH T m) T.n
/-- a step of i, and its leave: no more is left to do, less if i can move; whoever else can move still can -/
theorem HInv.turn (h : HInv T bud m Q O) (hT : T.Ok) (hb0 : 0 ≤ bud) (hi : i < T.n) : ∃ Q' O', HInv T bud (leaveHm T bud (stepHm T bud m i) i) Q' O' ∧ wT T (leaveHm T bud (stepHm T bud m i) i) ≤ wT T m ∧ (MovH T m i → wT T (leaveHm T bud (stepHm T bud m i) i) < wT T m) ∧ ∀ u, u < T.n → u ≠ i → MovH T m u → MovH T (leaveHm T bud (stepHm T bud m i) i) u := by
  obtain ⟨Q1, O1, h1⟩ := h.step hT hb0 hi
  have h2 := h1.leave hT hi
  have f1 := h.stepFr hT hi
  have f2 := h1.leaveFr hT hi
  obtain ⟨a1, a2, a3⟩ := h.stepW hT hi
  obtain ⟨b1, b2⟩ := h1.leaveW hT hi
  have heq : ∀ t, t < T.n → t ≠ i → wH T (leaveHm T bud (stepHm T bud m i) i) t = wH T m t := fun t ht hne => by rw [f2.wt h1 ht hne, f1.wt h ht hne]
  have hle : ∀ t, t < T.n → wH T (leaveHm T bud (stepHm T bud m i) i) t ≤ wH T m t := fun t ht => by
    by_cases e : t = i
    · subst e; omega
    · exact Nat.le_of_eq (heq t ht e)
  refine ⟨Q1, O1, h2, wtot_le _ hle, fun k => wtot_lt _ hle hi ?_, fun u hu hne k => f2.mov h1 hu hne (f1.mov h hu hne k)⟩
  by_cases e : (sv m.S i).pc = 10
  · have := a3 e
    rw [this] at b2 ⊢
    exact b2 e
  · have := a2 e k
    omega
def RdH (T : HTr) (m : Hm) (M i : Nat) : Prop := wT T m = 0 ∨ wT T m < M ∨ (wT T m ≤ M ∧ ∃ u, i ≤ u ∧ u < T.n ∧ MovH T m u)
theorem wH_zero (h : HInv T bud m Q O) (ht : i < T.n) (h0 : wH T m i = 0) (hD : T.Ok) : (sv m.S i).pc = 0 := by
  have hd := hD.d1
  obtain ⟨K, kk, o⟩ := h.t i ht
  cases kk with
  | rest hh => exact hh
  | come c hh ha _ _ => have := wH_at (T := T) (m := m) (i := i) rfl hh.2.1; rw [hh.1, wg1] at this; omega
  | granted c hh ha _ => have := wH_at (T := T) (m := m) (i := i) rfl hh.2.1; rw [hh.1, wg1] at this; omega
  | hold hh _ => unfold wH at h0; rw [hh, wg10] at h0; omega
  | pass c hh ha _ =>
    have := wH_at (T := T) (m := m) (i := i) rfl hh.2.1
    rw [hh.1] at this
    rcases ha with e | e
    · rw [e, wg11a] at this; omega
    · rw [e, wg11b _ _ (by decide)] at this; omega
  | leave c hh ha _ _ => have := wH_at (T := T) (m := m) (i := i) rfl hh.2.1; rw [hh.1, wg12] at this; omega
theorem wH_rest (h0 : (sv m.S i).pc = 0) : wH T m i = 0 := by unfold wH; rw [h0, wg0]
theorem HInv.restAll (h : HInv T bud m Q O) (hT : T.Ok) (h0 : wT T m = 0) (hi : i < T.n) : (sv m.S i).pc = 0 := by
  refine wH_zero h hi ?_ hT
  have := wtot_mem (f := wH T m) T.n hi
  unfold wT at h0
  omega
theorem HInv.rd0 (h : HInv T bud m Q O) (hT : T.Ok) : RdH T m (wT T m) 0 := by
  rcases h.someMov hT with e | ⟨u, hu, k⟩
  · refine .inl ?_
    have := wtot_top (f := wH T m) 0 T.n fun t ht => Nat.le_of_eq (wH_rest (e t ht))
    unfold wT
    omega
  · exact .inr (.inr ⟨Nat.le_refl _, u, Nat.zero_le _, hu, k⟩)
theorem HInv.rdNext (h : HInv T bud m Q O) (hT : T.Ok) (hb0 : 0 ≤ bud) (hi : i < T.n) {M : Nat} (hr : RdH T m M i) : ∃ Q' O', HInv T bud (leaveHm T bud (stepHm T bud m i) i) Q' O' ∧ RdH T (leaveHm T bud (stepHm T bud m i) i) M (i + 1) := by
  obtain ⟨Q', O', h', w1, w2, w3⟩ := h.turn hT hb0 hi
  refine ⟨Q', O', h', ?_⟩
  rcases hr with e | e | ⟨e, u, hu, hun, k⟩
  · exact .inl (by omega)
  · exact .inr (.inl (by omega))
  · by_cases eu : u = i
    · subst eu
      have := w2 k
      exact .inr (.inl (by omega))
    · exact .inr (.inr ⟨by omega, u, by omega, hun, w3 u hun eu k⟩)
theorem RdH.last {M : Nat} (h : RdH T m M T.n) : wT T m = 0 ∨ wT T m < M := by
  rcases h with e | e | ⟨_, u, hu, hun, _⟩
  · exact .inl e
  · exact .inr e
  · omega
theorem HInv.wtop (h : HInv T bud m Q O) (hT : T.Ok) (h5 : T.D ≤ 5) : wT T m ≤ T.n * 60 := by
  refine wtot_top 60 _ fun t ht => ?_
  obtain ⟨K, kk, o⟩ := h.t t ht
  have hd := hT.d1
  cases kk with
  | rest hh => rw [wH_rest hh]; omega
  | come c hh ha _ _ => rw [wH_at (T := T) (m := m) (i := t) rfl hh.2.1, hh.1, wg1]; omega
  | granted c hh ha _ => rw [wH_at (T := T) (m := m) (i := t) rfl hh.2.1, hh.1, wg1, ha.1]; omega
  | hold hh _ => unfold wH; rw [hh, wg10]; omega
  | pass c hh ha _ =>
    rw [wH_at (T := T) (m := m) (i := t) rfl hh.2.1, hh.1]
    rcases ha with e | e
    · rw [e, wg11a]; omega
    · rw [e, wg11b _ _ (by decide)]; omega
  | leave c hh ha _ _ => rw [wH_at (T := T) (m := m) (i := t) rfl hh.2.1, hh.1, wg12]; omega
/-- when all rest, no slot of any place holds -/
theorem HInv.noHeld (h : HInv T bud m Q O) (h0 : ∀ t, t < T.n → (sv m.S t).pc = 0) {v j : Nat} (hv : v < T.np) (hj : j < T.nv v) : (m.sp v j).pc = 0 := by
  cases hO : O v j with
  | none => exact (h.x 0).fr v j hv hj hO
  | some t =>
    exfalso
    obtain ⟨ht, k, hk, rfl, rfl⟩ := (h.x 0).ow v j t hO
    obtain ⟨K, kk, o⟩ := h.t t ht
    have := (o k hk).1 hO
    have hz := h0 t ht
    cases kk <;> omega
end
end Go.Proofs.YtkdaiomjbkpedaaGreat
end
section
/- Layer 6: trees of places as lists of parents; plain data, no program in sight. -/
namespace Go.Proofs.YtkdaiomjbkpedaaGreat
open Go.RowKit

def okP (P : List Int) (v : Nat) : Bool := decide ((v = 0 → P.getD v 0 = -1) ∧ (0 < v → 0 ≤ P.getD v 0 ∧ P.getD v 0 < v))
def treeB (P : List Int) : Bool := (List.range P.length).all (okP P)
def leafB (P : List Int) (v : Int) : Bool := decide (0 ≤ v ∧ v < P.length ∧ v ∉ P)
def leavesTo (P : List Int) (k : Nat) : List Int := ((List.range k).map Int.ofNat).filter (leafB P)
def leavesL (P : List Int) : List Int := leavesTo P P.length
def dep (P : List Int) : Nat → Int → Nat
  | 0, _ => 0
  | f + 1, v => if 0 ≤ v ∧ v < P.length then dep P f (P.getD v.toNat 0) + 1 else 0
def depL (P : List Int) (v : Int) : Nat := dep P P.length v
def evenB (P : List Int) : Bool := (leavesL P).all fun v => decide (depL P v = depL P ((leavesL P).headD 0) ∧ depL P v ≤ 5)
def thrB (P T : List Int) : Bool := T.all (leafB P)
def manyB (P T : List Int) : Bool := decide (P.length < 1 ∨ 32 < P.length ∨ T.length < 1 ∨ 32 < T.length)
def chkT (P T : List Int) : Int := if manyB P T then 8 else if treeB P = false then 9 else if evenB P = false then 9 else if thrB P T = false then 4 else 0

theorem getD_of {P : List Int} {k : Nat} {p : Int} (h : P[k]? = some p) : P.getD k 0 = p := by rw [List.getD_eq_getElem?_getD, h]; rfl
theorem range_all_succ (f : Nat → Bool) (k : Nat) : (List.range (k + 1)).all f = ((List.range k).all f && f k) := by rw [List.range_succ, List.all_append]; simp
theorem tree_at {P : List Int} (h : treeB P = true) {k : Nat} {p : Int} (hk : P[k]? = some p) : (k = 0 → p = -1) ∧ (0 < k → 0 ≤ p ∧ p < k) := by
  have hlt := (List.getElem?_eq_some_iff.1 hk).1
  unfold treeB at h
  rw [List.all_eq_true] at h
  have := h k (List.mem_range.2 hlt)
  simp only [okP, decide_eq_true_eq, getD_of hk] at this
  exact this
theorem tree_lt {P : List Int} (h : treeB P = true) {k : Nat} {p : Int} (hk : P[k]? = some p) : -1 ≤ p ∧ p < k := by
  have := tree_at h hk
  rcases Nat.eq_zero_or_pos k with h0 | h0
  · have := this.1 h0; omega
  · have := this.2 h0; omega
/-- enough fuel is enough -/
theorem dep_fuel {P : List Int} (h : treeB P = true) : ∀ (f : Nat) (v : Int), v < f → ∀ g : Nat, v < g → dep P f v = dep P g v
  | 0, v, hv, g, hg => by
    cases g with
    | zero => rfl
    | succ g => unfold dep; rw [if_neg (by omega)]
  | f + 1, v, hv, g, hg => by
    cases g with
    | zero => unfold dep; rw [if_neg (by omega)]
    | succ g =>
      unfold dep
      split
      · rename_i hb
        obtain ⟨p, hp⟩ := getElem?_lt (show v.toNat < P.length by omega)
        have := tree_lt h hp
        rw [getD_of hp, dep_fuel h f p (by omega) g (by omega)]
      · rfl
theorem depL_step {P : List Int} (h : treeB P = true) {k : Nat} {p : Int} (hk : P[k]? = some p) : depL P k = if 0 ≤ p then depL P p + 1 else 1 := by
  have hlt := (List.getElem?_eq_some_iff.1 hk).1
  have hp := tree_lt h hk
  unfold depL
  rw [dep_fuel h P.length k (by omega) (k + 1) (by omega)]
  show (if 0 ≤ (k : Int) ∧ (k : Int) < P.length then dep P k (P.getD (k : Int).toNat 0) + 1 else 0) = _
  rw [if_pos (by omega), Int.toNat_natCast, getD_of hk]
  split
  · rw [dep_fuel h k p (by omega) P.length (by omega)]
  · have : dep P k p = 0 := by
      cases k with
      | zero => rfl
      | succ k => unfold dep; rw [if_neg (by omega)]
    omega
theorem dep_le (P : List Int) : ∀ (f : Nat) (v : Int), dep P f v ≤ f
  | 0, _ => Nat.le_refl _
  | f + 1, v => by
    unfold dep
    split
    · have := dep_le P f (P.getD v.toNat 0); omega
    · omega
theorem depL_le (P : List Int) (v : Int) : depL P v ≤ P.length := dep_le P _ _

theorem leavesTo_succ (P : List Int) (k : Nat) : leavesTo P (k + 1) = if leafB P k then leavesTo P k ++ [(k : Int)] else leavesTo P k := by
  unfold leavesTo
  rw [List.range_succ, List.map_append, List.filter_append]
  show _ ++ List.filter (leafB P) [(k : Int)] = _
  by_cases h : leafB P k = true
  · simp [h]
  · simp [h]
theorem leavesTo_len (P : List Int) : ∀ k, (leavesTo P k).length ≤ k := fun k => by
  unfold leavesTo
  have := List.length_filter_le (leafB P) ((List.range k).map Int.ofNat)
  simpa using this
theorem mem_leaves {P : List Int} {v : Int} : v ∈ leavesL P ↔ leafB P v = true := by
  unfold leavesL leavesTo
  rw [List.mem_filter]
  constructor
  · exact fun h => h.2
  · intro h
    refine ⟨?_, h⟩
    simp only [leafB, decide_eq_true_eq] at h
    rw [List.mem_map]
    exact ⟨v.toNat, List.mem_range.2 (by omega), by show ((v.toNat : Nat) : Int) = v; omega⟩
theorem mem_take {P : List Int} {k : Nat} {p : Int} (hk : P[k]? = some p) (x : Int) : x ∈ P.take (k + 1) ↔ x ∈ P.take k ∨ x = p := by
  rw [take_succ_of hk]; simp
/-- a list over a range, one place written -/
theorem range_set {α : Type} (n i : Nat) (f g : Nat → α) (u : α) (hi : g i = u) (ho : ∀ j, j ≠ i → g j = f j) : ((List.range n).map f).set i u = (List.range n).map g := by
  refine List.ext_getElem? fun j => ?_
  rw [List.getElem?_set]
  by_cases hji : i = j
  · subst hji
    rw [if_pos rfl]
    by_cases hin : i < n
    · simp [hin, hi]
    · simp [hin]
  · rw [if_neg hji]
    by_cases hjn : j < n
    · simp [hjn, ho j (fun h => hji h.symm)]
    · simp [hjn]
theorem range_get {α : Type} (n i : Nat) (f : Nat → α) (h : i < n) : ((List.range n).map f)[i]? = some (f i) := by simp [h]
end Go.Proofs.YtkdaiomjbkpedaaGreat
end
section
/- slices.Index, Contains, IndexFunc (at two closures) and ContainsFunc over ints (written by wip/gen_top2.py). -/
namespace Go.Proofs.YtkdaiomjbkpedaaGreat
open Go.RowKit

def idxI (l : List Int) (x : Int) : Int := if x ∈ l then ((l.idxOf x : Nat) : Int) else -1
theorem idx_hit {l : List Int} {k : Nat} {x : Int} (h : l[k]? = some x) (hn : x ∉ l.take k) : idxI l x = k := by
  unfold idxI
  have hm : x ∈ l := List.mem_of_getElem? h
  obtain ⟨hk, he⟩ := List.getElem?_eq_some_iff.1 h
  rw [if_pos hm]
  have hl : l = l.take k ++ (x :: l.drop (k + 1)) := by
    conv => lhs; rw [← List.take_append_drop k l, List.drop_eq_getElem_cons hk, he]
  have : l.idxOf x = k := by
    rw [hl, List.idxOf_append]
    rw [if_neg hn, List.idxOf_cons_self]
    simp; omega
  rw [this]
theorem idx_none {l : List Int} {x : Int} (hn : x ∉ l) : idxI l x = -1 := by unfold idxI; rw [if_neg hn]
theorem idx_nonneg (l : List Int) (x : Int) : (0 ≤ idxI l x ↔ x ∈ l) ∧ idxI l x < l.length ∧ -1 ≤ idxI l x := by
  unfold idxI
  split
  · rename_i h
    have := List.idxOf_lt_length_of_mem h
    exact ⟨by simp [h], by omega, by omega⟩
  · rename_i h
    exact ⟨by simp [h], by omega, by omega⟩
def fidx (p : Int → Bool) (l : List Int) : Int := match l.findIdx? p with | some i => (i : Int) | none => -1
theorem fidx_hit {p : Int → Bool} {l : List Int} {k : Nat} {x : Int} (h : l[k]? = some x) (hp : p x = true) (hn : ∀ y ∈ l.take k, p y = false) : fidx p l = k := by
  obtain ⟨hk, he⟩ := List.getElem?_eq_some_iff.1 h
  have : l.findIdx? p = some k := by
    rw [List.findIdx?_eq_some_iff_getElem]
    refine ⟨hk, by rw [he]; exact hp, fun j hj => ?_⟩
    have := hn l[j] (List.mem_take_iff_getElem.2 ⟨j, by omega, rfl⟩)
    simp [this]
  unfold fidx
  rw [this]
theorem fidx_none {p : Int → Bool} {l : List Int} (hn : ∀ y ∈ l, p y = false) : fidx p l = -1 := by
  have : l.findIdx? p = none := by rw [List.findIdx?_eq_none_iff]; exact hn
  unfold fidx
  rw [this]
theorem fidx_nonneg (p : Int → Bool) (l : List Int) : (decide (0 ≤ fidx p l) = l.any p) ∧ fidx p l < l.length ∧ -1 ≤ fidx p l := by
  unfold fidx
  cases h : l.findIdx? p with
  | none =>
    rw [List.findIdx?_eq_none_iff] at h
    refine ⟨?_, by show (-1 : Int) < _; omega, by show (-1 : Int) ≤ -1; omega⟩
    symm
    show _ = decide ((0 : Int) ≤ -1)
    rw [show decide ((0 : Int) ≤ -1) = false from rfl, List.any_eq_false]
    intro x hx hp
    rw [h x hx] at hp; cases hp
  | some i =>
    rw [List.findIdx?_eq_some_iff_getElem] at h
    obtain ⟨hi, hp, _⟩ := h
    refine ⟨?_, by show (i : Int) < _; omega, by show (-1 : Int) ≤ (i : Int); omega⟩
    rw [decide_eq_true (show (0 : Int) ≤ (i : Int) by omega)]
    symm
    rw [List.any_eq_true]
    exact ⟨l[i], List.getElem_mem hi, hp⟩

set_option maxHeartbeats 1000000 in
theorem index_any (w : World) (v : Value) (l : List Int) (x : Int) (h : RdL w v 1 encI l) :
    Calls Tryz.prog 108 #[v, .int .i64 x] w fun e w' => e = .returned (.int .i64 (idxI l x)) ∧ w = w' := by
  obtain ⟨A, cap, rfl, l1, l2, hr⟩ := h
  have HR := Lib.hid hr
  clear hr
  go_enter Tryz.func108, Tryz.ntmps108
  go_wp2
  go_loop [8] (fun i => ∃ k : Nat, i = .int .i64 k ∧ k ≤ l.length ∧ x ∉ l.take k) (fun i => l.length - (intOf i).toNat)
  case atStart => exact ⟨0, rfl, by omega, by simp⟩
  case round =>
    obtain ⟨k, rfl, hk, hn⟩ := hrel
    by_cases hlt : k < l.length
    · obtain ⟨bl, off, rfl, hbl, hc⟩ := HR.out (by omega)
      obtain ⟨y, hy⟩ := getElem?_lt hlt
      have c0 := hc k y hy 0 _ rfl
      simp only [Nat.add_zero, Nat.mul_one] at c0
      have HY := Lib.hid (And.intro hy hn)
      clear hc hy hn
      cases hxy : (x == y)
      · have hne : Hid (x ∉ l.take (k + 1)) := Lib.hid (by
          rw [mem_take HY.out.1]
          rintro (h | h)
          · exact HY.out.2 h
          · rw [h] at hxy; simp at hxy)
        go_wp2
        go_round
        case rel => exact ⟨k + 1, by go_num, by omega, hne.out⟩
        case measure => simp [intOf]; omega
      · have hid : Hid (idxI l x = k) := Lib.hid (idx_hit (by rw [beq_iff_eq.1 hxy]; exact HY.out.1) HY.out.2)
        go_wp2
        go_ret
        exact ⟨ret_int hid.out.symm, rfl⟩
    · obtain rfl : k = l.length := by omega
      rw [List.take_length] at hn
      have hid : Hid (idxI l x = -1) := Lib.hid (idx_none hn)
      clear hn
      go_wp2
      go_ret
      exact ⟨ret_int hid.out.symm, rfl⟩
theorem contains_any (w : World) (v : Value) (l : List Int) (x : Int) (h : RdL w v 1 encI l) :
    Calls Tryz.prog 142 #[v, .int .i64 x] w fun e w' => e = .returned (.bool (decide (x ∈ l))) ∧ w = w' := by
  have HI := Lib.hid (index_any w v l x h)
  have hb : decide (x ∈ l) = decide (0 ≤ idxI l x) := decide_eq_decide.2 (idx_nonneg l x).1.symm
  have HB := Lib.hid hb
  clear h hb
  go_enter Tryz.func142, Tryz.ntmps142
  go_wp2_with (go_at_call 108; refine HI.out.mono ?_; rintro e w' ⟨rfl, rfl⟩)
  go_ret
  exact ⟨ret_bool HB.out.symm, rfl⟩

theorem chkC_any (w : World) (b : Nat) (v : Value) (l : List Int) (x : Int) (hc : w.cell? ⟨b, 0, none⟩ = some v) (h : RdL w v 1 encI l) :
    Calls Tryz.prog 141 #[.int .i64 x, .pointer (some ⟨b, 0, none⟩)] w fun e w' => e = .returned (.bool (!decide (x ∈ l))) ∧ w = w' := by
  have HI := Lib.hid (contains_any w v l x h)
  clear h
  go_enter Tryz.func141, Tryz.ntmps141
  go_wp2_with (go_at_call 142; refine HI.out.mono ?_; rintro e w' ⟨rfl, rfl⟩)
  go_ret
  exact ⟨ret_bool (by simp), rfl⟩
set_option maxHeartbeats 1000000 in
theorem chkF_any (w : World) (b : Nat) (ve v : Value) (en l : List Int) (hcell : w.cell? ⟨b, 0, none⟩ = some ve) (hen : RdL w ve 1 encI en) (h : RdL w v 1 encI l) :
    Calls Tryz.prog 156 #[v, .func (.func 141) #[] #[.pointer (some ⟨b, 0, none⟩)]] w fun e w' => e = .returned (.int .i64 (fidx (fun x => !decide (x ∈ en)) l)) ∧ w = w' := by
  obtain ⟨A, cap, rfl, l1, l2, hr⟩ := h
  have HR := Lib.hid hr
  have HE := Lib.hid (And.intro hcell hen)
  clear hr hcell hen
  go_enter Tryz.func156, Tryz.ntmps156
  go_wp2
  go_loop [8] (fun i => ∃ k : Nat, i = .int .i64 k ∧ k ≤ l.length ∧ ∀ x ∈ l.take k, (!decide (x ∈ en)) = false) (fun i => l.length - (intOf i).toNat)
  case atStart => exact ⟨0, rfl, by omega, by simp⟩
  case round =>
    obtain ⟨k, rfl, hk, hn⟩ := hrel
    by_cases hlt : k < l.length
    · obtain ⟨bl, off, rfl, hbl, hc⟩ := HR.out (by omega)
      obtain ⟨y, hy⟩ := getElem?_lt hlt
      have c0 := hc k y hy 0 _ rfl
      simp only [Nat.add_zero, Nat.mul_one] at c0
      have HY := Lib.hid (And.intro hy hn)
      clear hc hy hn
      have HC := Lib.hid (chkC_any w b ve en y HE.out.1 HE.out.2)
      cases hp : (!decide (y ∈ en))
      · have hne : Hid (∀ x ∈ l.take (k + 1), (!decide (x ∈ en)) = false) := Lib.hid (by
          intro x hx
          rcases (mem_take HY.out.1 x).1 hx with h | h
          · exact HY.out.2 x h
          · rw [h]; exact hp)
        rw [hp] at HC
        clear hp
        go_wp2_with (go_at_call 141; refine HC.out.mono ?_; rintro e w' ⟨rfl, rfl⟩)
        go_round
        case rel => exact ⟨k + 1, by go_num, by omega, hne.out⟩
        case measure => simp [intOf]; omega
      · have hid : Hid (fidx (fun x => !decide (x ∈ en)) l = k) := Lib.hid (fidx_hit HY.out.1 hp HY.out.2)
        rw [hp] at HC
        clear hp
        go_wp2_with (go_at_call 141; refine HC.out.mono ?_; rintro e w' ⟨rfl, rfl⟩)
        go_ret
        exact ⟨ret_int hid.out.symm, rfl⟩
    · obtain rfl : k = l.length := by omega
      rw [List.take_length] at hn
      have hid : Hid (fidx (fun x => !decide (x ∈ en)) l = -1) := Lib.hid (fidx_none hn)
      clear hn
      go_wp2
      go_ret
      exact ⟨ret_int hid.out.symm, rfl⟩

theorem containsFunc_any (w : World) (b : Nat) (ve v : Value) (en l : List Int) (hcell : w.cell? ⟨b, 0, none⟩ = some ve) (hen : RdL w ve 1 encI en) (h : RdL w v 1 encI l) :
    Calls Tryz.prog 140 #[v, .func (.func 141) #[] #[.pointer (some ⟨b, 0, none⟩)]] w fun e w' => e = .returned (.bool (l.any fun x => !decide (x ∈ en))) ∧ w = w' := by
  have HI := Lib.hid (chkF_any w b ve v en l hcell hen h)
  have HB := Lib.hid (fidx_nonneg (fun x => !decide (x ∈ en)) l).1
  clear h hcell hen
  go_enter Tryz.func140, Tryz.ntmps140
  go_wp2_with (go_at_call 156; refine HI.out.mono ?_; rintro e w' ⟨rfl, rfl⟩)
  go_ret
  exact ⟨ret_bool HB.out, rfl⟩
end Go.Proofs.YtkdaiomjbkpedaaGreat
end
