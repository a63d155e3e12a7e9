/- Joined: Hm6, Hm7, Hm8, Hm9. -/
import Derived.Test.YtkdaiomjbkpedaaGreatMgHmcsTenure13
section
/- Layer 27 (hmcs): a step keeps what always holds. No program in sight. -/
namespace Go.Proofs.YtkdaiomjbkpedaaGreat
open Go.RowKit

theorem RInv.wait0 {n : Nat} {W : List Int} {S : List Sp} {Q : List Nat} {i : Nat} (k : RInv n W S Q) (hi : i < n) (h5 : (sv S i).pc = 5) (hn : Q[0]? ≠ some i) : sgv W i = 0 := by
  by_cases hQ : i ∈ Q
  · rcases k.inq hQ with ⟨hd, _⟩ | ⟨_, _, _, _, h0, _⟩
    · exact absurd hd hn
    · exact h0
  · have := (k.out i hi hQ).1.2; omega
section
variable {T : HTr} {bud : Int} {m m' : Hm} {Q Q' : Nat → List Nat} {O O' : Nat → Nat → Option Nat} {i : Nat}
theorem TOwn.act {s : Sp} {K : Nat} {sp : Nat → Nat → Sp} {sg : Nat → Nat → Int} (k : TSt T sp sg i s K) (h0 : ¬ (s.pc = 0 ∨ s.pc = 10)) : ∃ c : Nat, s.c = c ∧ c < T.D ∧ c < K ∧ (sp (T.pl i c) (T.sl i c)).pc ≠ 0 ∧ (sp (T.pl i c) (T.sl i c)).pc ≠ 10 ∧ ((sp (T.pl i c) (T.sl i c)).pc = 14 → (sp (T.pl i c) (T.sl i c)).c ≠ 0) := by
  cases k with
  | rest h => exact absurd (.inl h) h0
  | come c h ha hg hb => exact ⟨c, h.2.1, h.2.2, Nat.lt_succ_self _, by omega, by omega, fun e => by omega⟩
  | granted c h ha hb => exact ⟨c, h.2.1, h.2.2, h.2.2, by omega, by omega, fun e => by omega⟩
  | hold h hb => exact absurd (.inr h) h0
  | pass c h ha hb => exact ⟨c, h.2.1, by omega, by omega, by omega, by omega, fun e => by omega⟩
  | leave c h ha hc hb =>
    refine ⟨c, h.2.1, h.2.2, Nat.lt_succ_self _, by omega, by omega, fun _ => ?_⟩
    rw [hc]; split <;> decide
theorem up_same (hT : T.Ok) {i u c : Nat} (hi : i < T.n) (hu : u < T.n) (h : T.pl i c = T.pl u c) : ∀ d, c + d + 1 < T.D → T.pl i (c + d + 1) = T.pl u (c + d + 1) ∧ T.sl i (c + d + 1) = T.sl u (c + d + 1)
  | 0, hd => hT.up i u c hi hu hd h
  | d + 1, hd => hT.up i u (c + d + 1) hi hu hd (up_same hT hi hu h d (by omega)).1
theorem HInv.step (h : HInv T bud m Q O) (hT : T.Ok) (hb0 : 0 ≤ bud) (hi : i < T.n) : ∃ Q' O', HInv T bud (stepHm T bud m i) Q' O' := by
  unfold stepHm
  by_cases c0 : (sv m.S i).pc = 0 ∨ (sv m.S i).pc = 10
  · rw [if_pos c0]; exact ⟨Q, O, h⟩
  rw [if_neg c0]
  have hx := h.x i
  obtain ⟨K, kk, o⟩ := h.t i hi
  obtain ⟨c, hc, hcD, hcK, a0, a10, a14⟩ := TOwn.act kk c0
  rw [hc]
  simp only [Int.toNat_natCast]
  have hv := hT.plt i c hi hcD
  have hj := hT.slt i c hi hcD
  have ho : O (T.pl i c) (T.sl i c) = some i := (o c hcD).2 hcK
  have hlev : ∀ k, k < T.D → k ≠ c → T.pl i k ≠ T.pl i c := fun k hk hne e => by
    have e1 := hT.lv i k hi hk
    have e2 := hT.lv i c hi hcD
    rw [e] at e1; omega
  obtain ⟨v, hvd⟩ : ∃ v, v = T.pl i c := ⟨_, rfl⟩
  obtain ⟨j, hjd⟩ : ∃ j, j = T.sl i c := ⟨_, rfl⟩
  have hva := hx.va _ _ hv hj
  rw [← hvd] at hv hj ho hva a0 a10 a14 hlev ⊢
  rw [← hjd] at hj ho hva a0 a10 a14 ⊢
  rw [if_neg (fun e => e.elim a0 a10)]
  have hcc : (sv (m.P v) j).pc = 14 ∨ (sv (m.P v) j).pc = 16 → (sv (m.P v) j).c ≠ 0 := fun e => by
    rcases e with e | e
    · exact a14 e
    · have e1 := hva.1 (.inr (.inr e))
      have e2 := hva.2 (.inr e)
      show (m.sp v j).c ≠ 0
      omega
  obtain ⟨Qn, R⟩ := rungStep (ar := arW (m.W v)) (hx.rg v hv) (hT.nv32 v hv) hj a0 a10 hcc
  obtain ⟨x, hxd⟩ : ∃ x, x = stepP (arW (m.W v)) 1 ((j : Int) + 1) (sv (m.P v) j) := ⟨_, rfl⟩
  have hm1 : rstH m v j = { m with W := updH m.W v x.1.W, P := updH m.P v ((m.P v).set j x.2) } := by rw [hxd]; rfl
  rw [← hxd] at R
  have hlen : j < (m.P v).length := by rw [hx.len hv]; exact hj
  have hsp : ∀ a b, (rstH m v j).sp a b = if a = v ∧ b = j then x.2 else m.sp a b := fun a b => by rw [hm1]; exact sp_slot m v j x.2 hlen a b
  have hs1 : (rstH m v j).sp v j = x.2 := by rw [hsp, if_pos ⟨rfl, rfl⟩]
  have hsg1 : (rstH m v j).sg v j = sgv x.1.W j := by rw [hm1]; show sgv (updH m.W v x.1.W v) j = _; rw [updH_eq]
  rw [hs1]
  have hS : (rstH m v j).S = m.S := rfl
  have hsame : ∀ k, k < T.D → k ≠ c → (rstH m v j).sp (T.pl i k) (T.sl i k) = m.sp (T.pl i k) (T.sl i k) := fun k hk hne => by rw [hsp, if_neg (fun e => hlev k hk hne e.1)]
  have ng : ¬ ((m.sp v j).pc = 14 ∨ (m.sp v j).pc = 16) → VaOk bud x.2 → (∀ k, k ≠ j → Qn[0]? = some k → (Q v)[0]? = some k) → (Qn[0]? = some j → x.2.pc ≠ 5) → HX T bud (rstH m v j) (updH Q v Qn) O i := fun e1 e2 e3 e4 => by
    rw [hm1]
    exact hx.rung hv hj ho x.1.W x.2 Qn R.inv (fun k hk => R.st k hk fun e => absurd e e1) e2 e3 e4
  have fin : ∀ {K : Nat}, HX T bud (rstH m v j) (updH Q v Qn) O i → TSt T (rstH m v j).sp (rstH m v j).sg i (sv m.S i) K → (∀ k, k < T.D → (O (T.pl i k) (T.sl i k) = some i ↔ k < K)) → ∃ Q' O', HInv T bud (rstH m v j) Q' O' := fun hx1 k1 o1 => ⟨_, _, .of hx1 ⟨_, k1, o1⟩⟩
  have va0 : ∀ p : Sp, ¬ (p.pc = 10 ∨ p.pc = 15 ∨ p.pc = 16) → VaOk bud p := fun p hp => ⟨fun e => absurd e hp, fun e => absurd (.inr e) hp⟩
  have same0 : ∀ k, k ≠ j → (Q v)[0]? = some k → (Q v)[0]? = some k := fun _ _ e => e
  cases kk with
  | rest hh => exact absurd (.inl hh) c0
  | hold hh _ => exact absurd (.inr hh) c0
  | come c' hh ha hg hb =>
    obtain rfl : c = c' := by have := hh.2.1; omega
    rw [← hvd, ← hjd] at ha hg
    have stay : 1 ≤ x.2.pc → x.2.pc ≤ 6 → (x.2.pc = 5 → ¬ 0 < sgv x.1.W j) → TSt T (rstH m v j).sp (rstH m v j).sg i (sv m.S i) (c + 1) := fun e1 e2 e3 => by
      refine .come c hh ?_ (fun e5 => ?_) fun k hk => ?_
      · rw [← hvd, ← hjd, hs1]; exact ⟨e1, e2⟩
      · rw [← hvd, ← hjd] at e5 ⊢
        rw [hs1] at e5
        rw [hsg1]; exact e3 e5
      · rw [hsame k (by omega) (by omega)]; exact hb k hk
    have w0 : x.2.pc = 5 → Qn[0]? ≠ some j → sgv x.1.W j = 0 := fun e5 hn => R.inv.wait0 hj (by rw [sv_self _ hlen]; exact e5) hn
    cases R.case_ with
    | walk e =>
      obtain ⟨e1, e2, rfl⟩ := e
      have e2' : x.2.pc = (m.sp v j).pc + 1 := e2
      have e1' : (m.sp v j).pc = 1 ∨ (m.sp v j).pc = 2 := e1
      rw [if_pos (by omega)]
      exact fin (ng (by omega) (va0 _ (by omega)) same0 (fun _ => by omega)) (stay (by omega) (by omega) (fun e => by omega)) o
    | come e =>
      obtain ⟨e1, rfl, e3⟩ := e
      have e1' : (m.sp v j).pc = 3 := e1
      rw [if_pos (by omega)]
      refine fin (ng (by omega) (va0 _ (by omega)) (fun k hk hq => ?_) (fun _ => by omega)) (stay (by omega) (by omega) (fun e => by omega)) o
      rcases e3 with ⟨_, e4⟩ | ⟨_, e4⟩
      · rw [e4] at hq; simp at hq; exact absurd hq.symm hk
      · cases hQ : Q v with
        | nil => exact absurd hQ e4
        | cons a l => rw [hQ] at hq; simpa using hq
    | link e =>
      obtain ⟨e1, e2, rfl, e4⟩ := e
      have e1' : (m.sp v j).pc = 4 := e1
      rw [if_pos (by omega)]
      exact fin (ng (by omega) (va0 _ (by omega)) same0 (fun e => absurd e e4)) (stay (by omega) (by omega) (fun e => by rw [w0 e e4]; decide)) o
    | spin e =>
      obtain ⟨e1, e2, _, rfl, e4⟩ := e
      have e1' : (m.sp v j).pc = 5 := e1
      rw [if_pos (by omega)]
      exact fin (ng (by omega) (va0 _ (by omega)) same0 (fun e => absurd e e4)) (stay (by omega) (by omega) (fun e => by rw [w0 e e4]; decide)) o
    | told e => exact absurd e.2.2.1 (hg e.1)
    | sent e =>
      obtain ⟨e1, e2, _, rfl, e4⟩ := e
      have e1' : (m.sp v j).pc = 5 := e1
      rw [if_pos (by omega)]
      exact fin (ng (by omega) (va0 _ (by omega)) same0 (fun _ => by omega)) (stay (by omega) (by omega) (fun e => by omega)) o
    | hold e =>
      obtain ⟨e1, e2, e3, e4, rfl, e6⟩ := e
      have e1' : (m.sp v j).pc = 6 := e1
      rw [if_neg (fun hn => hn (.inr e2)), if_pos hh.1]
      have hx1 := ng (by omega) ⟨fun _ => by omega, fun e => by omega⟩ same0 (fun _ => by omega)
      unfold comeH
      rw [← hvd, ← hjd, hs1, hS]
      have low : ∀ k, k ≤ c → ((rstH m v j).sp (T.pl i k) (T.sl i k)).pc = 10 := fun k hk => by
        by_cases e : k = c
        · subst e; rw [← hvd, ← hjd, hs1]; exact e2
        · rw [hsame k (by omega) e]; exact hb k (by omega)
      by_cases hD : c + 1 = T.D
      · rw [if_pos (.inr hD)]
        exact ⟨_, _, .of (hx1.thr _) (thr_own (K := T.D) (lenS hx1 hi) (.hold rfl fun k hk => low k (by omega)) fun k hk => by rw [o k hk]; omega)⟩
      · rw [if_neg (by omega)]
        have hcD1 : c + 1 < T.D := by omega
        have hn : O (T.pl i (c + 1)) (T.sl i (c + 1)) = none := hx1.upNone hT hi hcD1 (by rw [← hvd, ← hjd, updH_eq]; exact e6) (by rw [← hvd, ← hjd]; exact ho) (fun e => by have := (o (c + 1) hcD1).1 e; omega)
        have hv1 := hT.plt i (c + 1) hi hcD1
        have hj1 := hT.slt i (c + 1) hi hcD1
        have h0 := hx1.fr _ _ hv1 hj1 hn
        have e : askH (rstH m v j) (T.pl i (c + 1)) (T.sl i (c + 1)) = (rstH m v j).slot (T.pl i (c + 1)) (T.sl i (c + 1)) { (rstH m v j).sp (T.pl i (c + 1)) (T.sl i (c + 1)) with pc := 1 } := by unfold askH; rw [if_pos h0]
        rw [e]
        have h2 := hx1.ask hi hcD1 hT hn { (rstH m v j).sp (T.pl i (c + 1)) (T.sl i (c + 1)) with pc := 1 } rfl
        have hsp2 := sp_slot (rstH m v j) (T.pl i (c + 1)) (T.sl i (c + 1)) { (rstH m v j).sp (T.pl i (c + 1)) (T.sl i (c + 1)) with pc := 1 } (by rw [hx1.len hv1]; exact hj1)
        have hl2 : ∀ k, k < T.D → k ≠ c + 1 → ¬ (T.pl i k = T.pl i (c + 1) ∧ T.sl i k = T.sl i (c + 1)) := fun k hk hne e => by
          have e1 := hT.lv i k hi hk
          have e2 := hT.lv i (c + 1) hi hcD1
          rw [e.1] at e1; omega
        refine ⟨_, _, .of (h2.thr _) (thr_own (K := c + 1 + 1) (lenS h2 hi) (.come (c + 1) ⟨hh.1, by show (c : Int) + 1 = ((c + 1 : Nat) : Int); omega, hcD1⟩ ?_ (fun e5 => ?_) fun k hk => ?_) fun k hk => ?_)⟩
        · rw [hsp2, if_pos ⟨rfl, rfl⟩]; exact ⟨by show (1 : Int) ≤ 1; decide, by show (1 : Int) ≤ 6; decide⟩
        · rw [hsp2, if_pos ⟨rfl, rfl⟩] at e5; exact absurd e5 (by show ¬ (1 : Int) = 5; decide)
        · rw [hsp2, if_neg (hl2 k (by omega) (by omega))]; exact low k (by omega)
        · by_cases e : k = c + 1
          · subst e; rw [setO_eq]; exact ⟨fun _ => by omega, fun _ => rfl⟩
          · rw [setO_ne (hl2 k hk e), o k hk]; omega
    | out e => have : 11 ≤ (m.sp v j).pc := e.1; omega
    | free e => have : (m.sp v j).pc = 12 := e.1; omega
    | give s r e => have : (m.sp v j).pc = 14 ∨ (m.sp v j).pc = 16 := e.1; omega
    | look e => have : (m.sp v j).pc = 15 := e.1; omega
  | granted c' hh ha hb =>
    obtain rfl : c = c' := by have := hh.2.1; omega
    rw [← hvd, ← hjd] at ha
    have ha2 : 0 < sgv (m.W v) j := ha.2
    cases R.case_ with
    | told e =>
      obtain ⟨e1, e2, e3, e4, e5, rfl, e6⟩ := e
      rw [if_neg (fun hn => hn (.inr e2)), if_pos hh.1]
      have hsa := hx.sa v j hv e6 ha.1
      have hsa' : sgv (m.W v) j = -1 ∨ (1 ≤ sgv (m.W v) j ∧ sgv (m.W v) j ≤ bud + 1) := hsa
      have e4' : x.2.a = sgv (m.W v) j := e4
      have hx1 := ng (by omega) ⟨fun _ => by omega, fun e => by omega⟩ same0 (fun _ => by omega)
      unfold comeH
      rw [← hvd, ← hjd, hs1, hS, if_pos (.inl e5)]
      refine ⟨_, _, .of (hx1.thr _) (thr_own (K := T.D) (lenS hx1 hi) (.hold rfl fun k hk => ?_) o)⟩
      by_cases e : k = c
      · subst e; rw [← hvd, ← hjd, hs1]; exact e2
      · rw [hsame k hk e]; exact hb k hk e
    | spin e => have : sgv (m.W v) j = 0 := e.2.2.1; omega
    | sent e => have : sgv (m.W v) j < 0 := e.2.2.1; omega
    | walk e => have : (m.sp v j).pc = 1 ∨ (m.sp v j).pc = 2 := e.1; omega
    | come e => have : (m.sp v j).pc = 3 := e.1; omega
    | link e => have : (m.sp v j).pc = 4 := e.1; omega
    | hold e => have : (m.sp v j).pc = 6 := e.1; omega
    | out e => have : 11 ≤ (m.sp v j).pc := e.1; omega
    | free e => have : (m.sp v j).pc = 12 := e.1; omega
    | give s r e => have : (m.sp v j).pc = 14 ∨ (m.sp v j).pc = 16 := e.1; omega
    | look e => have : (m.sp v j).pc = 15 := e.1; omega
  | pass c' hh ha hb =>
    obtain rfl : c = c' := by have := hh.2.1; omega
    rw [← hvd, ← hjd] at ha
    cases R.case_ with
    | look e =>
      obtain ⟨e1, e2, e3, e4, rfl, e6⟩ := e
      have e1' : (m.sp v j).pc = 15 := e1
      have e3' : x.2.a = (m.sp v j).a := e3
      have e4' : x.2.c = (m.sp v j).c := e4
      have v1 := hva.1 (.inr (.inl e1'))
      have v2 := hva.2 (.inl e1')
      have hx1 := ng (by omega) ⟨fun _ => by omega, fun _ => by omega⟩ same0 (fun _ => by omega)
      rcases e2 with e2 | e2
      · rw [if_neg (fun hn => hn (.inr e2)), if_neg (by omega), if_neg (by omega)]
        refine ⟨_, _, begH_ok hT hi T.D _ (c + 1) hx1 (fun k hk => (o k hk).2 hk) (fun k hk => ?_) hh.2.2 (by omega)⟩
        by_cases e : k = c
        · subst e; rw [← hvd, ← hjd, hs1]; exact e2
        · rw [hsame k hk e]; exact hb k hk e
      · rw [if_pos (by omega)]
        refine fin hx1 (.pass c hh ?_ fun k hk hne => ?_) o
        · rw [← hvd, ← hjd, hs1]; exact .inr e2
        · rw [hsame k hk hne]; exact hb k hk hne
    | give s r e =>
      obtain ⟨e1, e2, e3, rfl, e5, e6⟩ := e
      have e1' : (m.sp v j).pc = 16 := by have : (m.sp v j).pc = 14 ∨ (m.sp v j).pc = 16 := e1; omega
      have v1 := hva.1 (.inr (.inr e1'))
      have v2 := hva.2 (.inr e1')
      have e6' : sgv x.1.W s = (m.sp v j).c := e6
      have hsn : s < T.nv v := (hx.rg v hv).lt s (by rw [e3]; simp)
      obtain ⟨u, hu⟩ : ∃ u, O v s = some u := by
        cases hO : O v s with
        | none => have := hx.fr v s hv hsn hO; have e5' : (m.sp v s).pc = 5 := e5; omega
        | some u => exact ⟨u, rfl⟩
      obtain ⟨hun, k, hk, h1, h2⟩ := hx.ow v s u hu
      obtain rfl : c = k := by
        have l1 := hT.lv u k hun hk
        have l2 := hT.lv i c hi hcD
        rw [← h1] at l1
        rw [← hvd] at l2
        omega
      have hup : ∀ k, c < k → k < T.D → T.pl i k = T.pl u k ∧ T.sl i k = T.sl u k := fun k hk1 hk2 => by
        obtain ⟨d, rfl⟩ : ∃ d, k = c + d + 1 := ⟨k - c - 1, by omega⟩
        exact up_same hT hi hun (by rw [← hvd]; exact h1) d hk2
      have hpos : 0 < sgv x.1.W s := by omega
      obtain ⟨_, hui, O', hg, hgo, _⟩ := hx.give hT hv hj ho x.1.W x.2 e2 e3 R.inv e5 (fun k hk1 hk2 => R.st k hk1 fun _ => by simp; exact fun e => hk2 e.symm) (.inr (by omega)) hu hcD h1 h2 (fun _ k hk1 hk2 => by
        rw [← (hup k hk1 hk2).1, ← (hup k hk1 hk2).2]
        exact ⟨hb k hk2 (by omega), (o k hk2).2 hk2⟩)
      rw [← hm1] at hg
      have hO' := hgo hpos
      rw [if_neg (fun hn => hn (.inl e2)), if_neg (by omega), if_pos e2]
      have out : ∀ k, k ≤ c → ¬ ∃ k', c < k' ∧ k' < T.D ∧ T.pl i k = T.pl u k' ∧ T.sl i k = T.sl u k' := fun k hkc ⟨k', h3, h4, h5, _⟩ => by
        have l1 := hT.lv i k hi (by omega)
        have l2 := hT.lv u k' hun h4
        rw [h5] at l1
        omega
      have hov : O' v j = some i := by rw [hO', hvd, hjd, upO_out (out c (Nat.le_refl _)), ← hvd, ← hjd]; exact ho
      have hrel := hg.release (by rw [hs1]; exact e2) hov
      refine ⟨_, _, downH_ok hrel hT hi hcD (fun k hk => ?_) fun k hk => ?_⟩
      · by_cases e : k = c
        · subst e
          rw [← hvd, ← hjd, setO_eq]
          exact ⟨fun h => (by cases h), fun h => by omega⟩
        · rw [setO_ne (fun e' => hlev k hk e e'.1), hO']
          rcases Nat.lt_or_ge k c with h3 | h3
          · rw [upO_out (out k (by omega)), o k hk]; omega
          · rw [(hup k (by omega) hk).1, (hup k (by omega) hk).2, upO_in (by omega) hk]
            exact ⟨fun h => (by injection h with h; exact absurd h hui), fun h => by omega⟩
      · rw [hsame k (by omega) (by omega)]; exact hb k (by omega) (by omega)
    | walk e => have : (m.sp v j).pc = 1 ∨ (m.sp v j).pc = 2 := e.1; omega
    | come e => have : (m.sp v j).pc = 3 := e.1; omega
    | link e => have : (m.sp v j).pc = 4 := e.1; omega
    | spin e => have : (m.sp v j).pc = 5 := e.1; omega
    | told e => have : (m.sp v j).pc = 5 := e.1; omega
    | sent e => have : (m.sp v j).pc = 5 := e.1; omega
    | hold e => have : (m.sp v j).pc = 6 := e.1; omega
    | out e => have : 11 ≤ (m.sp v j).pc := e.1; have : (m.sp v j).pc ≤ 13 := e.2.1; omega
    | free e => have : (m.sp v j).pc = 12 := e.1; omega
  | leave c' hh ha hcf hb =>
    obtain rfl : c = c' := by have := hh.2.1; omega
    rw [← hvd, ← hjd] at ha hcf
    cases R.case_ with
    | out e =>
      obtain ⟨e1, e2, e3, rfl, e5, e6⟩ := e
      have e1' : 11 ≤ (m.sp v j).pc := e1
      have e2' : (m.sp v j).pc ≤ 13 := e2
      have e3' : x.2.c = (m.sp v j).c := e3
      have e6' : 11 ≤ x.2.pc ∧ x.2.pc ≤ 14 := by
        rcases e6 with ⟨h1, h2⟩ | ⟨h1, h2, _⟩
        · have h1' : (m.sp v j).pc < x.2.pc := h1; omega
        · omega
      rw [if_pos (by omega)]
      refine fin (ng (by omega) (va0 _ (by omega)) same0 (fun _ => by omega)) (.leave c hh ?_ ?_ fun k hk => ?_) o
      · rw [← hvd, ← hjd, hs1]; exact e6'
      · rw [← hvd, ← hjd, hs1, e3']; exact hcf
      · rw [hsame k (by omega) (by omega)]; exact hb k hk
    | free e =>
      obtain ⟨e1, e2, e3, rfl⟩ := e
      have e1' : (m.sp v j).pc = 12 := e1
      rw [if_neg (fun hn => hn (.inl e2)), if_neg (by omega), if_pos e2]
      have hx1 := ng (by omega) (va0 _ (by omega)) (fun k _ hq => by simp at hq) (fun hq => by simp at hq)
      have hrel := hx1.release (by rw [hs1]; exact e2) ho
      refine ⟨_, _, downH_ok hrel hT hi hcD (fun k hk => ?_) fun k hk => ?_⟩
      · by_cases e : k = c
        · subst e
          rw [← hvd, ← hjd, setO_eq]
          exact ⟨fun h => (by cases h), fun h => by omega⟩
        · rw [setO_ne (fun e' => hlev k hk e e'.1), o k hk]; omega
      · rw [hsame k (by omega) (by omega)]; exact hb k hk
    | give s r e =>
      obtain ⟨e1, e2, e3, rfl, e5, e6⟩ := e
      have e1' : (m.sp v j).pc = 14 := by have : (m.sp v j).pc = 14 ∨ (m.sp v j).pc = 16 := e1; omega
      have e6' : sgv x.1.W s = (m.sp v j).c := e6
      have hsn : s < T.nv v := (hx.rg v hv).lt s (by rw [e3]; simp)
      obtain ⟨u, hu⟩ : ∃ u, O v s = some u := by
        cases hO : O v s with
        | none => have := hx.fr v s hv hsn hO; have e5' : (m.sp v s).pc = 5 := e5; omega
        | some u => exact ⟨u, rfl⟩
      obtain ⟨hun, k, hk, h1, h2⟩ := hx.ow v s u hu
      obtain rfl : c = k := by
        have l1 := hT.lv u k hun hk
        have l2 := hT.lv i c hi hcD
        rw [← h1] at l1
        rw [← hvd] at l2
        omega
      have hval : (c + 1 = T.D ∧ sgv x.1.W s = 1) ∨ (c + 1 ≠ T.D ∧ sgv x.1.W s = -1) := by
        rw [e6', hcf]
        by_cases e : c + 1 = T.D
        · exact .inl ⟨e, by rw [if_pos e]⟩
        · exact .inr ⟨e, by rw [if_neg e]⟩
      obtain ⟨_, hui, O', hg, hgo, hgn⟩ := hx.give hT hv hj ho x.1.W x.2 e2 e3 R.inv e5 (fun k hk1 hk2 => R.st k hk1 fun _ => by simp; exact fun e => hk2 e.symm) (by omega) hu hcD h1 h2 (fun hp k hk1 hk2 => by omega)
      rw [← hm1] at hg
      have hO' : O' = O := by
        rcases hval with ⟨e7, e8⟩ | ⟨e7, e8⟩
        · rw [hgo (by omega)]
          funext a b
          exact upO_out fun ⟨k', h3, h4, _⟩ => by omega
        · exact hgn (by omega)
      rw [hO'] at hg
      rw [if_neg (fun hn => hn (.inl e2)), if_neg (by omega), if_pos e2]
      have hrel := hg.release (by rw [hs1]; exact e2) ho
      refine ⟨_, _, downH_ok hrel hT hi hcD (fun k hk => ?_) fun k hk => ?_⟩
      · by_cases e : k = c
        · subst e
          rw [← hvd, ← hjd, setO_eq]
          exact ⟨fun h => (by cases h), fun h => by omega⟩
        · rw [setO_ne (fun e' => hlev k hk e e'.1), o k hk]; omega
      · rw [hsame k (by omega) (by omega)]; exact hb k hk
    | walk e => have : (m.sp v j).pc = 1 ∨ (m.sp v j).pc = 2 := e.1; omega
    | come e => have : (m.sp v j).pc = 3 := e.1; omega
    | link e => have : (m.sp v j).pc = 4 := e.1; omega
    | spin e => have : (m.sp v j).pc = 5 := e.1; omega
    | told e => have : (m.sp v j).pc = 5 := e.1; omega
    | sent e => have : (m.sp v j).pc = 5 := e.1; omega
    | hold e => have : (m.sp v j).pc = 6 := e.1; omega
    | look e => have : (m.sp v j).pc = 15 := e.1; omega
end
end Go.Proofs.YtkdaiomjbkpedaaGreat
end
section
/- Layer 27 (hmcs): the start; somebody can always move. No program in sight. -/
namespace Go.Proofs.YtkdaiomjbkpedaaGreat
open Go.RowKit

def hm0 (T : HTr) : Hm := ⟨fun v => List.replicate (2 * T.nv v + 1) 0, fun v => List.replicate (T.nv v) Sp.zero, List.replicate T.n Sp.zero⟩
theorem sv_repH (n i : Nat) : sv (List.replicate n Sp.zero) i = Sp.zero := by
  unfold sv; rw [List.getD_eq_getElem?_getD, List.getElem?_replicate]; split <;> rfl
theorem HInv.start (T : HTr) (bud : Int) : HInv T bud (hm0 T) (fun _ => []) (fun _ _ => none) := by
  have hs : ∀ v j, (hm0 T).sp v j = Sp.zero := fun v j => sv_repH _ _
  have hS : ∀ t, sv (hm0 T).S t = Sp.zero := fun t => sv_repH _ _
  have ht : ∀ t, TOwn T (hm0 T) (fun _ _ => none) t := fun t => ⟨0, .rest (by rw [hS]; rfl), fun k hk => ⟨fun h => (by cases h), fun h => absurd h (Nat.not_lt_zero _)⟩⟩
  refine ⟨fun i => ⟨fun v hv => RInv.start _, by simp [hm0], fun v j t h => (by cases h), fun v j _ _ _ => by rw [hs]; rfl, fun t _ _ => ht t, fun v j _ _ => ?_, fun v j _ h => by simp at h⟩, fun t _ => ht t⟩
  rw [hs]
  exact ⟨fun e => absurd e (by decide), fun e => absurd e (by decide)⟩
/-- it is not waiting for another one -/
def MovH (T : HTr) (m : Hm) (i : Nat) : Prop :=
  (sv m.S i).pc ≠ 0 ∧ ((sv m.S i).pc ≠ 10 → ∀ c : Nat, (sv m.S i).c = c → ((m.sp (T.pl i c) (T.sl i c)).pc = 5 → m.sg (T.pl i c) (T.sl i c) ≠ 0) ∧ ((m.sp (T.pl i c) (T.sl i c)).pc = 13 → nxv (m.W (T.pl i c)) (T.sl i c) ≠ 0))
section
variable {T : HTr} {bud : Int} {m m' : Hm} {Q Q' : Nat → List Nat} {O O' : Nat → Nat → Option Nat} {i : Nat}
theorem mov_of {s : Sp} (hs : sv m.S i = s) {c : Nat} (hc : s.c = c) (h0 : s.pc ≠ 0) (h5 : (m.sp (T.pl i c) (T.sl i c)).pc = 5 → m.sg (T.pl i c) (T.sl i c) ≠ 0) (h13 : (m.sp (T.pl i c) (T.sl i c)).pc = 13 → nxv (m.W (T.pl i c)) (T.sl i c) ≠ 0) : MovH T m i := by
  refine ⟨by rw [hs]; exact h0, fun _ c' hc' => ?_⟩
  rw [hs, hc] at hc'
  obtain rfl : c = c' := by omega
  exact ⟨h5, h13⟩
/-- whose slot it is -/
theorem HX.owner (h : HX T bud m Q O i) {v j : Nat} (hv : v < T.np) (hj : j < T.nv v) (h0 : (m.sp v j).pc ≠ 0) : ∃ u, O v j = some u := by
  cases hO : O v j with
  | none => exact absurd (h.fr v j hv hj hO) h0
  | some u => exact ⟨u, rfl⟩
/-- who goes out can move, or the one behind it can -/
theorem HInv.leaveMov (h : HInv T bud m Q O) (hT : T.Ok) {t c : Nat} (ht : t < T.n) (hc : (sv m.S t).c = c) (h12 : (sv m.S t).pc = 12) (hcD : c < T.D) (ha : 11 ≤ (m.sp (T.pl t c) (T.sl t c)).pc ∧ (m.sp (T.pl t c) (T.sl t c)).pc ≤ 14) : ∃ u, u < T.n ∧ MovH T m u := by
  by_cases h13 : (m.sp (T.pl t c) (T.sl t c)).pc = 13 ∧ nxv (m.W (T.pl t c)) (T.sl t c) = 0
  · have hx := h.x t
    have hv := hT.plt t c ht hcD
    have hj := hT.slt t c ht hcD
    obtain ⟨v, hvd⟩ : ∃ v, v = T.pl t c := ⟨_, rfl⟩
    obtain ⟨j, hjd⟩ : ∃ j, j = T.sl t c := ⟨_, rfl⟩
    rw [← hvd] at hv hj h13
    rw [← hjd] at hj h13
    have hd := hx.head hv hj (by rw [h13.1]; decide)
    have r := hx.rg v hv
    have h2 := r.hd13 j hd h13.1
    obtain ⟨s, hs⟩ : ∃ s, (Q v)[1]? = some s := ⟨_, List.getElem?_eq_getElem h2⟩
    have hsn : s < T.nv v := r.lt s (List.mem_of_getElem? hs)
    rcases (r.link 0 j s hd hs).2 with ⟨h4, _, _⟩ | ⟨_, h5⟩
    · have h4' : (m.sp v s).pc = 4 := h4
      obtain ⟨u, hu⟩ := hx.owner hv hsn (by omega)
      obtain ⟨hun, k, hk, e1, e2⟩ := hx.ow v s u hu
      refine ⟨u, hun, ?_⟩
      obtain ⟨K, kk, o⟩ := h.t u hun
      have hkK : k < K := by rw [← o k hk, ← e1, ← e2]; exact hu
      have h4k : (m.sp (T.pl u k) (T.sl u k)).pc = 4 := by rw [← e1, ← e2]; exact h4'
      cases kk with
      | rest _ => omega
      | come c' hh _ _ hb =>
        by_cases e : k = c'
        · subst e
          exact mov_of rfl hh.2.1 (by omega) (fun e => by omega) (fun e => by omega)
        · have := hb k (by omega); omega
      | granted c' hh ha' hb =>
        by_cases e : k = c'
        · subst e; omega
        · have := hb k hk e; omega
      | hold _ hb => have := hb k hk; omega
      | pass c' hh ha' hb =>
        by_cases e : k = c'
        · subst e; omega
        · have := hb k hk e; omega
      | leave c' hh ha' _ hb =>
        by_cases e : k = c'
        · subst e; omega
        · have := hb k (by omega); omega
    · have := h13.2; omega
  · refine ⟨t, ht, mov_of rfl hc (by omega) (fun e => by omega) fun e => ?_⟩
    exact fun e2 => h13 ⟨e, e2⟩
theorem HInv.comeMov (h : HInv T bud m Q O) (hT : T.Ok) : ∀ (d t c : Nat), t < T.n → (sv m.S t).c = c → (sv m.S t).pc = 1 → c < T.D → T.D - c ≤ d → ∃ u, u < T.n ∧ MovH T m u := by
  intro d
  induction d with
  | zero => intro t c _ _ _ h1 h2; omega
  | succ d ih =>
    intro t c ht hc h1 hcD hd
    by_cases h5 : (m.sp (T.pl t c) (T.sl t c)).pc = 5 ∧ m.sg (T.pl t c) (T.sl t c) = 0
    · have hx := h.x t
      have hv := hT.plt t c ht hcD
      have hj := hT.slt t c ht hcD
      obtain ⟨v, hvd⟩ : ∃ v, v = T.pl t c := ⟨_, rfl⟩
      obtain ⟨j, hjd⟩ : ∃ j, j = T.sl t c := ⟨_, rfl⟩
      have hvc := hvd
      rw [← hvd] at hv hj h5
      rw [← hjd] at hj h5
      have r := hx.rg v hv
      -- the head of its row
      have hQj : j ∈ Q v := by
        apply Classical.byContradiction
        intro hn
        have := (r.out j hj hn).1.2
        have h5' : (sv (m.P v) j).pc = 5 := h5.1
        omega
      obtain ⟨a, ha⟩ : ∃ a, (Q v)[0]? = some a := by
        cases hq : Q v with
        | nil => rw [hq] at hQj; simp at hQj
        | cons a l => exact ⟨a, rfl⟩
      have han : a < T.nv v := r.lt a (List.mem_of_getElem? ha)
      have hap := (r.head a ha).1
      have hap' : (m.sp v a).pc = 5 ∨ (m.sp v a).pc = 6 ∨ 10 ≤ (m.sp v a).pc ∧ (m.sp v a).pc ≤ 16 := hap
      have ha5 : (m.sp v a).pc = 5 → m.sg v a ≠ 0 := r.hd5 a ha
      obtain ⟨u, hu⟩ := hx.owner hv han (by omega)
      obtain ⟨hun, k, hk, e1, e2⟩ := hx.ow v a u hu
      obtain ⟨K, kk, o⟩ := h.t u hun
      have hkK : k < K := by rw [← o k hk, ← e1, ← e2]; exact hu
      have hkc : k = c := by
        have l1 := hT.lv u k hun hk
        have l2 := hT.lv t c ht hcD
        rw [← e1] at l1
        rw [← hvc] at l2
        omega
      subst hkc
      rw [e1, e2] at hap' ha5
      cases kk with
      | rest _ => omega
      | come c' hh hh2 _ hb =>
        by_cases e : k = c'
        · subst e
          exact ⟨u, hun, mov_of rfl hh.2.1 (by omega) ha5 (fun e => by omega)⟩
        · exact ih u c' hun hh.2.1 hh.1 hh.2.2 (by omega)
      | granted c' hh hh2 hb => exact ⟨u, hun, mov_of rfl hh.2.1 (by omega) (fun _ => by have := hh2.2; omega) (fun e => by omega)⟩
      | hold hh _ => exact ⟨u, hun, by rw [hh]; decide, fun e => absurd hh e⟩
      | pass c' hh hh2 hb => exact ⟨u, hun, mov_of rfl hh.2.1 (by omega) (fun e => by omega) (fun e => by omega)⟩
      | leave c' hh hh2 _ hb => exact h.leaveMov hT hun hh.2.1 hh.1 hh.2.2 hh2
    · obtain ⟨K, kk, o⟩ := h.t t ht
      refine ⟨t, ht, mov_of rfl hc (by omega) (fun e e2 => h5 ⟨e, e2⟩) fun e => ?_⟩
      exfalso
      cases kk with
      | rest hh => omega
      | come c' hh hh2 _ _ =>
        obtain rfl : c = c' := by have := hh.2.1; omega
        omega
      | granted c' hh hh2 _ =>
        obtain rfl : c = c' := by have := hh.2.1; omega
        omega
      | hold hh _ => omega
      | pass c' hh _ _ => omega
      | leave c' hh _ _ _ => omega
theorem HInv.someMov (h : HInv T bud m Q O) (hT : T.Ok) : (∀ t, t < T.n → (sv m.S t).pc = 0) ∨ ∃ u, u < T.n ∧ MovH T m u := by
  rcases Classical.em (∀ t, t < T.n → (sv m.S t).pc = 0) with e | e
  · exact .inl e
  · refine .inr ?_
    obtain ⟨t, ht⟩ := Classical.not_forall.1 e
    obtain ⟨htn, hp⟩ := Classical.not_imp.1 ht
    obtain ⟨K, kk, o⟩ := h.t t htn
    cases kk with
    | rest hh => exact absurd hh hp
    | come c hh _ _ _ => exact h.comeMov hT T.D t c htn hh.2.1 hh.1 hh.2.2 (by omega)
    | granted c hh _ _ => exact h.comeMov hT T.D t c htn hh.2.1 hh.1 hh.2.2 (by omega)
    | hold hh _ => exact ⟨t, htn, by rw [hh]; decide, fun e => absurd hh e⟩
    | pass c hh hh2 _ => exact ⟨t, htn, mov_of rfl hh.2.1 (by omega) (fun e => by omega) (fun e => by omega)⟩
    | leave c hh hh2 _ _ => exact h.leaveMov hT htn hh.2.1 hh.1 hh.2.2 hh2
end
end Go.Proofs.YtkdaiomjbkpedaaGreat
end
section
/- Layer 27 (hmcs): what others' acts leave as it was. No program in sight. -/
namespace Go.Proofs.YtkdaiomjbkpedaaGreat
open Go.RowKit

section
variable {T : HTr} {bud : Int} {m m' : Hm} {Q Q' : Nat → List Nat} {O O' : Nat → Nat → Option Nat} {i : Nat}
theorem sp_slot_ne (m : Hm) {v j a b : Nat} (p : Sp) (h : ¬ (a = v ∧ b = j)) : (m.slot v j p).sp a b = m.sp a b := by
  unfold Hm.sp Hm.slot
  show sv (updH m.P v ((m.P v).set j p) a) b = _
  by_cases e : a = v
  · subst e
    rw [updH_eq, sv_set, if_neg (fun h' => h ⟨rfl, h'.1.symm⟩)]
  · rw [updH_ne _ _ e]
theorem wthH_sp (m : Hm) {v j a b : Nat} (u c : Int) (h : ¬ (a = v ∧ b = j)) : (wthH m v j u c).sp a b = m.sp a b := by
  unfold wthH
  split
  · exact sp_slot_ne m _ h
  · rfl
theorem askH_sp (m : Hm) {v j a b : Nat} (h : ¬ (a = v ∧ b = j) ∨ (m.sp a b).pc ≠ 0) : (askH m v j).sp a b = m.sp a b := by
  unfold askH
  split
  · rename_i h0
    refine sp_slot_ne m _ fun e => ?_
    rcases h with h | h
    · exact h e
    · rw [e.1, e.2] at h; exact h h0
  · rfl
theorem thr_sp (m : Hm) (s : Sp) (a b : Nat) : (m.thr i s).sp a b = m.sp a b := rfl
theorem wthH_S (m : Hm) (v j : Nat) (u c : Int) : (wthH m v j u c).S = m.S := by unfold wthH; split <;> rfl
theorem wthH_W (m : Hm) (v j : Nat) (u c : Int) : (wthH m v j u c).W = m.W := by unfold wthH; split <;> rfl
theorem askH_S (m : Hm) (v j : Nat) : (askH m v j).S = m.S := by unfold askH; split <;> rfl
theorem askH_W (m : Hm) (v j : Nat) : (askH m v j).W = m.W := by unfold askH; split <;> rfl
theorem thr_S (m : Hm) {t : Nat} (s : Sp) (h : t ≠ i) : sv (m.thr i s).S t = sv m.S t := by
  show sv (m.S.set i s) t = _
  rw [sv_set, if_neg (fun e => h e.1.symm)]
theorem begH_keep (hi : i < T.n) : ∀ (f : Nat) (m : Hm) (k0 : Nat), k0 < T.D → (begH T bud f m i k0).W = m.W ∧ (∀ t, t ≠ i → sv (begH T bud f m i k0).S t = sv m.S t) ∧ ∀ a b, (∀ k, k0 ≤ k → k < T.D → ¬ (a = T.pl i k ∧ b = T.sl i k)) → (begH T bud f m i k0).sp a b = m.sp a b := by
  intro f
  induction f with
  | zero => intro m k0 _; exact ⟨rfl, fun _ _ => rfl, fun _ _ _ => rfl⟩
  | succ f ih =>
    intro m k0 hk
    unfold begH
    split
    · exact ⟨wthH_W _ _ _ _ _, fun t ht => by rw [thr_S _ _ ht, wthH_S], fun a b h => by rw [thr_sp]; exact wthH_sp m _ _ (h k0 (Nat.le_refl _) hk)⟩
    · split
      · exact ⟨wthH_W _ _ _ _ _, fun t ht => by rw [thr_S _ _ ht, wthH_S], fun a b h => by rw [thr_sp]; exact wthH_sp m _ _ (h k0 (Nat.le_refl _) hk)⟩
      · obtain ⟨h1, h2, h3⟩ := ih m (k0 + 1) (by omega)
        exact ⟨h1, h2, fun a b h => h3 a b fun k hk1 hk2 => h k (by omega) hk2⟩
theorem downH_keep (c : Nat) : (downH T m i c).W = m.W ∧ (∀ t, t ≠ i → sv (downH T m i c).S t = sv m.S t) ∧ ∀ a b, (c ≠ 0 → ¬ (a = T.pl i (c - 1) ∧ b = T.sl i (c - 1))) → (downH T m i c).sp a b = m.sp a b := by
  unfold downH
  split
  · exact ⟨rfl, fun t ht => thr_S _ _ ht, fun a b _ => rfl⟩
  · rename_i hc
    exact ⟨wthH_W _ _ _ _ _, fun t ht => by rw [thr_S _ _ ht, wthH_S], fun a b h => by rw [thr_sp]; exact wthH_sp m _ _ (h hc)⟩
theorem comeH_keep (c : Nat) : (comeH T m i c).W = m.W ∧ (∀ t, t ≠ i → sv (comeH T m i c).S t = sv m.S t) ∧ ∀ a b, (m.sp a b).pc ≠ 0 → (comeH T m i c).sp a b = m.sp a b := by
  unfold comeH
  split
  · exact ⟨rfl, fun t ht => thr_S _ _ ht, fun a b _ => rfl⟩
  · exact ⟨askH_W _ _ _, fun t ht => by rw [thr_S _ _ ht, askH_S], fun a b h => by rw [thr_sp]; exact askH_sp m (.inr h)⟩
/-- a slot that is somebody's is not at rest -/
theorem HInv.ownPc (h : HInv T bud m Q O) {a b t : Nat} (ho : O a b = some t) : (m.sp a b).pc ≠ 0 := by
  obtain ⟨ht, k, hk, rfl, rfl⟩ := (h.x 0).ow a b t ho
  obtain ⟨K, kk, o⟩ := h.t t ht
  have hkK := (o k hk).1 ho
  cases kk with
  | rest _ => omega
  | come c hh ha _ hb =>
    by_cases e : k = c
    · subst e; omega
    · have := hb k (by omega); omega
  | granted c hh ha hb =>
    by_cases e : k = c
    · subst e; omega
    · have := hb k hk e; omega
  | hold _ hb => have := hb k hk; omega
  | pass c hh ha hb =>
    by_cases e : k = c
    · subst e; omega
    · have := hb k hk e; omega
  | leave c hh ha _ hb =>
    by_cases e : k = c
    · subst e; omega
    · have := hb k (by omega); omega
/-- what an act of i leaves to the others -/
structure FrH (m m' : Hm) (O : Nat → Nat → Option Nat) (i : Nat) : Prop where
  S : ∀ t, t ≠ i → sv m'.S t = sv m.S t
  sp : ∀ a b t, t ≠ i → O a b = some t → m'.sp a b = m.sp a b
  sg : ∀ a b t, t ≠ i → O a b = some t → m.sg a b ≠ 0 → m'.sg a b ≠ 0
  nx : ∀ a b t, t ≠ i → O a b = some t → nxv (m.W a) b ≠ 0 → nxv (m'.W a) b ≠ 0
theorem FrH.refl (m : Hm) (O : Nat → Nat → Option Nat) (i : Nat) : FrH m m O i := ⟨fun _ _ => rfl, fun _ _ _ _ _ => rfl, fun _ _ _ _ _ h => h, fun _ _ _ _ _ h => h⟩
theorem HInv.leaveFr (h : HInv T bud m Q O) (hT : T.Ok) (hi : i < T.n) : FrH m (leaveHm T bud m i) O i := by
  unfold leaveHm
  split
  · rename_i h10
    obtain ⟨K, kk, o⟩ := h.t i hi
    obtain ⟨rfl, _⟩ := kk.of10 h10
    obtain ⟨h1, h2, h3⟩ := begH_keep (T := T) (bud := bud) hi T.D m 0 hT.d1
    refine ⟨h2, fun a b t ht ho => h3 a b fun k _ hk e => ?_, fun a b t _ _ hg => by unfold Hm.sg at hg ⊢; rw [h1]; exact hg, fun a b t _ _ hg => by rw [h1]; exact hg⟩
    rw [e.1, e.2, (o k hk).2 hk] at ho
    injection ho with ho
    exact ht ho.symm
  · exact FrH.refl _ _ _
theorem HInv.stepFr (h : HInv T bud m Q O) (hT : T.Ok) (hi : i < T.n) : FrH m (stepHm T bud m i) O i := by
  unfold stepHm
  by_cases c0 : (sv m.S i).pc = 0 ∨ (sv m.S i).pc = 10
  · rw [if_pos c0]; exact FrH.refl _ _ _
  rw [if_neg c0]
  have hx := h.x i
  obtain ⟨K, kk, o⟩ := h.t i hi
  obtain ⟨c, hc, hcD, hcK, a0, a10, a14⟩ := TOwn.act kk c0
  rw [hc]
  simp only [Int.toNat_natCast]
  have hv := hT.plt i c hi hcD
  have hj := hT.slt i c hi hcD
  have ho : O (T.pl i c) (T.sl i c) = some i := (o c hcD).2 hcK
  obtain ⟨v, hvd⟩ : ∃ v, v = T.pl i c := ⟨_, rfl⟩
  obtain ⟨j, hjd⟩ : ∃ j, j = T.sl i c := ⟨_, rfl⟩
  have hva := hx.va _ _ hv hj
  rw [← hvd] at hv hj ho hva a0 a10 a14 ⊢
  rw [← hjd] at hj ho hva a0 a10 a14 ⊢
  rw [if_neg (fun e => e.elim a0 a10)]
  have hcc : (sv (m.P v) j).pc = 14 ∨ (sv (m.P v) j).pc = 16 → (sv (m.P v) j).c ≠ 0 := fun e => by
    rcases e with e | e
    · exact a14 e
    · have e1 := hva.1 (.inr (.inr e))
      have e2 := hva.2 (.inr e)
      show (m.sp v j).c ≠ 0
      omega
  obtain ⟨Qn, R⟩ := rungStep (ar := arW (m.W v)) (hx.rg v hv) (hT.nv32 v hv) hj a0 a10 hcc
  obtain ⟨x, hxd⟩ : ∃ x, x = stepP (arW (m.W v)) 1 ((j : Int) + 1) (sv (m.P v) j) := ⟨_, rfl⟩
  have hm1 : rstH m v j = { m with W := updH m.W v x.1.W, P := updH m.P v ((m.P v).set j x.2) } := by rw [hxd]; rfl
  rw [← hxd] at R
  have hlen : j < (m.P v).length := by rw [hx.len hv]; exact hj
  have hsp : ∀ a b, (rstH m v j).sp a b = if a = v ∧ b = j then x.2 else m.sp a b := fun a b => by rw [hm1]; exact sp_slot m v j x.2 hlen a b
  have hs1 : (rstH m v j).sp v j = x.2 := by rw [hsp, if_pos ⟨rfl, rfl⟩]
  have hne : ∀ a b t, t ≠ i → O a b = some t → ¬ (a = v ∧ b = j) := fun a b t ht hab e => by
    rw [e.1, e.2, ho] at hab
    injection hab with hab
    exact ht hab.symm
  have hsp' : ∀ a b t, t ≠ i → O a b = some t → (rstH m v j).sp a b = m.sp a b := fun a b t ht hab => by rw [hsp, if_neg (hne a b t ht hab)]
  have hW : ∀ m2 : Hm, m2.W = (rstH m v j).W → (∀ a b t, t ≠ i → O a b = some t → m.sg a b ≠ 0 → m2.sg a b ≠ 0) ∧ (∀ a b t, t ≠ i → O a b = some t → nxv (m.W a) b ≠ 0 → nxv (m2.W a) b ≠ 0) := fun m2 hm2 => by
    have hw : ∀ a, m2.W a = updH m.W v x.1.W a := fun a => by rw [hm2, hm1]
    refine ⟨fun a b t ht hab hg => ?_, fun a b t ht hab hg => ?_⟩
    · unfold Hm.sg at hg ⊢
      rw [hw]
      by_cases e : a = v
      · subst e
        rw [updH_eq]
        have hbj : b ≠ j := fun e => hne a b t ht hab ⟨rfl, e⟩
        by_cases hgv : ((sv (m.P a) j).pc = 14 ∨ (sv (m.P a) j).pc = 16) ∧ Qn[0]? = some b
        · refine R.inv.hd5 b hgv.2 ?_
          cases R.case_ with
          | give s r e =>
            obtain ⟨_, _, _, e4, e5, _⟩ := e
            rw [e4] at hgv
            obtain rfl : s = b := by simpa using hgv.2
            rw [sv_set, if_neg (fun h' => hbj h'.1.symm)]; exact e5
          | walk e => have := e.1; omega
          | come e => have := e.1; omega
          | link e => have := e.1; omega
          | spin e => have := e.1; omega
          | told e => have := e.1; omega
          | sent e => have := e.1; omega
          | hold e => have := e.1; omega
          | out e => have := e.2.1; omega
          | free e => have := e.1; omega
          | look e => have := e.1; omega
        · rw [R.st b hbj (fun e e2 => hgv ⟨e, e2⟩)]; exact hg
      · rw [updH_ne _ _ e]; exact hg
    · rw [hw]
      by_cases e : a = v
      · subst e
        rw [updH_eq]
        exact R.nx b (fun e => hne a b t ht hab ⟨rfl, e⟩) hg
      · rw [updH_ne _ _ e]; exact hg
  rw [hs1]
  by_cases d1 : ¬ (x.2.pc = 0 ∨ x.2.pc = 10)
  · rw [if_pos d1]
    exact ⟨fun _ _ => rfl, hsp', (hW _ rfl).1, (hW _ rfl).2⟩
  · rw [if_neg d1]
    by_cases d2 : (sv m.S i).pc = 1
    · rw [if_pos d2]
      obtain ⟨h1, h2, h3⟩ := comeH_keep (T := T) (m := rstH m v j) (i := i) c
      refine ⟨h2, fun a b t ht hab => ?_, (hW _ h1).1, (hW _ h1).2⟩
      rw [h3 a b (by rw [hsp' a b t ht hab]; exact h.ownPc hab)]
      exact hsp' a b t ht hab
    · rw [if_neg d2]
      by_cases d3 : x.2.pc = 0
      · rw [if_pos d3]
        obtain ⟨h1, h2, h3⟩ := downH_keep (T := T) (m := rstH m v j) (i := i) c
        refine ⟨h2, fun a b t ht hab => ?_, (hW _ h1).1, (hW _ h1).2⟩
        rw [h3 a b (fun hc0 e => ?_)]
        · exact hsp' a b t ht hab
        · rw [e.1, e.2, (o (c - 1) (by omega)).2 (by omega)] at hab
          injection hab with hab
          exact ht hab.symm
      · rw [if_neg d3]
        have hx10 : x.2.pc = 10 := by
          apply Classical.byContradiction
          intro hn
          exact d1 fun e => e.elim d3 hn
        have hpass : K = T.D ∧ c + 1 < T.D := by
          cases kk with
          | rest hh => exact absurd (.inl hh) c0
          | hold hh _ => exact absurd (.inr hh) c0
          | come c' hh _ _ _ => exact absurd hh.1 d2
          | granted c' hh _ _ => exact absurd hh.1 d2
          | pass c' hh _ _ => exact ⟨rfl, by have := hh.2.1; omega⟩
          | leave c' hh ha _ _ =>
            exfalso
            obtain rfl : c = c' := by have := hh.2.1; omega
            rw [← hvd, ← hjd] at ha
            have ha' : 11 ≤ (sv (m.P v) j).pc ∧ (sv (m.P v) j).pc ≤ 14 := ha
            cases R.case_ with
            | give s r e => have := e.2.1; omega
            | walk e => have := e.1; omega
            | come e => have := e.1; omega
            | link e => have := e.1; omega
            | spin e => have := e.1; omega
            | told e => have := e.1; omega
            | sent e => have := e.1; omega
            | hold e => have := e.1; omega
            | out e => have := e.2.2.2.2.2; omega
            | free e => have := e.2.1; omega
            | look e => have := e.1; omega
        obtain ⟨h1, h2, h3⟩ := begH_keep (T := T) (bud := bud) hi T.D (rstH m v j) (c + 1) hpass.2
        refine ⟨h2, fun a b t ht hab => ?_, (hW _ h1).1, (hW _ h1).2⟩
        rw [h3 a b (fun k _ hk e => ?_)]
        · exact hsp' a b t ht hab
        · rw [e.1, e.2, (o k hk).2 (by rw [hpass.1]; exact hk)] at hab
          injection hab with hab
          exact ht hab.symm
end
end Go.Proofs.YtkdaiomjbkpedaaGreat
end
section
/- Layer 27 (hmcs): what is left to do grows less. No program in sight. -/
namespace Go.Proofs.YtkdaiomjbkpedaaGreat
open Go.RowKit

def wgH (D : Nat) (pc : Int) (c : Nat) (q : Int) : Nat :=
  if pc = 0 then 0 else if pc = 10 then 6 * D else if pc = 1 then 6 * D + (7 - q).toNat + 6 * (D - 1 - c)
  else if pc = 11 then (if q = 15 then 2 * (D - 1 - c) + 4 * D else 2 * (D - 1 - c) - 1 + 4 * D) else (15 - q).toNat + 4 * c
def wH (T : HTr) (m : Hm) (i : Nat) : Nat := wgH T.D (sv m.S i).pc (sv m.S i).c.toNat (m.sp (T.pl i (sv m.S i).c.toNat) (T.sl i (sv m.S i).c.toNat)).pc
theorem wg0 (D : Nat) (c : Nat) (q : Int) : wgH D 0 c q = 0 := by unfold wgH; rw [if_pos rfl]
theorem wg10 (D : Nat) (c : Nat) (q : Int) : wgH D 10 c q = 6 * D := by unfold wgH; rw [if_neg (by decide), if_pos rfl]
theorem wg1 (D : Nat) (c : Nat) (q : Int) : wgH D 1 c q = 6 * D + (7 - q).toNat + 6 * (D - 1 - c) := by unfold wgH; rw [if_neg (by decide), if_neg (by decide), if_pos rfl]
theorem wg11a (D : Nat) (c : Nat) : wgH D 11 c 15 = 2 * (D - 1 - c) + 4 * D := by unfold wgH; rw [if_neg (by decide), if_neg (by decide), if_neg (by decide), if_pos rfl, if_pos rfl]
theorem wg11b (D : Nat) (c : Nat) {q : Int} (h : q ≠ 15) : wgH D 11 c q = 2 * (D - 1 - c) - 1 + 4 * D := by unfold wgH; rw [if_neg (by decide), if_neg (by decide), if_neg (by decide), if_pos rfl, if_neg h]
theorem wg12 (D : Nat) (c : Nat) (q : Int) : wgH D 12 c q = (15 - q).toNat + 4 * c := by unfold wgH; rw [if_neg (by decide), if_neg (by decide), if_neg (by decide), if_neg (by decide)]
section
variable {T : HTr} {bud : Int} {m m' : Hm} {Q Q' : Nat → List Nat} {O O' : Nat → Nat → Option Nat} {i : Nat}
theorem wH_at {m : Hm} {s : Sp} {c : Nat} (hs : sv m.S i = s) (hc : s.c = c) : wH T m i = wgH T.D s.pc c (m.sp (T.pl i c) (T.sl i c)).pc := by
  unfold wH
  rw [hs, hc]
  simp only [Int.toNat_natCast]
theorem wH_thr {m : Hm} {s : Sp} {c : Nat} (hl : i < m.S.length) (hc : s.c = c) : wH T (m.thr i s) i = wgH T.D s.pc c (m.sp (T.pl i c) (T.sl i c)).pc := wH_at (sv_thr m s hl) hc
theorem FrH.wt {t : Nat} (f : FrH m m' O i) (h : HInv T bud m Q O) (ht : t < T.n) (hti : t ≠ i) : wH T m' t = wH T m t := by
  obtain ⟨K, kk, o⟩ := h.t t ht
  have hS := f.S t hti
  by_cases h0 : (sv m.S t).pc = 0 ∨ (sv m.S t).pc = 10
  · unfold wH
    rw [hS]
    rcases h0 with e | e
    · rw [e, wg0, wg0]
    · rw [e, wg10, wg10]
  · obtain ⟨c, hc, hcD, hcK, _⟩ := TOwn.act kk h0
    rw [wH_at hS hc, wH_at rfl hc, f.sp _ _ t hti ((o c hcD).2 hcK)]
theorem FrH.mov {u : Nat} (f : FrH m m' O i) (h : HInv T bud m Q O) (hu : u < T.n) (hui : u ≠ i) (k : MovH T m u) : MovH T m' u := by
  obtain ⟨K, kk, o⟩ := h.t u hu
  have hS := f.S u hui
  refine ⟨by rw [hS]; exact k.1, fun h10 c hc => ?_⟩
  rw [hS] at h10 hc
  obtain ⟨c', hc', hcD, hcK, _⟩ := TOwn.act kk (fun e => e.elim k.1 h10)
  obtain rfl : c = c' := by omega
  have ho := (o c hcD).2 hcK
  have hsp := f.sp _ _ u hui ho
  obtain ⟨k5, k13⟩ := k.2 h10 c hc
  rw [hsp]
  exact ⟨fun e => f.sg _ _ u hui ho (k5 e), fun e => f.nx _ _ u hui ho (k13 e)⟩
theorem begH_w (hi : i < T.n) (hT : T.Ok) : ∀ (f : Nat) (m : Hm) (k0 : Nat), i < m.S.length → (∀ v, v < T.np → (m.P v).length = T.nv v) → (∀ k, k < T.D → (m.sp (T.pl i k) (T.sl i k)).pc = 10) → k0 < T.D → T.D ≤ k0 + f → wH T (begH T bud f m i k0) i ≤ 2 * (T.D - 1 - k0) + 4 * T.D := by
  intro f
  induction f with
  | zero => intro m k0 _ _ _ h1 h2; omega
  | succ f ih =>
    intro m k0 hl hP h10 hk hf
    unfold begH
    have hv := hT.plt i k0 hi hk
    have hj := hT.slt i k0 hi hk
    have hlen : T.sl i k0 < (m.P (T.pl i k0)).length := by rw [hP _ hv]; exact hj
    by_cases c1 : k0 + 1 = T.D
    · rw [if_pos c1]
      have e : wthH m (T.pl i k0) (T.sl i k0) 11 1 = m.slot (T.pl i k0) (T.sl i k0) { m.sp (T.pl i k0) (T.sl i k0) with pc := 11, c := 1 } := by unfold wthH; rw [if_pos (h10 k0 hk)]
      rw [e]
      refine Nat.le_trans (Nat.le_of_eq (wH_thr (c := k0) hl rfl)) ?_
      rw [sp_slot _ _ _ _ hlen, if_pos ⟨rfl, rfl⟩]
      show wgH T.D 12 k0 11 ≤ _
      rw [wg12]; omega
    · rw [if_neg c1]
      split
      · have e : wthH m (T.pl i k0) (T.sl i k0) 15 ((m.sp (T.pl i k0) (T.sl i k0)).a + 1) = m.slot (T.pl i k0) (T.sl i k0) { m.sp (T.pl i k0) (T.sl i k0) with pc := 15, c := (m.sp (T.pl i k0) (T.sl i k0)).a + 1 } := by unfold wthH; rw [if_pos (h10 k0 hk)]
        rw [e]
        refine Nat.le_trans (Nat.le_of_eq (wH_thr (c := k0) hl rfl)) ?_
        rw [sp_slot _ _ _ _ hlen, if_pos ⟨rfl, rfl⟩]
        show wgH T.D 11 k0 15 ≤ _
        rw [wg11a]; omega
      · have := ih m (k0 + 1) hl hP h10 (by omega) (by omega)
        omega
theorem downH_w (hi : i < T.n) (hT : T.Ok) (hl : i < m.S.length) (hP : ∀ v, v < T.np → (m.P v).length = T.nv v) {c : Nat} (hc : c < T.D) (h10 : ∀ k, k < c → (m.sp (T.pl i k) (T.sl i k)).pc = 10) : wH T (downH T m i c) i ≤ 4 * c := by
  unfold downH
  by_cases c0 : c = 0
  · rw [if_pos c0]
    unfold wH
    rw [sv_thr m _ hl]
    show wgH T.D 0 _ _ ≤ _
    rw [wg0]; omega
  · rw [if_neg c0]
    obtain ⟨d, rfl⟩ : ∃ d, c = d + 1 := ⟨c - 1, by omega⟩
    simp only [Nat.add_sub_cancel]
    have hd : d < T.D := by omega
    have hlen : T.sl i d < (m.P (T.pl i d)).length := by rw [hP _ (hT.plt i d hi hd)]; exact hT.slt i d hi hd
    have e : wthH m (T.pl i d) (T.sl i d) 11 (-1) = m.slot (T.pl i d) (T.sl i d) { m.sp (T.pl i d) (T.sl i d) with pc := 11, c := -1 } := by unfold wthH; rw [if_pos (h10 d (by omega))]
    rw [e]
    refine Nat.le_trans (Nat.le_of_eq (wH_thr (c := d) hl (by show ((d + 1 : Nat) : Int) - 1 = d; omega))) ?_
    rw [sp_slot _ _ _ _ hlen, if_pos ⟨rfl, rfl⟩]
    show wgH T.D 12 d 11 ≤ _
    rw [wg12]; omega
theorem HInv.leaveW (h : HInv T bud m Q O) (hT : T.Ok) (hi : i < T.n) : wH T (leaveHm T bud m i) i ≤ wH T m i ∧ ((sv m.S i).pc = 10 → wH T (leaveHm T bud m i) i < wH T m i) := by
  unfold leaveHm
  by_cases c0 : (sv m.S i).pc = 10
  · rw [if_pos c0]
    have hd := hT.d1
    obtain ⟨K, kk, o⟩ := h.t i hi
    obtain ⟨rfl, h10⟩ := kk.of10 c0
    have h1 := begH_w (bud := bud) hi hT T.D m 0 (lenS (h.x i) hi) (fun v hv => (h.x i).len hv) h10 (by omega) (by omega)
    have h2 : wH T m i = 6 * T.D := by unfold wH; rw [c0, wg10]
    exact ⟨by omega, fun _ => by omega⟩
  · rw [if_neg c0]; exact ⟨Nat.le_refl _, fun e => absurd e c0⟩
theorem HInv.stepW (h : HInv T bud m Q O) (hT : T.Ok) (hi : i < T.n) : wH T (stepHm T bud m i) i ≤ wH T m i ∧ ((sv m.S i).pc ≠ 10 → MovH T m i → wH T (stepHm T bud m i) i < wH T m i) ∧ ((sv m.S i).pc = 10 → stepHm T bud m i = m) := by
  rw [and_left_comm]
  suffices hh : wH T (stepHm T bud m i) i < wH T m i ∨ (wH T (stepHm T bud m i) i = wH T m i ∧ ((sv m.S i).pc = 10 ∨ ¬ MovH T m i)) by
    refine ⟨fun h10 hm => ?_, ?_, fun e => by unfold stepHm; rw [if_pos (.inr e)]⟩
    · rcases hh with e | ⟨_, e | e⟩
      · exact e
      · exact absurd e h10
      · exact absurd hm e
    · rcases hh with e | ⟨e, _⟩ <;> omega
  unfold stepHm
  by_cases c0 : (sv m.S i).pc = 0 ∨ (sv m.S i).pc = 10
  · rw [if_pos c0]
    exact .inr ⟨rfl, c0.elim (fun e => .inr fun k => k.1 e) .inl⟩
  rw [if_neg c0]
  have hx := h.x i
  obtain ⟨K, kk, o⟩ := h.t i hi
  obtain ⟨c, hc, hcD, hcK, a0, a10, a14⟩ := TOwn.act kk c0
  have hw0 := wH_at (T := T) (m := m) (i := i) (c := c) rfl hc
  rw [hc]
  simp only [Int.toNat_natCast]
  have hv := hT.plt i c hi hcD
  have hj := hT.slt i c hi hcD
  have hlev : ∀ k, k < T.D → k ≠ c → T.pl i k ≠ T.pl i c := fun k hk hne e => by
    have e1 := hT.lv i k hi hk
    have e2 := hT.lv i c hi hcD
    rw [e] at e1; omega
  obtain ⟨v, hvd⟩ : ∃ v, v = T.pl i c := ⟨_, rfl⟩
  obtain ⟨j, hjd⟩ : ∃ j, j = T.sl i c := ⟨_, rfl⟩
  have hva := hx.va _ _ hv hj
  rw [← hvd] at hv hj hva a0 a10 a14 hlev hw0 ⊢
  rw [← hjd] at hj hva a0 a10 a14 hw0 ⊢
  rw [if_neg (fun e => e.elim a0 a10)]
  have hcc : (sv (m.P v) j).pc = 14 ∨ (sv (m.P v) j).pc = 16 → (sv (m.P v) j).c ≠ 0 := fun e => by
    rcases e with e | e
    · exact a14 e
    · have e1 := hva.1 (.inr (.inr e))
      have e2 := hva.2 (.inr e)
      show (m.sp v j).c ≠ 0
      omega
  obtain ⟨Qn, R⟩ := rungStep (ar := arW (m.W v)) (hx.rg v hv) (hT.nv32 v hv) hj a0 a10 hcc
  obtain ⟨x, hxd⟩ : ∃ x, x = stepP (arW (m.W v)) 1 ((j : Int) + 1) (sv (m.P v) j) := ⟨_, rfl⟩
  have hm1 : rstH m v j = { m with W := updH m.W v x.1.W, P := updH m.P v ((m.P v).set j x.2) } := by rw [hxd]; rfl
  rw [← hxd] at R
  have hlen : j < (m.P v).length := by rw [hx.len hv]; exact hj
  have hsp : ∀ a b, (rstH m v j).sp a b = if a = v ∧ b = j then x.2 else m.sp a b := fun a b => by rw [hm1]; exact sp_slot m v j x.2 hlen a b
  have hs1 : (rstH m v j).sp v j = x.2 := by rw [hsp, if_pos ⟨rfl, rfl⟩]
  have hS : (rstH m v j).S = m.S := rfl
  have hl1 : i < (rstH m v j).S.length := by rw [hS]; exact lenS hx hi
  have hP1 : ∀ w, w < T.np → ((rstH m v j).P w).length = T.nv w := fun w hw => by
    rw [hm1]
    show (updH m.P v ((m.P v).set j x.2) w).length = _
    by_cases e : w = v
    · subst e; rw [updH_eq, List.length_set]; exact hx.len hw
    · rw [updH_ne _ _ e]; exact hx.len hw
  have hsame : ∀ k, k < T.D → k ≠ c → (rstH m v j).sp (T.pl i k) (T.sl i k) = m.sp (T.pl i k) (T.sl i k) := fun k hk hne => by rw [hsp, if_neg (fun e => hlev k hk hne e.1)]
  have hw1 : wH T (rstH m v j) i = wgH T.D (sv m.S i).pc c x.2.pc := by
    have := wH_at (T := T) (m := rstH m v j) (i := i) (s := sv m.S i) (c := c) rfl hc
    rw [← hvd, ← hjd, hs1] at this
    exact this
  have hmv : ∀ k : MovH T m i, ((m.sp v j).pc = 5 → m.sg v j ≠ 0) ∧ ((m.sp v j).pc = 13 → nxv (m.W v) j ≠ 0) := fun k => by
    have := k.2 (fun e => c0 (.inr e)) c hc
    rw [← hvd, ← hjd] at this
    exact this
  rw [hs1]
  cases kk with
  | rest hh => exact absurd (.inl hh) c0
  | hold hh _ => exact absurd (.inr hh) c0
  | come c' hh ha hg hb =>
    obtain rfl : c = c' := by have := hh.2.1; omega
    rw [hh.1] at hw0 hw1
    rw [wg1] at hw0 hw1
    have stay : ¬ ¬ ¬ (x.2.pc = 0 ∨ x.2.pc = 10) → (m.sp v j).pc < x.2.pc → x.2.pc ≤ 6 → wH T (rstH m v j) i < wH T m i := fun _ h1 h2 => by omega
    cases R.case_ with
    | walk e =>
      obtain ⟨e1, e2, _⟩ := e
      have e2' : x.2.pc = (m.sp v j).pc + 1 := e2
      have e1' : (m.sp v j).pc = 1 ∨ (m.sp v j).pc = 2 := e1
      rw [if_pos (by omega)]; exact .inl (by omega)
    | come e =>
      obtain ⟨e1, _, e3⟩ := e
      have e1' : (m.sp v j).pc = 3 := e1
      rw [if_pos (by omega)]; exact .inl (by omega)
    | link e =>
      obtain ⟨e1, e2, _, _⟩ := e
      have e1' : (m.sp v j).pc = 4 := e1
      rw [if_pos (by omega)]; exact .inl (by omega)
    | spin e =>
      obtain ⟨e1, e2, e3, _, _⟩ := e
      have e1' : (m.sp v j).pc = 5 := e1
      rw [if_pos (by omega)]
      exact .inr ⟨by omega, .inr fun k => (hmv k).1 e1' e3⟩
    | told e =>
      obtain ⟨e1, e2, _, _, e5, _, _⟩ := e
      have e1' : (m.sp v j).pc = 5 := e1
      rw [if_neg (fun hn => hn (.inr e2)), if_pos hh.1]
      unfold comeH
      rw [← hvd, ← hjd, hs1, hS, if_pos (.inl e5)]
      refine .inl ?_
      unfold wH at hw0 ⊢
      rw [sv_thr _ _ hl1]
      show wgH T.D 10 _ _ < _
      rw [wg10, hw0]; omega
    | sent e =>
      obtain ⟨e1, e2, _, _, _⟩ := e
      have e1' : (m.sp v j).pc = 5 := e1
      rw [if_pos (by omega)]; exact .inl (by omega)
    | hold e =>
      obtain ⟨e1, e2, e3, e4, _, e6⟩ := e
      have e1' : (m.sp v j).pc = 6 := e1
      rw [if_neg (fun hn => hn (.inr e2)), if_pos hh.1]
      unfold comeH
      rw [← hvd, ← hjd, hs1, hS]
      by_cases hD : c + 1 = T.D
      · rw [if_pos (.inr hD)]
        refine .inl ?_
        unfold wH at hw0 ⊢
        rw [sv_thr _ _ hl1]
        show wgH T.D 10 _ _ < _
        rw [wg10, hw0]; omega
      · rw [if_neg (by omega)]
        have hcD1 : c + 1 < T.D := by omega
        have hv1 := hT.plt i (c + 1) hi hcD1
        have hj1 := hT.slt i (c + 1) hi hcD1
        have hl2 : i < (askH (rstH m v j) (T.pl i (c + 1)) (T.sl i (c + 1))).S.length := by rw [askH_S]; exact hl1
        refine .inl (Nat.lt_of_le_of_lt (Nat.le_of_eq (wH_thr (c := c + 1) hl2 (by show (c : Int) + 1 = ((c + 1 : Nat) : Int); omega))) ?_)
        have hq : 1 ≤ ((askH (rstH m v j) (T.pl i (c + 1)) (T.sl i (c + 1))).sp (T.pl i (c + 1)) (T.sl i (c + 1))).pc := by
          have hnn : 0 ≤ (m.sp (T.pl i (c + 1)) (T.sl i (c + 1))).pc := by
            have r := hx.rg _ hv1
            by_cases hQ : T.sl i (c + 1) ∈ Q (T.pl i (c + 1))
            · rcases r.inq hQ with ⟨_, hp⟩ | ⟨_, _, _, _, _, hp | hp⟩
              · unfold Hm.sp; omega
              · have := hp.1; unfold Hm.sp; omega
              · have := hp.1; unfold Hm.sp; omega
            · exact (r.out _ hj1 hQ).1.1
          rw [← hsame (c + 1) hcD1 (by omega)] at hnn
          by_cases h0 : ((rstH m v j).sp (T.pl i (c + 1)) (T.sl i (c + 1))).pc = 0
          · unfold askH
            rw [if_pos h0, sp_slot _ _ _ _ (by rw [hP1 _ hv1]; exact hj1), if_pos ⟨rfl, rfl⟩]
            show (1 : Int) ≤ 1; decide
          · rw [askH_sp _ (.inr h0)]; omega
        show wgH T.D (sv m.S i).pc (c + 1) _ < _
        rw [hh.1, wg1, hw0]
        omega
    | out e => have : 11 ≤ (m.sp v j).pc := e.1; rw [← hvd, ← hjd] at ha; omega
    | free e => have : (m.sp v j).pc = 12 := e.1; rw [← hvd, ← hjd] at ha; omega
    | give s r e => have : (m.sp v j).pc = 14 ∨ (m.sp v j).pc = 16 := e.1; rw [← hvd, ← hjd] at ha; omega
    | look e => have : (m.sp v j).pc = 15 := e.1; rw [← hvd, ← hjd] at ha; omega
  | granted c' hh ha hb =>
    obtain rfl : c = c' := by have := hh.2.1; omega
    rw [← hvd, ← hjd] at ha
    rw [hh.1, wg1] at hw0
    have ha2 : 0 < sgv (m.W v) j := ha.2
    cases R.case_ with
    | told e =>
      obtain ⟨e1, e2, _, _, e5, _, _⟩ := e
      rw [if_neg (fun hn => hn (.inr e2)), if_pos hh.1]
      unfold comeH
      rw [← hvd, ← hjd, hs1, hS, if_pos (.inl e5)]
      refine .inl ?_
      unfold wH at hw0 ⊢
      rw [sv_thr _ _ hl1]
      show wgH T.D 10 _ _ < _
      rw [wg10, hw0]; omega
    | spin e => have : sgv (m.W v) j = 0 := e.2.2.1; omega
    | sent e => have : sgv (m.W v) j < 0 := e.2.2.1; omega
    | walk e => have : (m.sp v j).pc = 1 ∨ (m.sp v j).pc = 2 := e.1; omega
    | come e => have : (m.sp v j).pc = 3 := e.1; omega
    | link e => have : (m.sp v j).pc = 4 := e.1; omega
    | hold e => have : (m.sp v j).pc = 6 := e.1; omega
    | out e => have : 11 ≤ (m.sp v j).pc := e.1; omega
    | free e => have : (m.sp v j).pc = 12 := e.1; omega
    | give s r e => have : (m.sp v j).pc = 14 ∨ (m.sp v j).pc = 16 := e.1; omega
    | look e => have : (m.sp v j).pc = 15 := e.1; omega
  | pass c' hh ha hb =>
    obtain rfl : c = c' := by have := hh.2.1; omega
    rw [← hvd, ← hjd] at ha
    rw [hh.1] at hw0 hw1
    cases R.case_ with
    | look e =>
      obtain ⟨e1, e2, _, _, _, _⟩ := e
      have e1' : (m.sp v j).pc = 15 := e1
      rw [e1', wg11a] at hw0
      rcases e2 with e2 | e2
      · rw [if_neg (fun hn => hn (.inr e2)), if_neg (by omega), if_neg (by omega)]
        have hbw := begH_w (bud := bud) hi hT T.D (rstH m v j) (c + 1) hl1 hP1 (fun k hk => by
          by_cases e : k = c
          · subst e; rw [← hvd, ← hjd, hs1]; exact e2
          · rw [hsame k hk e]; exact hb k hk e) hh.2.2 (by omega)
        have := hh.2.2
        exact .inl (by omega)
      · rw [if_pos (by omega)]
        rw [wg11b _ _ (by omega)] at hw1
        have := hh.2.2
        exact .inl (by omega)
    | give s r e =>
      obtain ⟨e1, e2, _⟩ := e
      have e1' : (m.sp v j).pc = 14 ∨ (m.sp v j).pc = 16 := e1
      rw [wg11b _ _ (by omega)] at hw0
      rw [if_neg (fun hn => hn (.inl e2)), if_neg (by omega), if_pos e2]
      have hdw := downH_w (m := rstH m v j) hi hT hl1 hP1 hcD (fun k hk => by rw [hsame k (by omega) (by omega)]; exact hb k (by omega) (by omega))
      have := hh.2.2
      exact .inl (by omega)
    | walk e => have : (m.sp v j).pc = 1 ∨ (m.sp v j).pc = 2 := e.1; omega
    | come e => have : (m.sp v j).pc = 3 := e.1; omega
    | link e => have : (m.sp v j).pc = 4 := e.1; omega
    | spin e => have : (m.sp v j).pc = 5 := e.1; omega
    | told e => have : (m.sp v j).pc = 5 := e.1; omega
    | sent e => have : (m.sp v j).pc = 5 := e.1; omega
    | hold e => have : (m.sp v j).pc = 6 := e.1; omega
    | out e => have : 11 ≤ (m.sp v j).pc := e.1; have : (m.sp v j).pc ≤ 13 := e.2.1; omega
    | free e => have : (m.sp v j).pc = 12 := e.1; omega
  | leave c' hh ha hcf hb =>
    obtain rfl : c = c' := by have := hh.2.1; omega
    rw [← hvd, ← hjd] at ha
    rw [hh.1] at hw0 hw1
    rw [wg12] at hw0 hw1
    have hdw := fun hz : x.2.pc = 0 => downH_w (m := rstH m v j) hi hT hl1 hP1 hcD (fun k hk => by rw [hsame k (by omega) (by omega)]; exact hb k hk)
    cases R.case_ with
    | out e =>
      obtain ⟨e1, e2, _, _, _, e6⟩ := e
      have e2' : (m.sp v j).pc ≤ 13 := e2
      rcases e6 with ⟨h1, h2⟩ | ⟨h1, h2, h3⟩
      · have h1' : (m.sp v j).pc < x.2.pc := h1
        rw [if_pos (by omega)]; exact .inl (by omega)
      · have h1' : (m.sp v j).pc = 13 := h1
        rw [if_pos (by omega)]
        exact .inr ⟨by omega, .inr fun k => (hmv k).2 h1' h3⟩
    | free e =>
      obtain ⟨e1, e2, _⟩ := e
      rw [if_neg (fun hn => hn (.inl e2)), if_neg (by omega), if_pos e2]
      have := hdw e2
      exact .inl (by omega)
    | give s r e =>
      obtain ⟨e1, e2, _⟩ := e
      rw [if_neg (fun hn => hn (.inl e2)), if_neg (by omega), if_pos e2]
      have := hdw e2
      exact .inl (by omega)
    | walk e => have : (m.sp v j).pc = 1 ∨ (m.sp v j).pc = 2 := e.1; omega
    | come e => have : (m.sp v j).pc = 3 := e.1; omega
    | link e => have : (m.sp v j).pc = 4 := e.1; omega
    | spin e => have : (m.sp v j).pc = 5 := e.1; omega
    | told e => have : (m.sp v j).pc = 5 := e.1; omega
    | sent e => have : (m.sp v j).pc = 5 := e.1; omega
    | hold e => have : (m.sp v j).pc = 6 := e.1; omega
    | look e => have : (m.sp v j).pc = 15 := e.1; omega
end
end Go.Proofs.YtkdaiomjbkpedaaGreat
end
