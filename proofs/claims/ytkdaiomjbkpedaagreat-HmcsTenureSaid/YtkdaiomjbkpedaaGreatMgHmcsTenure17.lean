/- Joined: Hw8, HwCt, Hw9, Hc5, Hc6, Hc7, Top7. -/
import Derived.Test.YtkdaiomjbkpedaaGreatRows
import Derived.Test.YtkdaiomjbkpedaaGreatMgHmcsTenure4
import Derived.Test.YtkdaiomjbkpedaaGreatMgHmcsTenure7
import Derived.Test.YtkdaiomjbkpedaaGreatMgHmcsTenure16
section
/- Layer 27 (hmcs): Leave, Step. -/
namespace Go.Proofs.YtkdaiomjbkpedaaGreat
open Go.RowKit

section
variable {B : Nat → Prop} {w w' : World} {x : Hx} {T : HTr} {bud : Int} {s s' : Ar} {m : Hm} {Q : Nat → List Nat} {O : Nat → Nat → Option Nat}
theorem rstH_at (m : Hm) {v j : Nat} (hj : j < (m.P v).length) : (rstH m v j).sp v j = (stepP (arW (m.W v)) 1 ((j : Int) + 1) (m.sp v j)).2 := by
  unfold Hm.sp rstH
  show sv (updH m.P v _ v) j = _
  rw [updH_eq, sv_set, if_pos ⟨rfl, hj⟩]
  rfl
theorem rstH_ne (m : Hm) {v u j k : Nat} (h : u ≠ v) : (rstH m v j).sp u k = m.sp u k := by
  unfold Hm.sp rstH
  show sv (updH m.P v _ u) k = _
  rw [updH_ne _ _ h]
theorem HInv.va10 (h : HInv T bud m Q O) (hT : T.Ok) (hb : 0 ≤ bud ∧ bud ≤ 1000) {n k : Nat} (hn : n < T.n) (hk : k < T.D) (h10 : (m.sp (T.pl n k) (T.sl n k)).pc = 10) : 0 ≤ (m.sp (T.pl n k) (T.sl n k)).a ∧ (m.sp (T.pl n k) (T.sl n k)).a ≤ 2000 := by
  have := ((h.x n).va (T.pl n k) (T.sl n k) (hT.plt n k hn hk) (hT.slt n k hn hk)).1 (.inl h10)
  omega
theorem HInv.vaHold (h : HInv T bud m Q O) (hT : T.Ok) (hb : 0 ≤ bud ∧ bud ≤ 1000) {n : Nat} (hn : n < T.n) (h10 : (sv m.S n).pc = 10) : ∀ k, 0 ≤ k → k < T.D → 0 ≤ (m.sp (T.pl n k) (T.sl n k)).a ∧ (m.sp (T.pl n k) (T.sl n k)).a ≤ 2000 := by
  obtain ⟨K, kk, _⟩ := h.t n hn
  exact fun k _ hk => h.va10 hT hb hn hk ((kk.of10 h10).2 k hk)
/-- a slot that was handed on to nobody: the thread goes on one level up -/
theorem HInv.stepUp (h : HInv T bud m Q O) (hT : T.Ok) (hb : 0 ≤ bud ∧ bud ≤ 1000) {n c : Nat} (hn : n < T.n) (h0 : ¬ ((sv m.S n).pc = 0 ∨ (sv m.S n).pc = 10)) (hc : (sv m.S n).c = c) (h1 : (sv m.S n).pc ≠ 1) (hp : ((rstH m (T.pl n c) (T.sl n c)).sp (T.pl n c) (T.sl n c)).pc = 10) :
    c + 1 < T.D ∧ ∀ k, c + 1 ≤ k → k < T.D → 0 ≤ ((rstH m (T.pl n c) (T.sl n c)).sp (T.pl n k) (T.sl n k)).a ∧ ((rstH m (T.pl n c) (T.sl n c)).sp (T.pl n k) (T.sl n k)).a ≤ 2000 := by
  obtain ⟨K, kk, o⟩ := h.t n hn
  cases kk with
  | rest hh => exact absurd (.inl hh) h0
  | come c' hh _ _ _ => exact absurd hh.1 h1
  | granted c' hh _ _ => exact absurd hh.1 h1
  | hold hh _ => exact absurd (.inr hh) h0
  | pass c' hh ha hbb =>
    obtain rfl : c = c' := by have := hh.2.1; omega
    refine ⟨hh.2.2, fun k hk hkD => ?_⟩
    have hne : T.pl n k ≠ T.pl n c := fun e => by
      have e1 := hT.lv n k hn hkD
      have e2 := hT.lv n c hn (by omega)
      rw [e] at e1
      omega
    rw [rstH_ne m hne]
    exact h.va10 hT hb hn hkD (hbb k hkD (by omega))
  | leave c' hh ha hcc hbb =>
    obtain rfl : c = c' := by have := hh.2.1; omega
    exfalso
    have hcD := hh.2.2
    have hv := hT.plt n c hn hcD
    have hj := hT.slt n c hn hcD
    have r := (h.x n).rg _ hv
    have hjl : T.sl n c < (m.P (T.pl n c)).length := by rw [(h.x n).len hv]; exact hj
    rw [rstH_at m hjl] at hp
    have ha' : 11 ≤ (sv (m.P (T.pl n c)) (T.sl n c)).pc ∧ (sv (m.P (T.pl n c)) (T.sl n c)).pc ≤ 14 := ha
    have hc' : (sv (m.P (T.pl n c)) (T.sl n c)).c = if c + 1 = T.D then 1 else -1 := hcc
    obtain ⟨Q', ro⟩ := rungStep (ar := arW (m.W (T.pl n c))) r (hT.nv32 _ hv) hj (by omega) (by omega) (fun _ => by rw [hc']; split <;> decide)
    have hp' : (stepP (arW (m.W (T.pl n c))) 1 ((T.sl n c : Int) + 1) (sv (m.P (T.pl n c)) (T.sl n c))).2.pc = 10 := hp
    cases ro.case_ with
    | walk h => omega
    | come h => omega
    | link h => omega
    | spin h => omega
    | told h => omega
    | sent h => omega
    | hold h => omega
    | out h => omega
    | free h => omega
    | give s r h => omega
    | look h => omega
def leaveI (T : HTr) (bud : Int) (m : Hm) (i : Int) : Hm := if okI m.S i then leaveHm T bud m i.toNat else m
def OpD (B : Nat → Prop) (w : World) (x : Hx) (T : HTr) (bud : Int) (s : Ar) (m' : Hm) (e : Ending) (w' : World) : Prop := ∃ b, e = .returned (.bool b) ∧ HmIs B w' x T bud s m' ∧ Turns (mvL x T) w w'
theorem HmIs.okn (k : HmIs B w x T bud s m) {i : Int} (h : okI m.S i) : ∃ n : Nat, i = n ∧ n < T.n ∧ getS m.S i = sv m.S n ∧ n < m.S.length := by
  obtain ⟨h0, h1⟩ := h
  obtain ⟨n, rfl⟩ := Int.eq_ofNat_of_zero_le h0
  have hl : n < m.S.length := by omega
  exact ⟨n, rfl, by rw [← k.sn]; exact hl, getS_svH hl, hl⟩
set_option maxHeartbeats 1000000 in
theorem leaveHw (k : HmIs B w x T bud s m) (hT : T.Ok) (hI : HInv T bud m Q O) (hb : 0 ≤ bud ∧ bud ≤ 1000) (i : Int) : Calls Tryz.prog 29 #[.pointer (some ⟨x.l, 0, none⟩), .int .i64 i] w (OpD B w x T bud s (leaveI T bud m i)) := by
  have hfield := field_pc
  have H := Lib.hid k
  obtain ⟨p, hpp⟩ : ∃ p, p = getS m.S i := ⟨_, rfl⟩
  have HP := Lib.hid hpp
  by_cases h10 : p.pc = 10
  · have hok : okI m.S i := by
      apply Classical.byContradiction
      intro hn
      rw [getS_out hn] at hpp
      rw [hpp] at h10
      exact absurd h10 (by decide)
    obtain ⟨n, rfl, hn, hg, hl⟩ := k.okn hok
    have hs : (sv m.S n).pc = 10 := by rw [← hg, ← hpp]; exact h10
    have hd := hT.d1
    have HB := Lib.hid (fun W (k' : HmIs B W x T bud s m) => beginHw k' hT hn (k0 := 0) (by omega) hb (hI.vaHold hT hb hn hs))
    have HE : Hid (leaveI T bud m n = begH T bud T.D m n 0) := Lib.hid (by unfold leaveI leaveHm; rw [if_pos hok, Int.toNat_natCast, if_pos hs])
    have y : (p.pc != 10) = false := by simpa using h10
    clear k hpp hok hI hg hs
    go_enter Tryz.func29, Tryz.ntmps29
    go_wp2_with fail
    refine (spotHm H.out n).mono ?_
    rintro en w1 ⟨rfl, b1⟩
    rw [← HP.out]
    unfold spotV
    have H1 := Lib.hid (And.intro (H.out.below b1) b1)
    clear b1
    go_wp2_with fail
    refine (HB.out _ H1.out.1).mono ?_
    rintro en w2 ⟨rfl, h2, t2⟩
    have H2 := Lib.hid (And.intro h2 ((Turns.of_below H1.out.2).trans t2))
    clear h2 t2
    go_wp2
    go_ret
    rw [HE.out]
    exact ⟨true, rfl, H2.out.1, H2.out.2⟩
  · have y : (p.pc != 10) = true := by simpa using h10
    have HE : Hid (leaveI T bud m i = m) := Lib.hid (by
      unfold leaveI
      by_cases hok : okI m.S i
      · obtain ⟨n, rfl, hn, hg, hl⟩ := k.okn hok
        rw [if_pos hok, Int.toNat_natCast]
        unfold leaveHm
        rw [if_neg (by rw [← hg, ← hpp]; exact h10)]
      · rw [if_neg hok])
    clear k hpp h10
    go_enter Tryz.func29, Tryz.ntmps29
    go_wp2_with fail
    refine (spotHm H.out i).mono ?_
    rintro en w1 ⟨rfl, b1⟩
    rw [← HP.out]
    unfold spotV
    have H1 := Lib.hid (And.intro (H.out.below b1) b1)
    clear b1
    go_wp2
    go_ret
    rw [HE.out]
    exact ⟨false, rfl, H1.out.1, Turns.of_below H1.out.2⟩
end
end Go.Proofs.YtkdaiomjbkpedaaGreat
end
section
/- Layer 27 (hmcs): Count. -/
namespace Go.Proofs.YtkdaiomjbkpedaaGreat
open Go.RowKit

section
variable {B : Nat → Prop} {w w' : World} {x : Hx} {T : HTr} {bud : Int} {s s' : Ar} {m : Hm}
def countI (T : HTr) (m : Hm) (i : Int) : Int := if okI m.S i ∧ (getS m.S i).pc = 10 then (m.sp (T.pl i.toNat 0) (T.sl i.toNat 0)).a else 0
set_option maxHeartbeats 1000000 in
theorem countHw (k : HmIs B w x T bud s m) (hT : T.Ok) (i : Int) : Calls Tryz.prog 33 #[.pointer (some ⟨x.l, 0, none⟩), .int .i64 i] w fun e w' => e = .returned (.int .i64 (countI T m i)) ∧ Below w.heap.size w w' := by
  have hfield := field_pc
  have hfield2 := field_a
  have H := Lib.hid k
  have HN := k.fx.n32
  have hd5 := k.fx.d5
  have hd := hT.d1
  obtain ⟨p, hpp⟩ : ∃ p, p = getS m.S i := ⟨_, rfl⟩
  have HP := Lib.hid hpp
  by_cases h10 : p.pc = 10
  · have hok : okI m.S i := by
      apply Classical.byContradiction
      intro hn
      rw [getS_out hn] at hpp
      rw [hpp] at h10
      exact absurd h10 (by decide)
    obtain ⟨n, rfl, hn, hg, hl⟩ := k.okn hok
    have HV := Lib.hid (And.intro (hT.plt n 0 hn (by omega)) (hT.slt n 0 hn (by omega)))
    obtain ⟨u, hu⟩ : ∃ u, u = m.sp (T.pl n 0) (T.sl n 0) := ⟨_, rfl⟩
    have HU := Lib.hid hu
    have HE : Hid (countI T m n = u.a) := Lib.hid (by unfold countI; rw [if_pos ⟨hok, by rw [← hpp]; exact h10⟩, Int.toNat_natCast, ← hu])
    have y : (p.pc != 10) = false := by simpa using h10
    have t2 : ¬ (n : Int) < 0 := by omega
    have t3 : ¬ ((T.n : Nat) : Int) ≤ (n : Int) := by omega
    have g1 : (0 : Int) < T.D := by omega
    have g2 : 0 < T.D := by omega
    clear k hpp hok hg hl hu h10
    go_enter Tryz.func33, Tryz.ntmps33
    go_wp2_with fail
    refine (spotHm H.out n).mono ?_
    rintro en w1 ⟨rfl, b1⟩
    rw [← HP.out]
    unfold spotV
    have k1 := H.out.below b1
    obtain ⟨cl2, cL, cP, cS⟩ := k1.lev hn (show 0 < T.D by omega)
    simp only [Nat.zero_mul, Nat.add_zero] at cP cS
    have H1 := Lib.hid (And.intro k1 b1)
    clear k1 b1
    go_wp2_with fail
    refine ((H1.out.1.alloc _).spot1 HV.out.1 HV.out.2).mono ?_
    rintro en w2 ⟨rfl, b2⟩
    rw [← HU.out]
    unfold spotV
    have H2 := Lib.hid ((H1.out.2.alloc H1.out.2.size _).trans (b2.mono (Nat.le_trans H1.out.2.size (by simp))))
    clear b2
    go_wp2
    go_ret
    exact ⟨ret_int HE.out.symm, H2.out⟩
  · have y : (p.pc != 10) = true := by simpa using h10
    have HE : Hid (countI T m i = 0) := Lib.hid (by unfold countI; rw [if_neg (fun h => h10 (by rw [hpp]; exact h.2))])
    clear k hpp h10
    go_enter Tryz.func33, Tryz.ntmps33
    go_wp2_with fail
    refine (spotHm H.out i).mono ?_
    rintro en w1 ⟨rfl, b1⟩
    rw [← HP.out]
    unfold spotV
    have H1 := Lib.hid b1
    clear b1
    go_wp2
    go_ret
    exact ⟨ret_int HE.out.symm, H1.out⟩
end
end Go.Proofs.YtkdaiomjbkpedaaGreat
end
section
/- Layer 27 (hmcs): Step. -/
namespace Go.Proofs.YtkdaiomjbkpedaaGreat
open Go.RowKit

section
variable {B : Nat → Prop} {w w' : World} {x : Hx} {T : HTr} {bud : Int} {s s' : Ar} {m : Hm} {Q : Nat → List Nat} {O : Nat → Nat → Option Nat}
def stepI (T : HTr) (bud : Int) (m : Hm) (i : Int) : Hm := if okI m.S i then stepHm T bud m i.toNat else m
def OpS (B : Nat → Prop) (w : World) (x : Hx) (T : HTr) (bud : Int) (s : Ar) (m' : Hm) (e : Ending) (w' : World) : Prop := ∃ b s', e = .returned (.bool b) ∧ HmIs B w' x T bud s' m' ∧ s'.ops ≤ s.ops + 1 ∧ Turns (mvL x T) w w'
theorem stepHm_act (T : HTr) (bud : Int) (m : Hm) {n c : Nat} (h0 : ¬ ((sv m.S n).pc = 0 ∨ (sv m.S n).pc = 10)) (hc : (sv m.S n).c = c) (hr : ¬ ((m.sp (T.pl n c) (T.sl n c)).pc = 0 ∨ (m.sp (T.pl n c) (T.sl n c)).pc = 10)) {m1 : Hm} (h1 : m1 = rstH m (T.pl n c) (T.sl n c)) :
    stepHm T bud m n = if ¬ ((m1.sp (T.pl n c) (T.sl n c)).pc = 0 ∨ (m1.sp (T.pl n c) (T.sl n c)).pc = 10) then m1 else if (sv m.S n).pc = 1 then comeH T m1 n c else if (m1.sp (T.pl n c) (T.sl n c)).pc = 0 then downH T m1 n c else begH T bud T.D m1 n (c + 1) := by
  unfold stepHm
  rw [if_neg h0, hc]
  simp only [Int.toNat_natCast]
  rw [if_neg hr, ← h1]
set_option maxRecDepth 100000 in
set_option maxHeartbeats 4000000 in
theorem stepHw (k : HmIs B w x T bud s m) (hT : T.Ok) (hI : HInv T bud m Q O) (hb : 0 ≤ bud ∧ bud ≤ 1000) (ho : s.ops + 1 ≤ 1000000000000) (i : Int) : Calls Tryz.prog 28 #[.pointer (some ⟨x.l, 0, none⟩), .int .i64 i] w (OpS B w x T bud s (stepI T bud m i)) := by
  have hfield := field_pc
  have H := Lib.hid k
  have HN := k.fx.n32
  have hd5 := k.fx.d5
  obtain ⟨p, hpp⟩ : ∃ p, p = getS m.S i := ⟨_, rfl⟩
  have HP := Lib.hid hpp
  by_cases h0 : p.pc = 0 ∨ p.pc = 10
  · have HE : Hid (stepI T bud m i = m) := Lib.hid (by
      unfold stepI
      by_cases hok : okI m.S i
      · obtain ⟨n, rfl, hn, hg, hl⟩ := k.okn hok
        rw [if_pos hok, Int.toNat_natCast]
        unfold stepHm
        rw [if_pos (by rw [← hg, ← hpp]; exact h0)]
      · rw [if_neg hok])
    clear k hpp
    have fin : ∀ w', Below w.heap.size w w' → OpS B w x T bud s (stepI T bud m i) (.returned (.bool false)) w' := fun w' b => ⟨false, s, rfl, by rw [HE.out]; exact H.out.below b, by omega, Turns.of_below b⟩
    have HF := Lib.hid fin
    clear fin
    by_cases h00 : p.pc = 0
    · have y : (p.pc == 0) = true := by simpa using h00
      clear h0 h00
      go_enter Tryz.func28, Tryz.ntmps28
      go_wp2_with fail
      refine (spotHm H.out i).mono ?_
      rintro en w1 ⟨rfl, b1⟩
      rw [← HP.out]
      unfold spotV
      have HB := Lib.hid b1
      clear b1
      go_wp2
      go_ret
      exact HF.out _ HB.out
    · have h1 : p.pc = 10 := h0.resolve_left h00
      have y : (p.pc == 0) = false := by simpa using h00
      have y1 : (p.pc == 10) = true := by simpa using h1
      clear h0 h00 h1
      go_enter Tryz.func28, Tryz.ntmps28
      go_wp2_with fail
      refine (spotHm H.out i).mono ?_
      rintro en w1 ⟨rfl, b1⟩
      rw [← HP.out]
      unfold spotV
      have HB := Lib.hid b1
      clear b1
      go_wp2
      go_ret
      exact HF.out _ HB.out
  · have hok : okI m.S i := by
      apply Classical.byContradiction
      intro hn
      rw [getS_out hn] at hpp
      exact h0 (.inl (by rw [hpp]; rfl))
    obtain ⟨n, rfl, hn, hg, hl⟩ := k.okn hok
    rw [hg] at hpp HP
    have h0' : ¬ ((sv m.S n).pc = 0 ∨ (sv m.S n).pc = 10) := by rw [← hpp]; exact h0
    obtain ⟨K, kk, oo⟩ := hI.t n hn
    obtain ⟨c, hc, hcD, hcK, a0, a10, a14⟩ := TOwn.act kk h0'
    clear kk oo hcK
    have hv := hT.plt n c hn hcD
    have hj := hT.slt n c hn hcD
    have hact : ¬ ((m.sp (T.pl n c) (T.sl n c)).pc = 0 ∨ (m.sp (T.pl n c) (T.sl n c)).pc = 10) := fun h => h.elim a0 a10
    obtain ⟨m1, hm1⟩ : ∃ m1, m1 = rstH m (T.pl n c) (T.sl n c) := ⟨_, rfl⟩
    have hS1 : m1.S = m.S := by rw [hm1]; rfl
    have HEs := stepHm_act T bud m h0' hc hact hm1
    rw [show stepHm T bud m n = stepI T bud m n by unfold stepI; rw [if_pos hok, Int.toNat_natCast]] at HEs
    have hup := fun (e1 : (sv m.S n).pc ≠ 1) (e2 : (m1.sp (T.pl n c) (T.sl n c)).pc = 10) => hI.stepUp hT hb hn h0' hc e1 (by rw [← hm1]; exact e2)
    rw [← hm1] at hup
    have HS0 : ∀ W, HmIs B W x T bud s m → Calls Tryz.prog 62 #[.pointer (some ⟨x.lb (T.pl n c), 0, none⟩), .int .i64 (T.sl n c)] W (S1 B W x T bud s m1 (decide ((m1.sp (T.pl n c) (T.sl n c)).pc = 0 ∨ (m1.sp (T.pl n c) (T.sl n c)).pc = 10))) := fun W k => by
      have := k.step1 hv hj ((hI.x n).rg _ hv) ho
      rw [if_neg hact, if_neg hact, ← hm1] at this
      exact this
    obtain ⟨u, hu⟩ : ∃ u, u = m1.sp (T.pl n c) (T.sl n c) := ⟨_, rfl⟩
    rw [← hu] at HS0 hup HEs
    have y0 : (p.pc == 0) = false := by simpa using fun e => h0 (.inl e)
    have y10 : (p.pc == 10) = false := by simpa using fun e => h0 (.inr e)
    rw [← hpp] at hup HEs hc
    have t2 : ¬ (n : Int) < 0 := by omega
    have t3 : ¬ ((T.n : Nat) : Int) ≤ (n : Int) := by omega
    have g2 : ¬ ((T.D : Nat) : Int) ≤ (c : Int) := by omega
    have HC := Lib.hid (And.intro hpp (And.intro hc (And.intro hS1 (And.intro hv hj))))
    have HU := Lib.hid hu
    have HM := Lib.hid hup
    have HS := Lib.hid HS0
    have HE := Lib.hid HEs
    have hpn : m.S[n]? = some p := by rw [hpp]; exact sv_getH hl
    clear HS0 HEs hup hu hS1 hm1 hact a0 a10 a14 h0' k hpp hg hok hl h0 hI
    go_enter Tryz.func28, Tryz.ntmps28
    go_wp2_with fail
    refine (spotHm H.out n).mono ?_
    rintro en w1 ⟨rfl, b1⟩
    rw [show getS m.S (n : Int) = p from by rw [HC.out.1]; exact getS_svH (by have := (List.getElem?_eq_some_iff.1 hpn).1; exact this)]
    unfold spotV
    have k1 := H.out.below b1
    have K1 := Lib.hid (And.intro k1 (Turns.of_below (S := mvL x T) b1))
    have c3 := k1.l3
    have b3 := (k1.sc hpn).2.2.2
    rw [HC.out.2.1] at b3
    obtain ⟨cl2, cL, cP, cS⟩ := k1.lev hn hcD
    obtain ⟨z1, z2, z3, z4⟩ := k1.lt4 hn hcD
    clear k1 b1
    go_wp2
    go_region
    all_goals
      go_wp2_with fail
      refine (HS.out _ ((K1.out.1.alloc _).drewN _)).mono ?_
      rintro en w2 ⟨rfl, s', k2, ho2, t4⟩
      have hx : Blk w2 w1.heap.size 99 #[.pointer (some ⟨x.lb (T.pl n c), 0, none⟩), .int .i64 (T.sl n c)] := t4.blk (heap_alloc_new w1 _) K1.out.1.new.2
      have K2 := Lib.hid (And.intro k2 (And.intro (K1.out.2.trans ((((Turns.refl (mvL x T) _).alloc _).drewN _).trans t4)) ho2))
      have x0 := hx.cell 0
      have x1 := hx.cell 1
      clear k2 t4 ho2 hx c3 b3 cl2 cL cP cS z1 z2 z3 z4
      by_cases e : u.pc = 0 ∨ u.pc = 10
      · rw [decide_eq_true e]
        go_wp2_with fail
        refine (K2.out.1.spot1 HC.out.2.2.2.1 HC.out.2.2.2.2).mono ?_
        rintro en w3 ⟨rfl, b3⟩
        rw [← HU.out]
        unfold spotV
        have k3 := K2.out.1.below b3
        have K3 := Lib.hid (And.intro k3 (And.intro (K2.out.2.1.trans (Turns.of_below b3)) K2.out.2.2))
        have hcm : (sv m1.S n).c = c := by rw [HC.out.2.2.1, ← HC.out.1]; exact HC.out.2.1
        have hsc := (k3.sc (p := p) (by rw [HC.out.2.2.1]; exact hpn)).2.2.2
        rw [HC.out.2.1] at hsc
        clear k3 b3
        have ne := not_not_intro e
        by_cases e1 : p.pc = 1
        · have y1 : (p.pc == 1) = true := by simpa using e1
          go_wp2_with fail
          refine (comeHw K3.out.1 hT hn hcm hcD).mono ?_
          rintro en w4 ⟨rfl, h4, t4⟩
          have H4 := Lib.hid (And.intro h4 (K3.out.2.1.trans t4))
          have c0 := (h4.sc (sv_getH (show n < _ by rw [h4.sn]; exact hn))).1
          clear h4 t4
          obtain ⟨zz, hz⟩ : ∃ zz, zz = (sv (comeH T m1 n c).S n).pc := ⟨_, rfl⟩
          rw [← hz] at c0
          clear hz
          cases f1 : (zz == 10)
          · cases f2 : (zz == 0)
            · go_wp2
              go_ret
              exact ⟨_, s', rfl, by rw [HE.out, if_neg ne, if_pos e1]; exact H4.out.1, K3.out.2.2, H4.out.2⟩
            · go_wp2
              go_ret
              exact ⟨_, s', rfl, by rw [HE.out, if_neg ne, if_pos e1]; exact H4.out.1, K3.out.2.2, H4.out.2⟩
          · go_wp2
            go_ret
            exact ⟨_, s', rfl, by rw [HE.out, if_neg ne, if_pos e1]; exact H4.out.1, K3.out.2.2, H4.out.2⟩
        · have y1 : (p.pc == 1) = false := by simpa using e1
          by_cases e2 : u.pc = 0
          · have y2 : (u.pc == 0) = true := by simpa using e2
            go_wp2_with fail
            refine (downHw K3.out.1 hT hn hcm hcD).mono ?_
            rintro en w4 ⟨rfl, h4, t4⟩
            have H4 := Lib.hid (And.intro h4 (K3.out.2.1.trans t4))
            have c0 := (h4.sc (sv_getH (show n < _ by rw [h4.sn]; exact hn))).1
            clear h4 t4
            obtain ⟨zz, hz⟩ : ∃ zz, zz = (sv (downH T m1 n c).S n).pc := ⟨_, rfl⟩
            rw [← hz] at c0
            clear hz
            cases f1 : (zz == 10)
            · cases f2 : (zz == 0)
              · go_wp2
                go_ret
                exact ⟨_, s', rfl, by rw [HE.out, if_neg ne, if_neg e1, if_pos e2]; exact H4.out.1, K3.out.2.2, H4.out.2⟩
              · go_wp2
                go_ret
                exact ⟨_, s', rfl, by rw [HE.out, if_neg ne, if_neg e1, if_pos e2]; exact H4.out.1, K3.out.2.2, H4.out.2⟩
            · go_wp2
              go_ret
              exact ⟨_, s', rfl, by rw [HE.out, if_neg ne, if_neg e1, if_pos e2]; exact H4.out.1, K3.out.2.2, H4.out.2⟩
          · have y2 : (u.pc == 0) = false := by simpa using e2
            obtain ⟨hc1, hva⟩ := HM.out e1 (e.resolve_left e2)
            have HBg := Lib.hid (show Calls Tryz.prog 66 #[.pointer (some ⟨x.l, 0, none⟩), .int .i64 n, .int .i64 ((c : Int) + 1)] w3 (VD B w3 x T bud s' (begH T bud T.D m1 n (c + 1))) from beginHw K3.out.1 hT hn (k0 := c + 1) hc1 hb hva)
            clear hva
            go_wp2_with fail
            refine HBg.out.mono ?_
            rintro en w4 ⟨rfl, h4, t4⟩
            have H4 := Lib.hid (And.intro h4 (K3.out.2.1.trans t4))
            have c0 := (h4.sc (sv_getH (show n < _ by rw [h4.sn]; exact hn))).1
            clear h4 t4
            obtain ⟨zz, hz⟩ : ∃ zz, zz = (sv (begH T bud T.D m1 n (c + 1)).S n).pc := ⟨_, rfl⟩
            rw [← hz] at c0
            clear hz
            cases f1 : (zz == 10)
            · cases f2 : (zz == 0)
              · go_wp2
                go_ret
                exact ⟨_, s', rfl, by rw [HE.out, if_neg ne, if_neg e1, if_neg e2]; exact H4.out.1, K3.out.2.2, H4.out.2⟩
              · go_wp2
                go_ret
                exact ⟨_, s', rfl, by rw [HE.out, if_neg ne, if_neg e1, if_neg e2]; exact H4.out.1, K3.out.2.2, H4.out.2⟩
            · go_wp2
              go_ret
              exact ⟨_, s', rfl, by rw [HE.out, if_neg ne, if_neg e1, if_neg e2]; exact H4.out.1, K3.out.2.2, H4.out.2⟩
      · rw [decide_eq_false e]
        go_wp2
        go_ret
        exact ⟨false, s', rfl, by rw [HE.out, if_pos e]; exact K2.out.1, K2.out.2.2, K2.out.2.1⟩
end
end Go.Proofs.YtkdaiomjbkpedaaGreat
end
section
/- Layer 29 (hclh): any act; one holder; who is passed. No program in sight. -/
namespace Go.Proofs.YtkdaiomjbkpedaaGreat
open Go

/-- what an act of i comes to -/
structure StA (n : Nat) (node : Nat → Nat) (p p' : Sp) (i : Nat) (Q Q' : List Nat) : Prop where
  row : p.pc = 1 → p'.pc = 5 → ∃ (t : Nat) (d : Int), t < n ∧ node t = node i ∧ 0 ≤ d ∧ p'.a = tokH t d
  stay : p.pc ≠ 4 → p.pc ≠ 11 → Q' = Q
  splice : p.pc = 4 → (∃ r, Q' = Q ++ i :: r) ∧ (p'.pc = 10 → Q = [])
  gone : p.pc = 11 → Q.head? = some i ∧ Q' = Q.tail
  enter : p'.pc = 10 → p.pc ≠ 10 → p.pc = 4 ∨ (p.pc = 5 ∧ Q.head? = some i)
  next : p'.pc = p.pc ∨ (p.pc = 1 ∧ (p'.pc = 2 ∨ p'.pc = 3 ∨ p'.pc = 5)) ∨ (p.pc = 2 ∧ p'.pc = 3) ∨ (p.pc = 3 ∧ p'.pc = 4) ∨ (p.pc = 4 ∧ (p'.pc = 5 ∨ p'.pc = 10)) ∨ (p.pc = 5 ∧ p'.pc = 10) ∨ (p.pc = 11 ∧ p'.pc = 0) ∨ (p.pc = 0 ∧ p'.pc = 1) ∨ (p.pc = 10 ∧ p'.pc = 11)
def ActR (n : Nat) (node : Nat → Nat) (S S' : List Sp) (I : Int) (Q Q' : List Nat) : Prop :=
  (S' = S ∧ Q' = Q) ∨ ∃ (j : Nat) (p' : Sp), j < n ∧ I = j ∧ S' = S.set j p' ∧ StA n node (sv S j) p' j Q Q'
def actH (nd n : Nat) (dl : Int) (node : Nat → Nat) (h : Hc) (k i : Int) : Hc × Bool :=
  if k = 0 then stepH nd n dl node h i else if k = 1 then beginH h i 0 1 else if k = 2 then beginH h i 10 11 else (h, false)
section
variable {nd n N i : Nat} {dl : Int} {node : Nat → Nat} {h : Hc} {G : Nat → List Nat}
theorem getS_nat {S : List Sp} {j : Nat} (h : j < S.length) : getS S (j : Int) = sv S j := by
  unfold getS; rw [if_pos (by omega)]; rfl
theorem HOk.le (k : HOk nd n dl node h N G) {M : Nat} (hM : N ≤ M) : HOk nd n dl node h M G := ⟨k.iv, by have := k.ops; omega, fun t => by have := k.dn t; omega, k.bb⟩
theorem HOk.stepI (k : HOk nd n dl node h N G) (hN : N < 1000000) (I : Int) : ∃ G', HOk nd n dl node (stepH nd n dl node h I).1 (N + 1) G' ∧ (((stepH nd n dl node h I).1 = h ∧ G' = G ∧ ¬ (okI h.S I ∧ goesH (getS h.S I) = true)) ∨ ∃ (j : Nat) (p' : Sp), j < n ∧ I = j ∧ (stepH nd n dl node h I).1.S = h.S.set j p' ∧ StH n node (sv h.S j) p' j (G 0) (G' 0)) ∧ (stepH nd n dl node h I).1.ar.ops ≤ h.ar.ops + 1 := by
  unfold stepH
  by_cases c : okI h.S I ∧ goesH (getS h.S I) = true
  · rw [if_pos c]
    obtain ⟨⟨h0, h1⟩, hg⟩ := c
    obtain ⟨j, rfl⟩ := Int.eq_ofNat_of_zero_le h0
    have hj : j < h.S.length := by omega
    have hjn : j < n := by rw [← k.iv.sl]; exact hj
    rw [getS_nat hj] at hg ⊢
    simp only [Int.toNat_natCast]
    obtain ⟨G', k', s'⟩ := k.step hN hjn hg _ rfl
    refine ⟨G', k', .inr ⟨j, _, hjn, rfl, rfl, s'⟩, ?_⟩
    unfold stepHp
    repeat' split
    all_goals first
      | exact swapA_ops _ _ _
      | exact isA_ops _ _ _ _
      | exact addA_ops _ _ _
      | exact Nat.le_succ _
  · rw [if_neg c]
    exact ⟨G, k.le (by omega), .inl ⟨rfl, rfl, c⟩, Nat.le_succ _⟩
theorem HOk.beginI (k : HOk nd n dl node h N G) (I f u : Int) (hfu : (f = 0 ∧ u = 1) ∨ (f = 10 ∧ u = 11)) : HOk nd n dl node (beginH h I f u).1 N G ∧ (((beginH h I f u).1 = h ∧ ¬ (okI h.S I ∧ (getS h.S I).pc = f)) ∨ ∃ (j : Nat), j < n ∧ I = j ∧ (sv h.S j).pc = f ∧ (beginH h I f u).1.S = h.S.set j { sv h.S j with pc := u }) ∧ (beginH h I f u).1.ar = h.ar := by
  unfold beginH
  by_cases c : okI h.S I ∧ (getS h.S I).pc = f
  · rw [if_pos c]
    obtain ⟨⟨h0, h1⟩, hg⟩ := c
    obtain ⟨j, rfl⟩ := Int.eq_ofNat_of_zero_le h0
    have hj : j < h.S.length := by omega
    have hjn : j < n := by rw [← k.iv.sl]; exact hj
    rw [getS_nat hj] at hg ⊢
    simp only [Int.toNat_natCast]
    refine ⟨⟨?_, k.ops, k.dn, k.bset hjn (by show u = 2 → _; omega)⟩, .inr ⟨j, hjn, rfl, hg, rfl⟩, by trivial⟩
    rcases hfu with ⟨rfl, rfl⟩ | ⟨rfl, rfl⟩
    · exact k.iv.ask hjn hg rfl
    · exact k.iv.atFrontP hjn (k.iv.atFront hjn (.inl hg)) (.inr rfl)
  · rw [if_neg c]
    exact ⟨k, .inl ⟨rfl, c⟩, rfl⟩
theorem HOk.act (k : HOk nd n dl node h N G) (hN : N < 1000000) (K I : Int) : ∃ G', HOk nd n dl node (actH nd n dl node h K I).1 (N + 1) G' ∧ ActR n node h.S (actH nd n dl node h K I).1.S I (G 0) (G' 0) ∧ (actH nd n dl node h K I).1.ar.ops ≤ h.ar.ops + 1 ∧ (K ≠ 0 → (actH nd n dl node h K I).1.ar.ops = h.ar.ops) := by
  unfold actH
  by_cases c0 : K = 0
  · rw [if_pos c0]
    obtain ⟨G', k', hs, ho⟩ := k.stepI hN I
    refine ⟨G', k', ?_, ho, fun h => absurd c0 h⟩
    rcases hs with ⟨h1, h2, _⟩ | ⟨j, p', h1, h2, h3, s⟩
    · exact .inl ⟨by rw [h1], by rw [h2]⟩
    · refine .inr ⟨j, p', h1, h2, h3, s.row, s.stay, s.splice, s.gone, s.enter, ?_⟩
      rcases s.next with h | h | h | h | h | h | h
      · exact .inl h
      · exact .inr (.inl h)
      · exact .inr (.inr (.inl h))
      · exact .inr (.inr (.inr (.inl h)))
      · exact .inr (.inr (.inr (.inr (.inl h))))
      · exact .inr (.inr (.inr (.inr (.inr (.inl h)))))
      · exact .inr (.inr (.inr (.inr (.inr (.inr (.inl h))))))
  · rw [if_neg c0]
    have fin : ∀ f u : Int, (f = 0 ∧ u = 1) ∨ (f = 10 ∧ u = 11) → ∃ G', HOk nd n dl node (beginH h I f u).1 (N + 1) G' ∧ ActR n node h.S (beginH h I f u).1.S I (G 0) (G' 0) ∧ (beginH h I f u).1.ar.ops ≤ h.ar.ops + 1 ∧ (K ≠ 0 → (beginH h I f u).1.ar.ops = h.ar.ops) := fun f u hfu => by
      obtain ⟨k', hs, ha⟩ := k.beginI I f u hfu
      refine ⟨G, k'.le (by omega), ?_, by rw [ha]; exact Nat.le_succ _, fun _ => by rw [ha]⟩
      rcases hs with ⟨h1, _⟩ | ⟨j, h1, h2, h3, h4⟩
      · exact .inl ⟨by rw [h1], rfl⟩
      · refine .inr ⟨j, _, h1, h2, h4, ⟨fun h => ?_, fun _ _ => rfl, fun h => ?_, fun h => ?_, fun h => ?_, ?_⟩⟩
        · omega
        · omega
        · omega
        · intro _; exfalso; have : u = 10 := h; omega
        · rcases hfu with ⟨rfl, rfl⟩ | ⟨rfl, rfl⟩
          · exact .inr (.inr (.inr (.inr (.inr (.inr (.inr (.inl ⟨h3, rfl⟩)))))))
          · exact .inr (.inr (.inr (.inr (.inr (.inr (.inr (.inr ⟨h3, rfl⟩)))))))
    by_cases c1 : K = 1
    · rw [if_pos c1]; exact fin 0 1 (.inl ⟨rfl, rfl⟩)
    · rw [if_neg c1]
      by_cases c2 : K = 2
      · rw [if_pos c2]; exact fin 10 11 (.inr ⟨rfl, rfl⟩)
      · rw [if_neg c2]; exact ⟨G, k.le (by omega), .inl ⟨rfl, rfl⟩, Nat.le_succ _, fun _ => rfl⟩
/-- one holder at most -/
theorem HOk.hold1 (k : HOk nd n dl node h N G) {a b : Nat} (ha : a < n) (hb : b < n) (h1 : (sv h.S a).pc = 10) (h2 : (sv h.S b).pc = 10) : a = b := by
  have e1 := k.iv.atFront ha (.inl h1)
  have e2 := k.iv.atFront hb (.inl h2)
  rw [e1] at e2
  injection e2
end
def Ahead (Q : List Nat) (k u : Nat) : Prop := Q.idxOf k < Q.idxOf u
section
variable {Q r : List Nat} {k u x : Nat}
theorem ahead_append (hu : u ∈ Q) (h : Ahead (Q ++ r) k u) : Ahead Q k u := by
  unfold Ahead at *
  rw [List.idxOf_append, List.idxOf_append, if_pos hu] at h
  split at h
  · exact h
  · have := List.idxOf_lt_length_iff.2 hu
    omega
theorem ahead_mem (hu : u ∈ Q) (h : Ahead Q k u) : k ∈ Q := by
  unfold Ahead at h
  have := List.idxOf_lt_length_iff.2 hu
  exact List.idxOf_lt_length_iff.1 (by omega)
theorem ahead_cons (hx : x ∉ Q) (hu : u ∈ Q) (h : Ahead Q k u) : Ahead (x :: Q) k u := by
  have hk := ahead_mem hu h
  have e1 : x ≠ k := fun e => hx (e ▸ hk)
  have e2 : x ≠ u := fun e => hx (e ▸ hu)
  have f1 : (x == k) = false := by simpa using e1
  have f2 : (x == u) = false := by simpa using e2
  unfold Ahead at *
  rw [List.idxOf_cons, List.idxOf_cons, f1, f2]
  simp only [cond_false]
  omega
theorem ahead_head (hh : Q.head? = some x) (hu : u ≠ x) : Ahead Q x u := by
  cases Q with
  | nil => simp at hh
  | cons a l =>
    simp at hh
    subst hh
    have f2 : (a == u) = false := by simpa using Ne.symm hu
    unfold Ahead
    rw [List.idxOf_cons_self, List.idxOf_cons, f2]
    simp only [cond_false]
    omega
theorem ahead_irr : ¬ Ahead Q k k := Nat.lt_irrefl _
end
def PInv (n : Nat) (S : List Sp) (Q : List Nat) (P : Nat → Nat → Int) : Prop :=
  ∀ u, u < n → ∀ k, k < n → 0 ≤ P u k → u ∈ Q ∧ (sv S u).pc = 5 ∧ P u k ≤ 1 ∧ (Ahead Q k u → (sv S k).pc = 5 → P u k = 0)
def P1 (P : Nat → Nat → Int) (was now : Int) (u : Nat) : Nat → Nat → Int := fun a b => if (was = 4 ∧ now = 5) ∧ a = u then 0 else P a b
def P2 (P : Nat → Nat → Int) (was now : Int) (u : Nat) : Nat → Nat → Int := fun a b => if was < 10 ∧ now = 10 then if a = u then -1 else if b = u ∧ 0 ≤ P1 P was now u a b then P1 P was now u a b + 1 else P1 P was now u a b else P1 P was now u a b
section
variable {nd n N : Nat} {dl : Int} {node : Nat → Nat} {h h' : Hc} {G G' : Nat → List Nat} {P : Nat → Nat → Int}
theorem PInv.act (k : HOk nd n dl node h N G) (k' : HOk nd n dl node h' (N + 1) G') {j : Nat} {p' : Sp} (hj : j < n) (hS : h'.S = h.S.set j p') (s : StA n node (sv h.S j) p' j (G 0) (G' 0)) (hP : PInv n h.S (G 0) P) :
    PInv n h'.S (G' 0) (P2 P (sv h.S j).pc p'.pc j) ∧ ((sv h.S j).pc < 10 → p'.pc = 10 → ∀ a, a < n → a ≠ j → 0 ≤ P1 P (sv h.S j).pc p'.pc j a j → P1 P (sv h.S j).pc p'.pc j a j = 0) := by
  have hjj : sv h'.S j = p' := by rw [hS]; exact sv_eq (by rw [k.iv.sl]; exact hj)
  have hne : ∀ t, t ≠ j → sv h'.S t = sv h.S t := fun t e => by rw [hS]; exact sv_ne e
  have hnod' := k'.iv.nod 0
  by_cases c4 : (sv h.S j).pc = 4
  · obtain ⟨⟨r, hr⟩, he⟩ := s.splice c4
    have hjQ : j ∉ G 0 := fun hm => by
      rcases k.iv.inG hm with h1 | ⟨_, ⟨_, h1⟩ | ⟨h1, _⟩⟩
      · have := h1.2; omega
      · rcases h1 with h1 | h1 | h1
        · have := h1.1; omega
        · omega
        · omega
      · omega
    have hj5 : (sv h.S j).pc ≠ 5 := by omega
    by_cases c10 : p'.pc = 10
    · have hQ := he c10
      have hneg : ∀ a, a < n → ∀ b, b < n → ¬ 0 ≤ P a b := fun a ha b hb hab => by
        have := (hP a ha b hb hab).1
        rw [hQ] at this; simp at this
      refine ⟨fun u hu b hb hub => ?_, fun _ _ a ha _ hab => ?_⟩
      · have e1 : ∀ a b, P1 P (sv h.S j).pc p'.pc j a b = P a b := fun a b => by unfold P1; rw [if_neg (by omega)]
        unfold P2 at hub
        rw [if_pos ⟨by omega, c10⟩] at hub
        simp only [e1] at hub
        split at hub
        · omega
        · rw [if_neg (fun h => hneg u hu b hb h.2)] at hub
          exact absurd hub (hneg u hu b hb)
      · unfold P1 at hab
        rw [if_neg (by omega)] at hab
        exact absurd hab (hneg a ha j hj)
    · have h5 : p'.pc = 5 := by
        have h7 : ¬ p'.pc = 4 := fun h7 => by
          have := k'.iv.at234 hj (by rw [hjj]; exact .inr (.inr h7))
          have hm : j ∈ G' 0 := by rw [hr]; simp
          have := k'.iv.dj _ _ _ hm (mem_of_head this)
          omega
        rcases s.next with h | h | h | h | h | h | h | h | h <;> omega
      refine ⟨fun u hu b hb hub => ?_, fun _ h => absurd h c10⟩
      have e2 : P2 P (sv h.S j).pc p'.pc j u b = if u = j then 0 else P u b := by
        unfold P2 P1
        rw [if_neg (by omega)]
        by_cases e : u = j
        · rw [if_pos ⟨⟨c4, h5⟩, e⟩, if_pos e]
        · rw [if_neg (fun h => e h.2), if_neg e]
      rw [e2] at hub ⊢
      by_cases e : u = j
      · rw [if_pos e, e, hjj]
        exact ⟨by rw [hr]; simp, h5, by omega, fun _ _ => rfl⟩
      · rw [if_neg e] at hub ⊢
        obtain ⟨h1, h2, h3, h6⟩ := hP u hu b hb hub
        rw [hne u e]
        refine ⟨by rw [hr]; exact List.mem_append_left _ h1, h2, h3, fun ha hb5 => ?_⟩
        rw [hr] at ha
        have ha' := ahead_append h1 ha
        have e3 : b ≠ j := fun e3 => hjQ (e3 ▸ ahead_mem h1 ha')
        rw [hne b e3] at hb5
        exact h6 ha' hb5
  · have e1 : ∀ a b, P1 P (sv h.S j).pc p'.pc j a b = P a b := fun a b => by unfold P1; rw [if_neg (fun h => c4 h.1.1)]
    by_cases c11 : (sv h.S j).pc = 11
    · obtain ⟨hf, hQ⟩ := s.gone c11
      have hnx : ¬ p'.pc = 10 := by have := s.next; omega
      refine ⟨fun u hu b hb hub => ?_, fun h => by omega⟩
      have e2 : P2 P (sv h.S j).pc p'.pc j u b = P u b := by unfold P2; rw [if_neg (fun h => hnx h.2), e1]
      rw [e2] at hub ⊢
      obtain ⟨h1, h2, h3, h6⟩ := hP u hu b hb hub
      have e : u ≠ j := fun e => by rw [e, c11] at h2; omega
      have hjT : j ∉ (G 0).tail := head_not_tail (k.iv.nod 0) hf
      have huT : u ∈ (G 0).tail := by
        rcases mem_ht h1 with h7 | h7
        · rw [hf] at h7; injection h7 with h7; exact absurd h7.symm e
        · exact h7
      rw [hne u e, hQ]
      refine ⟨huT, h2, h3, fun ha hb5 => ?_⟩
      have hbT := ahead_mem huT ha
      have e3 : b ≠ j := fun e3 => hjT (e3 ▸ hbT)
      rw [hne b e3] at hb5
      refine h6 ?_ hb5
      cases hg : G 0 with
      | nil => rw [hg] at hf; simp at hf
      | cons a l =>
        rw [hg] at hf hjT huT ha
        simp at hf
        subst hf
        exact ahead_cons hjT huT ha
    · have hQ := s.stay c4 c11
      by_cases c10 : (sv h.S j).pc < 10 ∧ p'.pc = 10
      · have hf : (G 0).head? = some j := by
          rcases s.enter c10.2 (by omega) with h1 | h1
          · exact absurd h1 c4
          · exact h1.2
        have h5 : (sv h.S j).pc = 5 := by
          rcases s.enter c10.2 (by omega) with h1 | h1
          · exact absurd h1 c4
          · exact h1.1
        have hz : ∀ a, a < n → a ≠ j → 0 ≤ P a j → P a j = 0 := fun a ha e hab => (hP a ha j hj hab).2.2.2 (ahead_head hf e) h5
        refine ⟨fun u hu b hb hub => ?_, fun _ _ a ha e hab => by rw [e1] at hab ⊢; exact hz a ha e hab⟩
        by_cases e : u = j
        · unfold P2 at hub
          rw [if_pos c10, if_pos e] at hub
          omega
        · have e2 : P2 P (sv h.S j).pc p'.pc j u b = if b = j ∧ 0 ≤ P u b then P u b + 1 else P u b := by
            unfold P2; rw [if_pos c10, if_neg e, e1]
          rw [e2] at hub ⊢
          rw [hne u e, hQ]
          by_cases e3 : b = j ∧ 0 ≤ P u b
          · rw [if_pos e3] at hub ⊢
            obtain ⟨rfl, h0⟩ := e3
            obtain ⟨h1, h2, h3, h6⟩ := hP u hu b hb h0
            have := hz u hu e h0
            refine ⟨h1, h2, by omega, fun _ hb5 => ?_⟩
            rw [hjj, c10.2] at hb5
            omega
          · rw [if_neg e3] at hub ⊢
            obtain ⟨h1, h2, h3, h6⟩ := hP u hu b hb hub
            refine ⟨h1, h2, h3, fun ha hb5 => ?_⟩
            have e4 : b ≠ j := fun e4 => e3 ⟨e4, hub⟩
            rw [hne b e4] at hb5
            exact h6 ha hb5
      · refine ⟨fun u hu b hb hub => ?_, fun h1 h2 => absurd ⟨h1, h2⟩ c10⟩
        have e2 : P2 P (sv h.S j).pc p'.pc j u b = P u b := by unfold P2; rw [if_neg c10, e1]
        rw [e2] at hub ⊢
        obtain ⟨h1, h2, h3, h6⟩ := hP u hu b hb hub
        rw [hQ]
        have hp5 : ∀ t, (sv h'.S t).pc = 5 → t ∈ G 0 → (sv h.S t).pc = 5 := fun t h7 ht => by
          by_cases e : t = j
          · subst e
            rw [hjj] at h7
            have := k.iv.inG ht
            have := s.next
            omega
          · rw [hne t e] at h7; exact h7
        refine ⟨h1, ?_, h3, fun ha hb5 => h6 ha (hp5 b hb5 (ahead_mem h1 ha))⟩
        by_cases e : u = j
        · subst e
          rw [hjj]
          have := s.next
          have : ¬ p'.pc = 10 := fun h => c10 ⟨by omega, h⟩
          omega
        · rw [hne u e]; exact h2
end
end Go.Proofs.YtkdaiomjbkpedaaGreat
end
section
/- Layer 29 (hclh): in turn, all come to rest. No program in sight. -/
namespace Go.Proofs.YtkdaiomjbkpedaaGreat
open Go

def wgt (p : Sp) : Nat := if p.pc = 1 then 9 else if p.pc = 2 then 5 + p.b.toNat else if p.pc = 3 then 5 else if p.pc = 4 then 4 else if p.pc = 5 then 3 else if p.pc = 10 then 2 else if p.pc = 11 then 1 else 0
def wsum (f : Sp → Nat) (S : List Sp) : Nat := (S.map f).sum
section
variable {f : Sp → Nat} {S : List Sp} {i : Nat} {p' : Sp}
theorem wsum_set (hi : i < S.length) : wsum f (S.set i p') + f (sv S i) = wsum f S + f p' := by
  induction S generalizing i with
  | nil => simp at hi
  | cons a S ih =>
    cases i with
    | zero => simp [wsum, sv]; omega
    | succ i =>
      have := ih (i := i) (by simpa using hi)
      have e : sv (a :: S) (i + 1) = sv S i := rfl
      rw [e]
      simp only [wsum, List.set_cons_succ, List.map_cons, List.sum_cons] at this ⊢
      omega
theorem wsum_le (B : Nat) (h : ∀ j, j < S.length → f (sv S j) ≤ B) : wsum f S ≤ S.length * B := by
  induction S with
  | nil => simp [wsum]
  | cons a S ih =>
    have h0 : f a ≤ B := h 0 (by simp)
    have := ih fun j hj => h (j + 1) (by simpa using hj)
    simp only [wsum, List.map_cons, List.sum_cons, List.length_cons] at this ⊢
    rw [Nat.succ_mul]; omega
theorem wsum_mem (hi : i < S.length) : f (sv S i) ≤ wsum f S := by
  induction S generalizing i with
  | nil => simp at hi
  | cons a S ih =>
    cases i with
    | zero => simp [wsum, sv]
    | succ i =>
      have := ih (i := i) (by simpa using hi)
      have e : sv (a :: S) (i + 1) = sv S i := rfl
      rw [e]
      simp only [wsum, List.map_cons, List.sum_cons] at this ⊢
      omega
end
/-- one that moves when it is its turn to step -/
def Mov (S : List Sp) (Q : List Nat) (u : Nat) : Prop := (sv S u).pc = 1 ∨ (sv S u).pc = 2 ∨ (sv S u).pc = 3 ∨ (sv S u).pc = 4 ∨ (sv S u).pc = 10 ∨ (sv S u).pc = 11 ∨ ((sv S u).pc = 5 ∧ Q.head? = some u)
section
variable {nd n N i : Nat} {dl : Int} {node : Nat → Nat} {h : Hc} {G : Nat → List Nat}
theorem HOk.wle (k : HOk nd n dl node h N G) (hd : dl ≤ 3) (hi : i < n) : wgt (sv h.S i) ≤ 9 := by
  unfold wgt
  have := k.bb i hi
  repeat' split
  all_goals omega
theorem HOk.wz (k : HOk nd n dl node h N G) (hi : i < n) (hz : wgt (sv h.S i) = 0) : (sv h.S i).pc = 0 := by
  unfold wgt at hz
  have := k.pcs hi
  repeat' split at hz
  all_goals omega
theorem HOk.someMov (k : HOk nd n dl node h N G) : (∀ t, t < n → (sv h.S t).pc = 0) ∨ ∃ u, u < n ∧ Mov h.S (G 0) u := by
  rcases Classical.em (∀ t, t < n → (sv h.S t).pc = 0) with e | e
  · exact .inl e
  · refine .inr ?_
    obtain ⟨t, ht⟩ := Classical.not_forall.1 e
    obtain ⟨htn, hp⟩ := Classical.not_imp.1 ht
    rcases k.pcs htn with h0 | h0 | h0 | h0 | h0 | h0 | h0 | h0
    · exact absurd h0 hp
    · exact ⟨t, htn, .inl h0⟩
    · exact ⟨t, htn, .inr (.inl h0)⟩
    · exact ⟨t, htn, .inr (.inr (.inl h0))⟩
    · exact ⟨t, htn, .inr (.inr (.inr (.inl h0)))⟩
    · rcases k.iv.at5 htn h0 with ⟨j, p, h1, h2, _⟩ | ⟨h1, _⟩
      · cases j with
        | zero =>
          cases hg : G 0 with
          | nil => rw [hg] at h2; simp at h2
          | cons a l =>
            have hh : (G 0).head? = some a := by rw [hg]; rfl
            have han := k.iv.lt 0 a (mem_of_head hh)
            refine ⟨a, han, ?_⟩
            rcases k.iv.front a hh with ⟨h3, _⟩ | h3 | h3
            · exact .inr (.inr (.inr (.inr (.inr (.inr ⟨h3, rfl⟩)))))
            · exact .inr (.inr (.inr (.inr (.inl h3))))
            · exact .inr (.inr (.inr (.inr (.inr (.inl h3)))))
        | succ m =>
          have hne : G (m + 1) ≠ [] := by intro e; rw [e] at h2; simp at h2
          have hmn := k.iv.lt _ m (mem_of_head (k.iv.first m hne))
          refine ⟨m, hmn, ?_⟩
          rcases k.iv.mast m hne with ⟨⟨h3, _⟩ | h3, _⟩ | ⟨h3, _⟩
          · exact .inr (.inl h3)
          · exact .inr (.inr (.inl h3))
          · exact .inr (.inr (.inr (.inl h3)))
      · exact ⟨t, htn, .inr (.inr (.inr (.inr (.inr (.inr ⟨h0, h1⟩)))))⟩
    · exact ⟨t, htn, .inr (.inr (.inr (.inr (.inl h0))))⟩
    · exact ⟨t, htn, .inr (.inr (.inr (.inr (.inr (.inl h0)))))⟩
/-- a step and a leave of i: no weight more, less if i moves; whoever else moves still does -/
theorem HOk.turn (k : HOk nd n dl node h N G) (hN : N < 1000000) (hd : dl ≤ 3) (hi : i < n) (h1 h2 : Hc) (e1 : h1 = (stepH nd n dl node h i).1) (e2 : h2 = (beginH h1 i 10 11).1) :
    ∃ G', HOk nd n dl node h2 (N + 1) G' ∧ wsum wgt h2.S ≤ wsum wgt h.S ∧ (Mov h.S (G 0) i → wsum wgt h2.S < wsum wgt h.S) ∧ (∀ u, u < n → u ≠ i → Mov h.S (G 0) u → Mov h2.S (G' 0) u) := by
  obtain ⟨G', k1, hs, _⟩ := k.stepI hN i
  rw [← e1] at k1 hs
  obtain ⟨k2, hb, _⟩ := k1.beginI i 10 11 (.inr ⟨rfl, rfl⟩)
  rw [← e2] at k2 hb
  have hl : i < h.S.length := by rw [k.iv.sl]; exact hi
  have hl1 : i < h1.S.length := by rw [k1.iv.sl]; exact hi
  have w2 : wsum wgt h2.S ≤ wsum wgt h1.S ∧ ((sv h1.S i).pc = 10 → wsum wgt h2.S < wsum wgt h1.S) ∧ (∀ u, u ≠ i → sv h2.S u = sv h1.S u) := by
    rcases hb with ⟨rfl, hb⟩ | ⟨j, hj, hij, h3, h4⟩
    · refine ⟨Nat.le_refl _, fun h3 => absurd ?_ hb, fun _ _ => rfl⟩
      refine ⟨⟨by omega, by omega⟩, ?_⟩
      rw [getS_nat hl1]; exact h3
    · obtain rfl : i = j := by omega
      have := wsum_set (f := wgt) (p' := { sv h1.S i with pc := 11 }) hl1
      have f1 : wgt (sv h1.S i) = 2 := by unfold wgt; simp [h3]
      have f2 : wgt ({ sv h1.S i with pc := 11 } : Sp) = 1 := rfl
      rw [h4]
      refine ⟨by omega, fun _ => by omega, fun u hu => sv_ne hu⟩
  rcases hs with ⟨rfl, rfl, hg⟩ | ⟨j, p', hj, hij, hS, s⟩
  · refine ⟨G', k2, w2.1, fun hm => ?_, fun u _ hu hm => ?_⟩
    · refine w2.2.1 ?_
      have hg' : ¬ goesH (sv h1.S i) = true := fun h3 => hg ⟨⟨by omega, by omega⟩, by rw [getS_nat hl]; exact h3⟩
      rw [goes_iff] at hg'
      unfold Mov at hm
      omega
    · unfold Mov; rw [w2.2.2 u hu]; exact hm
  · obtain rfl : i = j := by omega
    have hii : sv h1.S i = p' := by rw [hS]; exact sv_eq hl
    have hwle : wgt p' ≤ wgt (sv h.S i) ∧ (Mov h.S (G 0) i → wgt p' < wgt (sv h.S i)) := by
      have hb1 := k1.bb i hi
      rw [hii] at hb1
      by_cases h5 : (sv h.S i).pc = 5
      · have f1 : wgt (sv h.S i) = 3 := by unfold wgt; simp [h5]
        rw [f1]
        have hp : p'.pc = 5 ∨ p'.pc = 10 := by have := s.next; omega
        rcases hp with hp | hp
        · have f2 : wgt p' = 3 := by unfold wgt; simp [hp]
          refine ⟨by omega, fun hm => ?_⟩
          have hh : (G 0).head? = some i := by
            rcases hm with h3 | h3 | h3 | h3 | h3 | h3 | h3
            · omega
            · omega
            · omega
            · omega
            · omega
            · omega
            · exact h3.2
          have := s.look h5 hh
          omega
        · have f2 : wgt p' = 2 := by unfold wgt; simp [hp]
          exact ⟨by omega, fun _ => by omega⟩
      · have hlt : wgt p' < wgt (sv h.S i) := by
          rcases s.next with h3 | h3 | h3 | h3 | h3 | h3 | h3
          · obtain ⟨h4, h6, h7⟩ := s.less h5 h3
            have f1 : wgt p' = 5 + p'.b.toNat := by unfold wgt; simp [h4]
            have f2 : wgt (sv h.S i) = 5 + (sv h.S i).b.toNat := by unfold wgt; rw [if_neg (by omega), if_pos (by omega)]
            omega
          · have f1 : wgt (sv h.S i) = 9 := by unfold wgt; simp [h3.1]
            rw [f1]
            unfold wgt
            repeat' split
            all_goals omega
          · have f1 : wgt p' = 5 := by unfold wgt; simp [h3.2]
            have f2 : wgt (sv h.S i) = 5 + (sv h.S i).b.toNat := by unfold wgt; simp [h3.1]
            have := k.iv.mast i (ne_of_head (k.iv.at234 hi (.inl h3.1)))
            omega
          · have f1 : wgt p' = 4 := by unfold wgt; simp [h3.2]
            have f2 : wgt (sv h.S i) = 5 := by unfold wgt; simp [h3.1]
            omega
          · have f2 : wgt (sv h.S i) = 4 := by unfold wgt; simp [h3.1]
            rcases h3.2 with h4 | h4
            · have f1 : wgt p' = 3 := by unfold wgt; simp [h4]
              omega
            · have f1 : wgt p' = 2 := by unfold wgt; simp [h4]
              omega
          · omega
          · have f1 : wgt p' = 0 := by unfold wgt; simp [h3.2]
            have f2 : wgt (sv h.S i) = 1 := by unfold wgt; simp [h3.1]
            omega
        exact ⟨by omega, fun _ => hlt⟩
    have hw := wsum_set (f := wgt) (p' := p') hl
    rw [← hS] at hw
    refine ⟨G', k2, by omega, fun hm => by have := hwle.2 hm; omega, fun u hun hu hm => ?_⟩
    have hu1 : sv h1.S u = sv h.S u := by rw [hS]; exact sv_ne hu
    unfold Mov
    rw [w2.2.2 u hu, hu1]
    have hm' := hm
    rcases hm with h3 | h3 | h3 | h3 | h3 | h3 | ⟨h3, h4⟩
    · exact .inl h3
    · exact .inr (.inl h3)
    · exact .inr (.inr (.inl h3))
    · exact .inr (.inr (.inr (.inl h3)))
    · exact .inr (.inr (.inr (.inr (.inl h3))))
    · exact .inr (.inr (.inr (.inr (.inr (.inl h3)))))
    · refine .inr (.inr (.inr (.inr (.inr (.inr ⟨h3, ?_⟩)))))
      by_cases c4 : (sv h.S i).pc = 4
      · obtain ⟨⟨r, hr⟩, _⟩ := s.splice c4
        rw [hr]
        cases hg : G 0 with
        | nil => rw [hg] at h4; simp at h4
        | cons a l => rw [hg] at h4; simpa using h4
      · by_cases c11 : (sv h.S i).pc = 11
        · have := (s.gone c11).1
          rw [h4] at this
          injection this with this
          exact absurd this hu
        · rw [s.stay c4 c11]; exact h4
/-- within a round: less than ahead of it, or somebody who moves is still to step, or all are at rest -/
def RdI (n : Nat) (S : List Sp) (Q : List Nat) (M i : Nat) : Prop := (wsum wgt S = 0) ∨ wsum wgt S < M ∨ (wsum wgt S ≤ M ∧ ∃ u, i ≤ u ∧ u < n ∧ Mov S Q u)
theorem HOk.rd0 (k : HOk nd n dl node h N G) : RdI n h.S (G 0) (wsum wgt h.S) 0 := by
  rcases k.someMov with h0 | ⟨u, hu, hm⟩
  · refine .inl ?_
    have := wsum_le (f := wgt) (S := h.S) 0 fun j hj => by
      have := h0 j (by rw [← k.iv.sl]; exact hj)
      unfold wgt; simp [this]
    simpa using this
  · exact .inr (.inr ⟨Nat.le_refl _, u, Nat.zero_le _, hu, hm⟩)
theorem HOk.rdNext (k : HOk nd n dl node h N G) (hN : N < 1000000) (hd : dl ≤ 3) (hi : i < n) {M : Nat} (hr : RdI n h.S (G 0) M i) (h1 h2 : Hc) (e1 : h1 = (stepH nd n dl node h i).1) (e2 : h2 = (beginH h1 i 10 11).1) :
    ∃ G', HOk nd n dl node h2 (N + 1) G' ∧ RdI n h2.S (G' 0) M (i + 1) := by
  obtain ⟨G', k', w1, w2, w3⟩ := k.turn hN hd hi h1 h2 e1 e2
  refine ⟨G', k', ?_⟩
  rcases hr with h0 | h0 | ⟨h0, u, hu, hun, hm⟩
  · exact .inl (by omega)
  · exact .inr (.inl (by omega))
  · by_cases e : u = i
    · subst e
      have := w2 hm
      exact .inr (.inl (by omega))
    · exact .inr (.inr ⟨by omega, u, by omega, hun, w3 u hun e hm⟩)
theorem RdI.last {S : List Sp} {Q : List Nat} {M : Nat} (h : RdI n S Q M n) : wsum wgt S = 0 ∨ wsum wgt S < M := by
  rcases h with h0 | h0 | ⟨_, u, hu, hun, _⟩
  · exact .inl h0
  · exact .inr h0
  · omega
theorem HOk.rest (k : HOk nd n dl node h N G) (hz : wsum wgt h.S = 0) (hi : i < n) : (sv h.S i).pc = 0 := by
  refine k.wz hi ?_
  have := wsum_mem (f := wgt) (S := h.S) (i := i) (by rw [k.iv.sl]; exact hi)
  omega
theorem HOk.wtop (k : HOk nd n dl node h N G) (hd : dl ≤ 3) : wsum wgt h.S ≤ n * 9 := by
  have := wsum_le (f := wgt) (S := h.S) 9 fun j hj => k.wle hd (by rw [← k.iv.sl]; exact hj)
  rw [k.iv.sl] at this
  exact this
end
end Go.Proofs.YtkdaiomjbkpedaaGreat
end
section
/- Layer 29 (hclh): the machine at its start; how many hold. No program in sight. -/
namespace Go.Proofs.YtkdaiomjbkpedaaGreat
open Go

theorem getD_rep {α : Type} (a : α) (n i : Nat) : (List.replicate n a).getD i a = a := by
  rw [List.getD_eq_getElem?_getD, List.getElem?_replicate]
  split <;> rfl
theorem sv_rep (n i : Nat) : sv (List.replicate n Sp.zero) i = Sp.zero := getD_rep _ _ _
section
variable {nd n N : Nat} {dl : Int} {node : Nat → Nat} {h : Hc} {G : Nat → List Nat}
theorem HOk.start (s : Ar) (hn : n ≤ 32) (hnn : ∀ t, t < n → node t < nd) (hs : s.ops = 0) (hW : s.W = List.replicate (1 + nd + n) 0) :
    HOk nd n dl node ⟨s, List.replicate 32 0, List.replicate n Sp.zero⟩ 0 fun _ => [] := by
  have z : ∀ t, (sv (List.replicate n Sp.zero) t).pc = 0 := fun t => by rw [sv_rep]; rfl
  have d : ∀ t, dv (List.replicate 32 0) t = 0 := fun t => getD_rep _ _ _
  refine ⟨⟨?_, ?_, ?_, hn, hnn, ?_, ?_, ?_, ?_, ?_, ?_, ?_, ?_, ?_, ?_, ?_, ?_, ?_, ?_⟩, by show s.ops ≤ 0; omega, fun t => by rw [d]; exact Int.le_refl _, fun t _ h2 => ?_⟩
  · rw [hW]; simp
  · simp
  · simpa using hn
  · intro t _
    show tnw nd s.W t = _
    rw [hW, d]; exact getD_rep _ _ _
  · intro t; show 0 ≤ dv (List.replicate 32 0) t; rw [d]; exact Int.le_refl _
  · intro _; exact List.nodup_nil
  · intro _ _ t h1; cases h1
  · intro _ t h1; cases h1
  · intro _; trivial
  · intro t _ _; exact .inl (z t)
  · intro m hm; exact absurd rfl hm
  · intro _ t h1; cases h1
  · intro m hm; exact absurd rfl hm
  · intro m _ hm; exact absurd rfl hm
  · intro v _; refine .inl ?_; rw [hW]; exact getD_rep _ _ _
  · intro t h1; cases h1
  · refine .inr ⟨rfl, .inl ?_⟩; rw [hW]; exact getD_rep _ _ _
  · have := z t
    have h2' : (sv (List.replicate n Sp.zero) t).pc = 2 := h2
    omega
def holdC (S : List Sp) (k : Nat) : Nat := (List.range k).countP fun j => decide ((sv S j).pc = 10)
theorem holdC_succ (S : List Sp) (k : Nat) : holdC S (k + 1) = holdC S k + if (sv S k).pc = 10 then 1 else 0 := by
  unfold holdC; rw [List.range_succ, List.countP_append]; simp [List.countP_cons]
/-- one at most holds, of those who are counted -/
theorem hold_one {S : List Sp} (hu : ∀ a b, a < n → b < n → (sv S a).pc = 10 → (sv S b).pc = 10 → a = b) : ∀ k, k ≤ n → holdC S k ≤ 1 ∧ (1 ≤ holdC S k → ∃ j, j < k ∧ (sv S j).pc = 10)
  | 0, _ => ⟨by simp [holdC], fun h => by simp [holdC] at h⟩
  | k + 1, hk => by
    obtain ⟨h1, h2⟩ := hold_one hu k (by omega)
    rw [holdC_succ]
    by_cases hb : (sv S k).pc = 10
    · rw [if_pos hb]
      have h0 : holdC S k = 0 := by
        rcases Nat.eq_zero_or_pos (holdC S k) with h0 | h0
        · exact h0
        · obtain ⟨j, hj, hjq⟩ := h2 h0
          have := hu j k (by omega) (by omega) hjq hb
          omega
      exact ⟨by omega, fun _ => ⟨k, by omega, hb⟩⟩
    · rw [if_neg hb]
      exact ⟨by omega, fun h => by obtain ⟨j, hj, hq⟩ := h2 (by omega); exact ⟨j, by omega, hq⟩⟩
theorem HOk.holds (k : HOk nd n dl node h N G) (m : Nat) (hm : m ≤ n) : holdC h.S m ≤ 1 := (hold_one (fun _ _ ha hb h1 h2 => k.hold1 ha hb h1 h2) m hm).1
end
end Go.Proofs.YtkdaiomjbkpedaaGreat
end
section
/- Layer 6, the document's: Has, leaf, deep, Few. -/
namespace Go.Proofs.YtkdaiomjbkpedaaGreat
open Go.RowKit

set_option maxHeartbeats 1000000 in
theorem has_any (w : World) (v : Value) (l : List Int) (x : Int) (h : RdL w v 1 encI l) :
    Calls Tryz.prog 122 #[v, .int .i64 x] w fun e w' => e = .returned (.bool (decide (x ∈ l))) ∧ w = w' := by
  obtain ⟨A, cap, rfl, l1, l2, hr⟩ := h
  have HR := Lib.hid hr
  clear hr
  go_enter Tryz.func122, Tryz.ntmps122
  go_wp2
  go_loop [5] (fun i => ∃ k : Nat, i = .int .i64 k ∧ k ≤ l.length ∧ x ∉ l.take k) (fun i => l.length - (intOf i).toNat)
  case atStart => exact ⟨0, rfl, by omega, by simp⟩
  case round =>
    obtain ⟨k, rfl, hk, hn⟩ := hrel
    by_cases hlt : k < l.length
    · obtain ⟨bl, off, rfl, hbl, hc⟩ := HR.out (by omega)
      obtain ⟨y, hy⟩ := getElem?_lt hlt
      have c0 := hc k y hy 0 _ rfl
      simp only [Nat.add_zero, Nat.mul_one] at c0
      have HY := Lib.hid (And.intro hy hn)
      clear hc hy hn
      cases hxy : (y == x)
      · have hne : Hid (x ∉ l.take (k + 1)) := Lib.hid (by
          rw [mem_take HY.out.1]
          rintro (h | h)
          · exact HY.out.2 h
          · rw [h] at hxy; simp at hxy)
        go_wp2
        go_round
        case rel => exact ⟨k + 1, by go_num, by omega, hne.out⟩
        case measure => simp [intOf]; omega
      · have hid : Hid (x ∈ l) := Lib.hid (by rw [← beq_iff_eq.1 hxy]; exact List.mem_of_getElem? HY.out.1)
        go_wp2
        go_ret
        exact ⟨ret_bool (decide_eq_true hid.out).symm, rfl⟩
    · obtain rfl : k = l.length := by omega
      rw [List.take_length] at hn
      have hid : Hid (x ∉ l) := Lib.hid hn
      clear hn
      go_wp2
      go_ret
      exact ⟨ret_bool (decide_eq_false hid.out).symm, rfl⟩
theorem rleaf_any (w : World) (v : Value) (P : List Int) (x : Int) (h : RdL w v 1 encI P) :
    Calls Tryz.prog 84 #[v, .int .i64 x] w fun e w' => e = .returned (.bool (leafB P x)) ∧ w = w' := by
  have HH := Lib.hid (has_any w v P x h)
  obtain ⟨A, cap, rfl, l1, l2, hr⟩ := h
  clear hr
  have HL := Lib.hid (show leafB P x = (decide (0 ≤ x) && decide (x < P.length) && !decide (x ∈ P)) from by
    unfold leafB
    by_cases h1 : 0 ≤ x <;> by_cases h2 : x < P.length <;> by_cases h3 : x ∈ P <;> simp [h1, h2, h3])
  go_enter Tryz.func84, Tryz.ntmps84
  cases h1 : decide (0 ≤ x)
  · rw [h1] at HL
    have h1' : ¬ 0 ≤ x := of_decide_eq_false h1
    go_wp2
    go_ret
    exact ⟨ret_bool HL.out.symm, rfl⟩
  · cases h2 : decide (x < P.length)
    · rw [h1, h2] at HL
      have h1' : 0 ≤ x := of_decide_eq_true h1
      have h2' : ¬ x < P.length := of_decide_eq_false h2
      go_wp2
      go_ret
      exact ⟨ret_bool HL.out.symm, rfl⟩
    · rw [h1, h2] at HL
      have h1' : 0 ≤ x := of_decide_eq_true h1
      have h2' : x < P.length := of_decide_eq_true h2
      cases h3 : decide (x ∈ P)
      · rw [h3] at HL HH
        clear h3
        go_wp2_with (go_at_call 122; refine HH.out.mono ?_; rintro e w' ⟨rfl, rfl⟩)
        go_ret
        exact ⟨ret_bool HL.out.symm, rfl⟩
      · rw [h3] at HL HH
        clear h3
        go_wp2_with (go_at_call 122; refine HH.out.mono ?_; rintro e w' ⟨rfl, rfl⟩)
        go_ret
        exact ⟨ret_bool HL.out.symm, rfl⟩
theorem dep_stop {P : List Int} {f : Nat} {v : Int} (h : ¬ (0 ≤ v ∧ v < P.length)) : dep P f v = 0 := by
  cases f with
  | zero => rfl
  | succ f => unfold dep; rw [if_neg h]
theorem dep_go {P : List Int} {f : Nat} {v p : Int} (h0 : 0 ≤ v) (hp : P[v.toNat]? = some p) : dep P (f + 1) v = dep P f p + 1 := by
  have := (List.getElem?_eq_some_iff.1 hp).1
  show (if 0 ≤ v ∧ v < P.length then dep P f (P.getD v.toNat 0) + 1 else 0) = _
  rw [if_pos (by omega), getD_of hp]
set_option maxHeartbeats 1000000 in
theorem rdeep_any (w : World) (v : Value) (P : List Int) (x : Int) (h : RdL w v 1 encI P) :
    Calls Tryz.prog 85 #[v, .int .i64 x] w fun e w' => e = .returned (.int .i64 ((depL P x : Nat) : Int)) ∧ w = w' := by
  obtain ⟨A, cap, rfl, l1, l2, hr⟩ := h
  have HR := Lib.hid hr
  clear hr
  go_enter Tryz.func85, Tryz.ntmps85
  go_wp2
  go_loop [1, 5, 6] (fun y m i => ∃ (k n : Nat) (z : Int), i = .int .i64 k ∧ m = .int .i64 n ∧ y = .int .i64 z ∧ k ≤ P.length ∧ n ≤ k ∧ n + dep P (P.length - k) z = depL P x) (fun _ _ i => P.length - (intOf i).toNat)
  case atStart => exact ⟨0, 0, x, rfl, rfl, rfl, by omega, by omega, by simp [depL]⟩
  case round =>
    obtain ⟨k, n, z, rfl, rfl, rfl, hk, hn, hd⟩ := hrel
    have HD := Lib.hid hd
    clear hd
    by_cases hlt : k < P.length
    · by_cases h0 : 0 ≤ z
      · by_cases h1 : z < P.length
        · obtain ⟨bl, off, rfl, hbl, hc⟩ := HR.out (by omega)
          obtain ⟨m, rfl⟩ := Int.eq_ofNat_of_zero_le h0
          obtain ⟨p, hp⟩ := getElem?_lt (show m < P.length by omega)
          have c0 := hc m p hp 0 _ rfl
          simp only [Nat.add_zero, Nat.mul_one] at c0
          have HN := Lib.hid (show n + 1 + dep P (P.length - (k + 1)) p = depL P x from by
            have := HD.out
            rw [show P.length - k = P.length - (k + 1) + 1 by omega, dep_go (by omega) (by simpa using hp)] at this
            omega)
          clear hc hp
          go_wp2
          go_round
          case rel => exact ⟨k + 1, n + 1, p, by go_num, by go_num, rfl, by omega, by omega, HN.out⟩
          case measure => simp [intOf]; omega
        · have HE := Lib.hid (show n = depL P x from by have := HD.out; rw [dep_stop (by omega)] at this; omega)
          go_wp2
          go_ret
          exact ⟨ret_int (by rw [HE.out]), rfl⟩
      · have HE := Lib.hid (show n = depL P x from by have := HD.out; rw [dep_stop (by omega)] at this; omega)
        go_wp2
        go_ret
        exact ⟨ret_int (by rw [HE.out]), rfl⟩
    · have HE := Lib.hid (show n = depL P x from by have := HD.out; rw [show P.length - k = 0 by omega] at this; exact this)
      go_wp2
      go_ret
      exact ⟨ret_int (by rw [HE.out]), rfl⟩
end Go.Proofs.YtkdaiomjbkpedaaGreat
end
