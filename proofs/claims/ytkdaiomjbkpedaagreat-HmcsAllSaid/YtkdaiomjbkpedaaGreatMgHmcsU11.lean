/- Joined: Hw6, Hw7, Hw8, Hw9, Fld1, Fld2, Ar4. -/
import Derived.ScopeJumps
import Derived.WalkMore
import Derived.Test.YtkdaiomjbkpedaaGreatRows
import Derived.Tactics
import Derived.RegionCalls
import Derived.Deep.QuietTactic
import Derived.BigQuiet
import Derived.Laws.BitsAllLaws
import Derived.Test.YtkdaiomjbkpedaaGreatMgHmcsU1
import Derived.Test.YtkdaiomjbkpedaaGreatMgHmcsU3
import Derived.Test.YtkdaiomjbkpedaaGreatMgHmcsU10
section
/- Layer 27 (hmcs): come. -/
namespace Go.Proofs.YtkdaiomjbkpedaaGreat
open Go.RowKit

theorem field_a (a b c d : Int) (w : World) : (Instr.field 35 (.agg #[.int .i64 a, .int .i64 b, .int .i64 c, .int .i64 d]) 1).run Tryz.prog w = .ok (.int .i64 b) w := by kernel_rfl
theorem field_b (a b c d : Int) (w : World) : (Instr.field 35 (.agg #[.int .i64 a, .int .i64 b, .int .i64 c, .int .i64 d]) 2).run Tryz.prog w = .ok (.int .i64 c) w := by kernel_rfl
theorem Turns.transNew {M S : List Nat} {a b c : World} (h : Turns M a b) (k : Turns S b c) (hS : ∀ i ∈ S, a.heap.size ≤ i) : Turns M a c :=
  ⟨k.os.trans h.os, k.tape.trans h.tape, k.output.trans h.output, Nat.le_trans h.size k.size, fun i hi hn => (k.block i (Nat.lt_of_lt_of_le hi h.size) (fun hm => absurd (hS i hm) (by omega))).trans (h.block i hi hn)⟩
section
variable {B : Nat → Prop} {w w' : World} {x : Hx} {T : HTr} {bud : Int} {s s' : Ar} {m : Hm}
set_option maxRecDepth 100000 in
set_option maxHeartbeats 2000000 in
theorem comeHw (k : HmIs B w x T bud s m) (hT : T.Ok) {n c : Nat} (hn : n < T.n) (hc : (sv m.S n).c = c) (hcD : c < T.D) : Calls Tryz.prog 64 #[.pointer (some ⟨x.l, 0, none⟩), .int .i64 n] w (VD B w x T bud s (comeH T m n c)) := by
  have hfield := field_b
  have H := Lib.hid k
  have HN := k.fx.n32
  have hd5 := k.fx.d5
  have hsl := k.sn
  obtain ⟨p, hpp⟩ : ∃ p, p = sv m.S n := ⟨_, rfl⟩
  have hp : m.S[n]? = some p := by rw [hpp]; exact sv_getH (by omega)
  rw [← hpp] at hc
  have HPP := Lib.hid (And.intro hp (And.intro hpp hc))
  have c3 := k.l3
  obtain ⟨b0, b1, b2, b3⟩ := k.sc hp
  rw [hc] at b3
  obtain ⟨cl2, cL, cP, cS⟩ := k.lev hn hcD
  obtain ⟨z1, z2, z3, z4⟩ := k.lt4 hn hcD
  have HV := Lib.hid (And.intro (hT.plt n c hn hcD) (hT.slt n c hn hcD))
  obtain ⟨u, hu⟩ : ∃ u, u = m.sp (T.pl n c) (T.sl n c) := ⟨_, rfl⟩
  have HU := Lib.hid hu
  have t2 : ¬ (n : Int) < 0 := by omega
  have t3 : ¬ ((T.n : Nat) : Int) ≤ (n : Int) := by omega
  have g2 : ¬ ((T.D : Nat) : Int) ≤ (c : Int) := by omega
  by_cases h0 : u.b = 0 ∨ c + 1 = T.D
  · have HE : Hid (comeH T m n c = m.thr n { p with pc := 10 }) := Lib.hid (by unfold comeH; rw [if_pos (by rw [← hu]; exact h0), ← hpp])
    clear k hp hpp hc hu
    go_enter Tryz.func64, Tryz.ntmps64
    go_wp2
    go_region
    all_goals
      go_wp2_with fail
      refine (((H.out.alloc _).drewN _).spot1 HV.out.1 HV.out.2).mono ?_
      rintro en w3 ⟨rfl, k3⟩
      rw [← HU.out]
      unfold spotV
      have h3 := ((H.out.alloc _).drewN _).below k3
      obtain ⟨b0, b1, b2, b3⟩ := h3.sc HPP.out.1
      rw [HPP.out.2.2] at b3
      have f1 : ∀ j, w3.frozen? ⟨x.q, j, none⟩ = false := fun j => h3.ss.free j
      have H3 := Lib.hid (And.intro h3 (((Turns.refl (mvL x T) _).alloc _).drewN _ |>.trans (Turns.of_below k3)))
      clear h3 k3
      by_cases hb : u.b = 0
      · have y : (u.b == 0) = true := by simpa using hb
        clear h0 hb
        go_wp2
        go_end0
        unfold VD
        rw [HE.out]
        exact ⟨rfl, H3.out.1.put1c HPP.out.1 (j := 0) (by decide) rfl, turns_qH H3.out.2 (q_mv x T) _ _⟩
      · have y : (u.b == 0) = false := by simpa using hb
        have hD : c + 1 = T.D := h0.resolve_left hb
        have y2 : ((c : Int) == (T.D : Int) - 1) = true := by simp; omega
        clear h0 hb hD
        go_wp2
        go_end0
        unfold VD
        rw [HE.out]
        exact ⟨rfl, H3.out.1.put1c HPP.out.1 (j := 0) (by decide) rfl, turns_qH H3.out.2 (q_mv x T) _ _⟩
  · have hcD' : c + 1 < T.D := by omega
    have y : (u.b == 0) = false := by simpa using fun e => h0 (.inl e)
    have y2 : ((c : Int) == (T.D : Int) - 1) = false := by simp; omega
    have HE : Hid (comeH T m n c = askH (m.thr n { p with c := (c : Int) + 1 }) (T.pl n (c + 1)) (T.sl n (c + 1))) := Lib.hid (by unfold comeH; rw [if_neg (by rw [← hu]; exact h0), askH_thr, ← hpp])
    have HV' := Lib.hid (And.intro (hT.plt n (c + 1) hn hcD') (hT.slt n (c + 1) hn hcD'))
    clear k hp hpp hc hu h0
    go_enter Tryz.func64, Tryz.ntmps64
    go_wp2
    go_region
    all_goals
      go_wp2_with fail
      refine (((H.out.alloc _).drewN _).spot1 HV.out.1 HV.out.2).mono ?_
      rintro en w3 ⟨rfl, k3⟩
      rw [← HU.out]
      unfold spotV
      have h3 := ((H.out.alloc _).drewN _).below k3
      have hx : Blk w3 w.heap.size 99 #[.pointer (some ⟨x.lb (T.pl n c), 0, none⟩), .int .i64 (T.sl n c)] := (Turns.of_below (S := []) k3).blk (heap_alloc_new w _) (by simp)
      clear b0 b1 b2 b3 cl2 cL cP cS c3
      obtain ⟨b0, b1, b2, b3⟩ := h3.sc HPP.out.1
      rw [HPP.out.2.2] at b3
      have f1 : ∀ j, w3.frozen? ⟨x.q, j, none⟩ = false := fun j => h3.ss.free j
      have h4 := h3.put1c HPP.out.1 (j := 3) (u := .int .i64 ((c : Int) + 1)) (p' := { p with c := (c : Int) + 1 }) (by decide) rfl
      have hqx : x.q ≠ w.heap.size := by omega
      have t4 := turns_qH (((Turns.refl (mvL x T) _).alloc _).drewN _ |>.trans (Turns.of_below k3)) (q_mv x T) (n * 4 + 3) (.int .i64 ((c : Int) + 1))
      have hx4 := hx.far (fun e => hqx e.symm) (p := ⟨x.q, n * 4 + 3, none⟩) (.int .i64 ((c : Int) + 1))
      have H4 := Lib.hid (And.intro h4 (And.intro t4 hx4))
      have b3' := (h4.sc (H.out.gt hn _)).2.2.2
      obtain ⟨cl2, cL, cP, cS⟩ := h4.lev hn hcD'
      have x0 := hx4.cell 0
      have x1 := hx4.cell 1
      have y0 := hx4.free 0
      have y1 := hx4.free 1
      clear h3 k3 h4 t4 hx hx4
      go_wp2_with fail
      have t5 : Turns [w.heap.size] (w3.setCell ⟨x.q, n * 4 + 3, none⟩ (.int .i64 ((c : Int) + 1))) (((w3.setCell ⟨x.q, n * 4 + 3, none⟩ (.int .i64 ((c : Int) + 1))).setCell ⟨w.heap.size, 0, none⟩ (.pointer (some ⟨x.lb (T.pl n (c + 1)), 0, none⟩))).setCell ⟨w.heap.size, 1, none⟩ (.int .i64 (T.sl n (c + 1)))) := turns_qH (turns_qH (Turns.refl _ _) (by simp) _ _) (by simp) _ _
      have h5 := H4.out.1.turns t5 (fun i hi => by simp at hi; rw [hi]; exact H.out.new.1) (fun i hi => by simp at hi; rw [hi]; exact H.out.new.2)
      refine (h5.ask1 HV'.out.1 HV'.out.2).mono ?_
      rintro en w6 ⟨b, rfl, h6, t6⟩
      have H6 := Lib.hid (And.intro h6 ((H4.out.2.1.transNew t5 fun i hi => by simp at hi; omega).trans t6))
      clear h5 h6 t5 t6
      go_wp2
      go_end0
      unfold VD
      rw [HE.out]
      exact ⟨rfl, H6.out.1, H6.out.2⟩
end
end Go.Proofs.YtkdaiomjbkpedaaGreat
end
section
/- Layer 27 (hmcs): begin. -/
namespace Go.Proofs.YtkdaiomjbkpedaaGreat
open Go.RowKit

/-- a scope whose label nobody goes to, or one who goes ahead -/
theorem wp_scope_onceH {P : Program} {a : Act} {w : World} {Q : Exit → Act → World → Prop} {c rest : Code} (l : Nat) (hf : findLabel c l = some rest) (first : c.wp P (Exit.jump l (fun a' w' => rest.wp P (Exit.noGoto Q) a' w') Q) a w) : (Code.scope c).wp P Q a w := by
  refine wp_scope_jumps l (fun a' w' => rest.wp P (Exit.noGoto Q) a' w') (fun _ _ => 0) hf first fun a w h => ?_
  refine Code.wp_mono ?_ h
  intro e a' w' hq
  cases e with
  | goto l' => exact hq.elim
  | _ => exact hq
section
variable {B : Nat → Prop} {w w' : World} {x : Hx} {T : HTr} {bud : Int} {s s' : Ar} {m : Hm}
theorem begH_fuel (T : HTr) (bud : Int) (m : Hm) (n : Nat) : ∀ (f g k : Nat), T.D - k ≤ f → T.D - k ≤ g → k < T.D → begH T bud f m n k = begH T bud g m n k
  | 0, _, k, h, _, hk => by omega
  | _ + 1, 0, k, _, h, hk => by omega
  | f + 1, g + 1, k, h1, h2, hk => by
    unfold begH
    by_cases c : k + 1 = T.D
    · rw [if_pos c, if_pos c]
    · rw [if_neg c, if_neg c]
      split
      · rfl
      · exact begH_fuel T bud m n f g (k + 1) (by omega) (by omega) (by omega)
theorem begH_last (T : HTr) (bud : Int) (m : Hm) (n : Nat) {k : Nat} (h : k + 1 = T.D) : begH T bud T.D m n k = (wthH m (T.pl n k) (T.sl n k) 11 1).thr n { sv m.S n with pc := 12, c := k } := by
  rw [begH_fuel T bud m n T.D 1 k (by omega) (by omega) (by omega)]
  unfold begH
  rw [if_pos h]
theorem begH_pass (T : HTr) (bud : Int) (m : Hm) (n : Nat) {k : Nat} (h : k + 1 < T.D) (hv : (m.sp (T.pl n k) (T.sl n k)).a ≤ bud) : begH T bud T.D m n k = (wthH m (T.pl n k) (T.sl n k) 15 ((m.sp (T.pl n k) (T.sl n k)).a + 1)).thr n { sv m.S n with pc := 11, c := k } := by
  obtain ⟨d, hd⟩ : ∃ d, T.D = d + 1 := ⟨T.D - 1, by omega⟩
  rw [begH_fuel T bud m n T.D (d + 1) k (by omega) (by omega) (by omega)]
  unfold begH
  rw [if_neg (by omega), if_pos hv]
theorem begH_next (T : HTr) (bud : Int) (m : Hm) (n : Nat) {k : Nat} (h : k + 1 < T.D) (hv : ¬ (m.sp (T.pl n k) (T.sl n k)).a ≤ bud) : begH T bud T.D m n k = begH T bud T.D m n (k + 1) := by
  rw [begH_fuel T bud m n T.D (T.D + 1) k (by omega) (by omega) (by omega)]
  conv => lhs; unfold begH
  rw [if_neg (by omega), if_neg hv]
set_option maxRecDepth 100000 in
set_option maxHeartbeats 4000000 in
theorem beginHw (k : HmIs B w x T bud s m) (hT : T.Ok) {n k0 : Nat} (hn : n < T.n) (hk0 : k0 < T.D) (hbud : 0 ≤ bud ∧ bud ≤ 1000) (hva : ∀ k, k0 ≤ k → k < T.D → 0 ≤ (m.sp (T.pl n k) (T.sl n k)).a ∧ (m.sp (T.pl n k) (T.sl n k)).a ≤ 2000) :
    Calls Tryz.prog 66 #[.pointer (some ⟨x.l, 0, none⟩), .int .i64 n, .int .i64 k0] w (VD B w x T bud s (begH T bud T.D m n k0)) := by
  have hfield := field_a
  have H := Lib.hid k
  have HN := k.fx.n32
  have hd5 := k.fx.d5
  have hsl := k.sn
  obtain ⟨p, hpp⟩ : ∃ p, p = sv m.S n := ⟨_, rfl⟩
  have hp : m.S[n]? = some p := by rw [hpp]; exact sv_getH (by omega)
  have HPP := Lib.hid (And.intro hp hpp)
  have HVA := Lib.hid hva
  have c3 := k.l3
  obtain ⟨cl2, cL, cP, cS⟩ := k.lev hn hk0
  obtain ⟨z1, z2, z3, z4⟩ := k.lt4 hn hk0
  have t2 : ¬ (n : Int) < 0 := by omega
  have t3 : ¬ ((T.n : Nat) : Int) ≤ (n : Int) := by omega
  obtain ⟨hb0, hb1⟩ := hbud
  clear k hp hpp hva
  go_enter Tryz.func66, Tryz.ntmps66
  go_wp2
  refine wp_scope_onceH 0 rfl ?_
  go_wp2
  go_region
  all_goals
    go_wp2
    go_step3
    clear c3 cl2 cL cP cS z1 z2 z3 z4
    go_wp2
    go_loopw [2] (fun c wr => ∃ (k : Nat) (z : Int), c = .int .i64 k ∧ k < T.D ∧ k0 ≤ k ∧ HmIs B wr x T bud s (m.thr n { p with c := z }) ∧ Turns (mvL x T) w wr ∧ begH T bud T.D m n k = begH T bud T.D m n k0) (fun c _ => T.D - (intOf c).toNat)
    case atStart =>
      refine ⟨k0, p.c, rfl, hk0, by omega, ?_, (Turns.refl _ _).drewN 1, rfl⟩
      have e : m.thr n { p with c := p.c } = m := by
        unfold Hm.thr
        have : m.S.set n p = m.S := set_self HPP.out.1
        show ({ m with S := m.S.set n p } : Hm) = m
        rw [this]
      rw [e]
      exact H.out.drewN 1
    case round =>
      obtain ⟨k, z, rfl, hkD, hk, hI, ht, hE⟩ := hrel
      have HW := Lib.hid (And.intro hI (And.intro ht hE))
      have HV := Lib.hid (And.intro (hT.plt n k hn hkD) (hT.slt n k hn hkD))
      obtain ⟨u, hu⟩ : ∃ u, u = m.sp (T.pl n k) (T.sl n k) := ⟨_, rfl⟩
      have HU := Lib.hid hu
      obtain ⟨cl2, cL, cP, cS⟩ := hI.lev hn hkD
      obtain ⟨z1, z2, z3, z4⟩ := hI.lt4 hn hkD
      have g2 : ¬ ((T.D : Nat) : Int) ≤ (k : Int) := by omega
      clear hI ht hE hu
      go_wp2_with fail
      refine ((HW.out.1.alloc _).spot1 HV.out.1 HV.out.2).mono ?_
      rintro en w3 ⟨rfl, k3⟩
      rw [show (m.thr n { p with c := z }).sp (T.pl n k) (T.sl n k) = u from HU.out.symm]
      unfold spotV
      have h3 := (HW.out.1.alloc _).below k3
      have hx : Blk w3 wr.heap.size 99 #[.pointer (some ⟨x.lb (T.pl n k), 0, none⟩), .int .i64 (T.sl n k)] := (Turns.of_below (S := []) k3).blk (heap_alloc_new wr _) (by simp)
      clear cl2 cL cP cS
      have c3 := (h3.sc (H.out.gt hn _)).2.2.2
      have f1 : ∀ j, w3.frozen? ⟨x.q, j, none⟩ = false := fun j => h3.ss.free j
      have h4 := h3.put1c (H.out.gt hn _) (j := 3) (u := .int .i64 (k : Int)) (p' := { p with c := (k : Int) }) (by decide) rfl
      rw [thr_thr] at h4
      have hqx : x.q ≠ wr.heap.size := by omega
      have t4 := turns_qH (HW.out.2.1.trans (((Turns.refl (mvL x T) _).alloc _).trans (Turns.of_below k3))) (q_mv x T) (n * 4 + 3) (.int .i64 (k : Int))
      have hx4 := hx.far (fun e => hqx e.symm) (p := ⟨x.q, n * 4 + 3, none⟩) (.int .i64 (k : Int))
      have H4 := Lib.hid (And.intro h4 t4)
      have x0 := hx4.cell 0
      have x1 := hx4.cell 1
      have l0 := h4.l0
      clear h3 k3 h4 t4 hx hx4
      by_cases hD : k + 1 = T.D
      · have y : ((k : Int) == (T.D : Int) - 1) = true := by simp; omega
        have HE := Lib.hid (HW.out.2.2.symm.trans (begH_last T bud m n hD))
        clear hD
        go_wp2_with fail
        refine (H4.out.1.leave1 HV.out.1 HV.out.2 1).mono ?_
        rintro en w5 ⟨b, rfl, h5, t5⟩
        rw [wthH_thr] at h5
        have c0 := (h5.sc (p := { p with c := (k : Int) }) (by show ((wthH m _ _ _ _).S.set n _)[n]? = _; rw [wthH_S]; exact H.out.gt hn _)).1
        have f0 : ∀ j, w5.frozen? ⟨x.q, j, none⟩ = false := fun j => h5.ss.free j
        have h6 := h5.put1c (n := n) (p := { p with c := (k : Int) }) (by show ((wthH m _ _ _ _).S.set n _)[n]? = _; rw [wthH_S]; exact H.out.gt hn _) (j := 0) (u := .int .i64 12) (p' := { p with pc := 12, c := (k : Int) }) (by decide) rfl
        rw [thr_thr] at h6
        have H6 := Lib.hid (And.intro h6 (turns_qH (H4.out.2.trans t5) (q_mv x T) (n * 4) (.int .i64 12)))
        clear h5 h6 t5
        go_wp2
        go_end0
        unfold VD
        rw [HE.out, ← HPP.out.2]
        exact ⟨rfl, H6.out.1, H6.out.2⟩
      · have hD' : k + 1 < T.D := by omega
        have y : ((k : Int) == (T.D : Int) - 1) = false := by simp; omega
        obtain ⟨va0, va1⟩ := HVA.out k hk hkD
        rw [← HU.out] at va0 va1
        by_cases hv : u.a ≤ bud
        · have HE := Lib.hid (HW.out.2.2.symm.trans (begH_pass T bud m n hD' (by rw [← HU.out]; exact hv)))
          go_wp2_with fail
          refine (H4.out.1.pass1 HV.out.1 HV.out.2 (u.a + 1)).mono ?_
          rintro en w5 ⟨b, rfl, h5, t5⟩
          rw [wthH_thr] at h5
          have c0 := (h5.sc (p := { p with c := (k : Int) }) (by show ((wthH m _ _ _ _).S.set n _)[n]? = _; rw [wthH_S]; exact H.out.gt hn _)).1
          have f0 : ∀ j, w5.frozen? ⟨x.q, j, none⟩ = false := fun j => h5.ss.free j
          have h6 := h5.put1c (n := n) (p := { p with c := (k : Int) }) (by show ((wthH m _ _ _ _).S.set n _)[n]? = _; rw [wthH_S]; exact H.out.gt hn _) (j := 0) (u := .int .i64 11) (p' := { p with pc := 11, c := (k : Int) }) (by decide) rfl
          rw [thr_thr] at h6
          have H6 := Lib.hid (And.intro h6 (turns_qH (H4.out.2.trans t5) (q_mv x T) (n * 4) (.int .i64 11)))
          clear h5 h6 t5
          go_wp2
          go_end0
          unfold VD
          rw [HE.out, ← HPP.out.2, ← HU.out]
          exact ⟨rfl, H6.out.1, H6.out.2⟩
        · have HE := Lib.hid ((begH_next T bud m n hD' (by rw [← HU.out]; exact hv)).symm.trans HW.out.2.2)
          go_wp2
          go_roundw
          case rel => exact ⟨k + 1, k, by go_num, by omega, by omega, H4.out.1, H4.out.2, HE.out⟩
          case measure => simp [intOf]; omega
end
end Go.Proofs.YtkdaiomjbkpedaaGreat
end
section
/- Layer 27 (hmcs): Leave, Step. -/
namespace Go.Proofs.YtkdaiomjbkpedaaGreat
open Go.RowKit

section
variable {B : Nat → Prop} {w w' : World} {x : Hx} {T : HTr} {bud : Int} {s s' : Ar} {m : Hm} {Q : Nat → List Nat} {O : Nat → Nat → Option Nat}
theorem rstH_at (m : Hm) {v j : Nat} (hj : j < (m.P v).length) : (rstH m v j).sp v j = (stepP (arW (m.W v)) 1 ((j : Int) + 1) (m.sp v j)).2 := by
  unfold Hm.sp rstH
  show sv (updH m.P v _ v) j = _
  rw [updH_eq, sv_set, if_pos ⟨rfl, hj⟩]
  rfl
theorem rstH_ne (m : Hm) {v u j k : Nat} (h : u ≠ v) : (rstH m v j).sp u k = m.sp u k := by
  unfold Hm.sp rstH
  show sv (updH m.P v _ u) k = _
  rw [updH_ne _ _ h]
theorem HInv.va10 (h : HInv T bud m Q O) (hT : T.Ok) (hb : 0 ≤ bud ∧ bud ≤ 1000) {n k : Nat} (hn : n < T.n) (hk : k < T.D) (h10 : (m.sp (T.pl n k) (T.sl n k)).pc = 10) : 0 ≤ (m.sp (T.pl n k) (T.sl n k)).a ∧ (m.sp (T.pl n k) (T.sl n k)).a ≤ 2000 := by
  have := ((h.x n).va (T.pl n k) (T.sl n k) (hT.plt n k hn hk) (hT.slt n k hn hk)).1 (.inl h10)
  omega
theorem HInv.vaHold (h : HInv T bud m Q O) (hT : T.Ok) (hb : 0 ≤ bud ∧ bud ≤ 1000) {n : Nat} (hn : n < T.n) (h10 : (sv m.S n).pc = 10) : ∀ k, 0 ≤ k → k < T.D → 0 ≤ (m.sp (T.pl n k) (T.sl n k)).a ∧ (m.sp (T.pl n k) (T.sl n k)).a ≤ 2000 := by
  obtain ⟨K, kk, _⟩ := h.t n hn
  exact fun k _ hk => h.va10 hT hb hn hk ((kk.of10 h10).2 k hk)
/-- a slot that was handed on to nobody: the thread goes on one level up -/
theorem HInv.stepUp (h : HInv T bud m Q O) (hT : T.Ok) (hb : 0 ≤ bud ∧ bud ≤ 1000) {n c : Nat} (hn : n < T.n) (h0 : ¬ ((sv m.S n).pc = 0 ∨ (sv m.S n).pc = 10)) (hc : (sv m.S n).c = c) (h1 : (sv m.S n).pc ≠ 1) (hp : ((rstH m (T.pl n c) (T.sl n c)).sp (T.pl n c) (T.sl n c)).pc = 10) :
    c + 1 < T.D ∧ ∀ k, c + 1 ≤ k → k < T.D → 0 ≤ ((rstH m (T.pl n c) (T.sl n c)).sp (T.pl n k) (T.sl n k)).a ∧ ((rstH m (T.pl n c) (T.sl n c)).sp (T.pl n k) (T.sl n k)).a ≤ 2000 := by
  obtain ⟨K, kk, o⟩ := h.t n hn
  cases kk with
  | rest hh => exact absurd (.inl hh) h0
  | come c' hh _ _ _ => exact absurd hh.1 h1
  | granted c' hh _ _ => exact absurd hh.1 h1
  | hold hh _ => exact absurd (.inr hh) h0
  | pass c' hh ha hbb =>
    obtain rfl : c = c' := by have := hh.2.1; omega
    refine ⟨hh.2.2, fun k hk hkD => ?_⟩
    have hne : T.pl n k ≠ T.pl n c := fun e => by
      have e1 := hT.lv n k hn hkD
      have e2 := hT.lv n c hn (by omega)
      rw [e] at e1
      omega
    rw [rstH_ne m hne]
    exact h.va10 hT hb hn hkD (hbb k hkD (by omega))
  | leave c' hh ha hcc hbb =>
    obtain rfl : c = c' := by have := hh.2.1; omega
    exfalso
    have hcD := hh.2.2
    have hv := hT.plt n c hn hcD
    have hj := hT.slt n c hn hcD
    have r := (h.x n).rg _ hv
    have hjl : T.sl n c < (m.P (T.pl n c)).length := by rw [(h.x n).len hv]; exact hj
    rw [rstH_at m hjl] at hp
    have ha' : 11 ≤ (sv (m.P (T.pl n c)) (T.sl n c)).pc ∧ (sv (m.P (T.pl n c)) (T.sl n c)).pc ≤ 14 := ha
    have hc' : (sv (m.P (T.pl n c)) (T.sl n c)).c = if c + 1 = T.D then 1 else -1 := hcc
    obtain ⟨Q', ro⟩ := rungStep (ar := arW (m.W (T.pl n c))) r (hT.nv32 _ hv) hj (by omega) (by omega) (fun _ => by rw [hc']; split <;> decide)
    have hp' : (stepP (arW (m.W (T.pl n c))) 1 ((T.sl n c : Int) + 1) (sv (m.P (T.pl n c)) (T.sl n c))).2.pc = 10 := hp
    cases ro.case_ with
    | walk h => omega
    | come h => omega
    | link h => omega
    | spin h => omega
    | told h => omega
    | sent h => omega
    | hold h => omega
    | out h => omega
    | free h => omega
    | give s r h => omega
    | look h => omega
def leaveI (T : HTr) (bud : Int) (m : Hm) (i : Int) : Hm := if okI m.S i then leaveHm T bud m i.toNat else m
def OpD (B : Nat → Prop) (w : World) (x : Hx) (T : HTr) (bud : Int) (s : Ar) (m' : Hm) (e : Ending) (w' : World) : Prop := ∃ b, e = .returned (.bool b) ∧ HmIs B w' x T bud s m' ∧ Turns (mvL x T) w w'
theorem HmIs.okn (k : HmIs B w x T bud s m) {i : Int} (h : okI m.S i) : ∃ n : Nat, i = n ∧ n < T.n ∧ getS m.S i = sv m.S n ∧ n < m.S.length := by
  obtain ⟨h0, h1⟩ := h
  obtain ⟨n, rfl⟩ := Int.eq_ofNat_of_zero_le h0
  have hl : n < m.S.length := by omega
  exact ⟨n, rfl, by rw [← k.sn]; exact hl, getS_svH hl, hl⟩
set_option maxHeartbeats 1000000 in
theorem leaveHw (k : HmIs B w x T bud s m) (hT : T.Ok) (hI : HInv T bud m Q O) (hb : 0 ≤ bud ∧ bud ≤ 1000) (i : Int) : Calls Tryz.prog 29 #[.pointer (some ⟨x.l, 0, none⟩), .int .i64 i] w (OpD B w x T bud s (leaveI T bud m i)) := by
  have hfield := field_pc
  have H := Lib.hid k
  obtain ⟨p, hpp⟩ : ∃ p, p = getS m.S i := ⟨_, rfl⟩
  have HP := Lib.hid hpp
  by_cases h10 : p.pc = 10
  · have hok : okI m.S i := by
      apply Classical.byContradiction
      intro hn
      rw [getS_out hn] at hpp
      rw [hpp] at h10
      exact absurd h10 (by decide)
    obtain ⟨n, rfl, hn, hg, hl⟩ := k.okn hok
    have hs : (sv m.S n).pc = 10 := by rw [← hg, ← hpp]; exact h10
    have hd := hT.d1
    have HB := Lib.hid (fun W (k' : HmIs B W x T bud s m) => beginHw k' hT hn (k0 := 0) (by omega) hb (hI.vaHold hT hb hn hs))
    have HE : Hid (leaveI T bud m n = begH T bud T.D m n 0) := Lib.hid (by unfold leaveI leaveHm; rw [if_pos hok, Int.toNat_natCast, if_pos hs])
    have y : (p.pc != 10) = false := by simpa using h10
    clear k hpp hok hI hg hs
    go_enter Tryz.func29, Tryz.ntmps29
    go_wp2_with fail
    refine (spotHm H.out n).mono ?_
    rintro en w1 ⟨rfl, b1⟩
    rw [← HP.out]
    unfold spotV
    have H1 := Lib.hid (And.intro (H.out.below b1) b1)
    clear b1
    go_wp2_with fail
    refine (HB.out _ H1.out.1).mono ?_
    rintro en w2 ⟨rfl, h2, t2⟩
    have H2 := Lib.hid (And.intro h2 ((Turns.of_below H1.out.2).trans t2))
    clear h2 t2
    go_wp2
    go_ret
    rw [HE.out]
    exact ⟨true, rfl, H2.out.1, H2.out.2⟩
  · have y : (p.pc != 10) = true := by simpa using h10
    have HE : Hid (leaveI T bud m i = m) := Lib.hid (by
      unfold leaveI
      by_cases hok : okI m.S i
      · obtain ⟨n, rfl, hn, hg, hl⟩ := k.okn hok
        rw [if_pos hok, Int.toNat_natCast]
        unfold leaveHm
        rw [if_neg (by rw [← hg, ← hpp]; exact h10)]
      · rw [if_neg hok])
    clear k hpp h10
    go_enter Tryz.func29, Tryz.ntmps29
    go_wp2_with fail
    refine (spotHm H.out i).mono ?_
    rintro en w1 ⟨rfl, b1⟩
    rw [← HP.out]
    unfold spotV
    have H1 := Lib.hid (And.intro (H.out.below b1) b1)
    clear b1
    go_wp2
    go_ret
    rw [HE.out]
    exact ⟨false, rfl, H1.out.1, Turns.of_below H1.out.2⟩
end
end Go.Proofs.YtkdaiomjbkpedaaGreat
end
section
/- Layer 27 (hmcs): Step. -/
namespace Go.Proofs.YtkdaiomjbkpedaaGreat
open Go.RowKit

section
variable {B : Nat → Prop} {w w' : World} {x : Hx} {T : HTr} {bud : Int} {s s' : Ar} {m : Hm} {Q : Nat → List Nat} {O : Nat → Nat → Option Nat}
def stepI (T : HTr) (bud : Int) (m : Hm) (i : Int) : Hm := if okI m.S i then stepHm T bud m i.toNat else m
def OpS (B : Nat → Prop) (w : World) (x : Hx) (T : HTr) (bud : Int) (s : Ar) (m' : Hm) (e : Ending) (w' : World) : Prop := ∃ b s', e = .returned (.bool b) ∧ HmIs B w' x T bud s' m' ∧ s'.ops ≤ s.ops + 1 ∧ Turns (mvL x T) w w'
theorem stepHm_act (T : HTr) (bud : Int) (m : Hm) {n c : Nat} (h0 : ¬ ((sv m.S n).pc = 0 ∨ (sv m.S n).pc = 10)) (hc : (sv m.S n).c = c) (hr : ¬ ((m.sp (T.pl n c) (T.sl n c)).pc = 0 ∨ (m.sp (T.pl n c) (T.sl n c)).pc = 10)) {m1 : Hm} (h1 : m1 = rstH m (T.pl n c) (T.sl n c)) :
    stepHm T bud m n = if ¬ ((m1.sp (T.pl n c) (T.sl n c)).pc = 0 ∨ (m1.sp (T.pl n c) (T.sl n c)).pc = 10) then m1 else if (sv m.S n).pc = 1 then comeH T m1 n c else if (m1.sp (T.pl n c) (T.sl n c)).pc = 0 then downH T m1 n c else begH T bud T.D m1 n (c + 1) := by
  unfold stepHm
  rw [if_neg h0, hc]
  simp only [Int.toNat_natCast]
  rw [if_neg hr, ← h1]
set_option maxRecDepth 100000 in
set_option maxHeartbeats 4000000 in
theorem stepHw (k : HmIs B w x T bud s m) (hT : T.Ok) (hI : HInv T bud m Q O) (hb : 0 ≤ bud ∧ bud ≤ 1000) (ho : s.ops + 1 ≤ 1000000000000) (i : Int) : Calls Tryz.prog 28 #[.pointer (some ⟨x.l, 0, none⟩), .int .i64 i] w (OpS B w x T bud s (stepI T bud m i)) := by
  have hfield := field_pc
  have H := Lib.hid k
  have HN := k.fx.n32
  have hd5 := k.fx.d5
  obtain ⟨p, hpp⟩ : ∃ p, p = getS m.S i := ⟨_, rfl⟩
  have HP := Lib.hid hpp
  by_cases h0 : p.pc = 0 ∨ p.pc = 10
  · have HE : Hid (stepI T bud m i = m) := Lib.hid (by
      unfold stepI
      by_cases hok : okI m.S i
      · obtain ⟨n, rfl, hn, hg, hl⟩ := k.okn hok
        rw [if_pos hok, Int.toNat_natCast]
        unfold stepHm
        rw [if_pos (by rw [← hg, ← hpp]; exact h0)]
      · rw [if_neg hok])
    clear k hpp
    have fin : ∀ w', Below w.heap.size w w' → OpS B w x T bud s (stepI T bud m i) (.returned (.bool false)) w' := fun w' b => ⟨false, s, rfl, by rw [HE.out]; exact H.out.below b, by omega, Turns.of_below b⟩
    have HF := Lib.hid fin
    clear fin
    by_cases h00 : p.pc = 0
    · have y : (p.pc == 0) = true := by simpa using h00
      clear h0 h00
      go_enter Tryz.func28, Tryz.ntmps28
      go_wp2_with fail
      refine (spotHm H.out i).mono ?_
      rintro en w1 ⟨rfl, b1⟩
      rw [← HP.out]
      unfold spotV
      have HB := Lib.hid b1
      clear b1
      go_wp2
      go_ret
      exact HF.out _ HB.out
    · have h1 : p.pc = 10 := h0.resolve_left h00
      have y : (p.pc == 0) = false := by simpa using h00
      have y1 : (p.pc == 10) = true := by simpa using h1
      clear h0 h00 h1
      go_enter Tryz.func28, Tryz.ntmps28
      go_wp2_with fail
      refine (spotHm H.out i).mono ?_
      rintro en w1 ⟨rfl, b1⟩
      rw [← HP.out]
      unfold spotV
      have HB := Lib.hid b1
      clear b1
      go_wp2
      go_ret
      exact HF.out _ HB.out
  · have hok : okI m.S i := by
      apply Classical.byContradiction
      intro hn
      rw [getS_out hn] at hpp
      exact h0 (.inl (by rw [hpp]; rfl))
    obtain ⟨n, rfl, hn, hg, hl⟩ := k.okn hok
    rw [hg] at hpp HP
    have h0' : ¬ ((sv m.S n).pc = 0 ∨ (sv m.S n).pc = 10) := by rw [← hpp]; exact h0
    obtain ⟨K, kk, oo⟩ := hI.t n hn
    obtain ⟨c, hc, hcD, hcK, a0, a10, a14⟩ := TOwn.act kk h0'
    clear kk oo hcK
    have hv := hT.plt n c hn hcD
    have hj := hT.slt n c hn hcD
    have hact : ¬ ((m.sp (T.pl n c) (T.sl n c)).pc = 0 ∨ (m.sp (T.pl n c) (T.sl n c)).pc = 10) := fun h => h.elim a0 a10
    obtain ⟨m1, hm1⟩ : ∃ m1, m1 = rstH m (T.pl n c) (T.sl n c) := ⟨_, rfl⟩
    have hS1 : m1.S = m.S := by rw [hm1]; rfl
    have HEs := stepHm_act T bud m h0' hc hact hm1
    rw [show stepHm T bud m n = stepI T bud m n by unfold stepI; rw [if_pos hok, Int.toNat_natCast]] at HEs
    have hup := fun (e1 : (sv m.S n).pc ≠ 1) (e2 : (m1.sp (T.pl n c) (T.sl n c)).pc = 10) => hI.stepUp hT hb hn h0' hc e1 (by rw [← hm1]; exact e2)
    rw [← hm1] at hup
    have HS0 : ∀ W, HmIs B W x T bud s m → Calls Tryz.prog 62 #[.pointer (some ⟨x.lb (T.pl n c), 0, none⟩), .int .i64 (T.sl n c)] W (S1 B W x T bud s m1 (decide ((m1.sp (T.pl n c) (T.sl n c)).pc = 0 ∨ (m1.sp (T.pl n c) (T.sl n c)).pc = 10))) := fun W k => by
      have := k.step1 hv hj ((hI.x n).rg _ hv) ho
      rw [if_neg hact, if_neg hact, ← hm1] at this
      exact this
    obtain ⟨u, hu⟩ : ∃ u, u = m1.sp (T.pl n c) (T.sl n c) := ⟨_, rfl⟩
    rw [← hu] at HS0 hup HEs
    have y0 : (p.pc == 0) = false := by simpa using fun e => h0 (.inl e)
    have y10 : (p.pc == 10) = false := by simpa using fun e => h0 (.inr e)
    rw [← hpp] at hup HEs hc
    have t2 : ¬ (n : Int) < 0 := by omega
    have t3 : ¬ ((T.n : Nat) : Int) ≤ (n : Int) := by omega
    have g2 : ¬ ((T.D : Nat) : Int) ≤ (c : Int) := by omega
    have HC := Lib.hid (And.intro hpp (And.intro hc (And.intro hS1 (And.intro hv hj))))
    have HU := Lib.hid hu
    have HM := Lib.hid hup
    have HS := Lib.hid HS0
    have HE := Lib.hid HEs
    have hpn : m.S[n]? = some p := by rw [hpp]; exact sv_getH hl
    clear HS0 HEs hup hu hS1 hm1 hact a0 a10 a14 h0' k hpp hg hok hl h0 hI
    go_enter Tryz.func28, Tryz.ntmps28
    go_wp2_with fail
    refine (spotHm H.out n).mono ?_
    rintro en w1 ⟨rfl, b1⟩
    rw [show getS m.S (n : Int) = p from by rw [HC.out.1]; exact getS_svH (by have := (List.getElem?_eq_some_iff.1 hpn).1; exact this)]
    unfold spotV
    have k1 := H.out.below b1
    have K1 := Lib.hid (And.intro k1 (Turns.of_below (S := mvL x T) b1))
    have c3 := k1.l3
    have b3 := (k1.sc hpn).2.2.2
    rw [HC.out.2.1] at b3
    obtain ⟨cl2, cL, cP, cS⟩ := k1.lev hn hcD
    obtain ⟨z1, z2, z3, z4⟩ := k1.lt4 hn hcD
    clear k1 b1
    go_wp2
    go_region
    all_goals
      go_wp2_with fail
      refine (HS.out _ ((K1.out.1.alloc _).drewN _)).mono ?_
      rintro en w2 ⟨rfl, s', k2, ho2, t4⟩
      have hx : Blk w2 w1.heap.size 99 #[.pointer (some ⟨x.lb (T.pl n c), 0, none⟩), .int .i64 (T.sl n c)] := t4.blk (heap_alloc_new w1 _) K1.out.1.new.2
      have K2 := Lib.hid (And.intro k2 (And.intro (K1.out.2.trans ((((Turns.refl (mvL x T) _).alloc _).drewN _).trans t4)) ho2))
      have x0 := hx.cell 0
      have x1 := hx.cell 1
      clear k2 t4 ho2 hx c3 b3 cl2 cL cP cS z1 z2 z3 z4
      by_cases e : u.pc = 0 ∨ u.pc = 10
      · rw [decide_eq_true e]
        go_wp2_with fail
        refine (K2.out.1.spot1 HC.out.2.2.2.1 HC.out.2.2.2.2).mono ?_
        rintro en w3 ⟨rfl, b3⟩
        rw [← HU.out]
        unfold spotV
        have k3 := K2.out.1.below b3
        have K3 := Lib.hid (And.intro k3 (And.intro (K2.out.2.1.trans (Turns.of_below b3)) K2.out.2.2))
        have hcm : (sv m1.S n).c = c := by rw [HC.out.2.2.1, ← HC.out.1]; exact HC.out.2.1
        have hsc := (k3.sc (p := p) (by rw [HC.out.2.2.1]; exact hpn)).2.2.2
        rw [HC.out.2.1] at hsc
        clear k3 b3
        have ne := not_not_intro e
        by_cases e1 : p.pc = 1
        · have y1 : (p.pc == 1) = true := by simpa using e1
          go_wp2_with fail
          refine (comeHw K3.out.1 hT hn hcm hcD).mono ?_
          rintro en w4 ⟨rfl, h4, t4⟩
          have H4 := Lib.hid (And.intro h4 (K3.out.2.1.trans t4))
          have c0 := (h4.sc (sv_getH (show n < _ by rw [h4.sn]; exact hn))).1
          clear h4 t4
          obtain ⟨zz, hz⟩ : ∃ zz, zz = (sv (comeH T m1 n c).S n).pc := ⟨_, rfl⟩
          rw [← hz] at c0
          clear hz
          cases f1 : (zz == 10)
          · cases f2 : (zz == 0)
            · go_wp2
              go_ret
              exact ⟨_, s', rfl, by rw [HE.out, if_neg ne, if_pos e1]; exact H4.out.1, K3.out.2.2, H4.out.2⟩
            · go_wp2
              go_ret
              exact ⟨_, s', rfl, by rw [HE.out, if_neg ne, if_pos e1]; exact H4.out.1, K3.out.2.2, H4.out.2⟩
          · go_wp2
            go_ret
            exact ⟨_, s', rfl, by rw [HE.out, if_neg ne, if_pos e1]; exact H4.out.1, K3.out.2.2, H4.out.2⟩
        · have y1 : (p.pc == 1) = false := by simpa using e1
          by_cases e2 : u.pc = 0
          · have y2 : (u.pc == 0) = true := by simpa using e2
            go_wp2_with fail
            refine (downHw K3.out.1 hT hn hcm hcD).mono ?_
            rintro en w4 ⟨rfl, h4, t4⟩
            have H4 := Lib.hid (And.intro h4 (K3.out.2.1.trans t4))
            have c0 := (h4.sc (sv_getH (show n < _ by rw [h4.sn]; exact hn))).1
            clear h4 t4
            obtain ⟨zz, hz⟩ : ∃ zz, zz = (sv (downH T m1 n c).S n).pc := ⟨_, rfl⟩
            rw [← hz] at c0
            clear hz
            cases f1 : (zz == 10)
            · cases f2 : (zz == 0)
              · go_wp2
                go_ret
                exact ⟨_, s', rfl, by rw [HE.out, if_neg ne, if_neg e1, if_pos e2]; exact H4.out.1, K3.out.2.2, H4.out.2⟩
              · go_wp2
                go_ret
                exact ⟨_, s', rfl, by rw [HE.out, if_neg ne, if_neg e1, if_pos e2]; exact H4.out.1, K3.out.2.2, H4.out.2⟩
            · go_wp2
              go_ret
              exact ⟨_, s', rfl, by rw [HE.out, if_neg ne, if_neg e1, if_pos e2]; exact H4.out.1, K3.out.2.2, H4.out.2⟩
          · have y2 : (u.pc == 0) = false := by simpa using e2
            obtain ⟨hc1, hva⟩ := HM.out e1 (e.resolve_left e2)
            have HBg := Lib.hid (show Calls Tryz.prog 66 #[.pointer (some ⟨x.l, 0, none⟩), .int .i64 n, .int .i64 ((c : Int) + 1)] w3 (VD B w3 x T bud s' (begH T bud T.D m1 n (c + 1))) from beginHw K3.out.1 hT hn (k0 := c + 1) hc1 hb hva)
            clear hva
            go_wp2_with fail
            refine HBg.out.mono ?_
            rintro en w4 ⟨rfl, h4, t4⟩
            have H4 := Lib.hid (And.intro h4 (K3.out.2.1.trans t4))
            have c0 := (h4.sc (sv_getH (show n < _ by rw [h4.sn]; exact hn))).1
            clear h4 t4
            obtain ⟨zz, hz⟩ : ∃ zz, zz = (sv (begH T bud T.D m1 n (c + 1)).S n).pc := ⟨_, rfl⟩
            rw [← hz] at c0
            clear hz
            cases f1 : (zz == 10)
            · cases f2 : (zz == 0)
              · go_wp2
                go_ret
                exact ⟨_, s', rfl, by rw [HE.out, if_neg ne, if_neg e1, if_neg e2]; exact H4.out.1, K3.out.2.2, H4.out.2⟩
              · go_wp2
                go_ret
                exact ⟨_, s', rfl, by rw [HE.out, if_neg ne, if_neg e1, if_neg e2]; exact H4.out.1, K3.out.2.2, H4.out.2⟩
            · go_wp2
              go_ret
              exact ⟨_, s', rfl, by rw [HE.out, if_neg ne, if_neg e1, if_neg e2]; exact H4.out.1, K3.out.2.2, H4.out.2⟩
      · rw [decide_eq_false e]
        go_wp2
        go_ret
        exact ⟨false, s', rfl, by rw [HE.out, if_pos e]; exact K2.out.1, K2.out.2.2, K2.out.2.1⟩
end
end Go.Proofs.YtkdaiomjbkpedaaGreat
end
section
/- Layer 2: the parts of a word. -/
namespace Go.Proofs.YtkdaiomjbkpedaaGreat
open Go.RowKit

def lowI (p : Int) : Int × Int := if p = 0 then (0, 16) else if p = 1 then (16, 47) else (63, 1)
theorem low_any (w : World) (p : Int) : Calls Tryz.prog 168 #[.int .i64 p] w fun e w' => e = .returned (.tuple #[.int .i64 (lowI p).1, .int .i64 (lowI p).2]) ∧ w = w' := by
  unfold lowI
  by_cases h0 : p = 0
  · subst h0
    go_enter Tryz.func168, Tryz.ntmps168
    go_wp2
    go_ret2
    exact ⟨rfl, rfl⟩
  · by_cases h1 : p = 1
    · subst h1
      clear h0
      go_enter Tryz.func168, Tryz.ntmps168
      go_wp2
      go_ret2
      exact ⟨rfl, rfl⟩
    · rw [if_neg h0, if_neg h1]
      have t0 : (p == 0) = false := by simpa using h0
      have t1 : (p == 1) = false := by simpa using h1
      clear h0 h1
      go_enter Tryz.func168, Tryz.ntmps168
      go_wp2
      go_ret2
      exact ⟨rfl, rfl⟩
theorem and_mask (x : Nat) (k : Nat) (hx : x < 18446744073709551616) (hk : k < 64) : bits .and .u64 (x : Int) ((2 ^ k - 1 : Nat) : Int) = ((x % 2 ^ k : Nat) : Int) := by
  have : 2 ^ k - 1 < 18446744073709551616 := by
    have : 2 ^ k ≤ 2 ^ 63 := Nat.pow_le_pow_right (by decide) (by omega)
    omega
  rw [u64_and_nat x (2 ^ k - 1) hx this, Nat.and_two_pow_sub_one_eq_mod]
theorem val_index (x : Int) (h0 : 0 ≤ x) (h1 : x < 9223372036854775808) : wrap64 (bits .and .u64 x 65535) = x % 65536 := by
  obtain ⟨n, rfl⟩ := Int.eq_ofNat_of_zero_le h0
  have := and_mask n 16 (by omega) (by decide)
  rw [show ((2 ^ 16 - 1 : Nat) : Int) = 65535 by decide] at this
  rw [this]
  unfold wrap64
  omega
theorem val_number (x : Int) (h0 : 0 ≤ x) (h1 : x < 9223372036854775808) : wrap64 (bits .and .u64 (x / 65536) 140737488355327) = x / 65536 := by
  obtain ⟨n, rfl⟩ := Int.eq_ofNat_of_zero_le h0
  have := and_mask (n / 65536) 47 (by omega) (by decide)
  rw [show ((2 ^ 47 - 1 : Nat) : Int) = 140737488355327 by decide] at this
  rw [show ((n : Int) / 65536) = ((n / 65536 : Nat) : Int) by omega, this, show (2 ^ 47 : Nat) = 140737488355328 by decide]
  unfold wrap64
  omega
theorem val_mark (x : Int) (h0 : 0 ≤ x) (h1 : x < 9223372036854775808) : wrap64 (bits .and .u64 (x / 9223372036854775808) 1) = 0 := by
  rw [show x / 9223372036854775808 = 0 by omega]
  decide +kernel
theorem val_set0 (v : Int) (h2 : 0 ≤ v) (h3 : v < 65536) : wrap64 (bits .or .u64 (bits .andNot .u64 0 65535) (bits .and .u64 v 65535)) = v := by
  obtain ⟨n, rfl⟩ := Int.eq_ofNat_of_zero_le h2
  have := and_mask n 16 (by omega) (by decide)
  rw [show ((2 ^ 16 - 1 : Nat) : Int) = 65535 by decide, show (2 ^ 16 : Nat) = 65536 by decide, Nat.mod_eq_of_lt (by omega)] at this
  rw [this, show bits .andNot .u64 0 65535 = ((0 : Nat) : Int) by decide +kernel, u64_or_nat 0 n (by decide) (by omega), Nat.zero_or]
  unfold wrap64
  omega
theorem or_parts (x v : Nat) (hx : x < 65536) : x ||| (v * 65536) = v * 65536 + x := by
  have := Nat.two_pow_add_eq_or_of_lt (i := 16) (b := x) (by omega) v
  rw [Nat.or_comm, ← show 2 ^ 16 * v = v * 65536 by omega]
  exact this.symm
theorem val_set1 (x v : Int) (h0 : 0 ≤ x) (h1 : x < 65536) (h2 : 0 ≤ v) (h3 : v < 140737488355328) : wrap64 (bits .or .u64 (bits .andNot .u64 x 9223372036854710272) (bits .and .u64 (v * 65536) 9223372036854710272)) = v * 65536 + x := by
  obtain ⟨n, rfl⟩ := Int.eq_ofNat_of_zero_le h0
  obtain ⟨m, rfl⟩ := Int.eq_ofNat_of_zero_le h2
  have hn : n < 65536 := by omega
  have hm : m < 140737488355328 := by omega
  have e1 : bits .andNot .u64 (n : Int) 9223372036854710272 = ((n : Nat) : Int) := by
    have := u64_andNot_nat n 9223372036854710272 (by omega) (by decide)
    rw [show ((9223372036854710272 : Nat) : Int) = 9223372036854710272 by decide] at this
    rw [this]
    congr 1
    apply Nat.eq_of_testBit_eq
    intro i
    rw [Nat.testBit_and]
    by_cases hi : i < 16
    · have : (18446744073709551615 - 9223372036854710272 : Nat).testBit i = true := by
        have : ∀ i, i < 16 → (18446744073709551615 - 9223372036854710272 : Nat).testBit i = true := by decide
        exact this i hi
      rw [this, Bool.and_true]
    · rw [Nat.testBit_lt_two_pow (x := n) (i := i) (Nat.lt_of_lt_of_le hn (by have := Nat.pow_le_pow_right (n := 2) (by decide) (show 16 ≤ i by omega); omega)), Bool.false_and]
  have e2 : bits .and .u64 ((m : Int) * 65536) 9223372036854710272 = ((m * 65536 : Nat) : Int) := by
    have := u64_and_nat (m * 65536) 9223372036854710272 (by omega) (by decide)
    rw [show ((9223372036854710272 : Nat) : Int) = 9223372036854710272 by decide, show ((m * 65536 : Nat) : Int) = (m : Int) * 65536 by omega] at this
    rw [this]
    congr 1
    have : (9223372036854710272 : Nat) = (2 ^ 47 - 1) * 2 ^ 16 := by decide
    rw [this, show m * 65536 = m * 2 ^ 16 by omega, ← Nat.shiftLeft_eq, ← Nat.shiftLeft_eq, ← Nat.shiftLeft_and_distrib, Nat.and_two_pow_sub_one_eq_mod, Nat.mod_eq_of_lt (by omega)]
  rw [e1, e2, u64_or_nat n (m * 65536) (by omega) (by omega), or_parts n m hn]
  unfold wrap64
  omega
theorem get_index (w : World) (x : Int) (h0 : 0 ≤ x) (h1 : x < 9223372036854775808) : Calls Tryz.prog 163 #[.int .i64 x, .int .i64 0] w fun e w' => e = .returned (.int .i64 (x % 65536)) ∧ Below w.heap.size w w' := by
  have HV := Lib.hid (val_index x h0 h1)
  go_enter Tryz.func163, Tryz.ntmps163
  go_wp2_with fail
  refine (low_any _ _).mono ?_
  rintro en w' ⟨rfl, rfl⟩
  rw [show (lowI 0).1 = 0 from rfl, show (lowI 0).2 = 16 from rfl]
  go_wp2
  go_quiet (fail)
  go_wp2
  go_ret
  exact ⟨by rw [HV.out]; rfl, Qt.below ⟨_, rfl⟩ _⟩
theorem get_number (w : World) (x : Int) (h0 : 0 ≤ x) (h1 : x < 9223372036854775808) : Calls Tryz.prog 163 #[.int .i64 x, .int .i64 1] w fun e w' => e = .returned (.int .i64 (x / 65536)) ∧ Below w.heap.size w w' := by
  have HV := Lib.hid (val_number x h0 h1)
  go_enter Tryz.func163, Tryz.ntmps163
  go_wp2_with fail
  refine (low_any _ _).mono ?_
  rintro en w' ⟨rfl, rfl⟩
  rw [show (lowI 1).1 = 16 from rfl, show (lowI 1).2 = 47 from rfl]
  go_wp2
  go_quiet (fail)
  go_wp2
  go_ret
  exact ⟨by rw [HV.out]; rfl, Qt.below ⟨_, rfl⟩ _⟩
theorem get_mark (w : World) (x : Int) (h0 : 0 ≤ x) (h1 : x < 9223372036854775808) : Calls Tryz.prog 163 #[.int .i64 x, .int .i64 2] w fun e w' => e = .returned (.int .i64 (0)) ∧ Below w.heap.size w w' := by
  have HV := Lib.hid (val_mark x h0 h1)
  go_enter Tryz.func163, Tryz.ntmps163
  go_wp2_with fail
  refine (low_any _ _).mono ?_
  rintro en w' ⟨rfl, rfl⟩
  rw [show (lowI 2).1 = 63 from rfl, show (lowI 2).2 = 1 from rfl]
  go_wp2
  go_quiet (fail)
  go_wp2
  go_ret
  exact ⟨by rw [HV.out]; rfl, Qt.below ⟨_, rfl⟩ _⟩
theorem mark_qt (w : World) (x : Int) (h0 : 0 ≤ x) (h1 : x < 9223372036854775808) : Calls Tryz.prog 163 #[.int .i64 x, .int .i64 2] w fun e w' => e = .returned (.int .i64 (0)) ∧ Qt w w' := by
  have HV := Lib.hid (val_mark x h0 h1)
  go_enter Tryz.func163, Tryz.ntmps163
  go_wp2_with fail
  refine (low_any _ _).mono ?_
  rintro en w' ⟨rfl, rfl⟩
  rw [show (lowI 2).1 = 63 from rfl, show (lowI 2).2 = 1 from rfl]
  go_wp2
  go_quiet (fail)
  go_wp2
  go_ret
  exact ⟨by rw [HV.out]; rfl, ⟨_, rfl⟩⟩
theorem set_index (w : World) (x v : Int) (hx : x = 0) (h2 : 0 ≤ v) (h3 : v < 65536) : Calls Tryz.prog 162 #[.int .i64 x, .int .i64 0, .int .i64 v] w fun e w' => e = .returned (.int .i64 (v)) ∧ Below w.heap.size w w' := by
  subst hx
  have HV := Lib.hid (val_set0 v h2 h3)
  go_enter Tryz.func162, Tryz.ntmps162
  go_wp2_with fail
  refine (low_any _ _).mono ?_
  rintro en w' ⟨rfl, rfl⟩
  rw [show (lowI 0).1 = 0 from rfl, show (lowI 0).2 = 16 from rfl]
  go_wp2
  go_ret
  exact ⟨by rw [HV.out]; rfl, Below.refl _ _⟩
theorem set_number (w : World) (x v : Int) (h0 : 0 ≤ x) (h1 : x < 65536) (h2 : 0 ≤ v) (h3 : v < 140737488355328) : Calls Tryz.prog 162 #[.int .i64 x, .int .i64 1, .int .i64 v] w fun e w' => e = .returned (.int .i64 (v * 65536 + x)) ∧ Below w.heap.size w w' := by
  have HV := Lib.hid (val_set1 x v h0 h1 h2 h3)
  go_enter Tryz.func162, Tryz.ntmps162
  go_wp2_with fail
  refine (low_any _ _).mono ?_
  rintro en w' ⟨rfl, rfl⟩
  rw [show (lowI 1).1 = 16 from rfl, show (lowI 1).2 = 47 from rfl]
  go_wp2
  go_ret
  exact ⟨by rw [HV.out]; rfl, Below.refl _ _⟩
end Go.Proofs.YtkdaiomjbkpedaaGreat
end
section
/- Layer 2: Pack, Index, Number, Marked. -/
namespace Go.Proofs.YtkdaiomjbkpedaaGreat
open Go.RowKit

theorem fidx_any (w : World) (x : Int) (h0 : 0 ≤ x) (h1 : x < 9223372036854775808) : Calls Tryz.prog 147 #[.int .i64 x] w fun e w' => e = .returned (.int .i64 (x % 65536)) ∧ Below w.heap.size w w' := by
  go_enter Tryz.func147, Tryz.ntmps147
  go_wp2_with fail
  refine (get_index w x h0 h1).mono ?_
  rintro en w1 ⟨rfl, b1⟩
  have B1 := Lib.hid b1
  clear b1
  go_wp2
  go_ret
  exact ⟨rfl, B1.out⟩
theorem fnum_any (w : World) (x : Int) (h0 : 0 ≤ x) (h1 : x < 9223372036854775808) : Calls Tryz.prog 149 #[.int .i64 x] w fun e w' => e = .returned (.int .i64 (x / 65536)) ∧ Below w.heap.size w w' := by
  go_enter Tryz.func149, Tryz.ntmps149
  go_wp2_with fail
  refine (get_number w x h0 h1).mono ?_
  rintro en w1 ⟨rfl, b1⟩
  have B1 := Lib.hid b1
  clear b1
  go_wp2
  go_ret
  exact ⟨rfl, B1.out⟩
theorem marked_any (w : World) (x : Int) (h0 : 0 ≤ x) (h1 : x < 9223372036854775808) : Calls Tryz.prog 148 #[.int .i64 x] w fun e w' => e = .returned (.bool false) ∧ Below w.heap.size w w' := by
  go_enter Tryz.func148, Tryz.ntmps148
  go_wp2_with fail
  refine (get_mark w x h0 h1).mono ?_
  rintro en w1 ⟨rfl, b1⟩
  have B1 := Lib.hid b1
  clear b1
  go_wp2
  go_ret
  exact ⟨rfl, B1.out⟩
theorem marked_qt (w : World) (x : Int) (h0 : 0 ≤ x) (h1 : x < 9223372036854775808) : Calls Tryz.prog 148 #[.int .i64 x] w fun e w' => e = .returned (.bool false) ∧ Qt w w' := by
  go_enter Tryz.func148, Tryz.ntmps148
  go_wp2_with fail
  refine (mark_qt w x h0 h1).mono ?_
  rintro en w1 ⟨rfl, b1⟩
  have B1 := Lib.hid b1
  clear b1
  go_wp2
  go_ret
  exact ⟨rfl, B1.out⟩
theorem fits_index (w : World) (v : Int) (h2 : 0 ≤ v) (h3 : v < 65536) : Calls Tryz.prog 161 #[.int .i64 0, .int .i64 v] w fun e w' => e = .returned (.bool true) ∧ Below w.heap.size w w' := by
  go_enter Tryz.func161, Tryz.ntmps161
  go_wp2_with fail
  refine (set_index w 0 v rfl h2 h3).mono ?_
  rintro en w1 ⟨rfl, b1⟩
  have B1 := Lib.hid b1
  clear b1
  go_wp2_with fail
  refine (get_index w1 v h2 (by omega)).mono ?_
  rintro en w2 ⟨rfl, b2⟩
  have B2 := Lib.hid (B1.out.trans (b2.mono B1.out.size))
  have e : v % 65536 = v := by omega
  rw [e]
  clear b2 e
  go_wp2
  go_ret
  exact ⟨ret_bool (by simp), B2.out⟩
theorem fits_number (w : World) (v : Int) (h2 : 0 ≤ v) (h3 : v < 140737488355328) : Calls Tryz.prog 161 #[.int .i64 1, .int .i64 v] w fun e w' => e = .returned (.bool true) ∧ Below w.heap.size w w' := by
  go_enter Tryz.func161, Tryz.ntmps161
  go_wp2_with fail
  refine (set_number w 0 v (by omega) (by omega) h2 h3).mono ?_
  rintro en w1 ⟨rfl, b1⟩
  have B1 := Lib.hid b1
  clear b1
  obtain ⟨x, hx⟩ : ∃ x, x = v * 65536 + 0 := ⟨_, rfl⟩
  rw [← hx]
  have HX := Lib.hid hx
  clear hx
  go_wp2_with fail
  refine (get_number w1 x (by have := HX.out; omega) (by have := HX.out; omega)).mono ?_
  rintro en w2 ⟨rfl, b2⟩
  have B2 := Lib.hid (B1.out.trans (b2.mono B1.out.size))
  have e : x / 65536 = v := by have := HX.out; omega
  rw [e]
  clear b2 e
  go_wp2
  go_ret
  exact ⟨ret_bool (by simp), B2.out⟩
theorem pack_any (w : World) (i n : Int) (h0 : 0 ≤ i) (h1 : i < 65536) (h2 : 0 ≤ n) (h3 : n < 140737488355328) : Calls Tryz.prog 146 #[.int .i64 i, .int .i64 n] w fun e w' => e = .returned (.tuple #[.int .i64 (n * 65536 + i), .int .i64 0]) ∧ Below w.heap.size w w' := by
  go_enter Tryz.func146, Tryz.ntmps146
  go_wp2_with fail
  refine (fits_index w i h0 h1).mono ?_
  rintro en w1 ⟨rfl, b1⟩
  have B1 := Lib.hid b1
  clear b1
  go_wp2_with fail
  refine (fits_number w1 n h2 h3).mono ?_
  rintro en w2 ⟨rfl, b2⟩
  have B2 := Lib.hid (B1.out.trans (b2.mono B1.out.size))
  clear b2
  go_wp2_with fail
  refine (set_index w2 0 i rfl h0 h1).mono ?_
  rintro en w3 ⟨rfl, b3⟩
  have B3 := Lib.hid (B2.out.trans (b3.mono B2.out.size))
  clear b3
  go_wp2_with fail
  refine (set_number w3 i n h0 h1 h2 h3).mono ?_
  rintro en w4 ⟨rfl, b4⟩
  have B4 := Lib.hid (B3.out.trans (b4.mono B3.out.size))
  clear b4
  go_wp2
  go_ret2
  exact ⟨rfl, B4.out⟩
end Go.Proofs.YtkdaiomjbkpedaaGreat
end
section
/- Layer 1: Add. -/
namespace Go.Proofs.YtkdaiomjbkpedaaGreat
open Go.RowKit

theorem aadd (w : World) (b o : Nat) (x y : Int) (hc : w.cell? ⟨b, o, none⟩ = some (.int .i64 x)) (hz : w.frozen? ⟨b, o, none⟩ = false) :
    Calls Tryz.prog 132 #[.pointer (some ⟨b, o, none⟩), .int .i64 y] w fun e w' => e = .returned (.int .i64 (IntKind.i64.wrap (x + y))) ∧ w' = w.setCell ⟨b, o, none⟩ (.int .i64 (IntKind.i64.wrap (x + y))) := by
  obtain ⟨s, hs⟩ : ∃ s, s = IntKind.i64.wrap (x + y) := ⟨_, rfl⟩
  rw [← hs]
  have hl := run_call_add (P := Tryz.prog) Tryz.func154 (by kernel_rfl) (by kernel_rfl) (by kernel_rfl) .i64 (by kernel_rfl) (y := y) (s := s) hc hz (by rw [hs]; rfl)
  clear hs
  go_enter Tryz.func132, Tryz.ntmps132
  go_wp2
  go_ret
  exact ⟨rfl, rfl⟩
theorem add_any {w : World} {a g : Nat} {s : Ar} (h : ArIs w a g s) (x d : Int) (ho : s.ops + 1 ≤ 1000000000000) :
    Calls Tryz.prog 102 #[.pointer (some ⟨a, 0, none⟩), .int .i64 x, .int .i64 d] w (OpDone w a g (addA s x d) (.int .i64 (if inR s.W x then IntKind.i64.wrap (ldW s.W x + d) else 0))) := by
  have H := Lib.hid h
  cases hx : inR s.W x
  · have e : OpDone w a g (addA s x d) (.int .i64 (if false = true then IntKind.i64.wrap (ldW s.W x + d) else 0)) (.returned (.int .i64 0)) w := ⟨rfl, by unfold addA; rw [noteA_out s _ _ _ hx, wrA_out s _ _ hx]; exact h, Turns.refl _ _⟩
    have HX := Lib.hid hx
    clear h hx
    go_enter Tryz.func102, Tryz.ntmps102
    go_wp2_with fail
    refine (word_out H.out x HX.out).mono ?_
    rintro en w1 ⟨rfl, rfl⟩
    go_wp2
    go_ret
    exact e
  · have HX := Lib.hid hx
    have HE := Lib.hid (ldW_in hx)
    have h12 := inR_true.1 hx
    have hil : x.toNat - 1 < s.W.length := by omega
    clear h hx
    go_enter Tryz.func102, Tryz.ntmps102
    go_wp2_with fail
    refine (word_in H.out x HX.out).mono ?_
    rintro en w1 ⟨rfl, rfl⟩
    go_wp2_with fail
    refine (note_any H.out 5 x true HX.out ho).mono ?_
    rintro en w1 ⟨rfl, h1, t1⟩
    have hc := h1.word (i := x.toNat - 1) (by rw [noteA_W]; exact hil)
    rw [noteA_W, ← HE.out] at hc
    have hp := h1.put (x := x) (by rw [noteA_W]; exact HX.out) (IntKind.i64.wrap (ldW s.W x + d))
    have H1 := Lib.hid (And.intro hp t1)
    have HC := Lib.hid hc
    clear h1 t1 hp hc
    go_wp2_with fail
    refine (aadd _ _ _ _ _ HC.out.1 HC.out.2).mono ?_
    rintro en w2 ⟨rfl, rfl⟩
    obtain ⟨r, hr⟩ : ∃ r, r = IntKind.i64.wrap (ldW s.W x + d) := ⟨_, rfl⟩
    have hr2 : -9223372036854775808 ≤ r ∧ r ≤ 9223372036854775807 := by rw [hr, IntKind.wrap_i64]; omega
    obtain ⟨hr3, hr4⟩ := hr2
    rw [← hr]
    have HR := Lib.hid hr
    clear hr
    go_wp2
    go_ret
    exact ⟨by rw [HR.out]; rfl, by rw [HR.out]; exact H1.out.1.1, by rw [HR.out]; exact (turns_ag H1.out.2).trans H1.out.1.2⟩
end Go.Proofs.YtkdaiomjbkpedaaGreat
end
