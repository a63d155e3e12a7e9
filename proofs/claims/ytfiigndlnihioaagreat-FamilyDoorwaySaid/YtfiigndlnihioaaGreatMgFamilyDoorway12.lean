/- Joined: Co6, Co7. -/
import Derived.Test.YtfiigndlnihioaaGreatMgFamilyDoorway10
import Derived.Test.YtfiigndlnihioaaGreatMgFamilyDoorway11
section
/- Layer 24 (cohort): Step, Ask, Leave, Passed, Global (printed by gen_co6.py). -/
namespace Go.Proofs.YtfiigndlnihioaaGreat
open Go.RowKit

section
variable {B : Nat → Prop} {w w' w0 : World} {a g : Nat} {x : Cox} {c : CoC} {P T : List Int} {st st' : Co} {s' : Ar} {BB : Int}
theorem co_in (h : CoIs B w a g x c P T st) (C : CoPre BB x c st) (i : Nat) (hi : i < x.n) (p : Sp) (hp : sv st.T i = p) (h0 : 0 < p.pc) (h1 : p.pc < 10) :
    Calls Tryz.prog 45 #[.pointer (some ⟨x.l, 0, none⟩), .int .i64 i] w (CoMid B w a g x c P T st i p) := by
  have hk := C.v.k i hi
  rw [hp] at hk
  obtain ⟨pc, u, b, z⟩ := p
  simp only at h0 h1
  have hc : pc = 1 ∨ pc = 2 ∨ pc = 3 ∨ pc = 4 := by unfold linkP at hk; simp only at hk; omega
  rcases hc with rfl | rfl | rfl | rfl
  · exact co_in1 h C i hi u b z hp
  · exact co_in2 h C i hi u b z hp
  · exact co_in3 h C i hi u b z hp
  · exact co_in4 h C i hi u b z hp
theorem co_out (h : CoIs B w a g x c P T st) (C : CoPre BB x c st) (i : Nat) (hi : i < x.n) (p : Sp) (hp : sv st.T i = p) (h1 : 10 < p.pc) :
    Calls Tryz.prog 46 #[.pointer (some ⟨x.l, 0, none⟩), .int .i64 i] w (CoMid B w a g x c P T st i p) := by
  have hk := C.v.k i hi
  have ht := C.bd.tsp (by have := C.B0; omega) i
  have hB := C.B1
  rw [hp] at hk ht
  obtain ⟨pc, u, b, z⟩ := p
  simp only at h1 ht
  have hc : pc = 11 ∨ pc = 12 ∨ pc = 13 ∨ pc = 14 ∨ pc = 15 ∨ pc = 16 := by unfold linkP at hk; simp only at hk; omega
  rcases hc with rfl | rfl | rfl | rfl | rfl | rfl
  · exact co_out11 h C i hi u b z hp
  · exact co_out12 h C i hi u b z (by unfold linkP at hk; simp only at hk; omega) hp
  · exact co_out13 h C i hi u b z (by omega) hp
  · exact co_out14 h C i hi u b z hp
  · exact co_out15 h C i hi u b z hp
  · exact co_out16 h C i hi u b z hp
/-- behind a step -/
def CoAct (B : Nat → Prop) (w : World) (a g : Nat) (x : Cox) (c : CoC) (P T : List Int) (st' : Co) (r : Bool) (e : Ending) (w' : World) : Prop :=
  e = .returned (.bool r) ∧ CoIs B w' a g x c P T st' ∧ Turns (CoS a g x) w w'
theorem co_step0 (h : CoIs B w a g x c P T st) (i : Nat) (hi : i < x.n) (hc : (sv st.T i).pc = 0 ∨ (sv st.T i).pc = 10) :
    Calls Tryz.prog 13 #[.pointer (some ⟨x.l, 0, none⟩), .int .i64 i] w (CoAct B w a g x c P T (coStep c st i) (cameK (sv st.T i) (sv (coStep c st i).T i))) := by
  have HS := Lib.hid (spotCo h i hi)
  have H := Lib.hid h
  have e1 : coStep c st i = st := by unfold coStep; rw [if_pos hc]
  rw [e1]
  have e2 : cameK (sv st.T i) (sv st.T i) = false := by
    unfold cameK
    rcases hc with hc | hc <;> simp [hc]
  rw [e2]
  obtain ⟨p, hp⟩ : ∃ p, p = sv st.T i := ⟨_, rfl⟩
  rw [← hp] at hc HS
  clear e1 e2 hp h
  obtain ⟨pc, u, b, z⟩ := p
  simp only at hc
  unfold spotV at HS
  have hfield := field_pc
  rcases hc with rfl | rfl
  all_goals
    go_enter Tryz.func13, Tryz.ntmps13
    go_wp2_with fail
    refine HS.out.mono ?_
    rintro en w1 ⟨rfl, b1⟩
    have HB := Lib.hid b1
    clear b1
    go_wp2
    go_ret
    exact ⟨rfl, H.out.below HB.out, Turns.of_below HB.out⟩
set_option maxRecDepth 100000 in
set_option maxHeartbeats 2000000 in
theorem co_step_in (h : CoIs B w a g x c P T st) (C : CoPre BB x c st) (i : Nat) (hi : i < x.n) (hc : 0 < (sv st.T i).pc ∧ (sv st.T i).pc < 10) :
    Calls Tryz.prog 13 #[.pointer (some ⟨x.l, 0, none⟩), .int .i64 i] w (CoAct B w a g x c P T (coStep c st i) (cameK (sv st.T i) (sv (coStep c st i).T i))) := by
  have hT := h.thr hi
  have hlen : i < st.T.length := by rw [h.lS]; exact hi
  have HS := Lib.hid (spotCo h i hi)
  have hn := h.fx.n32
  have hl1 := h.lk.lt
  have hs2 := h.sp.lt
  have t2 : ¬ (i : Int) < 0 := by omega
  obtain ⟨p, hp⟩ : ∃ p, p = sv st.T i := ⟨_, rfl⟩
  have hI := (fun W (k : CoIs B W a g x c P T st) => co_in k C i hi p hp.symm)
  rw [← hp] at hc HS hT
  have HI := Lib.hid (fun W (k : CoIs B W a g x c P T st) => hI W k hc.1 hc.2)
  obtain ⟨m, hm⟩ : ∃ m, m = coMv c st i p := ⟨_, rfl⟩
  have HM := Lib.hid hm
  have e1 : coStep c st i = coSet st i m := by unfold coStep; rw [← hp, if_neg (by omega), hm]
  rw [e1]
  have e2 : sv (coSet st i m).T i = m.2.2.2 := by show sv (st.T.set i m.2.2.2) i = _; rw [sv_set, if_pos ⟨rfl, hlen⟩]
  rw [e2, ← hp]
  have q1 : ¬ p.pc = 0 := by omega
  have q2 : ¬ p.pc = 10 := by omega
  have HQ : Hid (cameK p m.2.2.2 = ((m.2.2.2.pc == 10) || (m.2.2.2.pc == 0))) := Lib.hid (by
    unfold cameK
    simp only [q1, q2, ne_eq, not_false_eq_true, and_true, Bool.decide_or]
    rfl)
  have u1 : (p.pc == 0) = false := by simpa using q1
  have u2 : (p.pc == 10) = false := by simpa using q2
  have u3 : decide (p.pc < 10) = true := by simpa using hc.2
  obtain ⟨s1, G1, L1, r⟩ := m
  simp only at HQ e1
  have HC := Lib.hid (fun W st (k : CoIs B W a g x c P T st) => CoN.spots k)
  have HT := Lib.hid hT
  have H := Lib.hid h
  have HX : Hid (coPc c st i p = ⟨s1, G1, L1, st.T.set i { r with pc := p.pc }⟩) := Lib.hid (by unfold coPc; rw [← hm]; rfl)
  have HR : Hid ((coMv c st i p).2.2.2.pc = r.pc) := Lib.hid (by rw [← hm])
  clear hI h C hp hT hm e1 e2 q1 q2 hc hlen
  obtain ⟨pc, u, b, z⟩ := p
  obtain ⟨pc', u', b', z'⟩ := r
  simp only at u1 u2 u3 HQ HR
  unfold spotV at HS
  have hfield := field_pc
  cases v1 : (pc' == 10) <;> cases v2 : (pc' == 0)
  all_goals
    go_enter Tryz.func13, Tryz.ntmps13
    go_wp2_with fail
    refine HS.out.mono ?_
    rintro en w1 ⟨rfl, b1⟩
    have K1 := Lib.hid (H.out.below b1.drew)
    have T1 := Lib.hid (Turns.of_below (S := CoS a g x) b1.drew)
    have hb1 := b1.size
    clear b1
    go_wp2_with fail
    go_region_held3 (fun W => W.cell? ⟨x.l, 8, none⟩ = some (.slice (some ⟨x.qs, 0, none⟩) x.n x.n))
      (first | with_reducible exact HC.out _ _ K1.out | with_reducible exact HC.out _ _ K2.out | with_reducible exact HC.out _ _ K3.out)
      (first
        | (go_at_call 45; go_loud (refine (HI.out _ K1.out).mono ?_); rintro en w3 ⟨he, k3, t3⟩; rw [HR.out] at he; subst he; rw [HX.out] at k3; have K2 := Lib.hid k3; have T2 := Lib.hid (T1.out.trans t3); have K3 := Lib.hid (K2.out.put0 (p' := (⟨pc', u', b', z'⟩ : Sp)) (getS_set HT.out _) (u := .int .i64 pc') rfl); have e1 := K2.out.sp.cell (getS_set HT.out _) 0 _ rfl; have z1 := K2.out.sp.free (i * 4); simp only [Nat.add_zero] at e1; clear k3 t3))
  all_goals
    have e4 := K3.out.sp.cell (getS_set (getS_set HT.out _) _) 0 _ rfl
    have c8' := HC.out _ _ K3.out
    simp only [Nat.add_zero] at e4
    clear e1 z1
    go_wp2
    go_ret
    refine ⟨by rw [HQ.out, v1, v2]; rfl, ?_, T2.out.trans (tS_qs _ _)⟩
    have k := K3.out
    rw [show (({ s := s1, G := G1, L := L1, T := (st.T.set i { (⟨pc', u', b', z'⟩ : Sp) with pc := pc }).set i ⟨pc', u', b', z'⟩ } : Co)) = coSet st i (s1, G1, L1, ⟨pc', u', b', z'⟩) from by unfold coSet; simp] at k
    exact k
set_option maxRecDepth 100000 in
set_option maxHeartbeats 2000000 in
theorem co_step_out (h : CoIs B w a g x c P T st) (C : CoPre BB x c st) (i : Nat) (hi : i < x.n) (hc : 10 < (sv st.T i).pc) :
    Calls Tryz.prog 13 #[.pointer (some ⟨x.l, 0, none⟩), .int .i64 i] w (CoAct B w a g x c P T (coStep c st i) (cameK (sv st.T i) (sv (coStep c st i).T i))) := by
  have hT := h.thr hi
  have hlen : i < st.T.length := by rw [h.lS]; exact hi
  have HS := Lib.hid (spotCo h i hi)
  have hn := h.fx.n32
  have hl1 := h.lk.lt
  have hs2 := h.sp.lt
  have t2 : ¬ (i : Int) < 0 := by omega
  obtain ⟨p, hp⟩ : ∃ p, p = sv st.T i := ⟨_, rfl⟩
  have hI := (fun W (k : CoIs B W a g x c P T st) => co_out k C i hi p hp.symm)
  rw [← hp] at hc HS hT
  have HI := Lib.hid (fun W (k : CoIs B W a g x c P T st) => hI W k hc)
  obtain ⟨m, hm⟩ : ∃ m, m = coMv c st i p := ⟨_, rfl⟩
  have HM := Lib.hid hm
  have e1 : coStep c st i = coSet st i m := by unfold coStep; rw [← hp, if_neg (by omega), hm]
  rw [e1]
  have e2 : sv (coSet st i m).T i = m.2.2.2 := by show sv (st.T.set i m.2.2.2) i = _; rw [sv_set, if_pos ⟨rfl, hlen⟩]
  rw [e2, ← hp]
  have q1 : ¬ p.pc = 0 := by omega
  have q2 : ¬ p.pc = 10 := by omega
  have HQ : Hid (cameK p m.2.2.2 = ((m.2.2.2.pc == 10) || (m.2.2.2.pc == 0))) := Lib.hid (by
    unfold cameK
    simp only [q1, q2, ne_eq, not_false_eq_true, and_true, Bool.decide_or]
    rfl)
  have u1 : (p.pc == 0) = false := by simpa using q1
  have u2 : (p.pc == 10) = false := by simpa using q2
  have u3 : decide (p.pc < 10) = false := by simp; omega
  obtain ⟨s1, G1, L1, r⟩ := m
  simp only at HQ e1
  have HC := Lib.hid (fun W st (k : CoIs B W a g x c P T st) => CoN.spots k)
  have HT := Lib.hid hT
  have H := Lib.hid h
  have HX : Hid (coPc c st i p = ⟨s1, G1, L1, st.T.set i { r with pc := p.pc }⟩) := Lib.hid (by unfold coPc; rw [← hm]; rfl)
  have HR : Hid ((coMv c st i p).2.2.2.pc = r.pc) := Lib.hid (by rw [← hm])
  clear hI h C hp hT hm e1 e2 q1 q2 hc hlen
  obtain ⟨pc, u, b, z⟩ := p
  obtain ⟨pc', u', b', z'⟩ := r
  simp only at u1 u2 u3 HQ HR
  unfold spotV at HS
  have hfield := field_pc
  cases v1 : (pc' == 10) <;> cases v2 : (pc' == 0)
  all_goals
    go_enter Tryz.func13, Tryz.ntmps13
    go_wp2_with fail
    refine HS.out.mono ?_
    rintro en w1 ⟨rfl, b1⟩
    have K1 := Lib.hid (H.out.below b1.drew)
    have T1 := Lib.hid (Turns.of_below (S := CoS a g x) b1.drew)
    have hb1 := b1.size
    clear b1
    go_wp2_with fail
    go_region_held3 (fun W => W.cell? ⟨x.l, 8, none⟩ = some (.slice (some ⟨x.qs, 0, none⟩) x.n x.n))
      (first | with_reducible exact HC.out _ _ K1.out | with_reducible exact HC.out _ _ K2.out | with_reducible exact HC.out _ _ K3.out)
      (first
        | (go_at_call 46; go_loud (refine (HI.out _ K1.out).mono ?_); rintro en w3 ⟨he, k3, t3⟩; rw [HR.out] at he; subst he; rw [HX.out] at k3; have K2 := Lib.hid k3; have T2 := Lib.hid (T1.out.trans t3); have K3 := Lib.hid (K2.out.put0 (p' := (⟨pc', u', b', z'⟩ : Sp)) (getS_set HT.out _) (u := .int .i64 pc') rfl); have e1 := K2.out.sp.cell (getS_set HT.out _) 0 _ rfl; have z1 := K2.out.sp.free (i * 4); simp only [Nat.add_zero] at e1; clear k3 t3))
  all_goals
    have e4 := K3.out.sp.cell (getS_set (getS_set HT.out _) _) 0 _ rfl
    have c8' := HC.out _ _ K3.out
    simp only [Nat.add_zero] at e4
    clear e1 z1
    go_wp2
    go_ret
    refine ⟨by rw [HQ.out, v1, v2]; rfl, ?_, T2.out.trans (tS_qs _ _)⟩
    have k := K3.out
    rw [show (({ s := s1, G := G1, L := L1, T := (st.T.set i { (⟨pc', u', b', z'⟩ : Sp) with pc := pc }).set i ⟨pc', u', b', z'⟩ } : Co)) = coSet st i (s1, G1, L1, ⟨pc', u', b', z'⟩) from by unfold coSet; simp] at k
    exact k
theorem stepCo (h : CoIs B w a g x c P T st) (C : CoPre BB x c st) (i : Nat) (hi : i < x.n) :
    Calls Tryz.prog 13 #[.pointer (some ⟨x.l, 0, none⟩), .int .i64 i] w (CoAct B w a g x c P T (coStep c st i) (cameK (sv st.T i) (sv (coStep c st i).T i))) := by
  have hk := C.v.k i hi
  by_cases h0 : (sv st.T i).pc = 0 ∨ (sv st.T i).pc = 10
  · exact co_step0 h i hi h0
  by_cases h1 : (sv st.T i).pc < 10
  · exact co_step_in h C i hi (by unfold linkP at hk; omega)
  · exact co_step_out h C i hi (by omega)
set_option maxRecDepth 100000 in
set_option maxHeartbeats 2000000 in
theorem askCo (h : CoIs B w a g x c P T st) (i : Nat) (hi : i < x.n) :
    Calls Tryz.prog 11 #[.pointer (some ⟨x.l, 0, none⟩), .int .i64 i] w (CoAct B w a g x c P T (coAsk c st i) (decide ((sv st.T i).pc = 0))) := by
  obtain ⟨y, v, S, hy, hv, hS, hs, hsp⟩ := h.loc hi
  have hT := h.thr hi
  have e0 := h.sp.cell hT 0 _ rfl
  simp only [Nat.add_zero] at e0
  have hn := h.fx.n32
  have c8 := CoN.spots h
  have hl1 := h.lk.lt
  have hs2 := h.sp.lt
  have t2 : ¬ (i : Int) < 0 := by omega
  have HH := Lib.hid (hasCo h i hi)
  have HOF := Lib.hid (ofCo h i hi hy hv)
  have HNB := Lib.hid (fun w1 (b1 : Below w.heap.size w w1) => CoN.mk' h b1 y v)
  have HA := Lib.hid (fun W (k : CoIs B W a g x c P T st) => co_askL k i hi hy)
  have H := Lib.hid h
  obtain ⟨st1, hst⟩ : ∃ s, s = coAsk c st i := ⟨_, rfl⟩
  rw [← hst]
  unfold coAsk at hst
  obtain ⟨L1, hL1⟩ : ∃ L, L = setL c st i (askK c.kl (lsp st.L (c.node i) (c.slot i))) := ⟨_, rfl⟩
  rw [← hL1] at hst HA
  obtain ⟨p, hp⟩ : ∃ p, p = sv st.T i := ⟨_, rfl⟩
  rw [← hp] at hst e0 hT ⊢
  have HT := Lib.hid hT
  have HE := Lib.hid hst
  clear h hy hv hS hs hsp hp hL1 hst hT
  obtain ⟨pc, u, b, z⟩ := p
  simp only at HE
  by_cases hpc : pc = 0
  · subst hpc
    go_enter Tryz.func11, Tryz.ntmps11
    go_wp2_with fail
    refine HH.out.mono ?_
    rintro en w1 ⟨rfl, rfl⟩
    go_wp2_with fail
    refine HOF.out.mono ?_
    rintro en w1 ⟨rfl, b1⟩
    have N1 := Lib.hid (HNB.out w1 b1)
    have hb1 := b1.size
    have k0 := N1.out.n0
    clear b1
    go_wp2_with fail
    refine (HA.out _ N1.out.is).mono ?_
    rintro en w2 ⟨⟨bb, rfl⟩, k2, t2'⟩
    have N2 := Lib.hid (N1.out.to k2 t2')
    have c8' := CoN.spots N2.out.is
    have e2 := N2.out.is.sp.cell HT.out 0 _ rfl
    have z2 := N2.out.is.sp.free (i * 4)
    simp only [Nat.add_zero] at e2
    clear k2 t2' k0
    have N3 := Lib.hid (N2.out.is.put0 (p' := (⟨1, u, b, z⟩ : Sp)) HT.out (u := .int .i64 1) rfl)
    have T3 := Lib.hid (N2.out.tn.trans (tS_qs (a := a) (g := g) (x := x) (w := w2) (i * 4) (.int .i64 1)))
    go_wp2
    go_ret
    refine ⟨rfl, ?_, T3.out⟩
    rw [HE.out]
    exact N3.out
  · have u1 : (pc != 0) = true := by simpa using hpc
    have e9 : decide (pc = 0) = false := by simpa using hpc
    show Calls _ _ _ _ (CoAct B w a g x c P T st1 (decide (pc = 0)))
    rw [e9]
    go_enter Tryz.func11, Tryz.ntmps11
    go_wp2_with fail
    refine HH.out.mono ?_
    rintro en w1 ⟨rfl, rfl⟩
    go_wp2
    go_ret
    refine ⟨rfl, ?_, Turns.refl _ _⟩
    rw [HE.out, if_neg hpc]
    exact H.out
set_option maxRecDepth 100000 in
set_option maxHeartbeats 2000000 in
theorem leaveCo (h : CoIs B w a g x c P T st) (i : Nat) (hi : i < x.n) :
    Calls Tryz.prog 12 #[.pointer (some ⟨x.l, 0, none⟩), .int .i64 i] w (CoAct B w a g x c P T (coLeave st i) (decide ((sv st.T i).pc = 10))) := by
  have hT := h.thr hi
  have hn := h.fx.n32
  have t2 : ¬ (i : Int) < 0 := by omega
  have HS := Lib.hid (spotCo h i hi)
  have H := Lib.hid h
  obtain ⟨st1, hst⟩ : ∃ s, s = coLeave st i := ⟨_, rfl⟩
  rw [← hst]
  unfold coLeave at hst
  obtain ⟨p, hp⟩ : ∃ p, p = sv st.T i := ⟨_, rfl⟩
  rw [← hp] at hst hT HS ⊢
  have HT := Lib.hid hT
  have HE := Lib.hid hst
  clear h hp hst hT
  obtain ⟨pc, u, b, z⟩ := p
  simp only at HE
  unfold spotV at HS
  have hfield := field_pc
  by_cases hpc : pc = 10
  · subst hpc
    go_enter Tryz.func12, Tryz.ntmps12
    go_wp2_with fail
    refine HS.out.mono ?_
    rintro en w1 ⟨rfl, b1⟩
    have K1 := Lib.hid (H.out.below b1)
    have T1 := Lib.hid (Turns.of_below (S := CoS a g x) b1)
    have c8' := CoN.spots K1.out
    have e2 := K1.out.sp.cell HT.out 0 _ rfl
    have z2 := K1.out.sp.free (i * 4)
    simp only [Nat.add_zero] at e2
    clear b1
    have N3 := Lib.hid (K1.out.put0 (p' := (⟨11, u, b, z⟩ : Sp)) HT.out (u := .int .i64 11) rfl)
    have T3 := Lib.hid (T1.out.trans (tS_qs (a := a) (g := g) (x := x) (w := w1) (i * 4) (.int .i64 11)))
    go_wp2
    go_ret
    refine ⟨rfl, ?_, T3.out⟩
    rw [HE.out]
    exact N3.out
  · have u1 : (pc != 10) = true := by simpa using hpc
    have e9 : decide (pc = 10) = false := by simpa using hpc
    show Calls _ _ _ _ (CoAct B w a g x c P T st1 (decide (pc = 10)))
    rw [e9]
    go_enter Tryz.func12, Tryz.ntmps12
    go_wp2_with fail
    refine HS.out.mono ?_
    rintro en w1 ⟨rfl, b1⟩
    have HB := Lib.hid b1
    clear b1
    go_wp2
    go_ret
    refine ⟨rfl, ?_, Turns.of_below HB.out⟩
    rw [HE.out, if_neg hpc]
    exact H.out.below HB.out
theorem passedCo (h : CoIs B w a g x c P T st) (i : Nat) (hi : i < x.n) (h1 : (sv st.T i).pc = 2) :
    Calls Tryz.prog 14 #[.pointer (some ⟨x.l, 0, none⟩), .int .i64 i] w fun e w' => e = .returned (.bool true) ∧ Below w.heap.size w w' := by
  have HS := Lib.hid (spotCo h i hi)
  obtain ⟨p, hp⟩ : ∃ p, p = sv st.T i := ⟨_, rfl⟩
  rw [← hp] at h1 HS
  clear hp h
  obtain ⟨pc, u, b, z⟩ := p
  simp only at h1
  subst h1
  unfold spotV at HS
  have hfield := field_pc
  go_enter Tryz.func14, Tryz.ntmps14
  go_wp2_with fail
  refine HS.out.mono ?_
  rintro en w1 ⟨rfl, b1⟩
  have HB := Lib.hid b1
  clear b1
  go_wp2
  go_ret
  exact ⟨rfl, HB.out⟩
theorem globalCo (h : CoIs B w a g x c P T st) (n : Nat) (hn : n < x.N) (h1 : (sv st.G n).pc = 0) :
    Calls Tryz.prog 15 #[.pointer (some ⟨x.l, 0, none⟩), .int .i64 n] w fun e w' => e = .returned (.int .i64 0) ∧ Below w.heap.size w w' := by
  have hG : st.G[n]? = some (sv st.G n) := by
    have : n < st.G.length := by rw [h.lG]; exact hn
    unfold sv
    rw [List.getD_eq_getElem?_getD, List.getElem?_eq_getElem this]; rfl
  have HS := Lib.hid (fl_spot h.gl h.fx.kg n _ hG)
  have c6 := CoN.glo h
  obtain ⟨p, hp⟩ : ∃ p, p = sv st.G n := ⟨_, rfl⟩
  rw [← hp] at h1 HS
  clear hp h hG
  obtain ⟨pc, u, b, z⟩ := p
  simp only at h1
  subst h1
  unfold spotV at HS
  have hfield := field_pc
  go_enter Tryz.func15, Tryz.ntmps15
  go_wp2_with fail
  refine HS.out.mono ?_
  rintro en w1 ⟨rfl, b1⟩
  have HB := Lib.hid b1
  clear b1
  go_wp2
  go_ret
  exact ⟨rfl, HB.out⟩
end
end Go.Proofs.YtfiigndlnihioaaGreat
end
section
/- Layer 24 (cohort): a new lock, exactly: what it is, and its memory while it is made. -/
namespace Go.Proofs.YtfiigndlnihioaaGreat
open Go.RowKit

def mtQ (P T : List Int) (n : Nat) : Nat := max 1 (T.count ((leavesL P).getD n 0))
/-- the arena when the first k nodes have their locks -/
def coNewS (kl par : Nat) (f : Nat → Nat) (s : Ar) : Nat → Ar
  | 0 => s
  | k + 1 => takeS (newAr_ kl (coNewS kl par f s k) (f k) par) 1
/-- a node's count's word -/
def cwN (kl par : Nat) (f : Nat → Nat) (s : Ar) (n : Nat) : Nat := (newAr_ kl (coNewS kl par f s n) (f n) par).W.length + 1
def coNewL (kl : Nat) (f : Nat → Nat) (N : Nat) : List (List Sp) := (List.range N).map fun n => newSpK kl (f n)
theorem storeA_len (s : Ar) (x v : Int) : (storeA s x v).W.length = s.W.length := by rw [storeA_W, stW_len]
theorem storeA_room (s : Ar) (x v : Int) : (storeA s x v).room = s.room := by unfold storeA wrA noteA; split <;> rfl
theorem takeS_len (s : Ar) (n : Nat) : (takeS s n).W.length = s.W.length + n := by unfold takeS; simp
theorem newAr_len (k : Nat) (s : Ar) (n m : Nat) : (newAr_ k s n m).W.length = s.W.length + szK k n m := by
  unfold newAr_
  split
  · rw [storeA_len, takeS_len]
  split
  · rw [storeA_len, takeS_len]
  · rw [takeS_len]
theorem newAr_room (k : Nat) (s : Ar) (n m : Nat) : (newAr_ k s n m).room = s.room := by
  unfold newAr_
  split
  · rw [storeA_room]; rfl
  split
  · rw [storeA_room]; rfl
  · rfl
theorem szK_le {k n m : Nat} (hn : n ≤ 32) (hm : m ≤ 4) : szK k n m ≤ 65 := by
  unfold szK
  split
  · omega
  split
  · omega
  split
  · omega
  split <;> omega
theorem newSpK_len (k n : Nat) : (newSpK k n).length = n := by
  unfold newSpK
  split <;> simp
section
variable {kl par : Nat} {f : Nat → Nat} {s : Ar}
theorem coNewS_room (k : Nat) : (coNewS kl par f s k).room = s.room := by
  induction k with
  | zero => rfl
  | succ k ih => show (newAr_ _ _ _ _).room = _; rw [newAr_room, ih]
theorem coNewS_len (hf : ∀ n, f n ≤ 32) (hp : par ≤ 4) (k : Nat) : (coNewS kl par f s k).W.length ≤ s.W.length + 66 * k := by
  induction k with
  | zero => exact Nat.le_refl _
  | succ k ih =>
    show (takeS (newAr_ _ _ _ _) 1).W.length ≤ _
    rw [takeS_len, newAr_len]
    have := szK_le (k := kl) (hf k) hp
    omega
theorem mtQ_le {P T : List Int} (hT : T.length ≤ 32) (n : Nat) : 1 ≤ mtQ P T n ∧ mtQ P T n ≤ 32 := by
  have : T.count ((leavesL P).getD n 0) ≤ T.length := List.count_le_length
  unfold mtQ
  omega
end
/-- a new lock's own -/
def coCN (kg kl par : Nat) (bud : Int) (P T : List Int) (s : Ar) : CoC :=
  ⟨kg, kl, (s.W.length + 1 : Nat), (par : Int), bud, nodeQ P T, fun i => (slotOf T i).toNat, fun n => ((coNewS kl par (mtQ P T) (newAr_ kg s (leavesL P).length par) n).W.length + 1 : Nat), fun n => (cwN kl par (mtQ P T) (newAr_ kg s (leavesL P).length par) n : Nat)⟩
def coStN (kg kl par : Nat) (P T : List Int) (s : Ar) : Co :=
  ⟨coNewS kl par (mtQ P T) (newAr_ kg s (leavesL P).length par) (leavesL P).length, newSpK kg (leavesL P).length, coNewL kl (mtQ P T) (leavesL P).length, List.replicate T.length Sp.zero⟩
theorem blk_ne {w : World} {i j : Nat} {t u : TypeId} {cs ds : Array Value} (h : Blk w i t cs) (k : Blk w j u ds) (hn : t ≠ u) : i ≠ j := by
  rintro rfl
  have e := h.symm.trans k
  simp only [Option.some.injEq, Obj.cells.injEq] at e
  exact hn e.2.1
/-- two kinds of block that are no part of a flat lock -/
def Cn (t : TypeId) : Prop := t = 82 ∨ t = 88
theorem lkT_cn (k : Nat) {t : TypeId} (h : Cn t) : t ≠ lkT k := by
  unfold lkT
  rcases h with rfl | rfl <;> split <;> decide
theorem FlIs.away {w : World} {a g k : Nat} {x : Fx} {s : Ar} {S : List Sp} (h : FlIs w a g k x s S) {i : Nat} {t : TypeId} {cs : Array Value} (hb : Blk w i t cs) (ht : Cn t) : i ≠ x.p ∧ i ≠ x.l ∧ i ≠ x.q := by
  obtain ⟨Z, z⟩ := h.ki.sp
  refine ⟨blk_ne hb h.p ?_, blk_ne hb h.ki.lk (lkT_cn k ht), blk_ne hb z ?_⟩
  · rcases ht with rfl | rfl <;> decide
  · rcases ht with rfl | rfl <;> decide
/-- while the nodes' locks are made -/
structure NwQ (w : World) (a g lo : Nat) (o0 : Nat → Nat) (kg kl par N : Nat) (f : Nat → Nat) (s7 : Ar) (xg : Fx) (k : Nat) (X : List Fx) (V : List Nat) (o : Nat → Nat) : Prop where
  ar : ArIs w a g (coNewS kl par f s7 k)
  gl : FlIs w a g kg xg (coNewS kl par f s7 k) (newSpK kg N)
  ls : ∀ (n : Nat) (y : Fx), X[n]? = some y → FlIs w a g kl y (coNewS kl par f s7 k) (newSpK kl (f n)) ∧ y.t = (coNewS kl par f s7 n).W.length + 1 ∧ y.m = par ∧ (o y.p = 5 + n ∧ o y.l = 5 + n ∧ o y.q = 5 + n) ∧ lo ≤ y.p ∧ lo ≤ y.l ∧ lo ≤ y.q
  v : ∀ n v, V[n]? = some v → v = cwN kl par f s7 n
  lX : X.length = k
  lV : V.length = k
  oo : ∀ i, i < lo → o i = o0 i
section
variable {w1 w2 w3 w4 : World} {a g lo : Nat} {o0 o : Nat → Nat} {kg kl par N : Nat} {f : Nat → Nat} {s7 : Ar} {xg : Fx} {k : Nat} {X : List Fx} {V : List Nat}
/-- a flat lock beside which another is made -/
theorem FlIs.beside {k : Nat} {x : Fx} {s s' : Ar} {S : List Sp} (h : FlIs w1 a g k x s S) (t2 : Turns [a, g] w1 w3) (hA : ArIs w3 a g s') {q : List Nat} (t3 : Turns q w3 w4) (ha : a ∉ q) (hg : g ∉ q) (hq : ∀ i ∈ q, ∃ t cs, Blk w3 i t cs ∧ Cn t) : FlIs w4 a g k x s' S := by
  have h2 : FlIs w3 a g k x s' S := h.oth t2 hA (by simp [h.pa, h.pg]) (by simp [h.ki.la, h.ki.lg]) (by simp [h.ki.qa, h.ki.qg])
  refine h2.turns t3 ?_ ?_ ha hg ?_
  all_goals
    intro hm
    obtain ⟨t, cs, hb, ht⟩ := hq _ hm
    have := h2.away hb ht
    omega
theorem NwQ.step (h : NwQ w1 a g lo o0 kg kl par N f s7 xg k X V o) (hlo : lo ≤ w1.heap.size) {y : Fx} (hy : FlIs w2 a g kl y (newAr_ kl (coNewS kl par f s7 k) (f k) par) (newSpK kl (f k)))
    (t1 : Turns [a, g] w1 w2) (hf : w1.heap.size ≤ y.p ∧ w1.heap.size ≤ y.l ∧ w1.heap.size ≤ y.q) (ht : y.t = (coNewS kl par f s7 k).W.length + 1) (hm : y.m = par)
    (t2 : Turns [a] w2 w3) (hA : ArIs w3 a g (takeS (newAr_ kl (coNewS kl par f s7 k) (f k) par) 1)) {q : List Nat} (t3 : Turns q w3 w4) (ha : a ∉ q) (hg : g ∉ q) (hq : ∀ i ∈ q, ∃ t cs, Blk w3 i t cs ∧ Cn t) :
    NwQ w4 a g lo o0 kg kl par N f s7 xg (k + 1) (X ++ [y]) (V ++ [cwN kl par f s7 k]) (fun i => if w1.heap.size ≤ i then 5 + k else o i) := by
  have t2' : Turns [a, g] w2 w3 := t2.mono (by simp)
  have t12 := t1.trans t2'
  refine ⟨hA.turns t3 ha hg, h.gl.beside t12 hA t3 ha hg hq, ?_, ?_, by simp [h.lX], by simp [h.lV], fun i hi => by rw [if_neg (by omega)]; exact h.oo i hi⟩
  · intro n z hz
    by_cases hn : n < k
    · rw [List.getElem?_append_left (by rw [h.lX]; exact hn)] at hz
      obtain ⟨e1, e2, e3, e4, e5⟩ := h.ls n z hz
      have l1 := e1.p.lt
      have l2 := e1.ki.lk.lt
      have l3 := e1.ki.sp.lt
      exact ⟨e1.beside t12 hA t3 ha hg hq, e2, e3, ⟨by rw [if_neg (by omega)]; exact e4.1, by rw [if_neg (by omega)]; exact e4.2.1, by rw [if_neg (by omega)]; exact e4.2.2⟩, e5⟩
    · have hlt := (List.getElem?_eq_some_iff.1 hz).1
      simp only [List.length_append, List.length_cons, List.length_nil, h.lX] at hlt
      obtain rfl : n = k := by omega
      rw [List.getElem?_append_right (by rw [h.lX]; omega), h.lX] at hz
      simp only [Nat.sub_self, List.getElem?_cons_zero, Option.some.injEq] at hz
      subst hz
      exact ⟨hy.beside t2' hA t3 ha hg hq, ht, hm, ⟨by rw [if_pos hf.1], by rw [if_pos hf.2.1], by rw [if_pos hf.2.2]⟩, by omega, by omega, by omega⟩
  · intro n v hv
    by_cases hn : n < k
    · rw [List.getElem?_append_left (by rw [h.lV]; exact hn)] at hv
      exact h.v n v hv
    · have hlt := (List.getElem?_eq_some_iff.1 hv).1
      simp only [List.length_append, List.length_cons, List.length_nil, h.lV] at hlt
      obtain rfl : n = k := by omega
      rw [List.getElem?_append_right (by rw [h.lV]; omega), h.lV] at hv
      simp only [Nat.sub_self, List.getElem?_cons_zero, Option.some.injEq] at hv
      exact hv.symm
theorem NwQ.start (hA : ArIs w1 a g s7) (hgl : FlIs w1 a g kg xg s7 (newSpK kg N)) : NwQ w1 a g lo o0 kg kl par N f s7 xg 0 [] [] o0 :=
  ⟨hA, hgl, by intro n y hy; simp at hy, by intro n v hv; simp at hv, rfl, rfl, fun _ _ => rfl⟩
end
theorem zip_snoc (X : List Fx) (V : List Nat) (y : Fx) (v : Nat) (h : X.length = V.length) : ((X ++ [y]).zip (V ++ [v])).flatMap ndE = (X.zip V).flatMap ndE ++ [.pointer (some ⟨y.p, 0, none⟩), .int .i64 v] := by
  rw [List.zip_append h]
  simp [List.flatMap_append, ndE]
/-- a slice's block, whatever its room -/
theorem own_blkZ {w : World} {base : Nat} {e : TypeId} {sz n : Nat} {v : Value} {xs : List Value} (h : w.ownsRow base e sz v n xs) (hn : 1 ≤ n) : ∃ q cap, v = .slice (some ⟨q, 0, none⟩) n cap ∧ n ≤ cap ∧ base ≤ q ∧ ∃ Z : List Value, Blk w q e (xs ++ Z).toArray := by
  rcases h.2 with ⟨_, h0⟩ | ⟨q, cap, cur, rfl, hb, hq, hnc, hcm, hcs, ht⟩
  · omega
  · refine ⟨q, cap, rfl, hnc, hb, cur.toList.drop (n * sz), ?_⟩
    rw [← ht, List.take_append_drop, Array.toArray_toList]
    exact hq
/-- the slot of a thread is one of its node's -/
theorem slot_lt {P T : List Int} (hc : chkT P T = 0) {i : Nat} (hi : i < T.length) : nodeQ P T i < (leavesL P).length ∧ (leavesL P).getD (nodeQ P T i) 0 = T.getD i 0 ∧ 0 ≤ slotOf T i ∧ (slotOf T i).toNat < mtQ P T (nodeQ P T i) := by
  obtain ⟨y, hy⟩ := getElem?_lt hi
  have hm := thr_mem (chk_ok hc).2.2.2 hy
  obtain ⟨k, hk⟩ := Int.eq_ofNat_of_zero_le ((idx_nonneg (leavesL P) y).1.2 hm)
  have hg := idx_get hm hk
  have e : nodeQ P T i = k := by
    unfold nodeQ
    rw [getD_of hy, hk]; rfl
  rw [e, getD_of hg, getD_of hy]
  refine ⟨(List.getElem?_eq_some_iff.1 hg).1, rfl, by unfold slotOf; omega, ?_⟩
  unfold slotOf mtQ
  rw [getD_of hy, getD_of hg, Int.toNat_natCast]
  have e2 : T = T.take i ++ T.drop i := (List.take_append_drop i T).symm
  have e3 : T.drop i = y :: T.drop (i + 1) := by
    rw [List.drop_eq_getElem_cons hi]
    congr 1
    have := List.getElem?_eq_getElem hi
    rw [hy] at this
    injection this with this
    exact this.symm
  have : T.count y = (T.take i).count y + 1 + (T.drop (i + 1)).count y := by
    conv => lhs; rw [e2, List.count_append, e3, List.count_cons_self]
    omega
  omega
/-- all that a lock's memory is, but its labels' default -/
theorem co_made {B : Nat → Prop} {w : World} {a g l b qs lo : Nat} {o0 o : Nat → Nat} {kg kl par : Nat} {bud : Int} {P T : List Int} {s : Ar} {xg : Fx} {X : List Fx} {V : List Nat} {v : Value}
    (h : NwQ w a g lo o0 kg kl par (leavesL P).length (mtQ P T) (newAr_ kg s (leavesL P).length par) xg (leavesL P).length X V o)
    (hc : chkT P T = 0) (hkg : KOk kg) (hkl : KOk kl) (hp : 1 ≤ par ∧ par ≤ 4) (hb : 0 ≤ bud ∧ bud ≤ 1000) (hN : 1 ≤ (leavesL P).length)
    (hl : Blk w l 82 (coC a b (kg : Int) (kl : Int) par bud (.pointer (some ⟨xg.p, 0, none⟩)) v (.slice (some ⟨qs, 0, none⟩) T.length T.length)))
    (hv : w.ownsRow lo 88 2 v (leavesL P).length ((X.zip V).flatMap ndE)) (htab : TabQ B w b P T) (hsp : SpR w qs (List.replicate T.length Sp.zero))
    (ht : xg.t = s.W.length + 1) (hm : xg.m = par) (hlen : s.W.length ≤ 100)
    (o1 : o0 l = 1) (o2 : o0 qs = 2) (o3 : o0 a = 3 ∧ o0 g = 3) (o4 : o0 xg.p = 4 ∧ o0 xg.l = 4 ∧ o0 xg.q = 4) (oB : ∀ i, B i → o0 i = 0)
    (ll : l < lo) (lq : qs < lo) (la : a < lo) (lg : g < lo) (lG : xg.p < lo ∧ xg.l < lo ∧ xg.q < lo) (lB : ∀ i, B i → i < lo) :
    ∃ x : Cox, x.l = l ∧ x.qs = qs ∧ x.g = xg ∧ x.X = X ∧ lo ≤ x.qn ∧ CoIs B w a g x (coCN kg kl par bud P T s) P T (coStN kg kl par P T s) := by
  obtain ⟨qn, cap, rfl, hcap, hq, Z, hZ⟩ := own_blkZ hv hN
  have hml := many_lt (chk_ok hc).1
  have hT32 : T.length ≤ 32 := hml.2.2.2
  have hN32 : (leavesL P).length ≤ 32 := by
    have := leavesTo_len P P.length
    show (leavesTo P P.length).length ≤ 32; omega
  have hbn : ∀ i, i < lo → (if i = qn then 1 else o i) = o0 i := fun i hi => by rw [if_neg (by omega)]; exact h.oo i hi
  refine ⟨⟨l, b, qn, qs, T.length, (leavesL P).length, cap, par, xg, X, V, fun i => if i = qn then 1 else o i⟩, rfl, rfl, rfl, rfl, hq, ?_⟩
  refine { fx := ?_, ar := h.ar, lk := hl, tb := htab, nd := ⟨Z, hZ⟩, sp := hsp, gl := h.gl, lo := ?_, lL := ?_, lG := newSpK_len _ _, lS := by simp [coStN], sl := ?_ }
  · refine { ck := hc, nT := rfl, nN := rfl, lX := h.lX, lW := h.lV, cap := hcap, cn := ?_, tg := ?_, tl := ?_, gm := by show (xg.m : Int) = (par : Int); rw [hm], pm := rfl, cc := ?_, kg := hkg, kl := hkl, bud := hb, par := hp, ol := ?_, on := by simp, os := ?_, oa := ?_, og := ?_, oG := ?_, oL := ?_, oB := ?_ }
    · intro i hi
      refine ⟨rfl, ?_⟩
      have := (slot_lt hc hi).2.2.1
      show (((slotOf T i).toNat : Nat) : Int) = _
      omega
    · show ((s.W.length + 1 : Nat) : Int) = _
      rw [ht]
    · intro n y hy
      obtain ⟨_, e2, e3, _⟩ := h.ls n y hy
      refine ⟨?_, by show (y.m : Int) = (par : Int); rw [e3]⟩
      show (((coNewS _ _ _ _ n).W.length + 1 : Nat) : Int) = _
      rw [e2]
    · intro n v hv
      have hn : n < (leavesL P).length := by have := (List.getElem?_eq_some_iff.1 hv).1; rw [h.lV] at this; exact this
      have e := h.v n v hv
      refine ⟨by show ((cwN _ _ _ _ n : Nat) : Int) = _; rw [e], ?_⟩
      rw [e]
      unfold cwN
      rw [newAr_len]
      have h1 := coNewS_len (kl := kl) (par := par) (f := mtQ P T) (s := newAr_ kg s (leavesL P).length par) (fun n => (mtQ_le hT32 n).2) hp.2 n
      rw [newAr_len] at h1
      have h2 := szK_le (k := kg) hN32 hp.2
      have h3 := szK_le (k := kl) (mtQ_le (P := P) hT32 n).2 hp.2
      omega
    · show (if _ then 1 else _) = 1; rw [hbn _ ll, o1]
    · show (if _ then 1 else _) = 2; rw [hbn _ lq, o2]
    · show (if _ then 1 else _) = 3; rw [hbn _ la, o3.1]
    · show (if _ then 1 else _) = 3; rw [hbn _ lg, o3.2]
    · refine ⟨?_, ?_, ?_⟩
      · show (if _ then 1 else _) = 4; rw [hbn _ lG.1, o4.1]
      · show (if _ then 1 else _) = 4; rw [hbn _ lG.2.1, o4.2.1]
      · show (if _ then 1 else _) = 4; rw [hbn _ lG.2.2, o4.2.2]
    · intro n y hy
      obtain ⟨e1, _, _, e4, _⟩ := h.ls n y hy
      have := e1.away hZ (.inr rfl)
      refine ⟨?_, ?_, ?_⟩
      · show (if _ then 1 else _) = _; rw [if_neg (by omega)]; exact e4.1
      · show (if _ then 1 else _) = _; rw [if_neg (by omega)]; exact e4.2.1
      · show (if _ then 1 else _) = _; rw [if_neg (by omega)]; exact e4.2.2
    · intro i hi
      show (if _ then 1 else _) = 0; rw [hbn _ (lB i hi), oB i hi]
  · intro n y S hy hS
    have e := (h.ls n y hy).1
    have hn : n < (leavesL P).length := by have := (List.getElem?_eq_some_iff.1 hy).1; rw [h.lX] at this; exact this
    have : S = newSpK kl (mtQ P T n) := by
      simp only [coStN, coNewL, List.getElem?_map, List.getElem?_range hn, Option.map_some, Option.some.injEq] at hS
      exact hS.symm
    rw [this]
    exact e
  · show (coNewL _ _ _).length = _
    simp [coNewL]
  · intro i S hi hS
    obtain ⟨h1, _, h3, h4⟩ := slot_lt hc (show i < T.length from hi)
    have : S = newSpK kl (mtQ P T (nodeQ P T i)) := by
      have hS' : (coNewL kl (mtQ P T) (leavesL P).length)[nodeQ P T i]? = some S := hS
      simp only [coNewL, List.getElem?_map, List.getElem?_range h1, Option.map_some, Option.some.injEq] at hS'
      exact hS'.symm
    rw [this, newSpK_len]
    exact h4
end Go.Proofs.YtfiigndlnihioaaGreat
end
