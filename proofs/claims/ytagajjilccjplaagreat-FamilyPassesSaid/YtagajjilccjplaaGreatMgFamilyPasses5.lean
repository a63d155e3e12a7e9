/- Joined: FlX, FlY. -/
import Derived.Test.YtagajjilccjplaaGreatMgFamilyPasses4
section
set_option linter.unusedVariables false
set_option linter.unusedSimpArgs false
/- Layer 17 (parted): place, served, last, asks, Step, Alone. -/
namespace Go.Proofs.YtagajjilccjplaaGreat
open Go.RowKit

section
variable {w w' : World} {a g k : Nat} {x : Fx} {s : Ar} {S : List Sp}
theorem KIs.pi (h : KIs w a g 3 x s S) : w.cell? ⟨x.l, 0, none⟩ = some (.pointer (some ⟨a, 0, none⟩)) ∧ w.cell? ⟨x.l, 1, none⟩ = some (.int .i64 x.t) ∧ w.cell? ⟨x.l, 2, none⟩ = some (.int .i64 x.m) ∧ w.cell? ⟨x.l, 3, none⟩ = some (.slice (some ⟨x.q, 0, none⟩) x.n x.cap) := ⟨h.lk.cell 0, h.lk.cell 1, h.lk.cell 2, h.lk.cell 3⟩
theorem KIs.qt (h : KIs w a g k x s S) (q : Qt w w') : KIs w' a g k x s S := h.turns (T := []) (Turns.of_qt q) (by simp) (by simp) (by simp) (by simp)
set_option maxRecDepth 100000 in
set_option maxHeartbeats 2000000 in
theorem place_parted (h : KIs w a g 3 x s S) (y : Int) (hy : 0 ≤ y ∧ y ≤ 10000000000000) : Calls Tryz.prog 145 #[.pointer (some ⟨x.l, 0, none⟩), .int .i64 y] w fun e w' => e = .returned (.int .i64 (pPl x.t x.m y)) ∧ Qt w w' := by
  obtain ⟨c0, c1, c2, c3⟩ := h.pi
  have t1 := h.t1
  have m0 := h.m0
  have m1 := h.m1
  have hm : ((x.m : Int) == 0) = false := by simp; omega
  have hr : y % (x.m : Int) < x.m := Int.emod_lt_of_pos _ (by omega)
  have hr0 : 0 ≤ y % (x.m : Int) := Int.emod_nonneg _ (by omega)
  obtain ⟨r, hre⟩ : ∃ r, r = y % (x.m : Int) := ⟨_, rfl⟩
  have e0 : y.tmod (x.m : Int) = r := by rw [hre]; exact Int.tmod_eq_emod_of_nonneg hy.1
  have e1 : IntKind.i64.wrap ((x.t : Int) + 1) = (x.t : Int) + 1 := IntWalk.i64_in _ (by omega)
  have e2 : IntKind.i64.wrap ((x.t : Int) + 1 + r) = (x.t : Int) + 1 + r := IntWalk.i64_in _ (by rw [← hre] at hr hr0; omega)
  have HX : Hid (pPl x.t x.m y = (x.t : Int) + 1 + r) := Lib.hid (by unfold pPl; rw [hre])
  have HR := Lib.hid hre
  rw [HX.out]
  rw [← hre] at hr hr0
  clear h hre
  go_enter Tryz.func145, Tryz.ntmps145
  go_wp2_with fail
  go_quiet (fail)
  go_wp2
  go_ret
  exact ⟨rfl, ⟨nq, rfl⟩⟩
set_option maxRecDepth 100000 in
set_option maxHeartbeats 2000000 in
theorem served_parted (h : KIs w a g 3 x s S) (y : Int) (hy : 0 ≤ y ∧ y ≤ 1000000000000) (ho : s.ops + 1 ≤ 1000000000000) : Calls Tryz.prog 393 #[.pointer (some ⟨x.l, 0, none⟩), .int .i64 y] w fun e w' => e = .returned (.bool (decide (ldW s.W (pPl x.t x.m y) = y + 1))) ∧ KIs w' a g 3 x (loadA s (pPl x.t x.m y)) S ∧ Turns [a, g, x.q] w w' := by
  obtain ⟨ad, had⟩ : ∃ z, z = pPl x.t x.m y := ⟨_, rfl⟩
  obtain ⟨ar', har⟩ : ∃ q, q = loadA s ad := ⟨_, rfl⟩
  obtain ⟨v, hv⟩ : ∃ v, v = ldW s.W ad := ⟨_, rfl⟩
  have HO0 := (fun W (k : KIs W a g 3 x s S) => load_any k.ar ad ho)
  rw [← har, ← hv] at HO0
  have HPl0 := (fun W (k : KIs W a g 3 x s S) => place_parted k y (by omega))
  rw [← had] at HPl0
  rw [← had, ← hv, ← har]
  have e2 : IntKind.i64.wrap (y + 1) = y + 1 := IntWalk.i64_in _ (by omega)
  have HO := Lib.hid HO0
  have HPl := Lib.hid HPl0
  have K1 := Lib.hid (h.below ((Below.refl _ w).drew))
  clear HO0 h har hv HPl0 had
  cases hd : (v == y + 1)
  all_goals
    go_enter Tryz.func393, Tryz.ntmps393
    go_wp2_with fail
    first
    | (go_region_held3 (fun W => W.cell? ⟨x.l, 0, none⟩ = some (.pointer (some ⟨a, 0, none⟩)) ∧ W.cell? ⟨x.l, 1, none⟩ = some (.int .i64 x.t) ∧ W.cell? ⟨x.l, 2, none⟩ = some (.int .i64 x.m) ∧ W.cell? ⟨x.l, 3, none⟩ = some (.slice (some ⟨x.q, 0, none⟩) x.n x.cap))
        (first | with_reducible exact K1.out.pi | with_reducible exact Q2.out.pi | with_reducible exact K2.out.pi)
        (first
          | (go_at_call 145; go_loud (refine (HPl.out _ K1.out).mono ?_); rintro en w2 ⟨rfl, q2⟩; have Q2 := Lib.hid (K1.out.qt q2); have T1 := Lib.hid (((Turns.refl [a, g, x.q] w).drew).trans (Turns.of_qt q2)); clear q2)
          | (go_at_call 140; go_loud (refine (HO.out _ Q2.out).mono ?_); rintro en w3 ⟨rfl, a3, t3⟩; have K2 := Lib.hid (Q2.out.op t3 a3); have T2 := Lib.hid (T1.out.trans (turns_agq t3)); clear a3 t3)))
    | fail "held"
  all_goals
    go_wp2
    go_ret
    first
      | exact ⟨by rw [decide_eq_true (by simpa using hd)]; rfl, K2.out, T2.out⟩
      | exact ⟨by rw [decide_eq_false (by simpa using hd)]; rfl, K2.out, T2.out⟩
set_option maxRecDepth 100000 in
set_option maxHeartbeats 2000000 in
theorem last_parted (h : KIs w a g 3 x s S) (y : Int) (hy : 0 ≤ y ∧ y ≤ 1000000000000) (ho : s.ops + 1 ≤ 1000000000000) : Calls Tryz.prog 390 #[.pointer (some ⟨x.l, 0, none⟩), .int .i64 y] w fun e w' => e = .returned (.bool (decide (ldW s.W ((x.t : Int)) = y + 1))) ∧ KIs w' a g 3 x (loadA s ((x.t : Int))) S ∧ Turns [a, g, x.q] w w' := by
  obtain ⟨ad, had⟩ : ∃ z, z = (x.t : Int) := ⟨_, rfl⟩
  obtain ⟨ar', har⟩ : ∃ q, q = loadA s ad := ⟨_, rfl⟩
  obtain ⟨v, hv⟩ : ∃ v, v = ldW s.W ad := ⟨_, rfl⟩
  have HO0 := (fun W (k : KIs W a g 3 x s S) => load_any k.ar ad ho)
  rw [← har, ← hv] at HO0
  rw [← had, ← hv, ← har]
  have e2 : IntKind.i64.wrap (y + 1) = y + 1 := IntWalk.i64_in _ (by omega)
  have HO := Lib.hid HO0
  rw [had] at HO
  have K1 := Lib.hid (h.below ((Below.refl _ w).drew))
  clear HO0 h har hv had
  cases hd : (v == y + 1)
  all_goals
    go_enter Tryz.func390, Tryz.ntmps390
    go_wp2_with fail
    first
    | (go_region_held3 (fun W => W.cell? ⟨x.l, 0, none⟩ = some (.pointer (some ⟨a, 0, none⟩)) ∧ W.cell? ⟨x.l, 1, none⟩ = some (.int .i64 x.t) ∧ W.cell? ⟨x.l, 2, none⟩ = some (.int .i64 x.m) ∧ W.cell? ⟨x.l, 3, none⟩ = some (.slice (some ⟨x.q, 0, none⟩) x.n x.cap))
        (first | with_reducible exact K1.out.pi | with_reducible exact Q2.out.pi | with_reducible exact K2.out.pi)
        (first
          | (go_at_call 140; go_loud (refine (HO.out _ K1.out).mono ?_); rintro en w3 ⟨rfl, a3, t3⟩; have K2 := Lib.hid (K1.out.op t3 a3); have T2 := Lib.hid (((Turns.refl [a, g, x.q] w).drew).trans (turns_agq t3)); clear a3 t3)))
    | fail "held"
  all_goals
    go_wp2
    go_ret
    first
      | exact ⟨by rw [decide_eq_true (by simpa using hd)]; rfl, K2.out, T2.out⟩
      | exact ⟨by rw [decide_eq_false (by simpa using hd)]; rfl, K2.out, T2.out⟩
set_option maxRecDepth 100000 in
set_option maxHeartbeats 2000000 in
theorem asks_served (h : KIs w a g 3 x s S) (i : Nat) (u b z : Int) (hp : S[i]? = some (⟨2, u, b, z⟩ : Sp)) (hu : 0 ≤ u ∧ u ≤ 1000000000000) (ho : s.ops + 1 ≤ 1000000000000) : Calls Tryz.prog 389 #[.pointer (some ⟨x.l, 0, none⟩), .int .i64 i, .int .i64 2, .func (.func 393) #[] #[]] w fun e w' => e = .returned (.bool (decide (ldW s.W (pPl x.t x.m u) = u + 1))) ∧ KIs w' a g 3 x (loadA s (pPl x.t x.m u)) S ∧ Turns [a, g, x.q] w w' := by
  have hi : i < x.n := by have := (List.getElem?_eq_some_iff.1 hp).1; rw [h.n] at this; exact this
  have a0 := h.sp.cell hp 0 _ rfl
  have a1 := h.sp.cell hp 1 _ rfl
  simp only [Nat.add_zero] at a0
  have HL := Lib.hid (served_parted h u hu ho)
  have K0 := Lib.hid h
  clear h hp
  go_enter Tryz.func389, Tryz.ntmps389
  go_wp2_with (go_at_call 392; refine (spot_parted K0.out i hi).mono ?_; rintro e w' ⟨rfl, rfl⟩)
  go_wp2_with fail
  refine HL.out.mono ?_
  rintro en w2 ⟨rfl, k2, t2⟩
  have H2 := Lib.hid (And.intro k2 t2)
  clear k2 t2
  go_wp2
  go_ret
  exact ⟨rfl, H2.out⟩
set_option maxRecDepth 100000 in
set_option maxHeartbeats 2000000 in
theorem asks_last (h : KIs w a g 3 x s S) (i : Nat) (u b z : Int) (hp : S[i]? = some (⟨10, u, b, z⟩ : Sp)) (hu : 0 ≤ u ∧ u ≤ 1000000000000) (ho : s.ops + 1 ≤ 1000000000000) : Calls Tryz.prog 389 #[.pointer (some ⟨x.l, 0, none⟩), .int .i64 i, .int .i64 10, .func (.func 390) #[] #[]] w fun e w' => e = .returned (.bool (decide (ldW s.W ((x.t : Int)) = u + 1))) ∧ KIs w' a g 3 x (loadA s ((x.t : Int))) S ∧ Turns [a, g, x.q] w w' := by
  have hi : i < x.n := by have := (List.getElem?_eq_some_iff.1 hp).1; rw [h.n] at this; exact this
  have a0 := h.sp.cell hp 0 _ rfl
  have a1 := h.sp.cell hp 1 _ rfl
  simp only [Nat.add_zero] at a0
  have HL := Lib.hid (last_parted h u hu ho)
  have K0 := Lib.hid h
  clear h hp
  go_enter Tryz.func389, Tryz.ntmps389
  go_wp2_with (go_at_call 392; refine (spot_parted K0.out i hi).mono ?_; rintro e w' ⟨rfl, rfl⟩)
  go_wp2_with fail
  refine HL.out.mono ?_
  rintro en w2 ⟨rfl, k2, t2⟩
  have H2 := Lib.hid (And.intro k2 t2)
  clear k2 t2
  go_wp2
  go_ret
  exact ⟨rfl, H2.out⟩
set_option maxRecDepth 100000 in
set_option maxHeartbeats 2000000 in
theorem alone_parted (h : KIs w a g 3 x s S) (i : Nat) (p : Sp) (hp : S[i]? = some p) (hpc : p.pc = 10) (ho : s.ops + 1 ≤ 1000000000000) (hu : 0 ≤ p.a ∧ p.a ≤ 1000000000000) :
    Calls Tryz.prog 383 #[.pointer (some ⟨x.l, 0, none⟩), .int .i64 i] w (AlOk w a g 3 x s S i p) := by
  obtain ⟨c, u, b, z⟩ := p
  simp only at hpc hu
  subst hpc
  have HA := Lib.hid (asks_last h i u b z hp hu ho)
  have HX : Hid (aloneK 3 x.t s i ⟨10, u, b, z⟩ = (loadA s x.t, decide (ldW s.W x.t = u + 1))) := Lib.hid rfl
  clear h hp
  go_enter Tryz.func383, Tryz.ntmps383
  go_wp2_with fail
  refine HA.out.mono ?_
  rintro en w2 ⟨rfl, k2, t2⟩
  have H2 := Lib.hid (And.intro k2 t2)
  clear k2 t2
  go_wp2
  go_ret
  rw [AlOk, HX.out]
  exact ⟨rfl, H2.out⟩
set_option maxRecDepth 100000 in
set_option maxHeartbeats 2000000 in
theorem step_part1 (h : KIs w a g 3 x s S) (i : Nat) (u b z : Int) (hp : S[i]? = some (⟨1, u, b, z⟩ : Sp)) (ho : s.ops + 1 ≤ 1000000000000) (hw : inR s.W x.t = true) (hv0 : 0 ≤ ldW s.W x.t) (hv1 : ldW s.W x.t ≤ 10000000000000) :
    Calls Tryz.prog 388 #[.pointer (some ⟨x.l, 0, none⟩), .int .i64 i] w (StOk w a g 3 x s S i ⟨1, u, b, z⟩) := by
  have hfield := field_pc
  have hi : i < x.n := by have := (List.getElem?_eq_some_iff.1 hp).1; rw [h.n] at this; exact this
  have hn := h.n32
  have hcap := h.cap
  have t2 : ¬ (i : Int) < 0 := by omega
  have HS := Lib.hid (Spot_parted h i _ hp)
  unfold spotV at HS
  obtain ⟨ar', har⟩ : ∃ q, q = addA s x.t 1 := ⟨_, rfl⟩
  obtain ⟨v, hv⟩ : ∃ v, v = ldW s.W x.t := ⟨_, rfl⟩
  have HX : Hid (stepK 3 x.t x.m s i ⟨1, u, b, z⟩ = (ar', ⟨2, v, b, z⟩)) := Lib.hid (by rw [har, hv]; rfl)
  have HO0 := (fun W (k : KIs W a g 3 x s S) => add_any k.ar x.t 1 ho)
  rw [if_pos hw, ← har, ← hv] at HO0
  rw [← hv] at hv0 hv1
  have e1 : IntKind.i64.wrap (v + 1) = v + 1 := IntWalk.i64_in _ (by omega)
  have e2 : IntKind.i64.wrap v = v := IntWalk.i64_in _ (by omega)
  rw [e1] at HO0
  have HO := Lib.hid HO0
  have HP := Lib.hid hp
  have K0 := Lib.hid h
  clear HO0 h hp har hv e1
  go_enter Tryz.func388, Tryz.ntmps388
  go_wp2_with fail
  refine HS.out.mono ?_
  rintro en w1 ⟨rfl, b1⟩
  have K0' := Lib.hid (K0.out.below b1)
  have K1 := Lib.hid (K0.out.below b1.drew)
  have T0 := Lib.hid (Turns.of_below (S := [a, g, x.q]) b1.drew)
  have T0' := Lib.hid (Turns.of_below (S := [a, g, x.q]) b1)
  clear b1
  go_wp2_with fail
  go_region_held3 (fun W => W.cell? ⟨x.l, 0, none⟩ = some (.pointer (some ⟨a, 0, none⟩)) ∧ W.cell? ⟨x.l, 1, none⟩ = some (.int .i64 x.t) ∧ W.cell? ⟨x.l, 2, none⟩ = some (.int .i64 x.m) ∧ W.cell? ⟨x.l, 3, none⟩ = some (.slice (some ⟨x.q, 0, none⟩) x.n x.cap))
    (first | with_reducible exact K1.out.pi | with_reducible exact K2.out.pi | with_reducible exact K3.out.pi)
    (first
      | (go_at_call 256; go_loud (refine (HO.out _ K1.out).mono ?_); rintro en w3 ⟨rfl, a3, t3⟩; have K2 := Lib.hid (K1.out.op t3 a3); have T2 := Lib.hid (T0.out.trans (turns_agq t3)); have K3 := Lib.hid (K2.out.put (p' := (⟨1, v, b, z⟩ : Sp)) HP.out (j := 1) (u := .int .i64 v) (by decide) rfl); have e4 := K2.out.sp.cell HP.out 1 _ rfl; have z1 := K2.out.sp.free (i * 4 + 1); clear a3 t3))
  all_goals
    have HT := Lib.hid (turnZ_parted i _ _ HP.out K3.out 2)
    go_wp2_with (go_at_call 391; refine HT.out.mono ?_; rintro e w' ⟨rfl, k4, t4⟩; have K4 := Lib.hid (And.intro k4 t4); clear k4 t4)
    go_ret
    rw [StOk, HX.out]
    exact ⟨rfl, K4.out.1, (T2.out.trans (turns_qag (turns_q _ _ _))).trans (turns_qag K4.out.2)⟩
set_option maxRecDepth 100000 in
set_option maxHeartbeats 2000000 in
theorem step_part2 (h : KIs w a g 3 x s S) (i : Nat) (u b z : Int) (hp : S[i]? = some (⟨2, u, b, z⟩ : Sp)) (ho : s.ops + 1 ≤ 1000000000000) (hu : 0 ≤ u ∧ u ≤ 1000000000000) :
    Calls Tryz.prog 388 #[.pointer (some ⟨x.l, 0, none⟩), .int .i64 i] w (StOk w a g 3 x s S i ⟨2, u, b, z⟩) := by
  have hfield := field_pc
  have hi : i < x.n := by have := (List.getElem?_eq_some_iff.1 hp).1; rw [h.n] at this; exact this
  have hn := h.n32
  have hcap := h.cap
  have t2 : ¬ (i : Int) < 0 := by omega
  have HS := Lib.hid (Spot_parted h i _ hp)
  unfold spotV at HS
  obtain ⟨ar', har⟩ : ∃ q, q = loadA s (pPl x.t x.m u) := ⟨_, rfl⟩
  obtain ⟨v, hv⟩ : ∃ v, v = ldW s.W (pPl x.t x.m u) := ⟨_, rfl⟩
  have HX : Hid (stepK 3 x.t x.m s i ⟨2, u, b, z⟩ = (ar', ⟨if v = u + 1 then 10 else 2, u, b, z⟩)) := Lib.hid (by rw [har, hv]; rfl)
  have HA0 := (fun W (k : KIs W a g 3 x s S) => asks_served k i u b z hp hu ho)
  rw [← har, ← hv] at HA0
  have HP := Lib.hid hp
  have K0 := Lib.hid h
  obtain ⟨q, hq⟩ : ∃ q, q = decide (v = u + 1) := ⟨_, rfl⟩
  rw [← hq] at HA0
  have HQ := Lib.hid hq
  have HA := Lib.hid HA0
  clear h hp har hv HA0 hq
  cases q
  all_goals
    go_enter Tryz.func388, Tryz.ntmps388
    go_wp2_with fail
    refine HS.out.mono ?_
    rintro en w1 ⟨rfl, b1⟩
    have K0' := Lib.hid (K0.out.below b1)
    have K1 := Lib.hid (K0.out.below b1.drew)
    have T0 := Lib.hid (Turns.of_below (S := [a, g, x.q]) b1.drew)
    have T0' := Lib.hid (Turns.of_below (S := [a, g, x.q]) b1)
    clear b1
    go_wp2_with fail
    refine (HA.out _ K0'.out).mono ?_
    rintro en w2 ⟨rfl, k2, t2'⟩
    have H2 := Lib.hid (And.intro k2 (T0'.out.trans t2'))
    clear k2 t2'
    first
      | (have HT := Lib.hid (turnZ_parted i _ _ HP.out (by rw [setS_id HP.out]; exact H2.out.1) 10)
         go_wp2_with (go_at_call 391; refine HT.out.mono ?_; rintro e w' ⟨rfl, k4, t4⟩; have K4 := Lib.hid (And.intro k4 t4); clear k4 t4)
         go_ret
         rw [StOk, HX.out]
         rw [if_pos (by simpa using HQ.out.symm)]
         exact ⟨rfl, K4.out.1, H2.out.2.trans (turns_qag K4.out.2)⟩)
      | (go_wp2
         go_ret
         rw [StOk, HX.out, if_neg (by simpa using HQ.out.symm), setS_id HP.out]
         exact ⟨rfl, H2.out.1, H2.out.2⟩)
set_option maxRecDepth 100000 in
set_option maxHeartbeats 2000000 in
theorem step_part11 (h : KIs w a g 3 x s S) (i : Nat) (u b z : Int) (hp : S[i]? = some (⟨11, u, b, z⟩ : Sp)) (ho : s.ops + 1 ≤ 1000000000000) (hu : 0 ≤ u ∧ u ≤ 1000000000000) :
    Calls Tryz.prog 388 #[.pointer (some ⟨x.l, 0, none⟩), .int .i64 i] w (StOk w a g 3 x s S i ⟨11, u, b, z⟩) := by
  have hfield := field_pc
  have hi : i < x.n := by have := (List.getElem?_eq_some_iff.1 hp).1; rw [h.n] at this; exact this
  have hn := h.n32
  have hcap := h.cap
  have t2 : ¬ (i : Int) < 0 := by omega
  have HS := Lib.hid (Spot_parted h i _ hp)
  unfold spotV at HS
  obtain ⟨ad, had⟩ : ∃ z, z = pPl x.t x.m (u + 1) := ⟨_, rfl⟩
  obtain ⟨ar', har⟩ : ∃ q, q = storeA s ad (u + 2) := ⟨_, rfl⟩
  have HX : Hid (stepK 3 x.t x.m s i ⟨11, u, b, z⟩ = (ar', ⟨0, u, b, z⟩)) := Lib.hid (by rw [har, had]; rfl)
  have HO0 := (fun W (k : KIs W a g 3 x s S) => store_any k.ar ad (u + 2) ho)
  rw [← har] at HO0
  have HPl0 := (fun W (k : KIs W a g 3 x s S) => place_parted k (u + 1) (by omega))
  rw [← had] at HPl0
  have HPl := Lib.hid HPl0
  have e1 : IntKind.i64.wrap (u + 1) = u + 1 := IntWalk.i64_in _ (by omega)
  have e2 : IntKind.i64.wrap (u + 2) = u + 2 := IntWalk.i64_in _ (by omega)
  have HO := Lib.hid HO0
  have HC : Hid (∀ W s (S' : List Sp) (c : Int), KIs W a g 3 x s S' → S'[i]? = some (⟨c, u, b, z⟩ : Sp) → W.cell? ⟨x.l, 0, none⟩ = some (.pointer (some ⟨a, 0, none⟩)) ∧ W.cell? ⟨x.l, 1, none⟩ = some (.int .i64 x.t) ∧ W.cell? ⟨x.l, 2, none⟩ = some (.int .i64 x.m) ∧ W.cell? ⟨x.l, 3, none⟩ = some (.slice (some ⟨x.q, 0, none⟩) x.n x.cap) ∧ W.cell? ⟨x.q, i * 4 + 1, none⟩ = some (.int .i64 u)) := Lib.hid (fun W s S' c k hp => ⟨k.pi.1, k.pi.2.1, k.pi.2.2.1, k.pi.2.2.2, k.sp.cell hp 1 _ rfl⟩)
  have HP := Lib.hid hp
  have K0 := Lib.hid h
  clear HO0 HPl0 h hp har had
  go_enter Tryz.func388, Tryz.ntmps388
  go_wp2_with fail
  refine HS.out.mono ?_
  rintro en w1 ⟨rfl, b1⟩
  have K0' := Lib.hid (K0.out.below b1)
  have K1 := Lib.hid (K0.out.below b1.drew)
  have T0 := Lib.hid (Turns.of_below (S := [a, g, x.q]) b1.drew)
  have T0' := Lib.hid (Turns.of_below (S := [a, g, x.q]) b1)
  clear b1
  go_wp2_with fail
  go_region_held3 (fun W => W.cell? ⟨x.l, 0, none⟩ = some (.pointer (some ⟨a, 0, none⟩)) ∧ W.cell? ⟨x.l, 1, none⟩ = some (.int .i64 x.t) ∧ W.cell? ⟨x.l, 2, none⟩ = some (.int .i64 x.m) ∧ W.cell? ⟨x.l, 3, none⟩ = some (.slice (some ⟨x.q, 0, none⟩) x.n x.cap) ∧ W.cell? ⟨x.q, i * 4 + 1, none⟩ = some (.int .i64 u))
    (first | with_reducible exact HC.out _ _ _ _ K1.out HP.out | with_reducible exact HC.out _ _ _ _ Q2.out HP.out | with_reducible exact HC.out _ _ _ _ K2.out HP.out)
    (first
      | (go_at_call 145; go_loud (refine (HPl.out _ K1.out).mono ?_); rintro en w2 ⟨rfl, q2⟩; have Q2 := Lib.hid (K1.out.qt q2); have T1 := Lib.hid (T0.out.trans (Turns.of_qt q2)); clear q2)
      | (go_at_call 144; go_loud (refine (HO.out _ Q2.out).mono ?_); rintro en w3 ⟨rfl, a3, t3⟩; have K2 := Lib.hid (Q2.out.op t3 a3); have T2 := Lib.hid (T1.out.trans (turns_agq t3)); clear a3 t3))
  all_goals
    have HT := Lib.hid (turnZ_parted i _ _ HP.out (by rw [setS_id HP.out]; exact K2.out) 0)
    go_wp2_with (go_at_call 391; refine HT.out.mono ?_; rintro e w' ⟨rfl, k4, t4⟩; have K4 := Lib.hid (And.intro k4 t4); clear k4 t4)
    go_ret
    rw [StOk, HX.out]
    exact ⟨rfl, K4.out.1, T2.out.trans (turns_qag K4.out.2)⟩
theorem step_part0 (h : KIs w a g 3 x s S) (i : Nat) (p : Sp) (hp : S[i]? = some p) (h0 : p.pc = 0 ∨ p.pc = 10) :
    Calls Tryz.prog 388 #[.pointer (some ⟨x.l, 0, none⟩), .int .i64 i] w (StOk w a g 3 x s S i p) := by
  have hfield := field_pc
  have HS := Lib.hid (Spot_parted h i _ hp)
  unfold spotV at HS
  obtain ⟨c, u, b, z⟩ := p
  have HP := Lib.hid hp
  have K0 := Lib.hid h
  clear h hp
  simp only at h0 HS
  rcases h0 with rfl | rfl
  all_goals
    go_enter Tryz.func388, Tryz.ntmps388
    go_wp2_with fail
    refine HS.out.mono ?_
    rintro en w1 ⟨rfl, b1⟩
    have HB := Lib.hid b1
    clear b1
    go_wp2
    go_ret
    refine ⟨rfl, ?_, Turns.of_below HB.out⟩
    have k := K0.out.below HB.out
    rw [← setS_id HP.out] at k
    exact k
end
end Go.Proofs.YtagajjilccjplaaGreat
end
section
set_option linter.unusedVariables false
set_option linter.unusedSimpArgs false
/- Layer 19 (clh): Step, Alone (printed by gen_fly.py). -/
namespace Go.Proofs.YtagajjilccjplaaGreat
open Go.RowKit

section
variable {w w' w0 : World} {a g k bx : Nat} {x : Fx} {s s' : Ar} {S S' : List Sp}
theorem KIs.ci (h : KIs w a g 5 x s S) : w.cell? ⟨x.l, 0, none⟩ = some (.pointer (some ⟨a, 0, none⟩)) ∧ w.cell? ⟨x.l, 1, none⟩ = some (.int .i64 x.t) ∧ w.cell? ⟨x.l, 2, none⟩ = some (.slice (some ⟨x.q, 0, none⟩) x.n x.cap) := ⟨h.lk.cell 0, h.lk.cell 1, h.lk.cell 2⟩
/-- a lock, the cell that the closure reads, and what turned -/
structure KBx (w0 w : World) (a g : Nat) (x : Fx) (s : Ar) (S : List Sp) (bx : Nat) : Prop where
  ki : KIs w a g 5 x s S
  bk : Blk w bx 275 #[.pointer (some ⟨x.l, 0, none⟩)]
  nS : bx ∉ [a, g, x.q]
  tn : Turns [a, g, x.q] w0 w
theorem KBx.to (h : KBx w0 w a g x s S bx) (k : KIs w' a g 5 x s' S') (t : Turns [a, g, x.q] w w') : KBx w0 w' a g x s' S' bx := ⟨k, t.blk h.bk h.nS, h.nS, h.tn.trans t⟩
theorem KBx.drew (h : KBx w0 w a g x s S bx) : KBx w0 w.drew a g x s S bx := h.to (h.ki.below (Below.refl _ _).drew) (Turns.refl _ _).drew
theorem KBx.op (h : KBx w0 w a g x s S bx) (t : Turns [a, g] w w') (ha : ArIs w' a g s') : KBx w0 w' a g x s' S bx := h.to (h.ki.op t ha) (turns_agq t)
theorem KBx.put (h : KBx w0 w a g x s S bx) {i : Nat} {p p' : Sp} (hp : S[i]? = some p) {j : Nat} {u : Value} (hj : j < 4) (he : (encP4 p).set j u = encP4 p') : KBx w0 (w.setCell ⟨x.q, i * 4 + j, none⟩ u) a g x s (S.set i p') bx := h.to (h.ki.put hp hj he) (turns_qag (turns_q _ _ _))
theorem KBx.put0 (h : KBx w0 w a g x s S bx) {i : Nat} {p p' : Sp} (hp : S[i]? = some p) {u : Value} (he : (encP4 p).set 0 u = encP4 p') : KBx w0 (w.setCell ⟨x.q, i * 4, none⟩ u) a g x s (S.set i p') bx := h.put hp (j := 0) (by decide) he
theorem KBx.new (h : KIs w a g 5 x s S) : KBx w (w.alloc (.cells #[.pointer (some ⟨x.l, 0, none⟩)] 275)) a g x s S w.heap.size := by
  have h1 := h.ar.blk.lt
  have h2 := h.ar.wds.lt
  have h3 := h.sp.lt
  exact ⟨h.below ((Below.refl _ _).alloc (Nat.le_refl _) _), Blk.new w _ _, by simp; omega, (Turns.refl _ _).alloc _⟩
theorem KBx.cs (h : KBx w0 w a g x s S bx) {i : Nat} {p : Sp} (hp : S[i]? = some p) : w.cell? ⟨bx, 0, none⟩ = some (.pointer (some ⟨x.l, 0, none⟩)) ∧ w.cell? ⟨x.l, 0, none⟩ = some (.pointer (some ⟨a, 0, none⟩)) ∧ w.cell? ⟨x.q, i * 4 + 1, none⟩ = some (.int .i64 p.a) ∧ w.cell? ⟨x.q, i * 4 + 2, none⟩ = some (.int .i64 p.b) := ⟨h.bk.cell 0, h.ki.ci.1, h.ki.sp.cell hp 1 _ rfl, h.ki.sp.cell hp 2 _ rfl⟩
theorem box_clh (h : KBx w0 w a g x s S bx) (n r : Int) (hr : (x.t : Int) + n = r) (hn : -10 ≤ n ∧ n ≤ 10000000000000) : Calls Tryz.prog 415 #[.int .i64 n, .pointer (some ⟨bx, 0, none⟩)] w fun e w' => e = .returned (.int .i64 r) ∧ w = w' := by
  have c0 : w.cell? ⟨bx, 0, none⟩ = some (.pointer (some ⟨x.l, 0, none⟩)) := h.bk.cell 0
  have c1 := h.ki.ci.2.1
  have t1 := h.ki.t1
  have e1 : IntKind.i64.wrap ((x.t : Int) + n) = r := by rw [hr]; exact IntWalk.i64_in _ (by omega)
  clear h hr
  go_enter Tryz.func415, Tryz.ntmps415
  go_wp2
  go_ret
  exact ⟨rfl, rfl⟩
set_option maxRecDepth 100000 in
set_option maxHeartbeats 2000000 in
theorem step_clh1 (h : KIs w a g 5 x s S) (i : Nat) (u b z : Int) (hp : S[i]? = some (⟨1, u, b, z⟩ : Sp)) (ho : s.ops + 1 ≤ 1000000000000) (hu : 0 ≤ u ∧ u ≤ 1000000000000) :
    Calls Tryz.prog 412 #[.pointer (some ⟨x.l, 0, none⟩), .int .i64 i] w (StOk w a g 5 x s S i ⟨1, u, b, z⟩) := by
  have hi : i < x.n := by have := (List.getElem?_eq_some_iff.1 hp).1; rw [h.n] at this; exact this
  have hn := h.n32
  have HSP := Lib.hid (fun W (k : KBx w W a g x s S w.heap.size) => spot_clh k.ki i hi)
  have N0 := Lib.hid (KBx.new h)
  have HP := Lib.hid hp
  obtain ⟨ad, had⟩ : ∃ r, r = (x.t : Int) + u := ⟨_, rfl⟩
  obtain ⟨ar', har⟩ : ∃ q, q = storeA s ad 1 := ⟨_, rfl⟩
  have HX : Hid (stepK 5 x.t x.m s i ⟨1, u, b, z⟩ = (ar', ⟨2, u, b, z⟩)) := Lib.hid (by rw [har, had]; rfl)
  have HO0 := (fun W (k : KIs W a g 5 x s S) => store_any k.ar ad 1 ho)
  rw [← har] at HO0
  have HO := Lib.hid HO0
  have HB := Lib.hid (fun W (k : KBx w W a g x s S w.heap.size) => box_clh k u ad had.symm (by omega))
  have t1 := h.t1
  clear HO0 h hp har had
  go_enter Tryz.func412, Tryz.ntmps412
  have a0 := N0.out.ki.sp.cell HP.out 0 _ rfl
  have b0 := N0.out.bk.cell 0
  simp only [Nat.add_zero] at a0
  have N1 := Lib.hid N0.out.drew
  go_wp2_with (go_at_call 414; refine (HSP.out _ N0.out).mono ?_; rintro e w' ⟨rfl, rfl⟩)
  go_wp2_with fail
  go_region_held3 (fun W => W.cell? ⟨w.heap.size, 0, none⟩ = some (.pointer (some ⟨x.l, 0, none⟩)) ∧ W.cell? ⟨x.l, 0, none⟩ = some (.pointer (some ⟨a, 0, none⟩)) ∧ W.cell? ⟨x.q, i * 4 + 1, none⟩ = some (.int .i64 u) ∧ W.cell? ⟨x.q, i * 4 + 2, none⟩ = some (.int .i64 b))
    (first | with_reducible exact N1.out.cs HP.out | with_reducible exact N2.out.cs HP.out)
    (first
      | (go_at_call 415; go_loud (refine (HB.out _ N1.out).mono ?_); rintro en w2 ⟨rfl, rfl⟩)
      | (go_at_call 144; go_loud (refine (HO.out _ N1.out.ki).mono ?_); rintro en w3 ⟨rfl, a3, t3⟩; have N2 := Lib.hid (N1.out.op t3 a3); clear a3 t3))
  all_goals
    have d0 := N2.out.ki.sp.cell HP.out 0 _ rfl
    have z0 := N2.out.ki.sp.free (i * 4)
    simp only [Nat.add_zero] at d0
    have N3 := Lib.hid (N2.out.put0 HP.out (p' := (⟨2, u, b, z⟩ : Sp)) (u := .int .i64 2) rfl)
    go_wp2
    go_ret
    rw [StOk, HX.out]
    exact ⟨rfl, N3.out.ki, N3.out.tn⟩
set_option maxRecDepth 100000 in
set_option maxHeartbeats 2000000 in
theorem step_clh2 (h : KIs w a g 5 x s S) (i : Nat) (u b z : Int) (hp : S[i]? = some (⟨2, u, b, z⟩ : Sp)) (ho : s.ops + 1 ≤ 1000000000000) (hu : 0 ≤ u ∧ u ≤ 1000000000000) :
    Calls Tryz.prog 412 #[.pointer (some ⟨x.l, 0, none⟩), .int .i64 i] w (StOk w a g 5 x s S i ⟨2, u, b, z⟩) := by
  have hi : i < x.n := by have := (List.getElem?_eq_some_iff.1 hp).1; rw [h.n] at this; exact this
  have hn := h.n32
  have HSP := Lib.hid (fun W (k : KBx w W a g x s S w.heap.size) => spot_clh k.ki i hi)
  have N0 := Lib.hid (KBx.new h)
  have HP := Lib.hid hp
  obtain ⟨ad, had⟩ : ∃ r, r = (x.t : Int) := ⟨_, rfl⟩
  obtain ⟨ar', har⟩ : ∃ q, q = swapA s ad u := ⟨_, rfl⟩
  obtain ⟨v, hv⟩ : ∃ v, v = ldW s.W ad := ⟨_, rfl⟩
  have HX : Hid (stepK 5 x.t x.m s i ⟨2, u, b, z⟩ = (ar', ⟨3, u, v, z⟩)) := Lib.hid (by rw [har, hv, had]; rfl)
  have HO0 := (fun W (k : KIs W a g 5 x s S) => swap_any k.ar ad u ho)
  rw [← har, ← hv] at HO0
  have HO := Lib.hid HO0
  have HB := Lib.hid (fun W (k : KBx w W a g x s S w.heap.size) => box_clh k 0 ad (by rw [had]; omega) (by omega))
  have HC := Lib.hid (fun W s (S : List Sp) (N : KBx w W a g x s S w.heap.size) (y : Int) (hp : S[i]? = some (⟨2, u, y, z⟩ : Sp)) => And.intro (N.cs hp).1 (And.intro (N.cs hp).2.1 (N.cs hp).2.2.1))
  have t1 := h.t1
  clear HO0 h hp har had hv
  go_enter Tryz.func412, Tryz.ntmps412
  have a0 := N0.out.ki.sp.cell HP.out 0 _ rfl
  have b0 := N0.out.bk.cell 0
  simp only [Nat.add_zero] at a0
  have N1 := Lib.hid N0.out.drew
  go_wp2_with (go_at_call 414; refine (HSP.out _ N0.out).mono ?_; rintro e w' ⟨rfl, rfl⟩)
  go_wp2_with fail
  go_region_held3 (fun W => W.cell? ⟨w.heap.size, 0, none⟩ = some (.pointer (some ⟨x.l, 0, none⟩)) ∧ W.cell? ⟨x.l, 0, none⟩ = some (.pointer (some ⟨a, 0, none⟩)) ∧ W.cell? ⟨x.q, i * 4 + 1, none⟩ = some (.int .i64 u))
    (first | with_reducible exact HC.out _ _ _ N1.out _ HP.out | with_reducible exact HC.out _ _ _ N2.out _ HP.out | with_reducible exact HC.out _ _ _ N3.out _ (getS_set HP.out _))
    (first
      | (go_at_call 415; go_loud (refine (HB.out _ N1.out).mono ?_); rintro en w2 ⟨rfl, rfl⟩)
      | (go_at_call 229; go_loud (refine (HO.out _ N1.out.ki).mono ?_); rintro en w3 ⟨rfl, a3, t3⟩; have N2 := Lib.hid (N1.out.op t3 a3); have N3 := Lib.hid (N2.out.put (p' := (⟨2, u, v, z⟩ : Sp)) HP.out (j := 2) (u := .int .i64 v) (by decide) rfl); have e1 := N2.out.ki.sp.cell HP.out 2 _ rfl; have z1 := N2.out.ki.sp.free (i * 4 + 2); clear a3 t3))
  all_goals
    have d0 := N3.out.ki.sp.cell (getS_set HP.out _) 0 _ rfl
    have z0 := N3.out.ki.sp.free (i * 4)
    simp only [Nat.add_zero] at d0
    have N4 := Lib.hid (N3.out.put0 (getS_set HP.out _) (p' := (⟨3, u, v, z⟩ : Sp)) (u := .int .i64 3) rfl)
    clear e1 z1
    go_wp2
    go_ret
    rw [StOk, HX.out]
    have k := N4.out.ki
    rw [setS_set] at k
    exact ⟨rfl, k, N4.out.tn⟩
set_option maxRecDepth 100000 in
set_option maxHeartbeats 2000000 in
theorem step_clh3 (h : KIs w a g 5 x s S) (i : Nat) (u b z : Int) (hp : S[i]? = some (⟨3, u, b, z⟩ : Sp)) (ho : s.ops + 1 ≤ 1000000000000) (hb : 0 ≤ b ∧ b ≤ 1000000000000) :
    Calls Tryz.prog 412 #[.pointer (some ⟨x.l, 0, none⟩), .int .i64 i] w (StOk w a g 5 x s S i ⟨3, u, b, z⟩) := by
  have hi : i < x.n := by have := (List.getElem?_eq_some_iff.1 hp).1; rw [h.n] at this; exact this
  have hn := h.n32
  have HSP := Lib.hid (fun W (k : KBx w W a g x s S w.heap.size) => spot_clh k.ki i hi)
  have N0 := Lib.hid (KBx.new h)
  have HP := Lib.hid hp
  obtain ⟨ad, had⟩ : ∃ r, r = (x.t : Int) + b := ⟨_, rfl⟩
  obtain ⟨ar', har⟩ : ∃ q, q = loadA s ad  := ⟨_, rfl⟩
  obtain ⟨v, hv⟩ : ∃ v, v = ldW s.W ad := ⟨_, rfl⟩
  have HX : Hid (stepK 5 x.t x.m s i ⟨3, u, b, z⟩ = (ar', ⟨if v = 0 then 10 else 3, u, b, z⟩)) := Lib.hid (by rw [har, hv, had]; rfl)
  have HO0 := (fun W (k : KIs W a g 5 x s S) => load_any k.ar ad  ho)
  rw [← har, ← hv] at HO0
  have HO := Lib.hid HO0
  have HB := Lib.hid (fun W (k : KBx w W a g x s S w.heap.size) => box_clh k b ad had.symm (by omega))
  have t1 := h.t1
  clear HO0 h hp har had hv
  cases hc : (v == 0)
  · go_enter Tryz.func412, Tryz.ntmps412
    have a0 := N0.out.ki.sp.cell HP.out 0 _ rfl
    have b0 := N0.out.bk.cell 0
    simp only [Nat.add_zero] at a0
    have N1 := Lib.hid N0.out.drew
    go_wp2_with (go_at_call 414; refine (HSP.out _ N0.out).mono ?_; rintro e w' ⟨rfl, rfl⟩)
    go_wp2_with fail
    refine wp_region_held_drew (S := (fun W => W.cell? ⟨w.heap.size, 0, none⟩ = some (.pointer (some ⟨x.l, 0, none⟩)) ∧ W.cell? ⟨x.l, 0, none⟩ = some (.pointer (some ⟨a, 0, none⟩)) ∧ W.cell? ⟨x.q, i * 4 + 1, none⟩ = some (.int .i64 u) ∧ W.cell? ⟨x.q, i * 4 + 2, none⟩ = some (.int .i64 b))) (by kernel_rfl) (by exact N1.out.cs HP.out) (fun hHeld => ?_)
    refine wpAnyH_take (i := 0) (v := ?v0) rfl (by kernel_rfl) (by kernel_rfl) (by kernel_rfl) (fun _ _ _ h => h) (Or.inl ⟨by rfl, ?hy0⟩) (by assumption) ?_
    case hy0 => (intro W hSw; (try dsimp only at hSw); go_simp; try with_reducible rfl)
    try simp only [Act.put, List.setIfInBounds_toArray, List.set_cons_zero, List.set_cons_succ, List.getElem_toArray, List.getElem_cons_zero, List.getElem_cons_succ]
    refine wpAnyH_take (i := 1) (v := ?v1) rfl (by kernel_rfl) (by kernel_rfl) (by kernel_rfl) (fun _ _ _ h => h) (Or.inl ⟨by rfl, ?hy1⟩) (by assumption) ?_
    case hy1 => (intro W hSw; (try dsimp only at hSw); go_simp; try with_reducible rfl)
    try simp only [Act.put, List.setIfInBounds_toArray, List.set_cons_zero, List.set_cons_succ, List.getElem_toArray, List.getElem_cons_zero, List.getElem_cons_succ]
    refine wpAnyH_take (i := 2) (v := ?v2) rfl (by kernel_rfl) (by kernel_rfl) (by kernel_rfl) (fun _ _ _ h => h) (Or.inl ⟨by rfl, ?hy2⟩) (by assumption) ?_
    case hy2 => (intro W hSw; (try dsimp only at hSw); go_simp; try with_reducible rfl)
    try simp only [Act.put, List.setIfInBounds_toArray, List.set_cons_zero, List.set_cons_succ, List.getElem_toArray, List.getElem_cons_zero, List.getElem_cons_succ]
    refine wpAnyH_take (i := 3) (v := ?v3) rfl (by kernel_rfl) (by kernel_rfl) (by kernel_rfl) (fun _ _ _ h => h) (Or.inl ⟨by rfl, ?hy3⟩) (by assumption) ?_
    case hy3 => (intro W hSw; (try dsimp only at hSw); go_simp; try with_reducible rfl)
    try simp only [Act.put, List.setIfInBounds_toArray, List.set_cons_zero, List.set_cons_succ, List.getElem_toArray, List.getElem_cons_zero, List.getElem_cons_succ]
    refine wpAnyH_take (i := 4) (v := ?v4) rfl (by kernel_rfl) (by kernel_rfl) (by kernel_rfl) (fun _ _ _ h => h) (Or.inl ⟨by rfl, ?hy4⟩) (by assumption) ?_
    case hy4 => (intro W hSw; (try dsimp only at hSw); go_simp; try with_reducible rfl)
    try simp only [Act.put, List.setIfInBounds_toArray, List.set_cons_zero, List.set_cons_succ, List.getElem_toArray, List.getElem_cons_zero, List.getElem_cons_succ]
    refine wpAnyH_take (i := 5) (v := ?v5) rfl (by kernel_rfl) (by kernel_rfl) (by kernel_rfl) (fun _ _ _ h => h) (Or.inl ⟨by rfl, ?hy5⟩) (by assumption) ?_
    case hy5 => (intro W hSw; (try dsimp only at hSw); go_simp; try with_reducible rfl)
    try simp only [Act.put, List.setIfInBounds_toArray, List.set_cons_zero, List.set_cons_succ, List.getElem_toArray, List.getElem_cons_zero, List.getElem_cons_succ]
    refine wpAnyH_take (i := 6) (v := ?v6) rfl (by kernel_rfl) (by kernel_rfl) (by kernel_rfl) (fun _ _ _ h => h) (Or.inl ⟨by rfl, ?hy6⟩) (by assumption) ?_
    case hy6 => (intro W hSw; (try dsimp only at hSw); go_simp; try with_reducible rfl)
    try simp only [Act.put, List.setIfInBounds_toArray, List.set_cons_zero, List.set_cons_succ, List.getElem_toArray, List.getElem_cons_zero, List.getElem_cons_succ]
    refine wpAnyH_take (i := 7) (v := ?v7) rfl (by kernel_rfl) (by kernel_rfl) (by kernel_rfl) (fun _ _ _ h => h) (Or.inl ⟨by rfl, ?hy7⟩) (by assumption) ?_
    case hy7 => (intro W hSw; (try dsimp only at hSw); go_simp; try with_reducible rfl)
    try simp only [Act.put, List.setIfInBounds_toArray, List.set_cons_zero, List.set_cons_succ, List.getElem_toArray, List.getElem_cons_zero, List.getElem_cons_succ]
    refine wpAnyH_take (i := 8) (v := ?v8) rfl (by kernel_rfl) (by kernel_rfl) (by kernel_rfl) (fun _ _ _ h => h) (Or.inl ⟨by rfl, ?hy8⟩) (by assumption) ?_
    case hy8 => (intro W hSw; (try dsimp only at hSw); go_simp; try with_reducible rfl)
    try simp only [Act.put, List.setIfInBounds_toArray, List.set_cons_zero, List.set_cons_succ, List.getElem_toArray, List.getElem_cons_zero, List.getElem_cons_succ]
    refine wpAnyH_ready (rs := [9]) (by kernel_rfl) (by simp) ?_
    refine AllReadyH.cons rfl (fun K hK => ?_) AllReadyH.nil
    go_simp
    go_at_call 415
    refine (HB.out _ N1.out).mono ?_
    rintro en w2 ⟨rfl, rfl⟩
    refine hK.out _ _ ?_ (fun hHeld => ?_)
    · exact N1.out.cs HP.out
    clear hK K
    try simp only [Act.put, List.setIfInBounds_toArray, List.set_cons_zero, List.set_cons_succ, List.getElem_toArray, List.getElem_cons_zero, List.getElem_cons_succ]
    refine wpAnyH_ready (rs := [10]) (by kernel_rfl) (by simp) ?_
    refine AllReadyH.cons rfl (fun K hK => ?_) AllReadyH.nil
    go_simp
    go_at_call 140
    refine (HO.out _ N1.out.ki).mono ?_
    rintro en w3 ⟨rfl, a3, t3⟩
    have N2 := Lib.hid (N1.out.op t3 a3)
    clear a3 t3
    refine hK.out _ _ ?_ (fun hHeld => ?_)
    · exact N2.out.cs HP.out
    clear hK K
    try simp only [Act.put, List.setIfInBounds_toArray, List.set_cons_zero, List.set_cons_succ, List.getElem_toArray, List.getElem_cons_zero, List.getElem_cons_succ]
    refine wpAnyH_take (i := 11) (v := ?v11) rfl (by kernel_rfl) (by kernel_rfl) (by kernel_rfl) (fun _ _ _ h => h) (Or.inl ⟨by rfl, ?hy11⟩) (by assumption) ?_
    case hy11 => (intro W hSw; (try dsimp only at hSw); go_simp; try with_reducible rfl)
    try simp only [Act.put, List.setIfInBounds_toArray, List.set_cons_zero, List.set_cons_succ, List.getElem_toArray, List.getElem_cons_zero, List.getElem_cons_succ]
    refine wpAnyH_take (i := 12) (v := ?v12) rfl (by kernel_rfl) (by kernel_rfl) (by kernel_rfl) (fun _ _ _ h => h) (Or.inl ⟨by rfl, ?hy12⟩) (by assumption) ?_
    case hy12 => (intro W hSw; (try dsimp only at hSw); go_simp; try with_reducible rfl)
    try simp only [Act.put, List.setIfInBounds_toArray, List.set_cons_zero, List.set_cons_succ, List.getElem_toArray, List.getElem_cons_zero, List.getElem_cons_succ]
    refine wpAnyH_take (i := 13) (v := undef) rfl (by kernel_rfl) (by kernel_rfl) (by kernel_rfl) (fun _ _ _ h => h) (Or.inr ⟨by rfl, rfl⟩) (by assumption) ?_
    try simp only [Act.put, List.setIfInBounds_toArray, List.set_cons_zero, List.set_cons_succ, List.getElem_toArray, List.getElem_cons_zero, List.getElem_cons_succ]
    refine wpAnyH_take (i := 14) (v := undef) rfl (by kernel_rfl) (by kernel_rfl) (by kernel_rfl) (fun _ _ _ h => h) (Or.inr ⟨by rfl, rfl⟩) (by assumption) ?_
    try simp only [Act.put, List.setIfInBounds_toArray, List.set_cons_zero, List.set_cons_succ, List.getElem_toArray, List.getElem_cons_zero, List.getElem_cons_succ]
    refine wpAnyH_take (i := 15) (v := undef) rfl (by kernel_rfl) (by kernel_rfl) (by kernel_rfl) (fun _ _ _ h => h) (Or.inr ⟨by rfl, rfl⟩) (by assumption) ?_
    try simp only [Act.put, List.setIfInBounds_toArray, List.set_cons_zero, List.set_cons_succ, List.getElem_toArray, List.getElem_cons_zero, List.getElem_cons_succ]
    refine wpAnyH_take (i := 16) (v := ?v16) rfl (by kernel_rfl) (by kernel_rfl) (by kernel_rfl) (fun _ _ _ h => h) (Or.inl ⟨by rfl, ?hy16⟩) (by assumption) ?_
    case hy16 => (intro W hSw; (try dsimp only at hSw); go_simp; try with_reducible rfl)
    try simp only [Act.put, List.setIfInBounds_toArray, List.set_cons_zero, List.set_cons_succ, List.getElem_toArray, List.getElem_cons_zero, List.getElem_cons_succ]
    refine wpAnyH_take (i := 17) (v := ?v17) rfl (by kernel_rfl) (by kernel_rfl) (by kernel_rfl) (fun _ _ _ h => h) (Or.inl ⟨by rfl, ?hy17⟩) (by assumption) ?_
    case hy17 => (intro W hSw; (try dsimp only at hSw); go_simp; try with_reducible rfl)
    try simp only [Act.put, List.setIfInBounds_toArray, List.set_cons_zero, List.set_cons_succ, List.getElem_toArray, List.getElem_cons_zero, List.getElem_cons_succ]
    refine wpAnyH_done (by kernel_rfl) ?_ _
    go_wp2
    go_ret
    rw [StOk, HX.out]
    rw [if_neg (by simpa using hc), setS_id HP.out]
    exact ⟨rfl, N2.out.ki, N2.out.tn⟩
  · go_enter Tryz.func412, Tryz.ntmps412
    have a0 := N0.out.ki.sp.cell HP.out 0 _ rfl
    have b0 := N0.out.bk.cell 0
    simp only [Nat.add_zero] at a0
    have N1 := Lib.hid N0.out.drew
    go_wp2_with (go_at_call 414; refine (HSP.out _ N0.out).mono ?_; rintro e w' ⟨rfl, rfl⟩)
    go_wp2_with fail
    first
    | (go_region_held3 (fun W => W.cell? ⟨w.heap.size, 0, none⟩ = some (.pointer (some ⟨x.l, 0, none⟩)) ∧ W.cell? ⟨x.l, 0, none⟩ = some (.pointer (some ⟨a, 0, none⟩)) ∧ W.cell? ⟨x.q, i * 4 + 1, none⟩ = some (.int .i64 u) ∧ W.cell? ⟨x.q, i * 4 + 2, none⟩ = some (.int .i64 b))
        (first | with_reducible exact N1.out.cs HP.out | with_reducible exact N2.out.cs HP.out | with_reducible exact N4.out.cs (getS_set HP.out _))
        (first
          | (go_at_call 415; go_loud (refine (HB.out _ N1.out).mono ?_); rintro en w2 ⟨rfl, rfl⟩)
          | (go_at_call 140; go_loud (refine (HO.out _ N1.out.ki).mono ?_); rintro en w3 ⟨rfl, a3, t3⟩; have N2 := Lib.hid (N1.out.op t3 a3); have HT := Lib.hid (turnZ_clh i _ _ HP.out (by rw [setS_id HP.out]; exact N2.out.ki) 10); clear a3 t3)
          | (go_at_call 413; go_loud (refine HT.out.mono ?_); rintro en w4 ⟨rfl, k4, t4⟩; have N4 := Lib.hid (N2.out.to k4 (turns_qag t4)); clear k4 t4)))
    | fail "held"
    all_goals
      go_wp2
      go_ret
      rw [StOk, HX.out]
      rw [if_pos (by simpa using hc)]
      exact ⟨rfl, N4.out.ki, N4.out.tn⟩
set_option maxRecDepth 100000 in
set_option maxHeartbeats 2000000 in
theorem step_clh11 (h : KIs w a g 5 x s S) (i : Nat) (u b z : Int) (hp : S[i]? = some (⟨11, u, b, z⟩ : Sp)) (ho : s.ops + 1 ≤ 1000000000000) (hu : 0 ≤ u ∧ u ≤ 1000000000000) :
    Calls Tryz.prog 412 #[.pointer (some ⟨x.l, 0, none⟩), .int .i64 i] w (StOk w a g 5 x s S i ⟨11, u, b, z⟩) := by
  have hi : i < x.n := by have := (List.getElem?_eq_some_iff.1 hp).1; rw [h.n] at this; exact this
  have hn := h.n32
  have HSP := Lib.hid (fun W (k : KBx w W a g x s S w.heap.size) => spot_clh k.ki i hi)
  have N0 := Lib.hid (KBx.new h)
  have HP := Lib.hid hp
  obtain ⟨ad, had⟩ : ∃ r, r = (x.t : Int) + u := ⟨_, rfl⟩
  obtain ⟨ar', har⟩ : ∃ q, q = storeA s ad 0 := ⟨_, rfl⟩
  have HX : Hid (stepK 5 x.t x.m s i ⟨11, u, b, z⟩ = (ar', ⟨0, b, b, z⟩)) := Lib.hid (by rw [har, had]; rfl)
  have HO0 := (fun W (k : KIs W a g 5 x s S) => store_any k.ar ad 0 ho)
  rw [← har] at HO0
  have HO := Lib.hid HO0
  have HB := Lib.hid (fun W (k : KBx w W a g x s S w.heap.size) => box_clh k u ad had.symm (by omega))
  have t1 := h.t1
  clear HO0 h hp har had
  go_enter Tryz.func412, Tryz.ntmps412
  have a0 := N0.out.ki.sp.cell HP.out 0 _ rfl
  have b0 := N0.out.bk.cell 0
  simp only [Nat.add_zero] at a0
  have N1 := Lib.hid N0.out.drew
  go_wp2_with (go_at_call 414; refine (HSP.out _ N0.out).mono ?_; rintro e w' ⟨rfl, rfl⟩)
  go_wp2_with fail
  go_region_held3 (fun W => W.cell? ⟨w.heap.size, 0, none⟩ = some (.pointer (some ⟨x.l, 0, none⟩)) ∧ W.cell? ⟨x.l, 0, none⟩ = some (.pointer (some ⟨a, 0, none⟩)) ∧ W.cell? ⟨x.q, i * 4 + 1, none⟩ = some (.int .i64 u) ∧ W.cell? ⟨x.q, i * 4 + 2, none⟩ = some (.int .i64 b))
    (first | with_reducible exact N1.out.cs HP.out | with_reducible exact N2.out.cs HP.out)
    (first
      | (go_at_call 415; go_loud (refine (HB.out _ N1.out).mono ?_); rintro en w2 ⟨rfl, rfl⟩)
      | (go_at_call 144; go_loud (refine (HO.out _ N1.out.ki).mono ?_); rintro en w3 ⟨rfl, a3, t3⟩; have N2 := Lib.hid (N1.out.op t3 a3); clear a3 t3))
  all_goals
    have d1 := N2.out.ki.sp.cell HP.out 1 _ rfl
    have d2 := N2.out.ki.sp.cell HP.out 2 _ rfl
    have z1 := N2.out.ki.sp.free (i * 4 + 1)
    have b2 := N2.out.bk.cell 0
    have N3 := Lib.hid (N2.out.put HP.out (p' := (⟨11, b, b, z⟩ : Sp)) (j := 1) (u := .int .i64 b) (by decide) rfl)
    have HT := Lib.hid (turnZ_clh i _ _ HP.out N3.out.ki 0)
    go_wp2_with (go_at_call 413; refine HT.out.mono ?_; rintro e w' ⟨rfl, k4, t4⟩; have N4 := Lib.hid (N3.out.to k4 (turns_qag t4)); clear k4 t4)
    go_ret
    rw [StOk, HX.out]
    exact ⟨rfl, N4.out.ki, N4.out.tn⟩
theorem step_clh0 (h : KIs w a g 5 x s S) (i : Nat) (p : Sp) (hp : S[i]? = some p) (h0 : p.pc = 0 ∨ p.pc = 10) :
    Calls Tryz.prog 412 #[.pointer (some ⟨x.l, 0, none⟩), .int .i64 i] w (StOk w a g 5 x s S i p) := by
  have hi : i < x.n := by have := (List.getElem?_eq_some_iff.1 hp).1; rw [h.n] at this; exact this
  have HSP := Lib.hid (fun W (k : KBx w W a g x s S w.heap.size) => spot_clh k.ki i hi)
  have N0 := Lib.hid (KBx.new h)
  have HP := Lib.hid hp
  obtain ⟨c, u, b, z⟩ := p
  clear h hp
  simp only at h0
  rcases h0 with rfl | rfl
  all_goals
    go_enter Tryz.func412, Tryz.ntmps412
    have a0 := N0.out.ki.sp.cell HP.out 0 _ rfl
    have b0 := N0.out.bk.cell 0
    simp only [Nat.add_zero] at a0
    have N1 := Lib.hid N0.out.drew
    go_wp2_with (go_at_call 414; refine (HSP.out _ N0.out).mono ?_; rintro e w' ⟨rfl, rfl⟩)
    go_ret
    refine ⟨rfl, ?_, N0.out.tn⟩
    have k := N0.out.ki
    rw [← setS_id HP.out] at k
    exact k
set_option maxRecDepth 100000 in
set_option maxHeartbeats 2000000 in
theorem alone_clh (h : KIs w a g 5 x s S) (i : Nat) (p : Sp) (hp : S[i]? = some p) (hpc : p.pc = 10) (ho : s.ops + 1 ≤ 1000000000000) :
    Calls Tryz.prog 407 #[.pointer (some ⟨x.l, 0, none⟩), .int .i64 i] w (AlOk w a g 5 x s S i p) := by
  have hi : i < x.n := by have := (List.getElem?_eq_some_iff.1 hp).1; rw [h.n] at this; exact this
  have hn := h.n32
  have hcap := h.cap
  have hfield := field_pc
  have t2 : ¬ (i : Int) < 0 := by omega
  obtain ⟨c, u, b, z⟩ := p
  simp only at hpc
  subst hpc
  obtain ⟨ar', har⟩ : ∃ q, q = loadA s x.t := ⟨_, rfl⟩
  obtain ⟨v, hv⟩ : ∃ v, v = ldW s.W x.t := ⟨_, rfl⟩
  have HX : Hid (aloneK 5 x.t s i ⟨10, u, b, z⟩ = (ar', decide (v = u))) := Lib.hid (by rw [har, hv]; rfl)
  have HO0 := (fun W (k : KIs W a g 5 x s S) => load_any k.ar x.t ho)
  rw [← har, ← hv] at HO0
  have HO := Lib.hid HO0
  have HS := Lib.hid (fun W (k : KIs W a g 5 x s S) => Spot_clh k i _ hp)
  have HC : Hid (∀ W s (S' : List Sp), KIs W a g 5 x s S' → S'[i]? = some (⟨10, u, b, z⟩ : Sp) → W.cell? ⟨x.l, 0, none⟩ = some (.pointer (some ⟨a, 0, none⟩)) ∧ W.cell? ⟨x.l, 1, none⟩ = some (.int .i64 x.t) ∧ W.cell? ⟨x.l, 2, none⟩ = some (.slice (some ⟨x.q, 0, none⟩) x.n x.cap) ∧ W.cell? ⟨x.q, i * 4 + 1, none⟩ = some (.int .i64 u)) := Lib.hid (fun W s S' k hp => ⟨k.ci.1, k.ci.2.1, k.ci.2.2, k.sp.cell hp 1 _ rfl⟩)
  have HP := Lib.hid hp
  have K1 := Lib.hid (h.below ((Below.refl _ w).drew))
  clear HO0 h hp har hv
  cases hd : (v == u)
  all_goals
    go_enter Tryz.func407, Tryz.ntmps407
    go_wp2_with fail
    first
    | (go_region_held3 (fun W => W.cell? ⟨x.l, 0, none⟩ = some (.pointer (some ⟨a, 0, none⟩)) ∧ W.cell? ⟨x.l, 1, none⟩ = some (.int .i64 x.t) ∧ W.cell? ⟨x.l, 2, none⟩ = some (.slice (some ⟨x.q, 0, none⟩) x.n x.cap) ∧ W.cell? ⟨x.q, i * 4 + 1, none⟩ = some (.int .i64 u))
        (first | with_reducible exact HC.out _ _ _ K1.out HP.out | with_reducible exact HC.out _ _ _ K2.out HP.out | with_reducible exact HC.out _ _ _ K3.out HP.out)
        (first
          | (go_at_call 411; go_loud (refine (HS.out _ K1.out).mono ?_); unfold spotV; rintro en w2 ⟨rfl, b2⟩; have K2 := Lib.hid (K1.out.below b2); have T2 := Lib.hid (((Turns.refl [a, g, x.q] w).drew).trans (Turns.of_below b2)); clear b2)
          | (go_at_call 140; go_loud (refine (HO.out _ K2.out).mono ?_); rintro en w3 ⟨rfl, a3, t3⟩; have K3 := Lib.hid (K2.out.op t3 a3); have T3 := Lib.hid (T2.out.trans (turns_agq t3)); clear a3 t3)))
    | fail "held"
  all_goals
    go_wp2
    go_ret
    rw [AlOk, HX.out]
    first
      | exact ⟨by rw [decide_eq_true (by simpa using hd)]; rfl, K3.out, T3.out⟩
      | exact ⟨by rw [decide_eq_false (by simpa using hd)]; rfl, K3.out, T3.out⟩
end
end Go.Proofs.YtagajjilccjplaaGreat
end
