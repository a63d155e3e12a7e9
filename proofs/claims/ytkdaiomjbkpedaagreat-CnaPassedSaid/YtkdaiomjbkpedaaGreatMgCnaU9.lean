/- Joined: Cw5b, Cw6, Cw7. -/
import Derived.ScopeJumps
import Derived.WalkMore
import Derived.Test.YtkdaiomjbkpedaaGreatMgCnaU8
section
/- Layer 31 (cna): looks: steps 17 and 18. -/
namespace Go.Proofs.YtkdaiomjbkpedaaGreat
open Go.RowKit

/-- a scope in which one goto, ahead, is taken or none -/
theorem wp_scope_once {P : Program} {a : Act} {w : World} {Q : Exit → Act → World → Prop} {c rest : Code} (l : Nat) (hf : findLabel c l = some rest) (first : c.wp P (Exit.jump l (fun a' w' => rest.wp P (Exit.noGoto Q) a' w') Q) a w) : (Code.scope c).wp P Q a w := by
  refine wp_scope_jumps l (fun a' w' => rest.wp P (Exit.noGoto Q) a' w') (fun _ _ => 0) hf first fun a w h => ?_
  refine Code.wp_mono ?_ h
  intro e a' w' hq
  cases e with
  | goto l' => exact hq.elim
  | _ => exact hq
theorem jump_ret {Q : Exit → Act → World → Prop} {J : Act → World → Prop} {l : Nat} {a : Act} {w : World} : Exit.jump l J Q .ret a w = Q .ret a w := rfl
section
variable {w w' : World} {c : Cx} {cap : Nat} {bud : Int} {nd : List Int} {h : Cn}
set_option maxRecDepth 100000 in
set_option maxHeartbeats 4000000 in
theorem c_looks18 (k : CnIs w c cap bud nd h) (i : Nat) (a b z : Int) (hp : h.S[i]? = some (⟨18, a, b, z⟩ : Sp)) (ho : h.ar.ops + 1 ≤ 1000000000000) (hway : h.wk.way = true) (hps : 0 ≤ h.wk.passed ∧ h.wk.passed ≤ 32) (hl : -5 ≤ h.wk.last ∧ h.wk.last ≤ 100000) :
    Calls Tryz.prog 55 #[.pointer (some ⟨c.l, 0, none⟩), .pointer (some ⟨c.q, i * 4, none⟩), .int .i64 ((i : Int) + 1)] w (MidC w c cap bud nd h i (⟨18, a, b, z⟩ : Sp) (stepCp nd.length (ndf nd) bud h i (⟨18, a, b, z⟩ : Sp))) := by
  have e0 := k.sp.cell hp 0 _ rfl
  simp only [Nat.add_zero] at e0
  have l4 := k.l4
  obtain ⟨ar', har⟩ : ∃ s, s = loadA h.ar (cN h.wk.last) := ⟨_, rfl⟩
  obtain ⟨wk', hwk⟩ : ∃ x, x = takeW nd.length (ndf nd) h.wk (ldW h.ar.W (cN h.wk.last)) := ⟨_, rfl⟩
  have HX : Hid (stepCp nd.length (ndf nd) bud h i (⟨18, a, b, z⟩ : Sp) = (ar', wk', if wk'.way then (⟨18, a, b, z⟩ : Sp) else if wk'.found ≠ 0 then ⟨19, a, b, z⟩ else frontC ⟨18, a, b, z⟩)) := Lib.hid (by rw [stp18 rfl hway, har, hwk])
  have HW0 := stepWk k ho hway hps hl
  rw [← har, ← hwk] at HW0
  have HW := Lib.hid HW0
  have HP := Lib.hid hp
  clear HW0 k hp har hwk hway hps hl ho
  go_enter Tryz.func55, Tryz.ntmps55
  go_wp2
  refine wp_scope_once 0 rfl ?_
  go_wp2
  go_step3
  refine ⟨rfl, ?_⟩
  go_wp2_with fail
  refine HW.out.mono ?_
  rintro en w1 ⟨rfl, k1, t1⟩
  have K1 := Lib.hid (And.intro k1 t1)
  have KS := Lib.hid (k1.samS HP.out)
  have d4 := k1.l4
  have d2 := k1.sp.cell HP.out 2 _ rfl
  clear k1 t1 e0 l4
  cases hwy : wk'.way
  · have HY := Lib.hid hwy
    by_cases hf : wk'.found = 0
    · have t0 : (wk'.found != 0) = false := by simpa using hf
      have HF := Lib.hid hf
      clear hf hwy
      by_cases hb : 0 < b
      · have HB := Lib.hid hb
        go_wp2_with fail
        refine (foundW K1.out.1.wk).mono ?_
        rintro en w2 ⟨rfl, rfl⟩
        go_wp2
        go_step3
        go_wp2
        rw [Exit.noGoto_ret]
        go_ret
        rw [HX.out, HY.out, if_neg (by decide), if_neg (fun h => h HF.out)]
        exact ⟨by unfold frontC; rw [if_pos HB.out]; rfl, by unfold frontC; exact KS.out, K1.out.2⟩
      · have HB := Lib.hid hb
        go_wp2_with fail
        refine (foundW K1.out.1.wk).mono ?_
        rintro en w2 ⟨rfl, rfl⟩
        go_wp2
        go_step3
        go_wp2
        rw [Exit.noGoto_ret]
        go_ret
        rw [HX.out, HY.out, if_neg (by decide), if_neg (fun h => h HF.out)]
        exact ⟨by unfold frontC; rw [if_neg (show ¬ 0 < b by have := HB.out; omega)]; rfl, by unfold frontC; exact KS.out, K1.out.2⟩
    · have t0 : (wk'.found != 0) = true := by simpa using hf
      have HF := Lib.hid hf
      clear hf hwy
      go_wp2_with fail
      refine (foundW K1.out.1.wk).mono ?_
      rintro en w2 ⟨rfl, rfl⟩
      go_wp2
      rw [Exit.noGoto_ret]
      go_ret
      rw [HX.out, HY.out, if_neg (by decide), if_pos HF.out]
      exact ⟨rfl, KS.out, K1.out.2⟩
  · have HY := Lib.hid hwy
    clear hwy
    go_wp2
    rw [Exit.noGoto_ret]
    go_ret
    rw [HX.out, HY.out, if_pos rfl]
    exact ⟨rfl, KS.out, K1.out.2⟩
set_option maxRecDepth 100000 in
set_option maxHeartbeats 4000000 in
theorem c_looks17 (k : CnIs w c cap bud nd h) (i : Nat) (hin : i < nd.length) (a b z : Int) (hp : h.S[i]? = some (⟨17, a, b, z⟩ : Sp)) (ho : h.ar.ops + 1 ≤ 1000000000000) :
    Calls Tryz.prog 55 #[.pointer (some ⟨c.l, 0, none⟩), .pointer (some ⟨c.q, i * 4, none⟩), .int .i64 ((i : Int) + 1)] w (MidC w c cap bud nd h i (⟨17, a, b, z⟩ : Sp) (stepCp nd.length (ndf nd) bud h i (⟨17, a, b, z⟩ : Sp))) := by
  obtain ⟨_, hn⟩ := k.n32
  have hi2 : (i : Int) < nd.length := by omega
  have hi3 : i < nd.length := hin
  have x7 : IntKind.i64.wrap (i : Int) = (i : Int) := IntWalk.i64_in _ (by omega)
  have e0 := k.sp.cell hp 0 _ rfl
  simp only [Nat.add_zero] at e0
  obtain ⟨ar', har⟩ : ∃ s, s = loadA h.ar 2 := ⟨_, rfl⟩
  obtain ⟨v, hv⟩ : ∃ v, v = ldW h.ar.W 2 := ⟨_, rfl⟩
  obtain ⟨wk', hwk⟩ : ∃ x, x = beginW nd.length (ndf nd) h.wk a (ndf nd i) := ⟨_, rfl⟩
  have HX : Hid (stepCp nd.length (ndf nd) bud h i (⟨17, a, b, z⟩ : Sp) = if bud ≤ v then (ar', h.wk, frontC ⟨17, a, b, v⟩) else (ar', wk', (⟨if wk'.way then 18 else 23, a, b, v⟩ : Sp))) := Lib.hid (by rw [stp17 rfl, har, hv, hwk])
  have HF := Lib.hid (fun W (k : CnIs W c cap bud nd h) => countC k)
  have HO0 := (fun W (k : CnIs W c cap bud nd h) => load_any k.ar 2 ho)
  rw [← har, ← hv] at HO0
  have HO := Lib.hid HO0
  have HC := Lib.hid (fun W (h : Cn) (k : CnIs W c cap bud nd h) => k.l0)
  have HP := Lib.hid hp
  have HL := Lib.hid (show i < h.S.length by rw [k.sl]; exact hin)
  have K1 := Lib.hid (k.below ((Below.refl _ w).drew))
  obtain ⟨nv, hnv⟩ : ∃ x, x = ndf nd i := ⟨_, rfl⟩
  have HWB0 := fun W (k : WkIs W c.k c.n1 (behV c) nd h.wk) => beginWk k a (ndf nd i)
  rw [← hwk, ← hnv] at HWB0
  have HWB := Lib.hid HWB0
  have HCC := Lib.hid (show ∀ W (ar : Ar) (wk : Wk), CnIs W c cap bud nd ⟨ar, wk, h.S.set i ⟨17, a, b, v⟩⟩ → W.cell? ⟨c.l, 3, none⟩ = some (.slice (some ⟨c.nb, 0, none⟩) nd.length cap) ∧ W.cell? ⟨c.l, 4, none⟩ = some (.pointer (some ⟨c.k, 0, none⟩)) ∧ W.cell? ⟨c.q, i * 4 + 1, none⟩ = some (.int .i64 a) ∧ W.cell? ⟨c.nb, i, none⟩ = some (.int .i64 nv) from fun W ar wk k =>
    ⟨k.l3, k.l4, k.sp.cell (i := i) (p := ⟨17, a, b, v⟩) (by simp [HL.out]) 1 _ rfl, by rw [hnv]; exact k.row i hin⟩)
  clear HO0 HWB0 k hp har hv hwk hnv
  by_cases hbv : bud ≤ v
  · have HBV := Lib.hid hbv
    go_enter Tryz.func55, Tryz.ntmps55
    go_wp2
    refine wp_scope_once 1 rfl ?_
    go_wp2_with fail
    go_region_held3 (fun W => W.cell? ⟨c.l, 0, none⟩ = some (.pointer (some ⟨c.a, 0, none⟩)))
      (first | with_reducible exact HC.out _ _ K1.out | with_reducible exact HC.out _ _ K2.out | with_reducible exact HC.out _ _ K3.out)
      (first
        | (go_at_call 97; go_loud (refine (HF.out _ K1.out).mono ?_); rintro en w2 ⟨rfl, rfl⟩)
        | (go_at_call 94; go_loud (refine (HO.out _ K1.out).mono ?_); rintro en w3 ⟨rfl, a3, t3⟩; have K2 := Lib.hid (K1.out.op t3 a3); have T2 := Lib.hid (((Turns.refl [c.a, c.g, c.q, c.k] w).drew).trans (t3.mono (T := [c.a, c.g, c.q, c.k]) (by simp))); have K3 := Lib.hid (K2.out.putS (p' := (⟨17, a, b, v⟩ : Sp)) HP.out (j := 3) (v := .int .i64 v) (by decide) rfl); have e1 := K2.out.sp.cell HP.out 3 _ rfl; have z1 := K2.out.sp.free (i * 4 + 3); clear a3 t3))
    all_goals
      have T3 := Lib.hid (T2.out.trans (turns_cq ⟨c.q, i * 4 + 3, none⟩ (.int .i64 v) rfl))
      have hp3 : (h.S.set i (⟨17, a, b, v⟩ : Sp))[i]? = some (⟨17, a, b, v⟩ : Sp) := by simp [HL.out]
      have l2 := K3.out.l2
      have s2 := K3.out.sp.cell hp3 2 _ rfl
      have s3 := K3.out.sp.cell hp3 3 _ rfl
      clear hp3 e1 z1 e0
      go_wp2_with fail
      go_quiet (fail)
      go_wp2
      go_step3
      refine ⟨rfl, ?_⟩
      by_cases hbp : 0 < b
      · have HB := Lib.hid hbp
        go_wp2
        rw [Exit.noGoto_ret]
        go_ret
        rw [HX.out, if_pos HBV.out]
        exact ⟨by unfold frontC; rw [if_pos HB.out]; rfl, by unfold frontC; exact K3.out.below (Qt.below ⟨_, rfl⟩ _), T3.out.trans (Turns.of_qt ⟨_, rfl⟩)⟩
      · have HB := Lib.hid hbp
        go_wp2
        rw [Exit.noGoto_ret]
        go_ret
        rw [HX.out, if_pos HBV.out]
        exact ⟨by unfold frontC; rw [if_neg (show ¬ 0 < b by have := HB.out; omega)]; rfl, by unfold frontC; exact K3.out.below (Qt.below ⟨_, rfl⟩ _), T3.out.trans (Turns.of_qt ⟨_, rfl⟩)⟩
  · have HBV := Lib.hid hbv
    go_enter Tryz.func55, Tryz.ntmps55
    go_wp2
    refine wp_scope_once 1 rfl ?_
    go_wp2_with fail
    go_region_held3 (fun W => W.cell? ⟨c.l, 0, none⟩ = some (.pointer (some ⟨c.a, 0, none⟩)))
      (first | with_reducible exact HC.out _ _ K1.out | with_reducible exact HC.out _ _ K2.out | with_reducible exact HC.out _ _ K3.out)
      (first
        | (go_at_call 97; go_loud (refine (HF.out _ K1.out).mono ?_); rintro en w2 ⟨rfl, rfl⟩)
        | (go_at_call 94; go_loud (refine (HO.out _ K1.out).mono ?_); rintro en w3 ⟨rfl, a3, t3⟩; have K2 := Lib.hid (K1.out.op t3 a3); have T2 := Lib.hid (((Turns.refl [c.a, c.g, c.q, c.k] w).drew).trans (t3.mono (T := [c.a, c.g, c.q, c.k]) (by simp))); have K3 := Lib.hid (K2.out.putS (p' := (⟨17, a, b, v⟩ : Sp)) HP.out (j := 3) (v := .int .i64 v) (by decide) rfl); have e1 := K2.out.sp.cell HP.out 3 _ rfl; have z1 := K2.out.sp.free (i * 4 + 3); clear a3 t3))
    all_goals
      have T3 := Lib.hid (T2.out.trans (turns_cq ⟨c.q, i * 4 + 3, none⟩ (.int .i64 v) rfl))
      have hp3 : (h.S.set i (⟨17, a, b, v⟩ : Sp))[i]? = some (⟨17, a, b, v⟩ : Sp) := by simp [HL.out]
      have l2 := K3.out.l2
      have s3 := K3.out.sp.cell hp3 3 _ rfl
      obtain ⟨wm, hwm⟩ : ∃ x, x = w3.setCell ⟨c.q, i * 4 + 3, none⟩ (.int .i64 v) := ⟨_, rfl⟩
      rw [← hwm] at K3 T3 l2 s3 ⊢
      clear hp3 e1 z1 e0 hwm
      go_wp2_with fail
      go_quiet (fail)
      go_wp2_with fail
      have K4 := Lib.hid ((K3.out.below (Qt.below (w' := wm.drewN nq) ⟨_, rfl⟩ _)).below ((Below.refl _ _).drew))
      have T4 := Lib.hid ((T3.out.trans (Turns.of_qt (b := wm.drewN nq) ⟨_, rfl⟩)).drew)
      go_region_held3 (fun W => W.cell? ⟨c.l, 3, none⟩ = some (.slice (some ⟨c.nb, 0, none⟩) nd.length cap) ∧ W.cell? ⟨c.l, 4, none⟩ = some (.pointer (some ⟨c.k, 0, none⟩)) ∧ W.cell? ⟨c.q, i * 4 + 1, none⟩ = some (.int .i64 a) ∧ W.cell? ⟨c.nb, i, none⟩ = some (.int .i64 nv))
        (first | with_reducible exact HCC.out _ _ _ K4.out | with_reducible exact HCC.out _ _ _ K5.out)
        (first
          | (go_at_call 98; go_loud (refine (HWB.out _ K4.out.wk).mono ?_); rintro en w5 ⟨rfl, k5, t5⟩; have K5 := Lib.hid (K4.out.walk k5 t5); have T5 := Lib.hid (T4.out.trans (t5.mono (T := [c.a, c.g, c.q, c.k]) (by simp))); clear k5 t5))
      all_goals
        cases hwy : wk'.way
        · have HY := Lib.hid hwy
          clear hwy
          go_wp2
          rw [jump_ret]
          go_ret
          rw [HX.out, if_neg (show ¬ bud ≤ v by have := HBV.out; omega), HY.out, if_neg (by decide)]
          exact ⟨rfl, K5.out, T5.out⟩
        · have HY := Lib.hid hwy
          clear hwy
          go_wp2
          rw [jump_ret]
          go_ret
          rw [HX.out, if_neg (show ¬ bud ≤ v by have := HBV.out; omega), HY.out, if_pos rfl]
          exact ⟨rfl, K5.out, T5.out⟩
end
end Go.Proofs.YtkdaiomjbkpedaaGreat
end
section
/- Layer 31 (cna): aside, a step at a time (printed by gen_cw.py). -/
namespace Go.Proofs.YtkdaiomjbkpedaaGreat
open Go.RowKit

section
variable {w w' : World} {c : Cx} {cap : Nat} {bud : Int} {nd : List Int} {h : Cn}
set_option maxRecDepth 100000 in
set_option maxHeartbeats 2000000 in
theorem c_aside19t (k : CnIs w c cap bud nd h) (i : Nat) (hin : i < nd.length) (a b z : Int) (hp : h.S[i]? = some (⟨19, a, b, z⟩ : Sp)) (ho : h.ar.ops + 1 ≤ 1000000000000) (hl : -5 ≤ h.wk.last ∧ h.wk.last ≤ 100000) (hb0 : decide (0 < b) = true) :
    Calls Tryz.prog 56 #[.pointer (some ⟨c.l, 0, none⟩), .pointer (some ⟨c.q, i * 4, none⟩)] w (MidC w c cap bud nd h i (⟨19, a, b, z⟩ : Sp) (stepCp nd.length (ndf nd) bud h i (⟨19, a, b, z⟩ : Sp))) := by
  obtain ⟨_, hn⟩ := k.n32
  have e0 := k.sp.cell hp 0 _ rfl
  simp only [Nat.add_zero] at e0
  obtain ⟨ar', har⟩ : ∃ s, s = storeA h.ar (cN h.wk.last) 0 := ⟨_, rfl⟩
  have HX : Hid (stepCp nd.length (ndf nd) bud h i (⟨19, a, b, z⟩ : Sp) = (ar', h.wk, (⟨20, a, b, z⟩ : Sp))) := Lib.hid (by rw [stp19 rfl, har]; simp at hb0; simp [hb0])
  have HF := Lib.hid (fun W (k : CnIs W c cap bud nd h) => nextC k h.wk.last (by exact hl))
  have HO0 := (fun W (k : CnIs W c cap bud nd h) => store_any k.ar (cN h.wk.last) 0 ho)
  rw [← har] at HO0
  have HO := Lib.hid HO0
  have HC := Lib.hid (fun W (h : Cn) (k : CnIs W c cap bud nd h) (hp : h.S[i]? = some (⟨19, a, b, z⟩ : Sp)) => And.intro k.l0 k.l4)
  have HP := Lib.hid hp
  have HL := Lib.hid (show i < h.S.length by rw [k.sl]; exact hin)
  have K1 := Lib.hid (k.below ((Below.refl _ w).drew))
  have HW := Lib.hid (fun W (k : CnIs W c cap bud nd h) => lastWk k.wk)
  clear HO0 k hp har
  go_enter Tryz.func56, Tryz.ntmps56
  go_wp2_with fail
  go_region_held3 (fun W => W.cell? ⟨c.l, 0, none⟩ = some (.pointer (some ⟨c.a, 0, none⟩)) ∧ W.cell? ⟨c.l, 4, none⟩ = some (.pointer (some ⟨c.k, 0, none⟩)))
    (first | with_reducible exact HC.out _ _ K1.out HP.out | with_reducible exact HC.out _ _ K2.out HP.out)
    (first
      | (go_at_call 88; go_loud (refine (HF.out _ K1.out).mono ?_); rintro en w2 ⟨rfl, rfl⟩)
      | (go_at_call 101; go_loud (refine (HW.out _ K1.out).mono ?_); rintro en w2 ⟨rfl, rfl⟩)
      | (go_at_call 90; go_loud (refine (HO.out _ K1.out).mono ?_); rintro en w3 ⟨rfl, a3, t3⟩; have K2 := Lib.hid (K1.out.op t3 a3); have T2 := Lib.hid (((Turns.refl [c.a, c.g, c.q, c.k] w).drew).trans (t3.mono (T := [c.a, c.g, c.q, c.k]) (by simp))); clear a3 t3))
  all_goals
    have e3 := K2.out.sp.cell HP.out 2 _ rfl
    have e4 := K2.out.sp.cell HP.out 1 _ rfl
    have z3 := K2.out.sp.free (i * 4 + 2)
    go_wp2
    go_ret
    rw [HX.out]
    exact ⟨rfl, K2.out.samS HP.out, T2.out⟩
set_option maxRecDepth 100000 in
set_option maxHeartbeats 2000000 in
theorem c_aside19f (k : CnIs w c cap bud nd h) (i : Nat) (hin : i < nd.length) (a b z : Int) (hp : h.S[i]? = some (⟨19, a, b, z⟩ : Sp)) (ho : h.ar.ops + 1 ≤ 1000000000000) (hl : -5 ≤ h.wk.last ∧ h.wk.last ≤ 100000) (hb0 : decide (0 < b) = false) :
    Calls Tryz.prog 56 #[.pointer (some ⟨c.l, 0, none⟩), .pointer (some ⟨c.q, i * 4, none⟩)] w (MidC w c cap bud nd h i (⟨19, a, b, z⟩ : Sp) (stepCp nd.length (ndf nd) bud h i (⟨19, a, b, z⟩ : Sp))) := by
  obtain ⟨_, hn⟩ := k.n32
  have e0 := k.sp.cell hp 0 _ rfl
  simp only [Nat.add_zero] at e0
  obtain ⟨ar', har⟩ : ∃ s, s = storeA h.ar (cN h.wk.last) 0 := ⟨_, rfl⟩
  have HX : Hid (stepCp nd.length (ndf nd) bud h i (⟨19, a, b, z⟩ : Sp) = (ar', h.wk, (⟨22, a, a, z⟩ : Sp))) := Lib.hid (by rw [stp19 rfl, har]; simp at hb0; simp [hb0])
  have HF := Lib.hid (fun W (k : CnIs W c cap bud nd h) => nextC k h.wk.last (by exact hl))
  have HO0 := (fun W (k : CnIs W c cap bud nd h) => store_any k.ar (cN h.wk.last) 0 ho)
  rw [← har] at HO0
  have HO := Lib.hid HO0
  have HC := Lib.hid (fun W (h : Cn) (k : CnIs W c cap bud nd h) (hp : h.S[i]? = some (⟨19, a, b, z⟩ : Sp)) => And.intro k.l0 k.l4)
  have HP := Lib.hid hp
  have HL := Lib.hid (show i < h.S.length by rw [k.sl]; exact hin)
  have K1 := Lib.hid (k.below ((Below.refl _ w).drew))
  have HW := Lib.hid (fun W (k : CnIs W c cap bud nd h) => lastWk k.wk)
  clear HO0 k hp har
  go_enter Tryz.func56, Tryz.ntmps56
  go_wp2_with fail
  go_region_held3 (fun W => W.cell? ⟨c.l, 0, none⟩ = some (.pointer (some ⟨c.a, 0, none⟩)) ∧ W.cell? ⟨c.l, 4, none⟩ = some (.pointer (some ⟨c.k, 0, none⟩)))
    (first | with_reducible exact HC.out _ _ K1.out HP.out | with_reducible exact HC.out _ _ K2.out HP.out)
    (first
      | (go_at_call 88; go_loud (refine (HF.out _ K1.out).mono ?_); rintro en w2 ⟨rfl, rfl⟩)
      | (go_at_call 101; go_loud (refine (HW.out _ K1.out).mono ?_); rintro en w2 ⟨rfl, rfl⟩)
      | (go_at_call 90; go_loud (refine (HO.out _ K1.out).mono ?_); rintro en w3 ⟨rfl, a3, t3⟩; have K2 := Lib.hid (K1.out.op t3 a3); have T2 := Lib.hid (((Turns.refl [c.a, c.g, c.q, c.k] w).drew).trans (t3.mono (T := [c.a, c.g, c.q, c.k]) (by simp))); clear a3 t3))
  all_goals
    have e3 := K2.out.sp.cell HP.out 2 _ rfl
    have e4 := K2.out.sp.cell HP.out 1 _ rfl
    have z3 := K2.out.sp.free (i * 4 + 2)
    go_wp2
    go_ret
    rw [HX.out]
    exact ⟨rfl, K2.out.putS (p' := (⟨19, a, a, z⟩ : Sp)) HP.out (j := 2) (v := .int .i64 a) (by decide) rfl, T2.out.trans (turns_cq ⟨c.q, i * 4 + 2, none⟩ _ rfl)⟩
set_option maxRecDepth 100000 in
set_option maxHeartbeats 2000000 in
theorem c_aside20 (k : CnIs w c cap bud nd h) (i : Nat) (hin : i < nd.length) (a b z : Int) (hp : h.S[i]? = some (⟨20, a, b, z⟩ : Sp)) (ho : h.ar.ops + 1 ≤ 1000000000000) (hb : -5 ≤ b ∧ b ≤ 100000) :
    Calls Tryz.prog 56 #[.pointer (some ⟨c.l, 0, none⟩), .pointer (some ⟨c.q, i * 4, none⟩)] w (MidC w c cap bud nd h i (⟨20, a, b, z⟩ : Sp) (stepCp nd.length (ndf nd) bud h i (⟨20, a, b, z⟩ : Sp))) := by
  obtain ⟨_, hn⟩ := k.n32
  have e0 := k.sp.cell hp 0 _ rfl
  simp only [Nat.add_zero] at e0
  obtain ⟨ar', har⟩ : ∃ s, s = loadA h.ar (cL b)  := ⟨_, rfl⟩
  obtain ⟨v, hv⟩ : ∃ v, v = ldW h.ar.W (cL b) := ⟨_, rfl⟩
  have HX : Hid (stepCp nd.length (ndf nd) bud h i (⟨20, a, b, z⟩ : Sp) = (ar', h.wk, (⟨21, a, b, v⟩ : Sp))) := Lib.hid (by rw [stp20 rfl, har, hv] <;> rfl)
  have HF := Lib.hid (fun W (k : CnIs W c cap bud nd h) => lastC k b (by exact hb))
  have HO0 := (fun W (k : CnIs W c cap bud nd h) => load_any k.ar (cL b)  ho)
  rw [← har, ← hv] at HO0
  have HO := Lib.hid HO0
  have HC := Lib.hid (fun W (h : Cn) (u : Int) (k : CnIs W c cap bud nd h) (hp : h.S[i]? = some (⟨20, a, b, u⟩ : Sp)) => And.intro k.l0 (k.sp.cell hp 2 _ rfl))
  have HP := Lib.hid hp
  have HL := Lib.hid (show i < h.S.length by rw [k.sl]; exact hin)
  have K1 := Lib.hid (k.below ((Below.refl _ w).drew))
  clear HO0 k hp har hv
  go_enter Tryz.func56, Tryz.ntmps56
  go_wp2_with fail
  go_region_held3 (fun W => W.cell? ⟨c.l, 0, none⟩ = some (.pointer (some ⟨c.a, 0, none⟩)) ∧ W.cell? ⟨c.q, i * 4 + 2, none⟩ = some (.int .i64 b))
    (first | with_reducible exact HC.out _ _ _ K1.out HP.out | with_reducible exact HC.out _ _ _ K2.out HP.out | with_reducible exact HC3.out)
    (first
      | (go_at_call 96; go_loud (refine (HF.out _ K1.out).mono ?_); rintro en w2 ⟨rfl, rfl⟩)
      | (go_at_call 94; go_loud (refine (HO.out _ K1.out).mono ?_); rintro en w3 ⟨rfl, a3, t3⟩; have K2 := Lib.hid (K1.out.op t3 a3); have T2 := Lib.hid (((Turns.refl [c.a, c.g, c.q, c.k] w).drew).trans (t3.mono (T := [c.a, c.g, c.q, c.k]) (by simp))); have K3 := Lib.hid (K2.out.putS (p' := (⟨20, a, b, v⟩ : Sp)) HP.out (j := 3) (v := .int .i64 v) (by decide) rfl); have HC3 := Lib.hid (HC.out _ _ v K3.out (by simp [HL.out])); have e1 := K2.out.sp.cell HP.out 3 _ rfl; have z1 := K2.out.sp.free (i * 4 + 3); clear a3 t3))
  all_goals
    have e3 := by simpa using K3.out.sp.cell (i := i) (p := ⟨20, a, b, v⟩) (by simp [HL.out]) 0 _ rfl
    go_wp2
    go_ret
    rw [HX.out]
    exact ⟨rfl, K3.out, T2.out.trans (turns_cq ⟨c.q, i * 4 + 3, none⟩ _ rfl)⟩
set_option maxRecDepth 100000 in
set_option maxHeartbeats 2000000 in
theorem c_aside25 (k : CnIs w c cap bud nd h) (i : Nat) (hin : i < nd.length) (a b z : Int) (hp : h.S[i]? = some (⟨25, a, b, z⟩ : Sp)) (ho : h.ar.ops + 1 ≤ 1000000000000) (hb : -5 ≤ b ∧ b ≤ 100000) :
    Calls Tryz.prog 56 #[.pointer (some ⟨c.l, 0, none⟩), .pointer (some ⟨c.q, i * 4, none⟩)] w (MidC w c cap bud nd h i (⟨25, a, b, z⟩ : Sp) (stepCp nd.length (ndf nd) bud h i (⟨25, a, b, z⟩ : Sp))) := by
  obtain ⟨_, hn⟩ := k.n32
  have e0 := k.sp.cell hp 0 _ rfl
  simp only [Nat.add_zero] at e0
  obtain ⟨ar', har⟩ : ∃ s, s = loadA h.ar (cL b)  := ⟨_, rfl⟩
  obtain ⟨v, hv⟩ : ∃ v, v = ldW h.ar.W (cL b) := ⟨_, rfl⟩
  have HX : Hid (stepCp nd.length (ndf nd) bud h i (⟨25, a, b, z⟩ : Sp) = (ar', h.wk, (⟨26, a, b, v⟩ : Sp))) := Lib.hid (by rw [stp25 rfl, har, hv] <;> rfl)
  have HF := Lib.hid (fun W (k : CnIs W c cap bud nd h) => lastC k b (by exact hb))
  have HO0 := (fun W (k : CnIs W c cap bud nd h) => load_any k.ar (cL b)  ho)
  rw [← har, ← hv] at HO0
  have HO := Lib.hid HO0
  have HC := Lib.hid (fun W (h : Cn) (u : Int) (k : CnIs W c cap bud nd h) (hp : h.S[i]? = some (⟨25, a, b, u⟩ : Sp)) => And.intro k.l0 (k.sp.cell hp 2 _ rfl))
  have HP := Lib.hid hp
  have HL := Lib.hid (show i < h.S.length by rw [k.sl]; exact hin)
  have K1 := Lib.hid (k.below ((Below.refl _ w).drew))
  clear HO0 k hp har hv
  go_enter Tryz.func56, Tryz.ntmps56
  go_wp2_with fail
  go_region_held3 (fun W => W.cell? ⟨c.l, 0, none⟩ = some (.pointer (some ⟨c.a, 0, none⟩)) ∧ W.cell? ⟨c.q, i * 4 + 2, none⟩ = some (.int .i64 b))
    (first | with_reducible exact HC.out _ _ _ K1.out HP.out | with_reducible exact HC.out _ _ _ K2.out HP.out | with_reducible exact HC3.out)
    (first
      | (go_at_call 96; go_loud (refine (HF.out _ K1.out).mono ?_); rintro en w2 ⟨rfl, rfl⟩)
      | (go_at_call 94; go_loud (refine (HO.out _ K1.out).mono ?_); rintro en w3 ⟨rfl, a3, t3⟩; have K2 := Lib.hid (K1.out.op t3 a3); have T2 := Lib.hid (((Turns.refl [c.a, c.g, c.q, c.k] w).drew).trans (t3.mono (T := [c.a, c.g, c.q, c.k]) (by simp))); have K3 := Lib.hid (K2.out.putS (p' := (⟨25, a, b, v⟩ : Sp)) HP.out (j := 3) (v := .int .i64 v) (by decide) rfl); have HC3 := Lib.hid (HC.out _ _ v K3.out (by simp [HL.out])); have e1 := K2.out.sp.cell HP.out 3 _ rfl; have z1 := K2.out.sp.free (i * 4 + 3); clear a3 t3))
  all_goals
    have e3 := by simpa using K3.out.sp.cell (i := i) (p := ⟨25, a, b, v⟩) (by simp [HL.out]) 0 _ rfl
    go_wp2
    go_ret
    rw [HX.out]
    exact ⟨rfl, K3.out, T2.out.trans (turns_cq ⟨c.q, i * 4 + 3, none⟩ _ rfl)⟩
set_option maxRecDepth 100000 in
set_option maxHeartbeats 2000000 in
theorem c_aside21 (k : CnIs w c cap bud nd h) (i : Nat) (hin : i < nd.length) (a b z : Int) (hp : h.S[i]? = some (⟨21, a, b, z⟩ : Sp)) (ho : h.ar.ops + 1 ≤ 1000000000000) (hz : -5 ≤ z ∧ z ≤ 100000) :
    Calls Tryz.prog 56 #[.pointer (some ⟨c.l, 0, none⟩), .pointer (some ⟨c.q, i * 4, none⟩)] w (MidC w c cap bud nd h i (⟨21, a, b, z⟩ : Sp) (stepCp nd.length (ndf nd) bud h i (⟨21, a, b, z⟩ : Sp))) := by
  obtain ⟨_, hn⟩ := k.n32
  have e0 := k.sp.cell hp 0 _ rfl
  simp only [Nat.add_zero] at e0
  obtain ⟨ar', har⟩ : ∃ s, s = storeA h.ar (cN z) a := ⟨_, rfl⟩
  have HX : Hid (stepCp nd.length (ndf nd) bud h i (⟨21, a, b, z⟩ : Sp) = (ar', h.wk, (⟨22, a, b, z⟩ : Sp))) := Lib.hid (by rw [stp21 rfl, har] <;> rfl)
  have HF := Lib.hid (fun W (k : CnIs W c cap bud nd h) => nextC k z (by exact hz))
  have HO0 := (fun W (k : CnIs W c cap bud nd h) => store_any k.ar (cN z) a ho)
  rw [← har] at HO0
  have HO := Lib.hid HO0
  have HC := Lib.hid (fun W (h : Cn) (k : CnIs W c cap bud nd h) (hp : h.S[i]? = some (⟨21, a, b, z⟩ : Sp)) => And.intro k.l0 (And.intro (k.sp.cell hp 3 _ rfl) (k.sp.cell hp 1 _ rfl)))
  have HP := Lib.hid hp
  have HL := Lib.hid (show i < h.S.length by rw [k.sl]; exact hin)
  have K1 := Lib.hid (k.below ((Below.refl _ w).drew))
  clear HO0 k hp har
  go_enter Tryz.func56, Tryz.ntmps56
  go_wp2_with fail
  go_region_held3 (fun W => W.cell? ⟨c.l, 0, none⟩ = some (.pointer (some ⟨c.a, 0, none⟩)) ∧ W.cell? ⟨c.q, i * 4 + 3, none⟩ = some (.int .i64 z) ∧ W.cell? ⟨c.q, i * 4 + 1, none⟩ = some (.int .i64 a))
    (first | with_reducible exact HC.out _ _ K1.out HP.out | with_reducible exact HC.out _ _ K2.out HP.out)
    (first
      | (go_at_call 88; go_loud (refine (HF.out _ K1.out).mono ?_); rintro en w2 ⟨rfl, rfl⟩)
      | (go_at_call 90; go_loud (refine (HO.out _ K1.out).mono ?_); rintro en w3 ⟨rfl, a3, t3⟩; have K2 := Lib.hid (K1.out.op t3 a3); have T2 := Lib.hid (((Turns.refl [c.a, c.g, c.q, c.k] w).drew).trans (t3.mono (T := [c.a, c.g, c.q, c.k]) (by simp))); clear a3 t3))
  all_goals
    have e3 := by simpa using K2.out.sp.cell HP.out 0 _ rfl
    go_wp2
    go_ret
    rw [HX.out]
    exact ⟨rfl, K2.out.samS HP.out, T2.out⟩
set_option maxRecDepth 100000 in
set_option maxHeartbeats 2000000 in
theorem c_aside26 (k : CnIs w c cap bud nd h) (i : Nat) (hin : i < nd.length) (a b z : Int) (hp : h.S[i]? = some (⟨26, a, b, z⟩ : Sp)) (ho : h.ar.ops + 1 ≤ 1000000000000) (hz : -5 ≤ z ∧ z ≤ 100000) :
    Calls Tryz.prog 56 #[.pointer (some ⟨c.l, 0, none⟩), .pointer (some ⟨c.q, i * 4, none⟩)] w (MidC w c cap bud nd h i (⟨26, a, b, z⟩ : Sp) (stepCp nd.length (ndf nd) bud h i (⟨26, a, b, z⟩ : Sp))) := by
  obtain ⟨_, hn⟩ := k.n32
  have e0 := k.sp.cell hp 0 _ rfl
  simp only [Nat.add_zero] at e0
  obtain ⟨ar', har⟩ : ∃ s, s = storeA h.ar (cN z) a := ⟨_, rfl⟩
  have HX : Hid (stepCp nd.length (ndf nd) bud h i (⟨26, a, b, z⟩ : Sp) = (ar', h.wk, (⟨27, a, b, z⟩ : Sp))) := Lib.hid (by rw [stp26 rfl, har] <;> rfl)
  have HF := Lib.hid (fun W (k : CnIs W c cap bud nd h) => nextC k z (by exact hz))
  have HO0 := (fun W (k : CnIs W c cap bud nd h) => store_any k.ar (cN z) a ho)
  rw [← har] at HO0
  have HO := Lib.hid HO0
  have HC := Lib.hid (fun W (h : Cn) (k : CnIs W c cap bud nd h) (hp : h.S[i]? = some (⟨26, a, b, z⟩ : Sp)) => And.intro k.l0 (And.intro (k.sp.cell hp 3 _ rfl) (k.sp.cell hp 1 _ rfl)))
  have HP := Lib.hid hp
  have HL := Lib.hid (show i < h.S.length by rw [k.sl]; exact hin)
  have K1 := Lib.hid (k.below ((Below.refl _ w).drew))
  clear HO0 k hp har
  go_enter Tryz.func56, Tryz.ntmps56
  go_wp2_with fail
  go_region_held3 (fun W => W.cell? ⟨c.l, 0, none⟩ = some (.pointer (some ⟨c.a, 0, none⟩)) ∧ W.cell? ⟨c.q, i * 4 + 3, none⟩ = some (.int .i64 z) ∧ W.cell? ⟨c.q, i * 4 + 1, none⟩ = some (.int .i64 a))
    (first | with_reducible exact HC.out _ _ K1.out HP.out | with_reducible exact HC.out _ _ K2.out HP.out)
    (first
      | (go_at_call 88; go_loud (refine (HF.out _ K1.out).mono ?_); rintro en w2 ⟨rfl, rfl⟩)
      | (go_at_call 90; go_loud (refine (HO.out _ K1.out).mono ?_); rintro en w3 ⟨rfl, a3, t3⟩; have K2 := Lib.hid (K1.out.op t3 a3); have T2 := Lib.hid (((Turns.refl [c.a, c.g, c.q, c.k] w).drew).trans (t3.mono (T := [c.a, c.g, c.q, c.k]) (by simp))); clear a3 t3))
  all_goals
    have e3 := by simpa using K2.out.sp.cell HP.out 0 _ rfl
    go_wp2
    go_ret
    rw [HX.out]
    exact ⟨rfl, K2.out.samS HP.out, T2.out⟩
set_option maxRecDepth 100000 in
set_option maxHeartbeats 2000000 in
theorem c_aside22 (k : CnIs w c cap bud nd h) (i : Nat) (hin : i < nd.length) (a b z : Int) (hp : h.S[i]? = some (⟨22, a, b, z⟩ : Sp)) (ho : h.ar.ops + 1 ≤ 1000000000000) (hb : -5 ≤ b ∧ b ≤ 100000) :
    Calls Tryz.prog 56 #[.pointer (some ⟨c.l, 0, none⟩), .pointer (some ⟨c.q, i * 4, none⟩)] w (MidC w c cap bud nd h i (⟨22, a, b, z⟩ : Sp) (stepCp nd.length (ndf nd) bud h i (⟨22, a, b, z⟩ : Sp))) := by
  obtain ⟨_, hn⟩ := k.n32
  have e0 := k.sp.cell hp 0 _ rfl
  simp only [Nat.add_zero] at e0
  obtain ⟨ar', har⟩ : ∃ s, s = storeA h.ar (cL b) h.wk.last := ⟨_, rfl⟩
  have HX : Hid (stepCp nd.length (ndf nd) bud h i (⟨22, a, b, z⟩ : Sp) = (ar', h.wk, (⟨23, h.wk.found, b, z⟩ : Sp))) := Lib.hid (by rw [stp22 rfl, har] <;> rfl)
  have HF := Lib.hid (fun W (k : CnIs W c cap bud nd h) => lastC k b (by exact hb))
  have HO0 := (fun W (k : CnIs W c cap bud nd h) => store_any k.ar (cL b) h.wk.last ho)
  rw [← har] at HO0
  have HO := Lib.hid HO0
  have HC := Lib.hid (fun W (h : Cn) (k : CnIs W c cap bud nd h) (hp : h.S[i]? = some (⟨22, a, b, z⟩ : Sp)) => And.intro k.l0 (And.intro k.l4 (k.sp.cell hp 2 _ rfl)))
  have HP := Lib.hid hp
  have HL := Lib.hid (show i < h.S.length by rw [k.sl]; exact hin)
  have K1 := Lib.hid (k.below ((Below.refl _ w).drew))
  have HW := Lib.hid (fun W (k : CnIs W c cap bud nd h) => lastWk k.wk)
  clear HO0 k hp har
  go_enter Tryz.func56, Tryz.ntmps56
  go_wp2_with fail
  go_region_held3 (fun W => W.cell? ⟨c.l, 0, none⟩ = some (.pointer (some ⟨c.a, 0, none⟩)) ∧ W.cell? ⟨c.l, 4, none⟩ = some (.pointer (some ⟨c.k, 0, none⟩)) ∧ W.cell? ⟨c.q, i * 4 + 2, none⟩ = some (.int .i64 b))
    (first | with_reducible exact HC.out _ _ K1.out HP.out | with_reducible exact HC.out _ _ K2.out HP.out)
    (first
      | (go_at_call 96; go_loud (refine (HF.out _ K1.out).mono ?_); rintro en w2 ⟨rfl, rfl⟩)
      | (go_at_call 101; go_loud (refine (HW.out _ K1.out).mono ?_); rintro en w2 ⟨rfl, rfl⟩)
      | (go_at_call 90; go_loud (refine (HO.out _ K1.out).mono ?_); rintro en w3 ⟨rfl, a3, t3⟩; have K2 := Lib.hid (K1.out.op t3 a3); have T2 := Lib.hid (((Turns.refl [c.a, c.g, c.q, c.k] w).drew).trans (t3.mono (T := [c.a, c.g, c.q, c.k]) (by simp))); clear a3 t3))
  all_goals
    have l4 := K2.out.l4
    have e4 := K2.out.sp.cell HP.out 1 _ rfl
    have z4 := K2.out.sp.free (i * 4 + 1)
    have e3 : w3.cell? ⟨c.q, i * 4, none⟩ = some (.int .i64 22) := by simpa using K2.out.sp.cell HP.out 0 _ rfl
    go_wp2_with fail
    refine (foundW K2.out.wk).mono ?_
    rintro en w5 ⟨rfl, rfl⟩
    go_wp2
    go_ret
    rw [HX.out]
    exact ⟨rfl, K2.out.putS (p' := (⟨22, h.wk.found, b, z⟩ : Sp)) HP.out (j := 1) (v := .int .i64 h.wk.found) (by decide) rfl, T2.out.trans (turns_cq ⟨c.q, i * 4 + 1, none⟩ _ rfl)⟩
set_option maxRecDepth 100000 in
set_option maxHeartbeats 2000000 in
theorem c_aside23 (k : CnIs w c cap bud nd h) (i : Nat) (hin : i < nd.length) (a b z : Int) (hp : h.S[i]? = some (⟨23, a, b, z⟩ : Sp)) (ho : h.ar.ops + 1 ≤ 1000000000000) :
    Calls Tryz.prog 56 #[.pointer (some ⟨c.l, 0, none⟩), .pointer (some ⟨c.q, i * 4, none⟩)] w (MidC w c cap bud nd h i (⟨23, a, b, z⟩ : Sp) (stepCp nd.length (ndf nd) bud h i (⟨23, a, b, z⟩ : Sp))) := by
  obtain ⟨_, hn⟩ := k.n32
  have e0 := k.sp.cell hp 0 _ rfl
  simp only [Nat.add_zero] at e0
  obtain ⟨ar', har⟩ : ∃ s, s = addA h.ar 2 1 := ⟨_, rfl⟩
  obtain ⟨v, hv⟩ : ∃ v, v = (if inR h.ar.W 2 then IntKind.i64.wrap (ldW h.ar.W 2 + 1) else 0) := ⟨_, rfl⟩
  have HX : Hid (stepCp nd.length (ndf nd) bud h i (⟨23, a, b, z⟩ : Sp) = (ar', h.wk, (⟨24, a, b, z⟩ : Sp))) := Lib.hid (by rw [stp23 rfl, har] <;> rfl)
  have HF := Lib.hid (fun W (k : CnIs W c cap bud nd h) => countC k)
  have HO0 := (fun W (k : CnIs W c cap bud nd h) => add_any k.ar 2 1 ho)
  rw [← har, ← hv] at HO0
  have HO := Lib.hid HO0
  have HC := Lib.hid (fun W (h : Cn) (k : CnIs W c cap bud nd h) (hp : h.S[i]? = some (⟨23, a, b, z⟩ : Sp)) => k.l0)
  have HP := Lib.hid hp
  have HL := Lib.hid (show i < h.S.length by rw [k.sl]; exact hin)
  have K1 := Lib.hid (k.below ((Below.refl _ w).drew))
  clear HO0 k hp har hv
  go_enter Tryz.func56, Tryz.ntmps56
  go_wp2_with fail
  go_region_held3 (fun W => W.cell? ⟨c.l, 0, none⟩ = some (.pointer (some ⟨c.a, 0, none⟩)))
    (first | with_reducible exact HC.out _ _ K1.out HP.out | with_reducible exact HC.out _ _ K2.out HP.out)
    (first
      | (go_at_call 97; go_loud (refine (HF.out _ K1.out).mono ?_); rintro en w2 ⟨rfl, rfl⟩)
      | (go_at_call 102; go_loud (refine (HO.out _ K1.out).mono ?_); rintro en w3 ⟨rfl, a3, t3⟩; have K2 := Lib.hid (K1.out.op t3 a3); have T2 := Lib.hid (((Turns.refl [c.a, c.g, c.q, c.k] w).drew).trans (t3.mono (T := [c.a, c.g, c.q, c.k]) (by simp))); clear a3 t3))
  all_goals
    have e3 := by simpa using K2.out.sp.cell HP.out 0 _ rfl
    go_wp2
    go_ret
    rw [HX.out]
    exact ⟨rfl, K2.out.samS HP.out, T2.out⟩
set_option maxRecDepth 100000 in
set_option maxHeartbeats 2000000 in
theorem c_aside24 (k : CnIs w c cap bud nd h) (i : Nat) (hin : i < nd.length) (a b z : Int) (hp : h.S[i]? = some (⟨24, a, b, z⟩ : Sp)) (ho : h.ar.ops + 1 ≤ 1000000000000) (ha : -5 ≤ a ∧ a ≤ 100000) :
    Calls Tryz.prog 56 #[.pointer (some ⟨c.l, 0, none⟩), .pointer (some ⟨c.q, i * 4, none⟩)] w (MidC w c cap bud nd h i (⟨24, a, b, z⟩ : Sp) (stepCp nd.length (ndf nd) bud h i (⟨24, a, b, z⟩ : Sp))) := by
  obtain ⟨_, hn⟩ := k.n32
  have e0 := k.sp.cell hp 0 _ rfl
  simp only [Nat.add_zero] at e0
  obtain ⟨ar', har⟩ : ∃ s, s = storeA h.ar (cS a) b := ⟨_, rfl⟩
  have HX : Hid (stepCp nd.length (ndf nd) bud h i (⟨24, a, b, z⟩ : Sp) = (ar', h.wk, (⟨0, a, b, z⟩ : Sp))) := Lib.hid (by rw [stp24 rfl, har] <;> rfl)
  have HF := Lib.hid (fun W (k : CnIs W c cap bud nd h) => spinC k a (by exact ha))
  have HO0 := (fun W (k : CnIs W c cap bud nd h) => store_any k.ar (cS a) b ho)
  rw [← har] at HO0
  have HO := Lib.hid HO0
  have HC := Lib.hid (fun W (h : Cn) (k : CnIs W c cap bud nd h) (hp : h.S[i]? = some (⟨24, a, b, z⟩ : Sp)) => And.intro k.l0 (And.intro (k.sp.cell hp 1 _ rfl) (k.sp.cell hp 2 _ rfl)))
  have HP := Lib.hid hp
  have HL := Lib.hid (show i < h.S.length by rw [k.sl]; exact hin)
  have K1 := Lib.hid (k.below ((Below.refl _ w).drew))
  clear HO0 k hp har
  go_enter Tryz.func56, Tryz.ntmps56
  go_wp2_with fail
  go_region_held3 (fun W => W.cell? ⟨c.l, 0, none⟩ = some (.pointer (some ⟨c.a, 0, none⟩)) ∧ W.cell? ⟨c.q, i * 4 + 1, none⟩ = some (.int .i64 a) ∧ W.cell? ⟨c.q, i * 4 + 2, none⟩ = some (.int .i64 b))
    (first | with_reducible exact HC.out _ _ K1.out HP.out | with_reducible exact HC.out _ _ K2.out HP.out)
    (first
      | (go_at_call 91; go_loud (refine (HF.out _ K1.out).mono ?_); rintro en w2 ⟨rfl, rfl⟩)
      | (go_at_call 90; go_loud (refine (HO.out _ K1.out).mono ?_); rintro en w3 ⟨rfl, a3, t3⟩; have K2 := Lib.hid (K1.out.op t3 a3); have T2 := Lib.hid (((Turns.refl [c.a, c.g, c.q, c.k] w).drew).trans (t3.mono (T := [c.a, c.g, c.q, c.k]) (by simp))); clear a3 t3))
  all_goals
    go_wp2
    go_ret
    rw [HX.out]
    exact ⟨rfl, K2.out.samS HP.out, T2.out⟩
set_option maxRecDepth 100000 in
set_option maxHeartbeats 2000000 in
theorem c_aside27 (k : CnIs w c cap bud nd h) (i : Nat) (hin : i < nd.length) (a b z : Int) (hp : h.S[i]? = some (⟨27, a, b, z⟩ : Sp)) (ho : h.ar.ops + 1 ≤ 1000000000000) :
    Calls Tryz.prog 56 #[.pointer (some ⟨c.l, 0, none⟩), .pointer (some ⟨c.q, i * 4, none⟩)] w (MidC w c cap bud nd h i (⟨27, a, b, z⟩ : Sp) (stepCp nd.length (ndf nd) bud h i (⟨27, a, b, z⟩ : Sp))) := by
  obtain ⟨_, hn⟩ := k.n32
  have e0 := k.sp.cell hp 0 _ rfl
  simp only [Nat.add_zero] at e0
  obtain ⟨ar', har⟩ : ∃ s, s = storeA h.ar 2 0 := ⟨_, rfl⟩
  have HX : Hid (stepCp nd.length (ndf nd) bud h i (⟨27, a, b, z⟩ : Sp) = (ar', h.wk, (⟨28, a, b, z⟩ : Sp))) := Lib.hid (by rw [stp27 rfl, har] <;> rfl)
  have HF := Lib.hid (fun W (k : CnIs W c cap bud nd h) => countC k)
  have HO0 := (fun W (k : CnIs W c cap bud nd h) => store_any k.ar 2 0 ho)
  rw [← har] at HO0
  have HO := Lib.hid HO0
  have HC := Lib.hid (fun W (h : Cn) (k : CnIs W c cap bud nd h) (hp : h.S[i]? = some (⟨27, a, b, z⟩ : Sp)) => k.l0)
  have HP := Lib.hid hp
  have HL := Lib.hid (show i < h.S.length by rw [k.sl]; exact hin)
  have K1 := Lib.hid (k.below ((Below.refl _ w).drew))
  clear HO0 k hp har
  go_enter Tryz.func56, Tryz.ntmps56
  go_wp2_with fail
  go_region_held3 (fun W => W.cell? ⟨c.l, 0, none⟩ = some (.pointer (some ⟨c.a, 0, none⟩)))
    (first | with_reducible exact HC.out _ _ K1.out HP.out | with_reducible exact HC.out _ _ K2.out HP.out)
    (first
      | (go_at_call 97; go_loud (refine (HF.out _ K1.out).mono ?_); rintro en w2 ⟨rfl, rfl⟩)
      | (go_at_call 90; go_loud (refine (HO.out _ K1.out).mono ?_); rintro en w3 ⟨rfl, a3, t3⟩; have K2 := Lib.hid (K1.out.op t3 a3); have T2 := Lib.hid (((Turns.refl [c.a, c.g, c.q, c.k] w).drew).trans (t3.mono (T := [c.a, c.g, c.q, c.k]) (by simp))); clear a3 t3))
  all_goals
    have e3 := by simpa using K2.out.sp.cell HP.out 0 _ rfl
    go_wp2
    go_ret
    rw [HX.out]
    exact ⟨rfl, K2.out.samS HP.out, T2.out⟩
set_option maxRecDepth 100000 in
set_option maxHeartbeats 2000000 in
theorem c_aside29 (k : CnIs w c cap bud nd h) (i : Nat) (hin : i < nd.length) (a b z : Int) (hp : h.S[i]? = some (⟨29, a, b, z⟩ : Sp)) (ho : h.ar.ops + 1 ≤ 1000000000000) :
    Calls Tryz.prog 56 #[.pointer (some ⟨c.l, 0, none⟩), .pointer (some ⟨c.q, i * 4, none⟩)] w (MidC w c cap bud nd h i (⟨29, a, b, z⟩ : Sp) (stepCp nd.length (ndf nd) bud h i (⟨29, a, b, z⟩ : Sp))) := by
  obtain ⟨_, hn⟩ := k.n32
  have e0 := k.sp.cell hp 0 _ rfl
  simp only [Nat.add_zero] at e0
  obtain ⟨ar', har⟩ : ∃ s, s = storeA h.ar 2 0 := ⟨_, rfl⟩
  have HX : Hid (stepCp nd.length (ndf nd) bud h i (⟨29, a, b, z⟩ : Sp) = (ar', h.wk, (⟨30, a, b, z⟩ : Sp))) := Lib.hid (by rw [stp29 rfl, har] <;> rfl)
  have HF := Lib.hid (fun W (k : CnIs W c cap bud nd h) => countC k)
  have HO0 := (fun W (k : CnIs W c cap bud nd h) => store_any k.ar 2 0 ho)
  rw [← har] at HO0
  have HO := Lib.hid HO0
  have HC := Lib.hid (fun W (h : Cn) (k : CnIs W c cap bud nd h) (hp : h.S[i]? = some (⟨29, a, b, z⟩ : Sp)) => k.l0)
  have HP := Lib.hid hp
  have HL := Lib.hid (show i < h.S.length by rw [k.sl]; exact hin)
  have K1 := Lib.hid (k.below ((Below.refl _ w).drew))
  clear HO0 k hp har
  go_enter Tryz.func56, Tryz.ntmps56
  go_wp2_with fail
  go_region_held3 (fun W => W.cell? ⟨c.l, 0, none⟩ = some (.pointer (some ⟨c.a, 0, none⟩)))
    (first | with_reducible exact HC.out _ _ K1.out HP.out | with_reducible exact HC.out _ _ K2.out HP.out)
    (first
      | (go_at_call 97; go_loud (refine (HF.out _ K1.out).mono ?_); rintro en w2 ⟨rfl, rfl⟩)
      | (go_at_call 90; go_loud (refine (HO.out _ K1.out).mono ?_); rintro en w3 ⟨rfl, a3, t3⟩; have K2 := Lib.hid (K1.out.op t3 a3); have T2 := Lib.hid (((Turns.refl [c.a, c.g, c.q, c.k] w).drew).trans (t3.mono (T := [c.a, c.g, c.q, c.k]) (by simp))); clear a3 t3))
  all_goals
    have e3 := by simpa using K2.out.sp.cell HP.out 0 _ rfl
    go_wp2
    go_ret
    rw [HX.out]
    exact ⟨rfl, K2.out.samS HP.out, T2.out⟩
set_option maxRecDepth 100000 in
set_option maxHeartbeats 2000000 in
theorem c_aside28 (k : CnIs w c cap bud nd h) (i : Nat) (hin : i < nd.length) (a b z : Int) (hp : h.S[i]? = some (⟨28, a, b, z⟩ : Sp)) (ho : h.ar.ops + 1 ≤ 1000000000000) (hb : -5 ≤ b ∧ b ≤ 100000) :
    Calls Tryz.prog 56 #[.pointer (some ⟨c.l, 0, none⟩), .pointer (some ⟨c.q, i * 4, none⟩)] w (MidC w c cap bud nd h i (⟨28, a, b, z⟩ : Sp) (stepCp nd.length (ndf nd) bud h i (⟨28, a, b, z⟩ : Sp))) := by
  obtain ⟨_, hn⟩ := k.n32
  have e0 := k.sp.cell hp 0 _ rfl
  simp only [Nat.add_zero] at e0
  obtain ⟨ar', har⟩ : ∃ s, s = storeA h.ar (cS b) (-1) := ⟨_, rfl⟩
  have HX : Hid (stepCp nd.length (ndf nd) bud h i (⟨28, a, b, z⟩ : Sp) = (ar', h.wk, (⟨0, a, b, z⟩ : Sp))) := Lib.hid (by rw [stp28 rfl, har] <;> rfl)
  have HF := Lib.hid (fun W (k : CnIs W c cap bud nd h) => spinC k b (by exact hb))
  have HO0 := (fun W (k : CnIs W c cap bud nd h) => store_any k.ar (cS b) (-1) ho)
  rw [← har] at HO0
  have HO := Lib.hid HO0
  have HC := Lib.hid (fun W (h : Cn) (k : CnIs W c cap bud nd h) (hp : h.S[i]? = some (⟨28, a, b, z⟩ : Sp)) => And.intro k.l0 (k.sp.cell hp 2 _ rfl))
  have HP := Lib.hid hp
  have HL := Lib.hid (show i < h.S.length by rw [k.sl]; exact hin)
  have K1 := Lib.hid (k.below ((Below.refl _ w).drew))
  clear HO0 k hp har
  go_enter Tryz.func56, Tryz.ntmps56
  go_wp2_with fail
  go_region_held3 (fun W => W.cell? ⟨c.l, 0, none⟩ = some (.pointer (some ⟨c.a, 0, none⟩)) ∧ W.cell? ⟨c.q, i * 4 + 2, none⟩ = some (.int .i64 b))
    (first | with_reducible exact HC.out _ _ K1.out HP.out | with_reducible exact HC.out _ _ K2.out HP.out)
    (first
      | (go_at_call 91; go_loud (refine (HF.out _ K1.out).mono ?_); rintro en w2 ⟨rfl, rfl⟩)
      | (go_at_call 90; go_loud (refine (HO.out _ K1.out).mono ?_); rintro en w3 ⟨rfl, a3, t3⟩; have K2 := Lib.hid (K1.out.op t3 a3); have T2 := Lib.hid (((Turns.refl [c.a, c.g, c.q, c.k] w).drew).trans (t3.mono (T := [c.a, c.g, c.q, c.k]) (by simp))); clear a3 t3))
  all_goals
    go_wp2
    go_ret
    rw [HX.out]
    exact ⟨rfl, K2.out.samS HP.out, T2.out⟩
set_option maxRecDepth 100000 in
set_option maxHeartbeats 2000000 in
theorem c_aside30 (k : CnIs w c cap bud nd h) (i : Nat) (hin : i < nd.length) (a b z : Int) (hp : h.S[i]? = some (⟨30, a, b, z⟩ : Sp)) (ho : h.ar.ops + 1 ≤ 1000000000000) (ha : -5 ≤ a ∧ a ≤ 100000) :
    Calls Tryz.prog 56 #[.pointer (some ⟨c.l, 0, none⟩), .pointer (some ⟨c.q, i * 4, none⟩)] w (MidC w c cap bud nd h i (⟨30, a, b, z⟩ : Sp) (stepCp nd.length (ndf nd) bud h i (⟨30, a, b, z⟩ : Sp))) := by
  obtain ⟨_, hn⟩ := k.n32
  have e0 := k.sp.cell hp 0 _ rfl
  simp only [Nat.add_zero] at e0
  obtain ⟨ar', har⟩ : ∃ s, s = storeA h.ar (cS a) (-1) := ⟨_, rfl⟩
  have HX : Hid (stepCp nd.length (ndf nd) bud h i (⟨30, a, b, z⟩ : Sp) = (ar', h.wk, (⟨0, a, b, z⟩ : Sp))) := Lib.hid (by rw [stp30 rfl, har] <;> rfl)
  have HF := Lib.hid (fun W (k : CnIs W c cap bud nd h) => spinC k a (by exact ha))
  have HO0 := (fun W (k : CnIs W c cap bud nd h) => store_any k.ar (cS a) (-1) ho)
  rw [← har] at HO0
  have HO := Lib.hid HO0
  have HC := Lib.hid (fun W (h : Cn) (k : CnIs W c cap bud nd h) (hp : h.S[i]? = some (⟨30, a, b, z⟩ : Sp)) => And.intro k.l0 (k.sp.cell hp 1 _ rfl))
  have HP := Lib.hid hp
  have HL := Lib.hid (show i < h.S.length by rw [k.sl]; exact hin)
  have K1 := Lib.hid (k.below ((Below.refl _ w).drew))
  clear HO0 k hp har
  go_enter Tryz.func56, Tryz.ntmps56
  go_wp2_with fail
  go_region_held3 (fun W => W.cell? ⟨c.l, 0, none⟩ = some (.pointer (some ⟨c.a, 0, none⟩)) ∧ W.cell? ⟨c.q, i * 4 + 1, none⟩ = some (.int .i64 a))
    (first | with_reducible exact HC.out _ _ K1.out HP.out | with_reducible exact HC.out _ _ K2.out HP.out)
    (first
      | (go_at_call 91; go_loud (refine (HF.out _ K1.out).mono ?_); rintro en w2 ⟨rfl, rfl⟩)
      | (go_at_call 90; go_loud (refine (HO.out _ K1.out).mono ?_); rintro en w3 ⟨rfl, a3, t3⟩; have K2 := Lib.hid (K1.out.op t3 a3); have T2 := Lib.hid (((Turns.refl [c.a, c.g, c.q, c.k] w).drew).trans (t3.mono (T := [c.a, c.g, c.q, c.k]) (by simp))); clear a3 t3))
  all_goals
    go_wp2
    go_ret
    rw [HX.out]
    exact ⟨rfl, K2.out.samS HP.out, T2.out⟩
end
end Go.Proofs.YtkdaiomjbkpedaaGreat
end
section
/- Layer 31 (cna): Step. -/
namespace Go.Proofs.YtkdaiomjbkpedaaGreat
open Go.RowKit

section
variable {w w' : World} {c : Cx} {cap : Nat} {bud : Int} {nd : List Int} {h : Cn}
/-- what a step asks: bounds -/
structure CCond (n : Nat) (h : Cn) : Prop where
  ops : h.ar.ops + 1 ≤ 1000000000000
  sp : ∀ (j : Nat) (p : Sp), h.S[j]? = some p → (-1 ≤ p.a ∧ p.a ≤ 2000) ∧ (-1 ≤ p.b ∧ p.b ≤ 2000) ∧ (-1 ≤ p.c ∧ p.c ≤ 2000)
  wk : (0 ≤ h.wk.passed ∧ h.wk.passed ≤ n) ∧ (-1 ≤ h.wk.last ∧ h.wk.last ≤ 2000)
  way : ∀ (j : Nat) (p : Sp), h.S[j]? = some p → p.pc = 18 → h.wk.way = true
  pcs : ∀ (j : Nat) (p : Sp), h.S[j]? = some p → (0 ≤ p.pc ∧ p.pc ≤ 6) ∨ (10 ≤ p.pc ∧ p.pc ≤ 30)
theorem COk.ccond {n N : Nat} {node : Nat → Int} {cf : Cfg} (k : COk n bud node h N cf) (hN : N < 1000000) : CCond n h := by
  have hsv : ∀ (j : Nat) (p : Sp), h.S[j]? = some p → j < n ∧ sv h.S j = p := fun j p hp => ⟨by rw [← k.iv.sl]; exact (List.getElem?_eq_some_iff.1 hp).1, by unfold sv; rw [List.getD_eq_getElem?_getD, hp]; rfl⟩
  refine ⟨by have := k.ops; omega, fun j p hp => ?_, ⟨k.bd.k.1, k.bd.k.2.1⟩, fun j p hp e => ?_, fun j p hp => ?_⟩
  · obtain ⟨_, e⟩ := hsv j p hp
    rw [← e]; exact k.bd.p j
  · obtain ⟨hj, e'⟩ := hsv j p hp
    subst e'
    have kk := k.iv
    obtain ⟨A, R, rfl⟩ := k.iv.isHead hj (by omega)
    exact (CPh.walk kk.2 e).1
  · obtain ⟨hj, e'⟩ := hsv j p hp
    subst e'
    exact k.iv.pcs hj
/-- a step of a thread that is on its way -/
def MidAll (w : World) (c : Cx) (cap : Nat) (bud : Int) (nd : List Int) (h : Cn) (i : Nat) (p : Sp) (f : Nat) (x : Bool) : Prop :=
  Calls Tryz.prog f (if x then #[.pointer (some ⟨c.l, 0, none⟩), .pointer (some ⟨c.q, i * 4, none⟩), .int .i64 ((i : Int) + 1)] else #[.pointer (some ⟨c.l, 0, none⟩), .pointer (some ⟨c.q, i * 4, none⟩)]) w (MidC w c cap bud nd h i p (stepCp nd.length (ndf nd) bud h i p))
theorem midIn (k : CnIs w c cap bud nd h) (C : CCond nd.length h) (i : Nat) (hin : i < nd.length) (p : Sp) (hp : h.S[i]? = some p) (h0 : p.pc ≠ 0) (h10 : p.pc < 10) :
    Calls Tryz.prog 53 #[.pointer (some ⟨c.l, 0, none⟩), .pointer (some ⟨c.q, i * 4, none⟩), .int .i64 ((i : Int) + 1)] w (MidC w c cap bud nd h i p (stepCp nd.length (ndf nd) bud h i p)) := by
  have hb := C.sp i p hp
  have hpc := C.pcs i p hp
  have ho := C.ops
  obtain ⟨pc, a, b, z⟩ := p
  simp only at h0 h10 hb hpc
  have : pc = 1 ∨ pc = 2 ∨ pc = 3 ∨ pc = 4 ∨ pc = 5 ∨ pc = 6 := by omega
  rcases this with rfl | rfl | rfl | rfl | rfl | rfl
  · exact c_in1 k i hin a b z hp ho
  · exact c_in2 k i hin a b z hp ho
  · exact c_in3 k i hin a b z hp ho
  · exact c_in4 k i hin a b z hp ho (by omega)
  · exact c_in5 k i hin a b z hp ho
  · exact c_in6 k i hin a b z hp ho
theorem midEnds (k : CnIs w c cap bud nd h) (C : CCond nd.length h) (i : Nat) (hin : i < nd.length) (p : Sp) (hp : h.S[i]? = some p) (h0 : 10 < p.pc) (h10 : p.pc ≤ 16) :
    Calls Tryz.prog 54 #[.pointer (some ⟨c.l, 0, none⟩), .pointer (some ⟨c.q, i * 4, none⟩), .int .i64 ((i : Int) + 1)] w (MidC w c cap bud nd h i p (stepCp nd.length (ndf nd) bud h i p)) := by
  have hb := C.sp i p hp
  have ho := C.ops
  obtain ⟨pc, a, b, z⟩ := p
  simp only at h0 h10 hb
  have : pc = 11 ∨ pc = 12 ∨ pc = 13 ∨ pc = 14 ∨ pc = 15 ∨ pc = 16 := by omega
  rcases this with rfl | rfl | rfl | rfl | rfl | rfl
  · exact c_ends11 k i hin a b z hp ho
  · exact c_ends12 k i hin a b z hp ho
  · exact c_ends13 k i hin a b z hp ho
  · exact c_ends14 k i hin a b z hp ho (by omega)
  · exact c_ends15 k i hin a b z hp ho
  · exact c_ends16 k i hin a b z hp ho
theorem midLooks (k : CnIs w c cap bud nd h) (C : CCond nd.length h) (i : Nat) (hin : i < nd.length) (p : Sp) (hp : h.S[i]? = some p) (h0 : 16 < p.pc) (h10 : p.pc ≤ 18) :
    Calls Tryz.prog 55 #[.pointer (some ⟨c.l, 0, none⟩), .pointer (some ⟨c.q, i * 4, none⟩), .int .i64 ((i : Int) + 1)] w (MidC w c cap bud nd h i p (stepCp nd.length (ndf nd) bud h i p)) := by
  have hb := C.sp i p hp
  have hwy := C.way i p hp
  have hwk := C.wk
  have ho := C.ops
  have hn := k.n32
  obtain ⟨pc, a, b, z⟩ := p
  simp only at h0 h10 hb hwy
  have : pc = 17 ∨ pc = 18 := by omega
  rcases this with rfl | rfl
  · exact c_looks17 k i hin a b z hp ho
  · exact c_looks18 k i a b z hp ho (hwy rfl) (by omega) (by omega)
theorem midAside (k : CnIs w c cap bud nd h) (C : CCond nd.length h) (i : Nat) (hin : i < nd.length) (p : Sp) (hp : h.S[i]? = some p) (h0 : 18 < p.pc) :
    Calls Tryz.prog 56 #[.pointer (some ⟨c.l, 0, none⟩), .pointer (some ⟨c.q, i * 4, none⟩)] w (MidC w c cap bud nd h i p (stepCp nd.length (ndf nd) bud h i p)) := by
  have hb := C.sp i p hp
  have hpc := C.pcs i p hp
  have hwk := C.wk
  have ho := C.ops
  obtain ⟨pc, a, b, z⟩ := p
  simp only at h0 hb hpc
  have : pc = 19 ∨ pc = 20 ∨ pc = 21 ∨ pc = 22 ∨ pc = 23 ∨ pc = 24 ∨ pc = 25 ∨ pc = 26 ∨ pc = 27 ∨ pc = 28 ∨ pc = 29 ∨ pc = 30 := by omega
  rcases this with rfl | rfl | rfl | rfl | rfl | rfl | rfl | rfl | rfl | rfl | rfl | rfl
  · by_cases h0 : 0 < b
    · exact c_aside19t k i hin a b z hp ho (by omega) (decide_eq_true h0)
    · exact c_aside19f k i hin a b z hp ho (by omega) (decide_eq_false h0)
  · exact c_aside20 k i hin a b z hp ho (by omega)
  · exact c_aside21 k i hin a b z hp ho (by omega)
  · exact c_aside22 k i hin a b z hp ho (by omega)
  · exact c_aside23 k i hin a b z hp ho
  · exact c_aside24 k i hin a b z hp ho (by omega)
  · exact c_aside25 k i hin a b z hp ho (by omega)
  · exact c_aside26 k i hin a b z hp ho (by omega)
  · exact c_aside27 k i hin a b z hp ho
  · exact c_aside28 k i hin a b z hp ho (by omega)
  · exact c_aside29 k i hin a b z hp ho
  · exact c_aside30 k i hin a b z hp ho (by omega)
set_option maxRecDepth 100000 in
set_option maxHeartbeats 4000000 in
theorem stepCn (k : CnIs w c cap bud nd h) (i : Int) (C : CCond nd.length h) :
    Calls Tryz.prog 23 #[.pointer (some ⟨c.l, 0, none⟩), .int .i64 i] w (COp w c cap bud nd (stepC nd.length (ndf nd) bud h i)) := by
  have hfield := field_pc
  have H := Lib.hid k
  obtain ⟨_, HN⟩ := k.n32
  have hsl := k.sl
  obtain ⟨p, hp⟩ : ∃ p, p = getS h.S i := ⟨_, rfl⟩
  have HP := Lib.hid hp
  by_cases hc : okI h.S i ∧ p.pc ≠ 0 ∧ p.pc ≠ 10
  · obtain ⟨hi9, hc0, hc10⟩ := hc
    have hget := getS_in hi9
    rw [← hp] at hget
    obtain ⟨h0, h9⟩ := id hi9
    obtain ⟨n, rfl⟩ := Int.eq_ofNat_of_zero_le h0
    simp only [Int.toNat_natCast] at hget
    rw [hsl] at h9
    have hn : n < nd.length := by omega
    have hn2 : (n : Int) < nd.length := by omega
    have hpcs := C.pcs n p hget
    obtain ⟨y, hy⟩ : ∃ y, y = stepCp nd.length (ndf nd) bud h n p := ⟨_, rfl⟩
    have HS : Hid (stepC nd.length (ndf nd) bud h n = (⟨y.1, y.2.1, h.S.set n y.2.2⟩, decide (y.2.2.pc = 0 ∨ y.2.2.pc = 10))) := Lib.hid (by
      unfold stepC
      rw [← HP.out, if_pos ⟨hi9, hc0, hc10⟩]
      simp only [Int.toNat_natCast]
      rw [hy])
    have x7 : IntKind.i64.wrap ((n : Int) + 1) = (n : Int) + 1 := IntWalk.i64_in _ (by omega)
    have u0 : (p.pc == 0) = false := by simpa using hc0
    have u10 : (p.pc == 10) = false := by simpa using hc10
    have hcase : p.pc < 10 ∨ (10 < p.pc ∧ p.pc ≤ 16) ∨ (16 < p.pc ∧ p.pc ≤ 18) ∨ 18 < p.pc := by omega
    have l5 : ∀ W, CnIs W c cap bud nd h → W.cell? ⟨c.l, 5, none⟩ = some (.slice (some ⟨c.q, 0, none⟩) nd.length nd.length) := fun W k => k.l5
    have HL5 := Lib.hid l5
    clear l5
    rcases hcase with e | e | e | e
    all_goals
      first
        | have HM0 := fun W (k : CnIs W c cap bud nd h) => midIn k C n hn p hget hc0 e
        | have HM0 := fun W (k : CnIs W c cap bud nd h) => midEnds k C n hn p hget e.1 e.2
        | have HM0 := fun W (k : CnIs W c cap bud nd h) => midLooks k C n hn p hget e.1 e.2
        | have HM0 := fun W (k : CnIs W c cap bud nd h) => midAside k C n hn p hget e
      rw [← hy] at HM0
      have HM := Lib.hid HM0
      first | have u1 : decide (p.pc < 10) = true := decide_eq_true (by omega)
            | have u1 : decide (p.pc < 10) = false := decide_eq_false (by omega)
      first | have u2 : decide (p.pc ≤ 16) = true := decide_eq_true (by omega)
            | have u2 : decide (p.pc ≤ 16) = false := decide_eq_false (by omega)
      first | have u3 : decide (p.pc ≤ 18) = true := decide_eq_true (by omega)
            | have u3 : decide (p.pc ≤ 18) = false := decide_eq_false (by omega)
      have HG := Lib.hid hget
      clear HM0 k hp C hc0 hc10 hget h0 h9 hi9 hsl e hy hpcs
      go_enter Tryz.func23, Tryz.ntmps23
      go_wp2_with fail
      refine (spotC H.out n).mono ?_
      rintro en w1 ⟨rfl, b1⟩
      rw [← HP.out]
      unfold spotV
      have H1 := Lib.hid (And.intro (H.out.below b1) b1)
      have c5 := HL5.out _ H1.out.1
      clear b1
      go_wp2_with fail
      refine (HM.out _ H1.out.1).mono ?_
      rintro en w2 ⟨rfl, K2, t2⟩
      have hg2 : (h.S.set n { y.2.2 with pc := p.pc })[n]? = some { y.2.2 with pc := p.pc } := by
        have := (List.getElem?_eq_some_iff.1 HG.out).1
        simp [this]
      have d0 := K2.sp.cell hg2 0 _ rfl
      simp only [Nat.add_zero] at d0
      have f0 := K2.sp.free (n * 4)
      have hq := K2.sp.lt
      have K3 := K2.putS hg2 (j := 0) (v := .int .i64 y.2.2.pc) (p' := y.2.2) (by decide) rfl
      simp only [Nat.add_zero, List.set_set] at K3
      have H2 := Lib.hid (And.intro K3 (((Turns.of_below H1.out.2).trans t2).trans (turns_cq ⟨c.q, n * 4, none⟩ (.int .i64 y.2.2.pc) rfl)))
      clear K2 t2 hg2 K3 c5
      cases z0 : (y.2.2.pc == 0)
      · cases z1 : (y.2.2.pc == 10)
        · have HD : Hid (decide (y.2.2.pc = 0 ∨ y.2.2.pc = 10) = false) := Lib.hid (by simp at z0 z1; simp [z0, z1])
          go_wp2
          go_ret
          rw [HS.out]
          exact ⟨ret_bool HD.out.symm, H2.out.1, H2.out.2⟩
        · have HD : Hid (decide (y.2.2.pc = 0 ∨ y.2.2.pc = 10) = true) := Lib.hid (by simp at z1; simp [z1])
          go_wp2
          go_ret
          rw [HS.out]
          exact ⟨ret_bool HD.out.symm, H2.out.1, H2.out.2⟩
      · have HD : Hid (decide (y.2.2.pc = 0 ∨ y.2.2.pc = 10) = true) := Lib.hid (by simp at z0; simp [z0])
        go_wp2
        go_ret
        rw [HS.out]
        exact ⟨ret_bool HD.out.symm, H2.out.1, H2.out.2⟩
  · have HS : Hid (stepC nd.length (ndf nd) bud h i = (h, false)) := Lib.hid (by unfold stepC; rw [← hp, if_neg hc])
    have hz : p.pc = 0 ∨ p.pc = 10 := by
      by_cases hi9 : okI h.S i
      · apply Classical.byContradiction
        intro hn
        exact hc ⟨hi9, fun e => hn (.inl e), fun e => hn (.inr e)⟩
      · left; rw [hp, getS_out hi9]; rfl
    have HZ := Lib.hid hz
    clear k hp hc hsl hz C
    by_cases h0 : p.pc = 0
    · have u0 : (p.pc == 0) = true := by simpa using h0
      clear h0
      go_enter Tryz.func23, Tryz.ntmps23
      go_wp2_with fail
      refine (spotC H.out i).mono ?_
      rintro en w1 ⟨rfl, b1⟩
      rw [← HP.out]
      unfold spotV
      have H1 := Lib.hid (And.intro (H.out.below b1) b1)
      clear b1
      go_wp2
      go_ret
      rw [HS.out]
      exact ⟨rfl, H1.out.1, Turns.of_below H1.out.2⟩
    · have u0 : (p.pc == 0) = false := by simpa using h0
      have u10 : (p.pc == 10) = true := by have := HZ.out; simp; omega
      clear h0
      go_enter Tryz.func23, Tryz.ntmps23
      go_wp2_with fail
      refine (spotC H.out i).mono ?_
      rintro en w1 ⟨rfl, b1⟩
      rw [← HP.out]
      unfold spotV
      have H1 := Lib.hid (And.intro (H.out.below b1) b1)
      clear b1
      go_wp2
      go_ret
      rw [HS.out]
      exact ⟨rfl, H1.out.1, Turns.of_below H1.out.2⟩
end
end Go.Proofs.YtkdaiomjbkpedaaGreat
end
