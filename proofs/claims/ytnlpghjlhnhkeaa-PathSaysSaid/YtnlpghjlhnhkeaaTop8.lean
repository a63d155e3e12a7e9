/- Layer 6, the document's Check, Leaves, Depth. -/
import Derived.Test.YtnlpghjlhnhkeaaTop6
import Derived.Test.YtnlpghjlhnhkeaaTop7
namespace Go.Proofs.Ytnlpghjlhnhkeaa
open Go.RowKit

set_option maxRecDepth 100000 in
set_option maxHeartbeats 4000000 in
theorem rcheck_any (w : World) (vP vT : Value) (P T : List Int) (hP : RdL w vP 1 encI P) (hT : RdL w vT 1 encI T) :
    Calls Try.prog 18 #[.agg #[vP, vT]] w fun e w' => e = .returned (.int .i64 (chkT P T)) ∧ Below w.heap.size w w' := by
  have hb0 : Below w.heap.size w (w.alloc (.cells #[vP, vT] 24)) := (Below.refl _ _).alloc (Nat.le_refl _) _
  have HB := Lib.hid hb0
  have HPb := Lib.hid (hP.alloc (.cells #[vP, vT] 24))
  have HTb := Lib.hid (hT.alloc (.cells #[vP, vT] 24))
  obtain ⟨AP, cP, rfl, lP1, lP2⟩ := rdl_form hP
  obtain ⟨AT, cT, rfl, lT1, lT2⟩ := rdl_form hT
  clear hP hT hb0
  have c0 : (w.alloc (.cells #[.slice AP P.length cP, .slice AT T.length cT] 24)).cell? ⟨w.heap.size, 0, none⟩ = some (.slice AP P.length cP) := by simp [World.cell?_alloc_new]
  have c1 : (w.alloc (.cells #[.slice AP P.length cP, .slice AT T.length cT] 24)).cell? ⟨w.heap.size, 1, none⟩ = some (.slice AT T.length cT) := by simp [World.cell?_alloc_new]
  go_enter Try.func18, Try.ntmps18
  go_upto_region 1 with fail
  generalize (w.alloc (.cells #[.slice AP P.length cP, .slice AT T.length cT] 24)) = wb at *
  by_cases a1 : P.length < 1
  · have HE := Lib.hid (chk_many (P := P) (T := T) (decide_eq_true (.inl a1)))
    go_wp2
    go_ret
    exact ⟨ret_int HE.out.symm, HB.out⟩
  by_cases a2 : 32 < P.length
  · have HE := Lib.hid (chk_many (P := P) (T := T) (decide_eq_true (.inr (.inl a2))))
    go_wp2
    go_ret
    exact ⟨ret_int HE.out.symm, HB.out⟩
  by_cases a3 : T.length < 1
  · have HE := Lib.hid (chk_many (P := P) (T := T) (decide_eq_true (.inr (.inr (.inl a3)))))
    go_wp2
    go_ret
    exact ⟨ret_int HE.out.symm, HB.out⟩
  by_cases a4 : 32 < T.length
  · have HE := Lib.hid (chk_many (P := P) (T := T) (decide_eq_true (.inr (.inr (.inr a4)))))
    go_wp2
    go_ret
    exact ⟨ret_int HE.out.symm, HB.out⟩
  have HM := Lib.hid (show manyB P T = false from decide_eq_false (by omega))
  have H0 := Lib.hid (rdl_int HPb.out (by omega))
  obtain ⟨p0, hp0⟩ := getElem?_lt (show 0 < P.length by omega)
  obtain ⟨b, off, hA, hb, hc⟩ := H0.out
  subst hA
  have q0 := hc 0 p0 hp0
  simp only [Nat.add_zero] at q0
  have HC := Lib.hid hc
  have HG0 := Lib.hid hp0
  clear hc hp0 H0
  go_upto_region 3 with fail
  by_cases hz : p0 = -1
  · subst hz
    have HT1 := Lib.hid (show (List.range 1).all (okP P) = true from by
      have := getD_of HG0.out
      show (okP P 0 && true) = true
      rw [Bool.and_true]
      exact decide_eq_true ⟨fun _ => this, fun h => absurd h (by omega)⟩)
    go_wp2
    go_loop [3] (fun i => ∃ k : Nat, i = .int .i64 k ∧ 1 ≤ k ∧ k ≤ P.length ∧ (List.range k).all (okP P) = true) (fun i => P.length - (intOf i).toNat)
    case atStart => exact ⟨1, rfl, by omega, by omega, HT1.out⟩
    case round =>
      obtain ⟨k, rfl, hk1, hk, ha⟩ := hrel
      by_cases hlt : k < P.length
      · obtain ⟨p, hp⟩ := getElem?_lt hlt
        have q1 := HC.out k p hp
        have HP := Lib.hid (And.intro (getD_of hp) ha)
        clear hp ha
        by_cases g0 : p < 0
        · have HN := Lib.hid (chk_tree HM.out (all_false hlt (decide_eq_false (by rw [HP.out.1]; omega))))
          go_wp2
          go_ret
          exact ⟨ret_int HN.out.symm, HB.out⟩
        · by_cases g1 : (k : Int) ≤ p
          · have HN := Lib.hid (chk_tree HM.out (all_false hlt (decide_eq_false (by rw [HP.out.1]; omega))))
            go_wp2
            go_ret
            exact ⟨ret_int HN.out.symm, HB.out⟩
          · have HN := Lib.hid (show (List.range (k + 1)).all (okP P) = true from by
              rw [range_all_succ, HP.out.2, Bool.true_and]
              exact decide_eq_true (by rw [HP.out.1]; omega))
            go_wp2
            go_round
            case rel => exact ⟨k + 1, by go_num, by omega, by omega, HN.out⟩
            case measure => simp [intOf]; omega
      · obtain rfl : k = P.length := by omega
        have HTR := Lib.hid (show treeB P = true from ha)
        clear ha
        go_wp2
        go_loop [4, 5] (fun f i => ∃ k : Nat, i = .int .i64 k ∧ k ≤ P.length ∧ f = .int .i64 (first P k : Nat) ∧ evL P (leavesTo P k) = true) (fun _ i => P.length - (intOf i).toNat)
        case atStart => exact ⟨0, rfl, by omega, rfl, rfl⟩
        case round =>
          obtain ⟨k, rfl, hk, rfl, hev⟩ := hrel
          by_cases hlt : k < P.length
          · have HL := Lib.hid (rleaf_any wb _ P k HPb.out)
            have HEV := Lib.hid hev
            clear hev
            cases hlf : leafB P k
            · have HN := Lib.hid (And.intro (first_skip hlf) (show leavesTo P (k + 1) = leavesTo P k from by rw [leavesTo_succ, hlf]; rfl))
              rw [hlf] at HL
              clear hlf
              go_wp2_with (go_at_call 45; refine HL.out.mono ?_; rintro e w' ⟨rfl, rfl⟩)
              go_round
              case rel => exact ⟨k + 1, by go_num, by omega, by rw [HN.out.1], by rw [HN.out.2]; exact HEV.out⟩
              case measure => simp [intOf]; omega
            · have hst := first_step hlt hlf
              rw [HEV.out, Bool.true_and] at hst
              have HD := Lib.hid (rdeep_any wb _ P k HPb.out)
              rw [hlf] at HL
              have hpos := depL_pos hlt
              obtain ⟨d, hd⟩ : ∃ d, d = depL P k := ⟨_, rfl⟩
              obtain ⟨f, hf⟩ : ∃ f, f = first P k := ⟨_, rfl⟩
              rw [← hd] at HD hst hpos
              rw [← hf] at hst ⊢
              have HST := Lib.hid (And.intro hst (And.intro hd hf))
              have hbd : evL P (leavesTo P (k + 1)) = false → chkT P T = 9 := fun h => chk_even HM.out HTR.out (even_bad (by omega) h)
              have HBD := Lib.hid hbd
              clear hst hd hf hbd hlf
              by_cases f0 : f = 0
              · subst f0
                by_cases g1 : 5 < d
                · have HN := Lib.hid (HBD.out (by rw [HST.out.1.2]; exact decide_eq_false (by omega)))
                  go_wp2_with (first | (go_at_call 45; refine HL.out.mono ?_; rintro e w' ⟨rfl, rfl⟩) | (go_at_call 46; refine HD.out.mono ?_; rintro e w' ⟨rfl, rfl⟩))
                  go_ret
                  exact ⟨ret_int HN.out.symm, HB.out⟩
                · have HF := Lib.hid (show first P (k + 1) = d from by rw [HST.out.1.1]; rfl)
                  have HN := Lib.hid (show evL P (leavesTo P (k + 1)) = true from by rw [HST.out.1.2]; exact decide_eq_true ⟨by rw [HF.out], by omega⟩)
                  go_wp2_with (first | (go_at_call 45; refine HL.out.mono ?_; rintro e w' ⟨rfl, rfl⟩) | (go_at_call 46; refine HD.out.mono ?_; rintro e w' ⟨rfl, rfl⟩))
                  go_round
                  case rel => exact ⟨k + 1, by go_num, by omega, by rw [HF.out], HN.out⟩
                  case measure => simp [intOf]; omega
              · have HF := Lib.hid (show first P (k + 1) = f from by rw [HST.out.1.1, if_neg f0])
                have e0 : (f == 0) = false := by simpa using f0
                have e0' : ((f : Int) == 0) = false := by rw [beq_eq_false_iff_ne]; omega
                by_cases g0 : d = f
                · subst g0
                  by_cases g1 : 5 < d
                  · have HN := Lib.hid (HBD.out (by rw [HST.out.1.2]; exact decide_eq_false (by omega)))
                    go_wp2_with (first | (go_at_call 45; refine HL.out.mono ?_; rintro e w' ⟨rfl, rfl⟩) | (go_at_call 46; refine HD.out.mono ?_; rintro e w' ⟨rfl, rfl⟩))
                    go_ret
                    exact ⟨ret_int HN.out.symm, HB.out⟩
                  · have HN := Lib.hid (show evL P (leavesTo P (k + 1)) = true from by rw [HST.out.1.2]; exact decide_eq_true ⟨by rw [HF.out], by omega⟩)
                    go_wp2_with (first | (go_at_call 45; refine HL.out.mono ?_; rintro e w' ⟨rfl, rfl⟩) | (go_at_call 46; refine HD.out.mono ?_; rintro e w' ⟨rfl, rfl⟩))
                    go_round
                    case rel => exact ⟨k + 1, by go_num, by omega, by rw [HF.out], HN.out⟩
                    case measure => simp [intOf]; omega
                · have HN := Lib.hid (HBD.out (by rw [HST.out.1.2]; exact decide_eq_false (by rw [HF.out]; omega)))
                  have e1 : (d != f) = true := by simpa using g0
                  have e1' : ((d : Int) != (f : Int)) = true := by rw [bne_iff_ne]; omega
                  go_wp2_with (first | (go_at_call 45; refine HL.out.mono ?_; rintro e w' ⟨rfl, rfl⟩) | (go_at_call 46; refine HD.out.mono ?_; rintro e w' ⟨rfl, rfl⟩))
                  go_ret
                  exact ⟨ret_int HN.out.symm, HB.out⟩
          · obtain rfl : k = P.length := by omega
            have HEV := Lib.hid (chk_thr (T := T) HM.out HTR.out hev)
            have HT0 := Lib.hid (rdl_int HTb.out (by omega))
            obtain ⟨bt, offt, hAt, hbt, hct⟩ := HT0.out
            subst hAt
            have HCT := Lib.hid hct
            clear hct hev HT0
            go_wp2
            go_loopw [7] (fun i wr => ∃ j : Nat, i = .int .i64 j ∧ j ≤ T.length ∧ (T.take j).all (leafB P) = true ∧ Qt wb wr) (fun i _ => T.length - (intOf i).toNat)
            case atStart => exact ⟨0, rfl, by omega, rfl, Qt.refl _⟩
            case round =>
              obtain ⟨j, rfl, hj, ha, hq⟩ := hrel
              obtain ⟨wq, rfl⟩ : ∃ wq : World, wq = wr := ⟨_, rfl⟩
              have d0 : wq.cell? ⟨w.heap.size, 0, none⟩ = some (.slice (some ⟨b, off, none⟩) P.length cP) := by obtain ⟨n, rfl⟩ := hq; exact c0
              have d1 : wq.cell? ⟨w.heap.size, 1, none⟩ = some (.slice (some ⟨bt, offt, none⟩) T.length cT) := by obtain ⟨n, rfl⟩ := hq; exact c1
              have HQ := Lib.hid hq
              by_cases hlt2 : j < T.length
              · obtain ⟨x, hx⟩ := getElem?_lt hlt2
                have q2 : wq.cell? ⟨bt, offt + j, none⟩ = some (.int .i64 x) := by obtain ⟨n, rfl⟩ := hq; exact HCT.out j x hx
                have HX := Lib.hid (And.intro hx ha)
                have HL := Lib.hid (fun n => (rleaf_any (wq.drewN n) _ P x ((HPb.out.qt HQ.out).drewN n)).mono fun _ _ h => And.intro h.1 h.2.symm)
                clear hx ha hq
                cases hlf : leafB P x
                · have HN := Lib.hid (show chkT P T = 4 from by
                    rw [HEV.out, if_neg]
                    intro h
                    unfold thrB at h
                    rw [List.all_eq_true] at h
                    rw [h x (List.mem_of_getElem? HX.out.1)] at hlf
                    cases hlf)
                  rw [hlf] at HL
                  clear hlf
                  go_wp2_with fail
                  go_quiet ((go_at_call 45; exact Calls.quiet_of_same (HL.out _)))
                  go_wp2
                  go_ret
                  exact ⟨ret_int HN.out.symm, below_drewN (HB.out.trans ((HQ.out.below _).mono HB.out.size)) _⟩
                · have HN := Lib.hid (show (T.take (j + 1)).all (leafB P) = true from by
                    rw [take_succ_of HX.out.1, List.all_append, HX.out.2]; simp [hlf])
                  rw [hlf] at HL
                  clear hlf
                  go_wp2_with fail
                  go_quiet ((go_at_call 45; exact Calls.quiet_of_same (HL.out _)))
                  go_wp2
                  go_roundw
                  case rel => exact ⟨j + 1, by go_num, by omega, HN.out, HQ.out.trans ⟨_, rfl⟩⟩
                  case measure => simp [intOf]; omega
              · obtain rfl : j = T.length := by omega
                rw [List.take_length] at ha
                have HN := Lib.hid (show chkT P T = 0 from by rw [HEV.out, if_pos (show thrB P T = true from ha)])
                clear ha hq
                go_wp2
                go_ret
                exact ⟨ret_int HN.out.symm, HB.out.trans ((HQ.out.below _).mono HB.out.size)⟩
  · have HN := Lib.hid (chk_tree (P := P) HM.out (all_false (k := 0) (by omega) (decide_eq_false (by rw [getD_of HG0.out]; omega))))
    have e1 : (p0 != -1) = true := by simpa using hz
    clear hz
    go_wp2
    go_ret
    exact ⟨ret_int HN.out.symm, HB.out⟩
end Go.Proofs.Ytnlpghjlhnhkeaa
