/- Joined: Top8, SmQ, SpI, Qu3, Ar4, Qu1. -/
import Derived.Test.YtbkckbphkfakkaaGreatRows
import Derived.RegionCalls
import Derived.Deep.RegionLaw
import Derived.Test.YtbkckbphkfakkaaGreatMgWritersQuiet1
import Derived.Test.YtbkckbphkfakkaaGreatMgWritersQuiet2
import Derived.Test.YtbkckbphkfakkaaGreatMgWritersQuiet3
import Derived.Test.YtbkckbphkfakkaaGreatMgWritersQuiet5
section
/- Layer 6, the document's Check, Leaves, Depth. -/
namespace Go.Proofs.YtbkckbphkfakkaaGreat
open Go.RowKit

set_option maxRecDepth 100000 in
set_option maxHeartbeats 4000000 in
theorem rcheck_any (w : World) (vP vT : Value) (P T : List Int) (hP : RdL w vP 1 encI P) (hT : RdL w vT 1 encI T) :
    Calls Tryz.prog 38 #[.agg #[vP, vT]] w fun e w' => e = .returned (.int .i64 (chkT P T)) ∧ Below w.heap.size w w' := by
  have hb0 : Below w.heap.size w (w.alloc (.cells #[vP, vT] 24)) := (Below.refl _ _).alloc (Nat.le_refl _) _
  have HB := Lib.hid hb0
  have HPb := Lib.hid (hP.alloc (.cells #[vP, vT] 24))
  have HTb := Lib.hid (hT.alloc (.cells #[vP, vT] 24))
  obtain ⟨AP, cP, rfl, lP1, lP2⟩ := rdl_form hP
  obtain ⟨AT, cT, rfl, lT1, lT2⟩ := rdl_form hT
  clear hP hT hb0
  have c0 : (w.alloc (.cells #[.slice AP P.length cP, .slice AT T.length cT] 24)).cell? ⟨w.heap.size, 0, none⟩ = some (.slice AP P.length cP) := by simp [World.cell?_alloc_new]
  have c1 : (w.alloc (.cells #[.slice AP P.length cP, .slice AT T.length cT] 24)).cell? ⟨w.heap.size, 1, none⟩ = some (.slice AT T.length cT) := by simp [World.cell?_alloc_new]
  go_enter Tryz.func38, Tryz.ntmps38
  go_upto_region 1 with fail
  generalize (w.alloc (.cells #[.slice AP P.length cP, .slice AT T.length cT] 24)) = wb at *
  by_cases a1 : P.length < 1
  · have HE := Lib.hid (chk_many (P := P) (T := T) (decide_eq_true (.inl a1)))
    go_wp2
    go_ret
    exact ⟨ret_int HE.out.symm, HB.out⟩
  by_cases a2 : 32 < P.length
  · have HE := Lib.hid (chk_many (P := P) (T := T) (decide_eq_true (.inr (.inl a2))))
    go_wp2
    go_ret
    exact ⟨ret_int HE.out.symm, HB.out⟩
  by_cases a3 : T.length < 1
  · have HE := Lib.hid (chk_many (P := P) (T := T) (decide_eq_true (.inr (.inr (.inl a3)))))
    go_wp2
    go_ret
    exact ⟨ret_int HE.out.symm, HB.out⟩
  by_cases a4 : 32 < T.length
  · have HE := Lib.hid (chk_many (P := P) (T := T) (decide_eq_true (.inr (.inr (.inr a4)))))
    go_wp2
    go_ret
    exact ⟨ret_int HE.out.symm, HB.out⟩
  have HM := Lib.hid (show manyB P T = false from decide_eq_false (by omega))
  have H0 := Lib.hid (rdl_int HPb.out (by omega))
  obtain ⟨p0, hp0⟩ := getElem?_lt (show 0 < P.length by omega)
  obtain ⟨b, off, hA, hb, hc⟩ := H0.out
  subst hA
  have q0 := hc 0 p0 hp0
  simp only [Nat.add_zero] at q0
  have HC := Lib.hid hc
  have HG0 := Lib.hid hp0
  clear hc hp0 H0
  go_upto_region 3 with fail
  by_cases hz : p0 = -1
  · subst hz
    have HT1 := Lib.hid (show (List.range 1).all (okP P) = true from by
      have := getD_of HG0.out
      show (okP P 0 && true) = true
      rw [Bool.and_true]
      exact decide_eq_true ⟨fun _ => this, fun h => absurd h (by omega)⟩)
    go_wp2
    go_loop [3] (fun i => ∃ k : Nat, i = .int .i64 k ∧ 1 ≤ k ∧ k ≤ P.length ∧ (List.range k).all (okP P) = true) (fun i => P.length - (intOf i).toNat)
    case atStart => exact ⟨1, rfl, by omega, by omega, HT1.out⟩
    case round =>
      obtain ⟨k, rfl, hk1, hk, ha⟩ := hrel
      by_cases hlt : k < P.length
      · obtain ⟨p, hp⟩ := getElem?_lt hlt
        have q1 := HC.out k p hp
        have HP := Lib.hid (And.intro (getD_of hp) ha)
        clear hp ha
        by_cases g0 : p < 0
        · have HN := Lib.hid (chk_tree HM.out (all_false hlt (decide_eq_false (by rw [HP.out.1]; omega))))
          go_wp2
          go_ret
          exact ⟨ret_int HN.out.symm, HB.out⟩
        · by_cases g1 : (k : Int) ≤ p
          · have HN := Lib.hid (chk_tree HM.out (all_false hlt (decide_eq_false (by rw [HP.out.1]; omega))))
            go_wp2
            go_ret
            exact ⟨ret_int HN.out.symm, HB.out⟩
          · have HN := Lib.hid (show (List.range (k + 1)).all (okP P) = true from by
              rw [range_all_succ, HP.out.2, Bool.true_and]
              exact decide_eq_true (by rw [HP.out.1]; omega))
            go_wp2
            go_round
            case rel => exact ⟨k + 1, by go_num, by omega, by omega, HN.out⟩
            case measure => simp [intOf]; omega
      · obtain rfl : k = P.length := by omega
        have HTR := Lib.hid (show treeB P = true from ha)
        clear ha
        go_wp2
        go_loop [4, 5] (fun f i => ∃ k : Nat, i = .int .i64 k ∧ k ≤ P.length ∧ f = .int .i64 (first P k : Nat) ∧ evL P (leavesTo P k) = true) (fun _ i => P.length - (intOf i).toNat)
        case atStart => exact ⟨0, rfl, by omega, rfl, rfl⟩
        case round =>
          obtain ⟨k, rfl, hk, rfl, hev⟩ := hrel
          by_cases hlt : k < P.length
          · have HL := Lib.hid (rleaf_any wb _ P k HPb.out)
            have HEV := Lib.hid hev
            clear hev
            cases hlf : leafB P k
            · have HN := Lib.hid (And.intro (first_skip hlf) (show leavesTo P (k + 1) = leavesTo P k from by rw [leavesTo_succ, hlf]; rfl))
              rw [hlf] at HL
              clear hlf
              go_wp2_with (go_at_call 67; refine HL.out.mono ?_; rintro e w' ⟨rfl, rfl⟩)
              go_round
              case rel => exact ⟨k + 1, by go_num, by omega, by rw [HN.out.1], by rw [HN.out.2]; exact HEV.out⟩
              case measure => simp [intOf]; omega
            · have hst := first_step hlt hlf
              rw [HEV.out, Bool.true_and] at hst
              have HD := Lib.hid (rdeep_any wb _ P k HPb.out)
              rw [hlf] at HL
              have hpos := depL_pos hlt
              obtain ⟨d, hd⟩ : ∃ d, d = depL P k := ⟨_, rfl⟩
              obtain ⟨f, hf⟩ : ∃ f, f = first P k := ⟨_, rfl⟩
              rw [← hd] at HD hst hpos
              rw [← hf] at hst ⊢
              have HST := Lib.hid (And.intro hst (And.intro hd hf))
              have hbd : evL P (leavesTo P (k + 1)) = false → chkT P T = 9 := fun h => chk_even HM.out HTR.out (even_bad (by omega) h)
              have HBD := Lib.hid hbd
              clear hst hd hf hbd hlf
              by_cases f0 : f = 0
              · subst f0
                by_cases g1 : 5 < d
                · have HN := Lib.hid (HBD.out (by rw [HST.out.1.2]; exact decide_eq_false (by omega)))
                  go_wp2_with (first | (go_at_call 67; refine HL.out.mono ?_; rintro e w' ⟨rfl, rfl⟩) | (go_at_call 68; refine HD.out.mono ?_; rintro e w' ⟨rfl, rfl⟩))
                  go_ret
                  exact ⟨ret_int HN.out.symm, HB.out⟩
                · have HF := Lib.hid (show first P (k + 1) = d from by rw [HST.out.1.1]; rfl)
                  have HN := Lib.hid (show evL P (leavesTo P (k + 1)) = true from by rw [HST.out.1.2]; exact decide_eq_true ⟨by rw [HF.out], by omega⟩)
                  go_wp2_with (first | (go_at_call 67; refine HL.out.mono ?_; rintro e w' ⟨rfl, rfl⟩) | (go_at_call 68; refine HD.out.mono ?_; rintro e w' ⟨rfl, rfl⟩))
                  go_round
                  case rel => exact ⟨k + 1, by go_num, by omega, by rw [HF.out], HN.out⟩
                  case measure => simp [intOf]; omega
              · have HF := Lib.hid (show first P (k + 1) = f from by rw [HST.out.1.1, if_neg f0])
                have e0 : (f == 0) = false := by simpa using f0
                have e0' : ((f : Int) == 0) = false := by rw [beq_eq_false_iff_ne]; omega
                by_cases g0 : d = f
                · subst g0
                  by_cases g1 : 5 < d
                  · have HN := Lib.hid (HBD.out (by rw [HST.out.1.2]; exact decide_eq_false (by omega)))
                    go_wp2_with (first | (go_at_call 67; refine HL.out.mono ?_; rintro e w' ⟨rfl, rfl⟩) | (go_at_call 68; refine HD.out.mono ?_; rintro e w' ⟨rfl, rfl⟩))
                    go_ret
                    exact ⟨ret_int HN.out.symm, HB.out⟩
                  · have HN := Lib.hid (show evL P (leavesTo P (k + 1)) = true from by rw [HST.out.1.2]; exact decide_eq_true ⟨by rw [HF.out], by omega⟩)
                    go_wp2_with (first | (go_at_call 67; refine HL.out.mono ?_; rintro e w' ⟨rfl, rfl⟩) | (go_at_call 68; refine HD.out.mono ?_; rintro e w' ⟨rfl, rfl⟩))
                    go_round
                    case rel => exact ⟨k + 1, by go_num, by omega, by rw [HF.out], HN.out⟩
                    case measure => simp [intOf]; omega
                · have HN := Lib.hid (HBD.out (by rw [HST.out.1.2]; exact decide_eq_false (by rw [HF.out]; omega)))
                  have e1 : (d != f) = true := by simpa using g0
                  have e1' : ((d : Int) != (f : Int)) = true := by rw [bne_iff_ne]; omega
                  go_wp2_with (first | (go_at_call 67; refine HL.out.mono ?_; rintro e w' ⟨rfl, rfl⟩) | (go_at_call 68; refine HD.out.mono ?_; rintro e w' ⟨rfl, rfl⟩))
                  go_ret
                  exact ⟨ret_int HN.out.symm, HB.out⟩
          · obtain rfl : k = P.length := by omega
            have HEV := Lib.hid (chk_thr (T := T) HM.out HTR.out hev)
            have HT0 := Lib.hid (rdl_int HTb.out (by omega))
            obtain ⟨bt, offt, hAt, hbt, hct⟩ := HT0.out
            subst hAt
            have HCT := Lib.hid hct
            clear hct hev HT0
            go_wp2
            go_loopw [7] (fun i wr => ∃ j : Nat, i = .int .i64 j ∧ j ≤ T.length ∧ (T.take j).all (leafB P) = true ∧ Qt wb wr) (fun i _ => T.length - (intOf i).toNat)
            case atStart => exact ⟨0, rfl, by omega, rfl, Qt.refl _⟩
            case round =>
              obtain ⟨j, rfl, hj, ha, hq⟩ := hrel
              obtain ⟨wq, rfl⟩ : ∃ wq : World, wq = wr := ⟨_, rfl⟩
              have d0 : wq.cell? ⟨w.heap.size, 0, none⟩ = some (.slice (some ⟨b, off, none⟩) P.length cP) := by obtain ⟨n, rfl⟩ := hq; exact c0
              have d1 : wq.cell? ⟨w.heap.size, 1, none⟩ = some (.slice (some ⟨bt, offt, none⟩) T.length cT) := by obtain ⟨n, rfl⟩ := hq; exact c1
              have HQ := Lib.hid hq
              by_cases hlt2 : j < T.length
              · obtain ⟨x, hx⟩ := getElem?_lt hlt2
                have q2 : wq.cell? ⟨bt, offt + j, none⟩ = some (.int .i64 x) := by obtain ⟨n, rfl⟩ := hq; exact HCT.out j x hx
                have HX := Lib.hid (And.intro hx ha)
                have HL := Lib.hid (fun n => (rleaf_any (wq.drewN n) _ P x ((HPb.out.qt HQ.out).drewN n)).mono fun _ _ h => And.intro h.1 h.2.symm)
                clear hx ha hq
                cases hlf : leafB P x
                · have HN := Lib.hid (show chkT P T = 4 from by
                    rw [HEV.out, if_neg]
                    intro h
                    unfold thrB at h
                    rw [List.all_eq_true] at h
                    rw [h x (List.mem_of_getElem? HX.out.1)] at hlf
                    cases hlf)
                  rw [hlf] at HL
                  clear hlf
                  go_wp2_with fail
                  go_quiet ((go_at_call 67; exact Calls.quiet_of_same (HL.out _)))
                  go_wp2
                  go_ret
                  exact ⟨ret_int HN.out.symm, below_drewN (HB.out.trans ((HQ.out.below _).mono HB.out.size)) _⟩
                · have HN := Lib.hid (show (T.take (j + 1)).all (leafB P) = true from by
                    rw [take_succ_of HX.out.1, List.all_append, HX.out.2]; simp [hlf])
                  rw [hlf] at HL
                  clear hlf
                  go_wp2_with fail
                  go_quiet ((go_at_call 67; exact Calls.quiet_of_same (HL.out _)))
                  go_wp2
                  go_roundw
                  case rel => exact ⟨j + 1, by go_num, by omega, HN.out, HQ.out.trans ⟨_, rfl⟩⟩
                  case measure => simp [intOf]; omega
              · obtain rfl : j = T.length := by omega
                rw [List.take_length] at ha
                have HN := Lib.hid (show chkT P T = 0 from by rw [HEV.out, if_pos (show thrB P T = true from ha)])
                clear ha hq
                go_wp2
                go_ret
                exact ⟨ret_int HN.out.symm, HB.out.trans ((HQ.out.below _).mono HB.out.size)⟩
  · have HN := Lib.hid (chk_tree (P := P) HM.out (all_false (k := 0) (by omega) (decide_eq_false (by rw [getD_of HG0.out]; omega))))
    have e1 : (p0 != -1) = true := by simpa using hz
    clear hz
    go_wp2
    go_ret
    exact ⟨ret_int HN.out.symm, HB.out⟩
end Go.Proofs.YtbkckbphkfakkaaGreat
end
section
/- The document's Small; a budget that may be. (out of XHl5, XHl6: for seats without hclh) -/
namespace Go.Proofs.YtbkckbphkfakkaaGreat
open Go.RowKit

theorem rightB (b : Int) (w : World) (h0 : 0 ≤ b) (h1 : b ≤ 1000) : Calls Tryz.prog 91 #[.int .i64 b] w fun e w' => e = .returned (.bool true) ∧ w = w' := by
  have HI : Calls Tryz.prog 119 #[.int .i64 b, .int .i64 0, .int .i64 1000] w fun e w' => e = .returned (.bool true) ∧ w = w' := by
    go_enter Tryz.func119, Tryz.ntmps119
    go_wp2
    go_ret
    exact ⟨rfl, rfl⟩
  have H := Lib.hid HI
  clear HI
  go_enter Tryz.func91, Tryz.ntmps91
  go_wp2_with fail
  refine H.out.mono ?_
  rintro en w1 ⟨rfl, rfl⟩
  go_wp2
  go_ret
  exact ⟨rfl, rfl⟩
def smallB (P T : List Int) (m : Int) : Bool := decide (chkT P T = 0 ∧ (T.length : Int) ≤ m)
set_option maxHeartbeats 1000000 in
theorem smallH (w : World) (vP vT : Value) (P T : List Int) (hP : RdL w vP 1 encI P) (hT : RdL w vT 1 encI T) (m : Int) :
    Calls Tryz.prog 8 #[.agg #[vP, vT], .int .i64 m] w fun e w' => e = .returned (.bool (smallB P T m)) ∧ Below w.heap.size w w' := by
  have HC := Lib.hid (rcheck_any (w.alloc (.cells #[vP, vT] 24)) vP vT P T (hP.alloc _) (hT.alloc _))
  have HB0 := Lib.hid ((Below.refl w.heap.size w).alloc (Nat.le_refl _) (.cells #[vP, vT] 24))
  obtain ⟨AP, cP, rfl, lP1, lP2⟩ := rdl_form hP
  obtain ⟨AT, cT, rfl, lT1, lT2⟩ := rdl_form hT
  have hX : (w.alloc (.cells #[.slice AP P.length cP, .slice AT T.length cT] 24)).cell? ⟨w.heap.size, 1, none⟩ = some (.slice AT T.length cT) := by simp [World.cell?_alloc_new]
  have hbx : w.heap.size < (w.alloc (.cells #[.slice AP P.length cP, .slice AT T.length cT] 24)).heap.size := by simp
  clear hP hT
  by_cases hc : chkT P T = 0
  · have t0 : (chkT P T == 0) = true := by simpa using hc
    have HS : Hid (smallB P T m = decide ((T.length : Int) ≤ m)) := Lib.hid (by unfold smallB; simp [hc])
    clear hc
    go_enter Tryz.func8, Tryz.ntmps8
    go_wp2_with fail
    refine HC.out.mono ?_
    rintro en w1 ⟨rfl, b1⟩
    have f1 := (b1.cell (p := ⟨w.heap.size, 1, none⟩) hbx).trans hX
    have HB1 := Lib.hid (HB0.out.trans (b1.mono HB0.out.size))
    clear b1 hX hbx
    go_wp2
    go_ret
    rw [HS.out]
    exact ⟨rfl, HB1.out⟩
  · have t0 : (chkT P T == 0) = false := by simpa using hc
    have HS : Hid (smallB P T m = false) := Lib.hid (by unfold smallB; simp [hc])
    clear hc hX hbx
    go_enter Tryz.func8, Tryz.ntmps8
    go_wp2_with fail
    refine HC.out.mono ?_
    rintro en w1 ⟨rfl, b1⟩
    have HB1 := Lib.hid (HB0.out.trans (b1.mono HB0.out.size))
    clear b1
    go_wp2
    go_ret
    rw [HS.out]
    exact ⟨rfl, HB1.out⟩
def actV2 (k i : Int) : Value := .agg #[.int .i64 k, .int .i64 i]
/-- a topology that may not be, or has too many threads -/
def SmNo (w : World) (vP vT : Value) (m : Int) : Prop := ∀ W, Below w.heap.size w W → Calls Tryz.prog 8 #[.agg #[vP, vT], .int .i64 m] W fun e w' => e = .returned (.bool false) ∧ Below W.heap.size W w'
theorem SmNo.of {w : World} {vP vT : Value} {P T : List Int} {m : Int} (hP : RdL w vP 1 encI P) (hT : RdL w vT 1 encI T) (hs : smallB P T m = false) : SmNo w vP vT m := fun W b => by
  have := smallH W vP vT P T (hP.below b (Nat.le_refl _)) (hT.below b (Nat.le_refl _)) m
  rw [hs] at this
  exact this
theorem SmNo.below {w w' : World} {vP vT : Value} {m : Int} (h : SmNo w vP vT m) (b : Below w.heap.size w w') : SmNo w' vP vT m := fun W k => h W (b.trans (k.mono b.size))
set_option maxRecDepth 100000 in
theorem rcheck_raw (w : World) (AP AT : Option Addr) (nP cP nT cT : Nat) (h : 32 < nP ∨ 32 < nT) (h1 : nP ≤ 9223372036854775807) (h2 : nT ≤ 9223372036854775807) :
    Calls Tryz.prog 38 #[.agg #[.slice AP nP cP, .slice AT nT cT]] w fun e w' => e = .returned (.int .i64 8) ∧ Below w.heap.size w w' := by
  have HB := Lib.hid ((Below.refl w.heap.size w).alloc (Nat.le_refl _) (.cells #[.slice AP nP cP, .slice AT nT cT] 24))
  have c0 : (w.alloc (.cells #[.slice AP nP cP, .slice AT nT cT] 24)).cell? ⟨w.heap.size, 0, none⟩ = some (.slice AP nP cP) := by simp [World.cell?_alloc_new]
  have c1 : (w.alloc (.cells #[.slice AP nP cP, .slice AT nT cT] 24)).cell? ⟨w.heap.size, 1, none⟩ = some (.slice AT nT cT) := by simp [World.cell?_alloc_new]
  go_enter Tryz.func38, Tryz.ntmps38
  go_upto_region 1 with fail
  generalize (w.alloc (.cells #[.slice AP nP cP, .slice AT nT cT] 24)) = wb at *
  by_cases a1 : nP < 1
  · go_wp2
    go_ret
    exact ⟨rfl, HB.out⟩
  by_cases a2 : 32 < nP
  · go_wp2
    go_ret
    exact ⟨rfl, HB.out⟩
  have a4 : 32 < nT := by omega
  have a3 : ¬ nT < 1 := by omega
  clear h
  go_wp2
  go_ret
  exact ⟨rfl, HB.out⟩
theorem SmNo.raw (w : World) (AP AT : Option Addr) (nP cP nT cT : Nat) (m : Int) (h : 32 < nP ∨ 32 < nT) (h1 : nP ≤ 9223372036854775807) (h2 : nT ≤ 9223372036854775807) : SmNo w (.slice AP nP cP) (.slice AT nT cT) m := fun W _ => by
  have HC := Lib.hid (fun w => rcheck_raw w AP AT nP cP nT cT h h1 h2)
  have HB0 := Lib.hid ((Below.refl W.heap.size W).alloc (Nat.le_refl _) (.cells #[.slice AP nP cP, .slice AT nT cT] 24))
  clear h h1 h2
  go_enter Tryz.func8, Tryz.ntmps8
  go_wp2_with fail
  refine (HC.out _).mono ?_
  rintro en w1 ⟨rfl, b1⟩
  have HB1 := Lib.hid (HB0.out.trans (b1.mono HB0.out.size))
  clear b1
  go_wp2
  go_ret
  exact ⟨rfl, HB1.out⟩
end Go.Proofs.YtbkckbphkfakkaaGreat
end
section
/- Spots in a block of their own. -/
namespace Go.Proofs.YtbkckbphkfakkaaGreat
open Go.RowKit

def encP4 (p : Sp) : List Value := [.int .i64 p.pc, .int .i64 p.a, .int .i64 p.b, .int .i64 p.c]
theorem encP4_len (p : Sp) : (encP4 p).length = 4 := rfl
/-- spots in a block of their own -/
def SpIs (w : World) (q : Nat) (S : List Sp) : Prop := Blk w q 44 (S.flatMap encP4).toArray
theorem SpIs.cell {w : World} {q : Nat} {S : List Sp} (h : SpIs w q S) {i : Nat} {p : Sp} (hp : S[i]? = some p) (j : Nat) (u : Value) (hu : (encP4 p)[j]? = some u) : w.cell? ⟨q, i * 4 + j, none⟩ = some u := by
  rw [Blk.cell h]
  simpa using getElem?_flatMap encP4 4 encP4_len S i p j u hp hu
theorem flatSet {α : Type} (enc : α → List Value) (sz : Nat) (hs : ∀ x, (enc x).length = sz) (l : List α) :
    ∀ k x x' j u, l[k]? = some x → j < sz → (enc x).set j u = enc x' → (l.flatMap enc).set (k * sz + j) u = (l.set k x').flatMap enc := by
  induction l with
  | nil => intro k x x' j u h; simp at h
  | cons a l ih =>
    intro k x x' j u h hj he
    cases k with
    | zero =>
      simp at h; subst h
      rw [List.set_cons_zero, List.flatMap_cons, List.flatMap_cons, List.set_append_left _ _ (by rw [hs]; omega)]
      simp [he]
    | succ k =>
      rw [List.set_cons_succ, List.flatMap_cons, List.flatMap_cons, List.set_append_right _ _ (by rw [hs, Nat.succ_mul]; omega), hs]
      have : (k + 1) * sz + j - sz = k * sz + j := by rw [Nat.succ_mul]; omega
      rw [this, ih k x x' j u (by simpa using h) hj he]
theorem SpIs.put {w : World} {q : Nat} {S : List Sp} (h : SpIs w q S) {i : Nat} {p p' : Sp} (hp : S[i]? = some p) {j : Nat} {u : Value} (hj : j < 4) (he : (encP4 p).set j u = encP4 p') :
    SpIs (w.setCell ⟨q, i * 4 + j, none⟩ u) q (S.set i p') := by
  have h1 := Blk.set_ h (i * 4 + j) u
  unfold SpIs
  rw [List.setIfInBounds_toArray, flatSet encP4 4 encP4_len S i p p' j u hp hj he] at h1
  exact h1
theorem SpIs.lt {w : World} {q : Nat} {S : List Sp} (h : SpIs w q S) : q < w.heap.size := Blk.lt h
theorem SpIs.free {w : World} {q : Nat} {S : List Sp} (h : SpIs w q S) (i : Nat) : w.frozen? ⟨q, i, none⟩ = false := Blk.free h i
theorem SpIs.turns {w w' : World} {q : Nat} {S : List Sp} {T : List Nat} (h : SpIs w q S) (k : Turns T w w') (hq : q ∉ T) : SpIs w' q S := k.blk h hq

def spotV (p : Sp) : Value := .agg #[.int .i64 p.pc, .int .i64 p.a, .int .i64 p.b, .int .i64 p.c]
theorem field_pc (a b c d : Int) (w : World) : (Instr.field 44 (.agg #[.int .i64 a, .int .i64 b, .int .i64 c, .int .i64 d]) 0).run Tryz.prog w = .ok (.int .i64 a) w := by kernel_rfl
end Go.Proofs.YtbkckbphkfakkaaGreat
end
section
/- Layer 24 (cohort): a new lock: it comes to be, and the arena has some words more. -/
namespace Go.Proofs.YtbkckbphkfakkaaGreat
open Go.RowKit

def nodeQ (P T : List Int) (n : Nat) : Nat := (idxI (leavesL P) (T.getD n 0)).toNat
/-- the number of the first word of a thread's node's gauge -/
def ownQ (P T : List Int) (i : Int) : Int := if 0 ≤ i ∧ i < T.length then 2 * (nodeQ P T i.toNat : Int) + 1 else 0
theorem Turns.cellQ {S : List Nat} {w w' : World} (k : Turns S w w') {p : Addr} {u : Value} (h : w.cell? p = some u) (hS : p.block ∉ S) : w'.cell? p = some u := by
  rw [World.cell?_of_block (w := w) (w' := w') (a := p) (k.block p.block (block_lt_of_cell h) hS)]
  exact h
theorem Turns.grownByQ {w w' : World} {row : Option Nat} (h : w.grownBy w' row) : Turns row.toList w w' :=
  ⟨h.os, h.tape, h.output, h.size, fun i hi hn => h.block i hi (by intro e; rw [← e] at hn; simp at hn)⟩
theorem qmade_const4 (u : Value) (n : Nat) : (madeCells #[u, u, u, u] n).toList = List.replicate n u := by
  unfold madeCells
  rw [Array.toList_map, Array.toList_range]
  refine List.ext_getElem? fun i => ?_
  rw [List.getElem?_map, List.getElem?_replicate]
  by_cases h : i < n
  · rw [List.getElem?_range h, if_pos h]
    have : i % 4 = 0 ∨ i % 4 = 1 ∨ i % 4 = 2 ∨ i % 4 = 3 := by omega
    rcases this with e | e | e | e <;> simp [e]
  · rw [if_neg h]; simp; omega
theorem qflat_zero (n : Nat) : (List.replicate n Sp.zero).flatMap encP4 = List.replicate (n * 4) (.int .i64 0) := by
  induction n with
  | zero => rfl
  | succ n ih => rw [List.replicate_succ, List.flatMap_cons, ih, show (n + 1) * 4 = 4 + n * 4 by omega, ← List.replicate_append_replicate]; rfl
theorem Tryz.infoNd : (Tryz.prog.info? 124).map (fun i => (i.zero, i.size, i.bytes)) = some (some (.agg #[.pointer none, .int .i64 0]), 2, 16) := by kernel_rfl
theorem nodesFstQ (B : Nat → Prop) (w : World) (b : Nat) (P T : List Int) (hc : chkT P T = 0) (h : Tab0Q B w b P T) :
    Calls Tryz.prog 63 #[.pointer (some ⟨b, 0, none⟩)] w fun e w' => e = .returned (.int .i64 ((leavesL P).length : Nat)) ∧ TabQ (fun i => B i ∨ w.heap.size ≤ i) w' b P T ∧ Turns [b] w w' :=
  nodesR w b P T (fun w' => TabQ (fun i => B i ∨ w.heap.size ≤ i) w' b P T ∧ Turns [b] w w') (fun _ h => h.1.f) (found_firstQ B w b P T hc h)
theorem nodesFQ (w : World) (b : Nat) (P T : List Int) (h : TabF w b P T) :
    Calls Tryz.prog 63 #[.pointer (some ⟨b, 0, none⟩)] w fun e w' => e = .returned (.int .i64 ((leavesL P).length : Nat)) ∧ w = w' :=
  nodesR w b P T (fun w' => w = w') (fun _ e => e ▸ h) (found_again w b P T h)
def coC (a b : Nat) (G L par bud : Int) (gp nd sp : Value) : Array Value := #[.pointer (some ⟨a, 0, none⟩), .pointer (some ⟨b, 0, none⟩), .int .i64 G, .int .i64 L, .int .i64 par, .int .i64 bud, gp, nd, sp]
set_option maxRecDepth 100000 in
set_option maxHeartbeats 8000000 in
theorem cohortNew {w : World} {a g : Nat} {s : Ar} (h : ArIs w a g s) (vP vT : Value) (P T : List Int) (hP : RdL w vP 1 encI P) (hT : RdL w vT 1 encI T) (hc : chkT P T = 0) (G L : Int) (hG : 1 ≤ G ∧ G ≤ 5) (hL : 1 ≤ L ∧ L ≤ 5) (par : Nat) (hp : 1 ≤ par ∧ par ≤ 4) (bud : Int) (hb : 0 ≤ bud ∧ bud ≤ 3) (hr : s.W.length + 2500 ≤ s.room) (ho : s.ops + 3000 ≤ 1000000000) :
    Calls Tryz.prog 65 #[.pointer (some ⟨a, 0, none⟩), .agg #[vP, vT], .agg #[.int .i64 G, .int .i64 L, .int .i64 par, .int .i64 bud]] w (NewK w a g s 2500) := by
  obtain ⟨i0, hi, hz0, hz1, hz2⟩ := info_parts Tryz.infoSpF
  obtain ⟨j0, hj, hy0, hy1, hy2⟩ := info_parts Tryz.infoNd
  have HJ := Lib.hid (And.intro hj (And.intro hy0 (And.intro hy1 hy2)))
  clear hj hy0 hy1 hy2
  have hml := many_lt (chk_ok hc).1
  have ha0 := h.blk.lt
  have hg0 := h.wds.lt
  obtain ⟨hT1, hT32⟩ : 1 ≤ T.length ∧ T.length ≤ 32 := ⟨hml.2.2.1, hml.2.2.2⟩
  have hN32 : (leavesL P).length ≤ 32 := by
    have := leavesTo_len P P.length
    show (leavesTo P P.length).length ≤ 32; omega
  have hN1 : 1 ≤ (leavesL P).length := by
    obtain ⟨x, hx⟩ := getElem?_lt (show 0 < T.length by omega)
    exact List.length_pos_of_mem (thr_mem (chk_ok hc).2.2.2 hx)
  have HPD := Lib.hid (And.intro hG (And.intro hL (And.intro hp hb)))
  have H := Lib.hid (And.intro h (And.intro ha0 hg0))
  have HN := Lib.hid (new_yesL ((w.alloc (.cells #[vP, vT] 24)).alloc (.cells #[.int .i64 G, .int .i64 L, .int .i64 par, .int .i64 bud] 64)) vP vT P T ((hP.alloc _).alloc _) ((hT.alloc _).alloc _) hc)
  have HCK := Lib.hid hc
  have HS := Lib.hid (And.intro hr ho)
  have HR := Lib.hid (fun W => rightB bud W hb.1 (by omega))
  have hlo : ((w.alloc (.cells #[vP, vT] 24)).alloc (.cells #[.int .i64 G, .int .i64 L, .int .i64 par, .int .i64 bud] 64)).heap.size = w.heap.size + 2 := by simp
  have B0 := Lib.hid (((Below.refl w.heap.size w).alloc (Nat.le_refl _) (.cells #[vP, vT] 24)).alloc (by simp) (.cells #[.int .i64 G, .int .i64 L, .int .i64 par, .int .i64 bud] 64))
  have hbx := Blk.new (w.alloc (.cells #[vP, vT] 24)) 64 #[.int .i64 G, .int .i64 L, .int .i64 par, .int .i64 bud]
  rw [show (w.alloc (.cells #[vP, vT] 24)).heap.size = w.heap.size + 1 by simp] at hbx
  have BX := Lib.hid hbx
  clear h hP hT hr ho hml ha0 hg0 hc hbx hG hL hp hb
  go_enter Tryz.func65, Tryz.ntmps65
  go_wp2_with fail
  refine HN.out.mono ?_
  rintro en w1 ⟨b, rfl, hb, t1, b1⟩
  rw [hlo] at hb t1 b1
  have K1 := Lib.hid (And.intro (t1.q HCK.out) (And.intro (B0.out.trans (b1.mono (by omega))) (And.intro (Turns.blk (S := []) ⟨b1.os, b1.tape, b1.output, b1.size, fun i hi _ => b1.block i (by omega)⟩ BX.out (by simp)) hb)))
  clear t1 b1 hb HN BX B0
  have p3 : w1.cell? ⟨w.heap.size + 1, 3, none⟩ = some (.int .i64 bud) := K1.out.2.2.1.cell 3
  go_wp2_with fail
  refine (HR.out _).mono ?_
  rintro en w1' ⟨rfl, rfl⟩
  have p0 : w1.cell? ⟨w.heap.size + 1, 0, none⟩ = some (.int .i64 G) := K1.out.2.2.1.cell 0
  have p1 : w1.cell? ⟨w.heap.size + 1, 1, none⟩ = some (.int .i64 L) := K1.out.2.2.1.cell 1
  have p2 : w1.cell? ⟨w.heap.size + 1, 2, none⟩ = some (.int .i64 par) := K1.out.2.2.1.cell 2
  have hpl : w.heap.size + 1 < w1.heap.size := K1.out.2.2.1.lt
  have HTh := Lib.hid (threads_any w1.drew b P T ((K1.out.1.turns ((Turns.refl (S := []) _).drew) (by simp)).tab HCK.out))
  obtain ⟨w4, hrun, hown, hg⟩ := run_makeSlice_full (P := Tryz.prog) w1.drew w1.heap.size 74 44 i0 (.agg #[.int .i64 0, .int .i64 0, .int .i64 0, .int .i64 0]) 4 Tryz.underlying74 hi hz0 hz1 .i64 .i64 T.length (by omega) (by rw [hz2]; omega) (by unfold maxLen; omega) (Nat.le_refl _)
  have H4 := Lib.hid (show Turns [] w1 w4 from ((Turns.refl _ _).drew).trans (Turns.of_below ((Below.refl _ _).grown hg (Nat.le_refl _) (fun j hj => by cases hj))))
  have q0 := H4.out.cellQ p0 (by simp)
  have q1 := H4.out.cellQ p1 (by simp)
  have q2 := H4.out.cellQ p2 (by simp)
  have q3 := H4.out.cellQ p3 (by simp)
  have hw14 : w1.heap.size ≤ w4.heap.size := H4.out.size
  clear hown hg
  go_wp2_with fail
  have HQA := Lib.hid (fun o : Obj => show (w4.alloc o).cell? ⟨w.heap.size + 1, 0, none⟩ = some (.int .i64 G) ∧ (w4.alloc o).cell? ⟨w.heap.size + 1, 1, none⟩ = some (.int .i64 L) ∧ (w4.alloc o).cell? ⟨w.heap.size + 1, 2, none⟩ = some (.int .i64 par) ∧ (w4.alloc o).cell? ⟨w.heap.size + 1, 3, none⟩ = some (.int .i64 bud) from by
    have t : Turns [] w4 (w4.alloc o) := (Turns.refl _ _).alloc o
    exact ⟨t.cellQ q0 (by simp), t.cellQ q1 (by simp), t.cellQ q2 (by simp), t.cellQ q3 (by simp)⟩)
  go_region_held3 (fun W => W.cell? ⟨w.heap.size + 1, 0, none⟩ = some (.int .i64 G) ∧ W.cell? ⟨w.heap.size + 1, 1, none⟩ = some (.int .i64 L) ∧ W.cell? ⟨w.heap.size + 1, 2, none⟩ = some (.int .i64 par) ∧ W.cell? ⟨w.heap.size + 1, 3, none⟩ = some (.int .i64 bud))
    (first | exact ⟨p0, p1, p2, p3⟩ | exact ⟨q0, q1, q2, q3⟩ | exact HQA.out _)
    (first | (go_at_call 61; go_loud (refine HTh.out.mono ?_); rintro en w3 ⟨rfl, rfl⟩))
  obtain ⟨l, hl⟩ : ∃ l, l = w4.heap.size := ⟨_, rfl⟩
  obtain ⟨w5, hw5⟩ : ∃ W, W = w4.alloc (.cells (coC a b G L par bud (.pointer none) (.slice none 0 0) (.slice (some ⟨w1.heap.size, 0, none⟩) T.length T.length)) 122) := ⟨_, rfl⟩
  have hw5' := hw5
  unfold coC at hw5'
  rw [← hw5', ← hl]
  have HB5 := Lib.hid (show Blk w5 l 122 (coC a b G L par bud (.pointer none) (.slice none 0 0) (.slice (some ⟨w1.heap.size, 0, none⟩) T.length T.length)) from by rw [hw5, hl]; exact Blk.new _ _ _)
  have H5 := Lib.hid (show Turns [] w1 w5 from by rw [hw5]; exact H4.out.alloc _)
  have HO := Lib.hid (show a < w.heap.size ∧ g < w.heap.size ∧ w.heap.size + 2 ≤ b ∧ b < w1.heap.size ∧ w1.heap.size ≤ l ∧ w5.heap.size = l + 1 from by
    have e1 : b < w1.heap.size := K1.out.1.low.2
    have e2 := K1.out.2.2.2
    have e4 := H.out
    rw [hw5, hl]
    simp
    omega)
  have HPC : Hid (∀ W, Turns [l, b, a, g] w5 W → W.cell? ⟨w.heap.size + 1, 0, none⟩ = some (.int .i64 G) ∧ W.cell? ⟨w.heap.size + 1, 1, none⟩ = some (.int .i64 L) ∧ W.cell? ⟨w.heap.size + 1, 2, none⟩ = some (.int .i64 par) ∧ W.cell? ⟨w.heap.size + 1, 3, none⟩ = some (.int .i64 bud)) := Lib.hid fun W hW => by
    have o := HO.out
    have t : Turns [l, b, a, g] w1 W := (H5.out.mono (by simp)).trans hW
    have n : w.heap.size + 1 ∉ [l, b, a, g] := by simp; omega
    exact ⟨t.cellQ p0 n, t.cellQ p1 n, t.cellQ p2 n, t.cellQ p3 n⟩
  obtain ⟨N, hN⟩ : ∃ N, N = (leavesL P).length := ⟨_, rfl⟩
  rw [← hN] at hN32 hN1
  have HNo0 := nodesFstQ (fun i => w.heap.size + 2 ≤ i ∧ i < w1.heap.size) w5.drew b P T HCK.out ((K1.out.1.turns H5.out (by simp)).turns ((Turns.refl (S := []) _).drew) (by simp))
  rw [← hN] at HNo0
  have HNo := Lib.hid HNo0
  have HNN := Lib.hid hN
  have HA5 := Lib.hid ((H.out.1.turns (Turns.of_below (S := []) K1.out.2.1) (by simp) (by simp)).turns H5.out (by simp) (by simp))
  have HFl := Lib.hid (fun W (hA : ArIs W a g s) => flatNew hA G HPD.out.1.1 HPD.out.1.2 N hN1 hN32 par HPD.out.2.2.1.1 HPD.out.2.2.1.2 (by have := HS.out; omega) (by have := HS.out; omega))
  have k50 := HPC.out w5 (Turns.refl _ _)
  have hl5 : l < w5.heap.size := HB5.out.lt
  clear hw5 hw5' hl hN HNo0 p0 p1 p2 p3 q0 q1 q2 q3 hrun HQA HTh H4 hw14
  go_wp2_with fail
  go_region_held3 (fun W => W.cell? ⟨w.heap.size + 1, 0, none⟩ = some (.int .i64 G) ∧ W.cell? ⟨w.heap.size + 1, 1, none⟩ = some (.int .i64 L) ∧ W.cell? ⟨w.heap.size + 1, 2, none⟩ = some (.int .i64 par) ∧ W.cell? ⟨w.heap.size + 1, 3, none⟩ = some (.int .i64 bud))
    (first | exact k50 | exact HPC.out _ T6.out | exact HPC.out _ T7.out | exact HPC.out _ T8.out)
    (first
      | (go_at_call 63; go_loud (refine HNo.out.mono ?_); rintro en w6 ⟨rfl, t6, n6⟩; have T6 := Lib.hid (show Turns [l, b, a, g] w5 w6 from ((Turns.refl _ _).drew).trans (n6.mono (by simp))); have Q6 := Lib.hid t6.lt; have A6 := Lib.hid (HA5.out.turns (show Turns [b] w5 w6 from ((Turns.refl _ _).drew).trans n6) (by have := HO.out; simp; omega) (by have := HO.out; simp; omega)); have B6 := Lib.hid (show Blk w6 l _ _ from (show Turns [b] w5 w6 from ((Turns.refl _ _).drew).trans n6).blk HB5.out (by have := HO.out; simp; omega)); clear t6 n6)
      | (go_at_call 92; go_loud (refine (HFl.out w6 A6.out).mono ?_); rintro en w7 ⟨gp, s7, rfl, e1, e2, e3, e4, e5⟩; have T7 := Lib.hid (T6.out.trans (e5.mono (by simp))); have B7 := Lib.hid (e5.blk B6.out (by have := HO.out; simp; omega)); have c6 : w7.cell? ⟨l, 6, none⟩ = some (.pointer none) := B7.out.cell 6; have z6 := B7.out.free 6; have T8 := Lib.hid (T7.out.trans ((Turns.refl [l, b, a, g] w7).setCell (p := ⟨l, 6, none⟩) (.inl (by simp)) (.pointer (some ⟨gp, 0, none⟩)))); have H7 := Lib.hid (And.intro e1 (And.intro e2 (And.intro e3 (And.intro e4 e5)))); clear e1 e2 e3 e4 e5))
  obtain ⟨w8, hw8⟩ : ∃ W, W = w7.setCell ⟨l, 6, none⟩ (.pointer (some ⟨gp, 0, none⟩)) := ⟨_, rfl⟩
  rw [← hw8] at T8 ⊢
  have t78 : Turns [l] w7 w8 := by rw [hw8]; exact (Turns.refl _ _).setCell (.inl (by simp)) _
  have HB8 := Lib.hid (show Blk w8 l 122 (coC a b G L par bud (.pointer (some ⟨gp, 0, none⟩)) (.slice none 0 0) (.slice (some ⟨w1.heap.size, 0, none⟩) T.length T.length)) from by rw [hw8]; exact B7.out.set_ 6 _)
  have HA8 := Lib.hid (H7.out.2.2.1.turns t78 (by have := HO.out; simp; omega) (by have := HO.out; simp; omega))
  have HQ8 := Lib.hid (show TabQ (fun i => ((w.heap.size + 2 ≤ i ∧ i < w1.heap.size) ∨ w5.drew.heap.size ≤ i) ∧ i < w6.heap.size) w8 b P T from by
    have o := HO.out
    refine (Q6.out.turns H7.out.2.2.2.2 (fun i hi hB => ?_)).turns t78 (fun i hi hB => ?_)
    · have e : w5.drew.heap.size = w5.heap.size := rfl
      simp at hi
      omega
    · have e : w5.drew.heap.size = w5.heap.size := rfl
      simp at hi
      omega)
  have hs8 : w5.heap.size ≤ w8.heap.size := T8.out.size
  have hl8 : l < w8.heap.size := by omega
  have HM0 := Lib.hid H7.out.2.2.2.1
  clear hw8 c6 z6 t78 B7 B6 H7 k50
  have HNq0 := nodesFQ w8 b P T HQ8.out.f
  rw [← HNN.out] at HNq0
  have HNq := Lib.hid HNq0
  clear HNq0
  go_wp2_with fail
  refine HNq.out.mono ?_
  rintro en w8' ⟨rfl, rfl⟩
  go_wp2
  go_loopw [56] (fun i wr => ∃ (k : Nat) (v : Value) (xs : List Value) (s' : Ar), i = .int .i64 k ∧ k ≤ N ∧ Blk wr l 122 (coC a b G L par bud (.pointer (some ⟨gp, 0, none⟩)) v (.slice (some ⟨w1.heap.size, 0, none⟩) T.length T.length)) ∧ wr.ownsRow w8.heap.size 124 2 v k xs ∧ ArIs wr a g s' ∧ ArMore s s' (66 + 67 * k) ∧ Turns [l, a, g] w8 wr) (fun i _ => N - (intOf i).toNat)
  case atStart => exact ⟨0, _, [], s7, rfl, by omega, HB8.out, World.ownsRow_nil _ _ _ _, HA8.out, HM0.out, Turns.refl _ _⟩
  case round =>
    obtain ⟨k, v, xs, s', rfl, hk, hb, hown, hA, hM, ht⟩ := hrel
    obtain ⟨wo, rfl⟩ : ∃ wo : World, wo = wr := ⟨_, rfl⟩
    have H := Lib.hid (And.intro hb (And.intro hown (And.intro hA (And.intro hM ht))))
    have h8o := ht.size
    by_cases hlt : k < N
    · obtain ⟨A, cap, rfl⟩ := own_form hown
      have HQo := Lib.hid (show TabQ (fun i => ((w.heap.size + 2 ≤ i ∧ i < w1.heap.size) ∨ w5.drew.heap.size ≤ i) ∧ i < w6.heap.size) wo.drew b P T from by
        have o := HO.out
        have e : w5.drew.heap.size = w5.heap.size := rfl
        exact (HQ8.out.turns ht (fun i hi hB => by simp at hi; omega)).turns ((Turns.refl (S := []) _).drew) (by simp))
      obtain ⟨x, hx⟩ := getElem?_lt (show k < (leavesL P).length by rw [← HNN.out]; exact hlt)
      have HMt := Lib.hid (matesF wo.drew b P T HQo.out.f hx)
      have hct : T.count x ≤ 32 := Nat.le_trans List.count_le_length hT32
      obtain ⟨ct, hcte⟩ : ∃ ct, ct = T.count x := ⟨_, rfl⟩
      rw [← hcte] at HMt hct
      have ho8 : Turns [l, b, a, g] w5 wo := T8.out.trans (ht.mono (by simp))
      have HPo := Lib.hid (HPC.out wo ho8)
      obtain ⟨p0, p1, p2, p3⟩ := HPC.out wo ho8
      have hlen : s'.W.length + 100 ≤ s'.room ∧ s'.ops + 100 ≤ 1000000000 := by
        have h1 := hM.len
        have h2 := hM.room
        have h3 := hM.ops
        have h4 := HS.out
        omega
      have HFL := Lib.hid (fun n (h1 : 1 ≤ n) (h2 : n ≤ 32) => flatNew (w := wo.drew) (hA.turns ((Turns.refl (S := []) _).drew) (by simp) (by simp)) L HPD.out.2.1.1 HPD.out.2.1.2 n h1 h2 par HPD.out.2.2.1.1 HPD.out.2.2.1.2 (by omega) (by omega))
      have hllo := hb.lt
      have ho8 := Lib.hid ho8
      clear hb hown hA hM ht hx hcte
      obtain ⟨z, hz⟩ : ∃ z : Int, z = (ct : Int) := ⟨_, rfl⟩
      rw [← hz] at HMt
      obtain ⟨n, hn⟩ : ∃ n : Nat, n = max 1 ct := ⟨_, rfl⟩
      have hif : (if 1 < z then z else 1) = (n : Int) := by split <;> omega
      have HF1 := Lib.hid (HFL.out n (by omega) (by omega))
      clear hn
      clear hz hct
      go_wp2_with fail
      go_region_held3 (fun W => W.cell? ⟨w.heap.size + 1, 0, none⟩ = some (.int .i64 G) ∧ W.cell? ⟨w.heap.size + 1, 1, none⟩ = some (.int .i64 L) ∧ W.cell? ⟨w.heap.size + 1, 2, none⟩ = some (.int .i64 par) ∧ W.cell? ⟨w.heap.size + 1, 3, none⟩ = some (.int .i64 bud))
        (first | exact HPo.out | exact HP7.out)
        (first
          | (go_at_call 93; go_loud (refine HMt.out.mono ?_); rintro en w6' ⟨rfl, rfl⟩)
          | (go_at_call 92; go_loud (refine HF1.out.mono ?_); rintro en w7' ⟨gq, s2, rfl, e1, e2, e3, e4, e5⟩; have T7' := Lib.hid (show Turns [a, g] wo w7' from ((Turns.refl _ _).drew).trans e5); have HP7 := Lib.hid (HPC.out w7' (ho8.out.trans (T7'.out.mono (by simp)))); have H7' := Lib.hid (And.intro e3 e4); clear e1 e2 e3 e4 e5))
      all_goals
        have hlen2 : s2.W.length + 1 ≤ s2.room := by
          have h1 := H7'.out.2.len
          have h2 := H7'.out.2.room
          have h3 := hlen.1
          omega
        go_wp2_with fail
        refine (takeY H7'.out.1 1 hlen2).mono ?_
        rintro en w9 ⟨rfl, k9, t9⟩
        have T9 := Lib.hid (T7'.out.trans (t9.mono (by simp)))
        have H9 := Lib.hid k9
        have hna : l ∉ [a, g] := by have := HO.out; simp; omega
        have bl9 : Blk w9 l 122 (coC a b G L par bud (.pointer (some ⟨gp, 0, none⟩)) (.slice A k cap) (.slice (some ⟨w1.heap.size, 0, none⟩) T.length T.length)) := T9.out.blk H.out.1 hna
        have o9 : w9.ownsRow w8.heap.size 124 2 (.slice A k cap) k xs := Turns.own H.out.2.1 T9.out (fun x hx => by have := (H.out.2.1.lt x hx).1; have := HO.out; simp; omega)
        have c7 : w9.cell? ⟨l, 7, none⟩ = some (.slice A k cap) := bl9.cell 7
        have hs9 : wo.heap.size ≤ w9.heap.size := T9.out.size
        have hll9 := bl9.lt
        have hlow : (Value.slice A k cap).ownBlock ≠ some l := fun e => by have := (H.out.2.1.lt l e).1; omega
        have HB9 := Lib.hid bl9
        have HO9 := Lib.hid o9
        clear k9 t9 bl9 o9 hna
        go_wp2_with (at_builtin; refine wpList_append_lies _ rfl _ _ 120 rfl w8.heap.size 124 j0 (.agg #[.pointer none, .int .i64 0]) 2 16 Tryz.underlying120 HJ.out.1 HJ.out.2.1 HJ.out.2.2.1 HJ.out.2.2.2 rfl (by decide) _ _ _ rfl (HO9.out.alloc _) ⟨w9.heap.size, 0, none⟩ 1 1 [.pointer (some ⟨gq, 0, none⟩), .int .i64 ((s2.W.length : Int) + 1)] rfl rfl (cells_newF _ _ _) (by simp [Value.oneCell']) (by decide) ?c3 ?c4 ?c5 _ rfl ?_)
        case c3 => unfold maxLen; omega
        case c4 => omega
        case c5 => simp; omega
        intro g3 cap3 w10 h3 hg3 hl3 hlt3
        have bl10 := (HB9.out.alloc (.cells #[.pointer (some ⟨gq, 0, none⟩), .int .i64 ((s2.W.length : Int) + 1)] 124)).grown hg3 (fun e => hlow e.symm)
        have c10 : w10.cell? ⟨l, 7, none⟩ = some (.slice A k cap) := bl10.cell 7
        have z10 := bl10.free 7
        obtain ⟨w11, hw11⟩ : ∃ W, W = w10.setCell ⟨l, 7, none⟩ (.slice (some ⟨g3, 0, none⟩) (k + 1) cap3) := ⟨_, rfl⟩
        have tr : Turns (l :: (Value.slice A k cap).ownBlock.toList) w9 w11 := by
          rw [hw11]
          exact (((Turns.refl _ _).alloc _).trans ((Turns.grownByQ hg3).mono fun i hi => List.mem_cons_of_mem _ hi)).trans ((Turns.refl _ _).setCell (.inl (by simp)) _)
        have HR1 := Lib.hid (show Blk w11 l 122 (coC a b G L par bud (.pointer (some ⟨gp, 0, none⟩)) (.slice (some ⟨g3, 0, none⟩) (k + 1) cap3) (.slice (some ⟨w1.heap.size, 0, none⟩) T.length T.length)) from by rw [hw11]; exact bl10.set_ 7 _)
        have HR2 := Lib.hid (show w11.ownsRow w8.heap.size 124 2 (.slice (some ⟨g3, 0, none⟩) (k + 1) cap3) (k + 1) (xs ++ [.pointer (some ⟨gq, 0, none⟩), .int .i64 ((s2.W.length : Int) + 1)]) from by
          rw [hw11]
          have hg3b := (h3.lt g3 rfl).1
          exact Turns.own h3 ((Turns.refl [l] _).setCell (.inl (by simp)) _) (fun x hx => by injection hx with hx; subst hx; simp; omega))
        have hlowA : ∀ x, (Value.slice A k cap).ownBlock = some x → w8.heap.size ≤ x := fun x hx => (H.out.2.1.lt x hx).1
        have HR3 := Lib.hid (show ArIs w11 a g (takeS s2 1) from H9.out.turns tr (fun hm => by
          have := HO.out
          rcases List.mem_cons.1 hm with e | e
          · omega
          · have := hlowA a (by simpa using e); omega) (fun hm => by
          have := HO.out
          rcases List.mem_cons.1 hm with e | e
          · omega
          · have := hlowA g (by simpa using e); omega))
        have HR4 := Lib.hid (show ArMore s (takeS s2 1) (66 + 67 * (k + 1)) from ((H.out.2.2.2.1.trans H7'.out.2).trans (takeS_more s2 1)).le (by omega))
        have HR5 := Lib.hid (show Turns [l, a, g] w8 w11 from by
          have t1 : Turns ([l, a, g] ++ (Value.slice A k cap).ownBlock.toList) w8 w11 := ((H.out.2.2.2.2.mono fun i hi => List.mem_append_left _ hi).trans (T9.out.mono fun i hi => List.mem_append_left _ (by simp at hi ⊢; omega))).trans (tr.mono fun i hi => by
            rcases List.mem_cons.1 hi with e | e
            · exact List.mem_append_left _ (by simp [e])
            · exact List.mem_append_right _ e)
          refine t1.fresh fun i hi => ?_
          rcases List.mem_append.1 hi with hi | hi
          · exact .inl hi
          · exact .inr (hlowA i (by simpa using hi)))
        rw [hw11] at HR1 HR2 HR3 HR5
        clear h3 hg3 hl3 bl10 HB9 HO9 H9 tr hw11 hlowA
        go_wp2
        go_roundw
        case rel => exact ⟨k + 1, _, _, _, by go_num, by omega, HR1.out, HR2.out, HR3.out, HR4.out, HR5.out⟩
        case measure => simp [intOf]; omega
    · obtain rfl : k = N := by omega
      clear hb hown hA hM ht
      go_wp2
      go_ret2
      have o := HO.out
      have s8 := T8.out.size
      have s1 := K1.out.2.1.size
      have s15 := H5.out.size
      refine ⟨l, s', rfl, by omega, by have := H.out.1.lt; omega, H.out.2.2.1, H.out.2.2.2.1.le (by omega), ?_⟩
      have t : Turns [l, b, a, g] w wo := (((Turns.of_below (S := [l, b, a, g]) K1.out.2.1).trans (H5.out.mono (by simp))).trans T8.out).trans (H.out.2.2.2.2.mono (by simp))
      exact t.fresh fun i hi => by simp at hi ⊢; omega
end Go.Proofs.YtbkckbphkfakkaaGreat
end
section
/- Layer 1: Add. -/
namespace Go.Proofs.YtbkckbphkfakkaaGreat
open Go.RowKit

theorem aadd (w : World) (b o : Nat) (x y : Int) (hc : w.cell? ⟨b, o, none⟩ = some (.int .i64 x)) (hz : w.frozen? ⟨b, o, none⟩ = false) :
    Calls Tryz.prog 112 #[.pointer (some ⟨b, o, none⟩), .int .i64 y] w fun e w' => e = .returned (.int .i64 (IntKind.i64.wrap (x + y))) ∧ w' = w.setCell ⟨b, o, none⟩ (.int .i64 (IntKind.i64.wrap (x + y))) := by
  obtain ⟨s, hs⟩ : ∃ s, s = IntKind.i64.wrap (x + y) := ⟨_, rfl⟩
  rw [← hs]
  have hl := run_call_add (P := Tryz.prog) Tryz.func136 (by kernel_rfl) (by kernel_rfl) (by kernel_rfl) .i64 (by kernel_rfl) (y := y) (s := s) hc hz (by rw [hs]; rfl)
  clear hs
  go_enter Tryz.func112, Tryz.ntmps112
  go_wp2
  go_ret
  exact ⟨rfl, rfl⟩
theorem add_any {w : World} {a g : Nat} {s : Ar} (h : ArIs w a g s) (x d : Int) (ho : s.ops + 1 ≤ 1000000000000) :
    Calls Tryz.prog 87 #[.pointer (some ⟨a, 0, none⟩), .int .i64 x, .int .i64 d] w (OpDone w a g (addA s x d) (.int .i64 (if inR s.W x then IntKind.i64.wrap (ldW s.W x + d) else 0))) := by
  have H := Lib.hid h
  cases hx : inR s.W x
  · have e : OpDone w a g (addA s x d) (.int .i64 (if false = true then IntKind.i64.wrap (ldW s.W x + d) else 0)) (.returned (.int .i64 0)) w := ⟨rfl, by unfold addA; rw [noteA_out s _ _ _ hx, wrA_out s _ _ hx]; exact h, Turns.refl _ _⟩
    have HX := Lib.hid hx
    clear h hx
    go_enter Tryz.func87, Tryz.ntmps87
    go_wp2_with fail
    refine (word_out H.out x HX.out).mono ?_
    rintro en w1 ⟨rfl, rfl⟩
    go_wp2
    go_ret
    exact e
  · have HX := Lib.hid hx
    have HE := Lib.hid (ldW_in hx)
    have h12 := inR_true.1 hx
    have hil : x.toNat - 1 < s.W.length := by omega
    clear h hx
    go_enter Tryz.func87, Tryz.ntmps87
    go_wp2_with fail
    refine (word_in H.out x HX.out).mono ?_
    rintro en w1 ⟨rfl, rfl⟩
    go_wp2_with fail
    refine (note_any H.out 5 x true HX.out ho).mono ?_
    rintro en w1 ⟨rfl, h1, t1⟩
    have hc := h1.word (i := x.toNat - 1) (by rw [noteA_W]; exact hil)
    rw [noteA_W, ← HE.out] at hc
    have hp := h1.put (x := x) (by rw [noteA_W]; exact HX.out) (IntKind.i64.wrap (ldW s.W x + d))
    have H1 := Lib.hid (And.intro hp t1)
    have HC := Lib.hid hc
    clear h1 t1 hp hc
    go_wp2_with fail
    refine (aadd _ _ _ _ _ HC.out.1 HC.out.2).mono ?_
    rintro en w2 ⟨rfl, rfl⟩
    obtain ⟨r, hr⟩ : ∃ r, r = IntKind.i64.wrap (ldW s.W x + d) := ⟨_, rfl⟩
    have hr2 : -9223372036854775808 ≤ r ∧ r ≤ 9223372036854775807 := by rw [hr, IntKind.wrap_i64]; omega
    obtain ⟨hr3, hr4⟩ := hr2
    rw [← hr]
    have HR := Lib.hid hr
    clear hr
    go_wp2
    go_ret
    exact ⟨by rw [HR.out]; rfl, by rw [HR.out]; exact H1.out.1.1, by rw [HR.out]; exact (turns_ag H1.out.2).trans H1.out.1.2⟩
end Go.Proofs.YtbkckbphkfakkaaGreat
end
section
/- Layers 36, 37, 38 (neutral, readers, writers): readers alone, as plain data. No program in sight. -/
namespace Go.Proofs.YtbkckbphkfakkaaGreat
open Go.RowKit

theorem getQ_nat {S : List Sp} {j : Nat} (h : j < S.length) : getS S (j : Int) = sv S j := by
  unfold getS; rw [if_pos (by omega)]; rfl
theorem ldW_st_ne {W : List Int} {x y v : Int} (h : x ≠ y) : ldW (stW W x v) y = ldW W y := by
  unfold ldW stW
  by_cases hx : inR W x = true
  · rw [if_pos hx]
    have e : inR (W.set (x.toNat - 1) v) y = inR W y := by unfold inR; rw [List.length_set]
    rw [e]
    by_cases hy : inR W y = true
    · rw [if_pos hy, if_pos hy, getD_set, if_neg]
      have h1 := inR_true.1 hx
      have h2 := inR_true.1 hy
      omega
    · rw [if_neg hy, if_neg hy]
  · rw [if_neg hx]
/-- of a reader: its step, as far as its spot goes; w: the lock that prefers writers -/
def spQ (w : Bool) (p : Sp) : Sp :=
  if p.pc = 1 then { p with pc := 2 }
  else if p.pc = 2 then { p with pc := if w then 3 else 10 }
  else if p.pc = 3 then { p with pc := 10 }
  else if p.pc = 11 then { p with pc := 0 }
  else p
/-- and as far as the words go; o: the first word of its node's gauge, f: the flag -/
def arQ (w : Bool) (o f : Int) (s : Ar) (p : Sp) : Ar :=
  if p.pc = 1 then (if w then loadA s f else addA s o 1)
  else if p.pc = 2 then (if w then addA s o 1 else loadA s f)
  else if p.pc = 3 then loadA s f
  else if p.pc = 11 then addA s (o + 1) 1
  else s
def askQ (p : Sp) : Sp := if p.pc = 0 then ⟨1, 1, 0, 0⟩ else p
def lvQ (p : Sp) : Sp := if p.pc = 10 then { p with pc := 11 } else p
def RdOk (w : Bool) (p : Sp) : Prop := (p.pc = 0 ∨ p.pc = 1 ∨ p.pc = 2 ∨ (p.pc = 3 ∧ w = true) ∨ p.pc = 10 ∨ p.pc = 11) ∧ (p.pc ≠ 0 → p.a = 1)
theorem RdOk.step {w : Bool} {p : Sp} (h : RdOk w p) : RdOk w (spQ w p) := by
  obtain ⟨h1, h2⟩ := h
  unfold spQ
  rcases h1 with e | e | e | ⟨e, ew⟩ | e | e
  · rw [if_neg (by omega), if_neg (by omega), if_neg (by omega), if_neg (by omega)]; exact ⟨.inl e, h2⟩
  · rw [if_pos e]; exact ⟨.inr (.inr (.inl rfl)), fun _ => h2 (by omega)⟩
  · rw [if_neg (by omega), if_pos e]
    cases w
    · exact ⟨.inr (.inr (.inr (.inr (.inl rfl)))), fun _ => h2 (by omega)⟩
    · exact ⟨.inr (.inr (.inr (.inl ⟨rfl, rfl⟩))), fun _ => h2 (by omega)⟩
  · rw [if_neg (by omega), if_neg (by omega), if_pos e]; exact ⟨.inr (.inr (.inr (.inr (.inl rfl)))), fun _ => h2 (by omega)⟩
  · rw [if_neg (by omega), if_neg (by omega), if_neg (by omega), if_neg (by omega)]; exact ⟨.inr (.inr (.inr (.inr (.inl e)))), h2⟩
  · rw [if_neg (by omega), if_neg (by omega), if_neg (by omega), if_pos e]; exact ⟨.inl rfl, fun e => absurd rfl e⟩
theorem RdOk.ask {w : Bool} {p : Sp} (h : RdOk w p) : RdOk w (askQ p) := by
  unfold askQ
  split
  · exact ⟨.inr (.inl rfl), fun _ => rfl⟩
  · exact h
theorem RdOk.leave {w : Bool} {p : Sp} (h : RdOk w p) : RdOk w (lvQ p) := by
  unfold lvQ
  split
  · rename_i e; exact ⟨.inr (.inr (.inr (.inr (.inr rfl)))), fun _ => h.2 (by omega)⟩
  · exact h
def iterQ (w : Bool) (p : Sp) : Nat → Sp
  | 0 => p
  | k + 1 => spQ w (iterQ w p k)
def HoldQ (p : Sp) : Prop := p.pc = 10 ∧ p.a = 1
theorem spQ_hold {w : Bool} {p : Sp} (h : HoldQ p) : spQ w p = p := by
  unfold spQ
  rw [if_neg (by have := h.1; omega), if_neg (by have := h.1; omega), if_neg (by have := h.1; omega), if_neg (by have := h.1; omega)]
theorem spQ_rest {w : Bool} {p : Sp} (h : p.pc = 0) : spQ w p = p := by
  unfold spQ
  rw [if_neg (by omega), if_neg (by omega), if_neg (by omega), if_neg (by omega)]
theorem iterQ_hold {w : Bool} {p : Sp} {k : Nat} (h : HoldQ (iterQ w p k)) : ∀ d, HoldQ (iterQ w p (k + d))
  | 0 => h
  | d + 1 => by
    have ih := iterQ_hold h d
    show HoldQ (spQ w (iterQ w p (k + d)))
    rw [spQ_hold ih]; exact ih
theorem iterQ_rest {w : Bool} {p : Sp} {k : Nat} (h : (iterQ w p k).pc = 0) : ∀ d, (iterQ w p (k + d)).pc = 0
  | 0 => h
  | d + 1 => by
    have ih := iterQ_rest h d
    show (spQ w (iterQ w p (k + d))).pc = 0
    rw [spQ_rest ih]; exact ih
/-- six steps behind an ask: it holds, or was going out, and rests -/
theorem six_ask {w : Bool} {p : Sp} (h : RdOk w p) : HoldQ (iterQ w (askQ p) 6) ∨ (iterQ w (askQ p) 6).pc = 0 := by
  have go : ∀ q : Sp, q.a = 1 → (q.pc = 1 ∨ q.pc = 2 ∨ q.pc = 3 ∨ q.pc = 10) → HoldQ (iterQ w q 6) := fun q ha hq => by
    rcases hq with e | e | e | e
    · cases w
      · refine iterQ_hold (k := 2) (d := 4) ?_
        simp [iterQ, spQ, e, HoldQ, ha]
      · refine iterQ_hold (k := 3) (d := 3) ?_
        simp [iterQ, spQ, e, HoldQ, ha]
    · cases w
      · refine iterQ_hold (k := 1) (d := 5) ?_
        simp [iterQ, spQ, e, HoldQ, ha]
      · refine iterQ_hold (k := 2) (d := 4) ?_
        simp [iterQ, spQ, e, HoldQ, ha]
    · refine iterQ_hold (k := 1) (d := 5) ?_
      simp [iterQ, spQ, e, HoldQ, ha]
    · exact iterQ_hold (k := 0) (d := 6) ⟨e, ha⟩
  obtain ⟨h1, h2⟩ := h
  unfold askQ
  by_cases h0 : p.pc = 0
  · rw [if_pos h0]; exact .inl (go _ rfl (.inl rfl))
  · rw [if_neg h0]
    rcases h1 with e | e | e | ⟨e, _⟩ | e | e
    · exact absurd e h0
    · exact .inl (go _ (h2 h0) (.inl e))
    · exact .inl (go _ (h2 h0) (.inr (.inl e)))
    · exact .inl (go _ (h2 h0) (.inr (.inr (.inl e))))
    · exact .inl (go _ (h2 h0) (.inr (.inr (.inr e))))
    · refine .inr (iterQ_rest (k := 1) (d := 5) ?_)
      simp [iterQ, spQ, e]
theorem six_rest {w : Bool} {p : Sp} (h : p.pc = 0) : HoldQ (iterQ w (askQ p) 6) := by
  unfold askQ
  rw [if_pos h]
  cases w
  · refine iterQ_hold (k := 2) (d := 4) ?_
    simp [iterQ, spQ, HoldQ]
  · refine iterQ_hold (k := 3) (d := 3) ?_
    simp [iterQ, spQ, HoldQ]
/-- the words: as many as there are; the flag's is 0 -/
structure WQ (N : Nat) (s : Ar) : Prop where
  wl : 2 * N + 1 ≤ s.W.length
  fl : ldW s.W (2 * (N : Int) + 1) = 0
theorem noteQ (s : Ar) (k x : Int) (wr : Bool) : (noteA s k x wr).W = s.W ∧ (noteA s k x wr).ops ≤ s.ops + 1 ∧ (s.ops < (noteA s k x wr).ops → (noteA s k x wr).wr = wr ∧ (noteA s k x wr).at_ = x) := by
  unfold noteA
  split
  · exact ⟨rfl, Nat.le_refl _, fun _ => ⟨rfl, rfl⟩⟩
  · exact ⟨rfl, Nat.le_succ _, fun h => absurd h (Nat.lt_irrefl _)⟩
/-- a step of a reader: the flag stays, and what it writes is its node's -/
theorem WQ.step {N nd : Nat} {s : Ar} (h : WQ N s) (hn : nd < N) (w : Bool) (p : Sp) :
    WQ N (arQ w (2 * (nd : Int) + 1) (2 * (N : Int) + 1) s p) ∧ (arQ w (2 * (nd : Int) + 1) (2 * (N : Int) + 1) s p).ops ≤ s.ops + 1 ∧
      (s.ops < (arQ w (2 * (nd : Int) + 1) (2 * (N : Int) + 1) s p).ops → (arQ w (2 * (nd : Int) + 1) (2 * (N : Int) + 1) s p).wr = true → (arQ w (2 * (nd : Int) + 1) (2 * (N : Int) + 1) s p).at_ = 2 * (nd : Int) + 1 ∨ (arQ w (2 * (nd : Int) + 1) (2 * (N : Int) + 1) s p).at_ = 2 * (nd : Int) + 1 + 1) := by
  have ld : WQ N (loadA s (2 * (N : Int) + 1)) ∧ (loadA s (2 * (N : Int) + 1)).ops ≤ s.ops + 1 ∧ (s.ops < (loadA s (2 * (N : Int) + 1)).ops → (loadA s (2 * (N : Int) + 1)).wr = true → (loadA s (2 * (N : Int) + 1)).at_ = 2 * (nd : Int) + 1 ∨ (loadA s (2 * (N : Int) + 1)).at_ = 2 * (nd : Int) + 1 + 1) := by
    obtain ⟨a1, a2, a3⟩ := noteQ s 1 (2 * (N : Int) + 1) false
    unfold loadA
    exact ⟨⟨by rw [a1]; exact h.wl, by rw [a1]; exact h.fl⟩, a2, fun h1 h2 => by rw [(a3 h1).1] at h2; cases h2⟩
  have ad : ∀ x : Int, x = 2 * (nd : Int) + 1 ∨ x = 2 * (nd : Int) + 1 + 1 → WQ N (addA s x 1) ∧ (addA s x 1).ops ≤ s.ops + 1 ∧ (s.ops < (addA s x 1).ops → (addA s x 1).wr = true → (addA s x 1).at_ = 2 * (nd : Int) + 1 ∨ (addA s x 1).at_ = 2 * (nd : Int) + 1 + 1) := fun x hx => by
    obtain ⟨a1, a2, a3⟩ := noteQ s 5 x true
    unfold addA wrA
    refine ⟨⟨?_, ?_⟩, a2, fun h1 _ => by rw [show (noteA s 5 x true).at_ = x from (a3 h1).2]; exact hx⟩
    · show _ ≤ (stW (noteA s 5 x true).W x _).length
      rw [stW_len, a1]; exact h.wl
    · show ldW (stW (noteA s 5 x true).W x _) _ = 0
      rw [ldW_st_ne (by omega), a1]; exact h.fl
  unfold arQ
  by_cases e1 : p.pc = 1
  · rw [if_pos e1]
    cases w
    · exact ad _ (.inl rfl)
    · exact ld
  · rw [if_neg e1]
    by_cases e2 : p.pc = 2
    · rw [if_pos e2]
      cases w
      · exact ld
      · exact ad _ (.inl rfl)
    · rw [if_neg e2]
      by_cases e3 : p.pc = 3
      · rw [if_pos e3]; exact ld
      · rw [if_neg e3]
        by_cases e4 : p.pc = 11
        · rw [if_pos e4]; exact ad _ (.inr rfl)
        · rw [if_neg e4]; exact ⟨h, Nat.le_succ _, fun h => absurd h (Nat.lt_irrefl _)⟩
def askS (S : List Sp) (i : Int) : List Sp := if okI S i ∧ (getS S i).pc = 0 then S.set i.toNat ⟨1, 1, 0, 0⟩ else S
def lvS (S : List Sp) (i : Int) : List Sp := if okI S i ∧ (getS S i).pc = 10 then S.set i.toNat { getS S i with pc := 11 } else S
def stS (w : Bool) (S : List Sp) (i : Int) : List Sp := if okI S i ∧ (getS S i).pc ≠ 0 ∧ (getS S i).pc ≠ 10 then S.set i.toNat (spQ w (getS S i)) else S
/-- what is written is one of the two words from o on -/
def WrOk (s s' : Ar) (o : Int) : Prop := s.ops < s'.ops → s'.wr = true → s'.at_ = o ∨ s'.at_ = o + 1
theorem sv_askS {S : List Sp} {n : Nat} (h : n < S.length) (j : Nat) : sv (askS S n) j = if j = n then askQ (sv S n) else sv S j := by
  unfold askS
  by_cases e : j = n
  · subst e
    rw [if_pos rfl]
    unfold askQ
    by_cases h0 : (sv S j).pc = 0
    · rw [if_pos ⟨⟨by omega, by omega⟩, by rw [getQ_nat h]; exact h0⟩, if_pos h0, Int.toNat_natCast, sv_set, if_pos ⟨rfl, h⟩]
    · rw [if_neg (fun k => h0 (by rw [← getQ_nat h]; exact k.2)), if_neg h0]
  · rw [if_neg e]
    split
    · rw [Int.toNat_natCast, sv_set, if_neg (fun k => e k.1.symm)]
    · rfl
theorem sv_stS {w : Bool} {S : List Sp} {n : Nat} (h : n < S.length) (j : Nat) : sv (stS w S n) j = if j = n then spQ w (sv S n) else sv S j := by
  unfold stS
  by_cases e : j = n
  · subst e
    rw [if_pos rfl, getQ_nat h]
    by_cases h0 : (sv S j).pc ≠ 0 ∧ (sv S j).pc ≠ 10
    · rw [if_pos ⟨⟨by omega, by omega⟩, h0⟩, Int.toNat_natCast, sv_set, if_pos ⟨rfl, h⟩]
    · rw [if_neg (fun k => h0 k.2)]
      unfold spQ
      rw [if_neg (by omega), if_neg (by omega), if_neg (by omega), if_neg (by omega)]
  · rw [if_neg e]
    split
    · rw [Int.toNat_natCast, sv_set, if_neg (fun k => e k.1.symm)]
    · rfl
theorem askS_len (S : List Sp) (i : Int) : (askS S i).length = S.length := by unfold askS; split <;> simp
theorem stS_len (w : Bool) (S : List Sp) (i : Int) : (stS w S i).length = S.length := by unfold stS; split <;> simp
end Go.Proofs.YtbkckbphkfakkaaGreat
end
