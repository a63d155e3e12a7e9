/- Joined: Top7, Top8, SmQ, Qu3, Co2, Co3. -/
import Derived.Test.YtmlcfmickonfbaaGreatRows
import Derived.Deep.RegionLaw
import Derived.Test.YtmlcfmickonfbaaGreatMgReadersAll1
import Derived.Test.YtmlcfmickonfbaaGreatMgReadersAll2
import Derived.Test.YtmlcfmickonfbaaGreatMgReadersAll6
import Derived.Test.YtmlcfmickonfbaaGreatMgReadersAll9
import Derived.Test.YtmlcfmickonfbaaGreatMgReadersAll10
import Derived.Test.YtmlcfmickonfbaaGreatMgReadersAll11
section
set_option linter.unusedVariables false
set_option linter.unusedSimpArgs false
/- Layer 6, the document's: Has, leaf, deep, Few. -/
namespace Go.Proofs.YtmlcfmickonfbaaGreat
open Go.RowKit

set_option maxHeartbeats 1000000 in
theorem has_any (w : World) (v : Value) (l : List Int) (x : Int) (h : RdL w v 1 encI l) :
    Calls Tryz.prog 47 #[v, .int .i64 x] w fun e w' => e = .returned (.bool (decide (x ∈ l))) ∧ w = w' := by
  obtain ⟨A, cap, rfl, l1, l2, hr⟩ := h
  have HR := Lib.hid hr
  clear hr
  go_enter Tryz.func47, Tryz.ntmps47
  go_wp2
  go_loop [5] (fun i => ∃ k : Nat, i = .int .i64 k ∧ k ≤ l.length ∧ x ∉ l.take k) (fun i => l.length - (intOf i).toNat)
  case atStart => exact ⟨0, rfl, by omega, by simp⟩
  case round =>
    obtain ⟨k, rfl, hk, hn⟩ := hrel
    by_cases hlt : k < l.length
    · obtain ⟨bl, off, rfl, hbl, hc⟩ := HR.out (by omega)
      obtain ⟨y, hy⟩ := getElem?_lt hlt
      have c0 := hc k y hy 0 _ rfl
      simp only [Nat.add_zero, Nat.mul_one] at c0
      have HY := Lib.hid (And.intro hy hn)
      clear hc hy hn
      cases hxy : (y == x)
      · have hne : Hid (x ∉ l.take (k + 1)) := Lib.hid (by
          rw [mem_take HY.out.1]
          rintro (h | h)
          · exact HY.out.2 h
          · rw [h] at hxy; simp at hxy)
        go_wp2
        go_round
        case rel => exact ⟨k + 1, by go_num, by omega, hne.out⟩
        case measure => simp [intOf]; omega
      · have hid : Hid (x ∈ l) := Lib.hid (by rw [← beq_iff_eq.1 hxy]; exact List.mem_of_getElem? HY.out.1)
        go_wp2
        go_ret
        exact ⟨ret_bool (decide_eq_true hid.out).symm, rfl⟩
    · obtain rfl : k = l.length := by omega
      rw [List.take_length] at hn
      have hid : Hid (x ∉ l) := Lib.hid hn
      clear hn
      go_wp2
      go_ret
      exact ⟨ret_bool (decide_eq_false hid.out).symm, rfl⟩
theorem rleaf_any (w : World) (v : Value) (P : List Int) (x : Int) (h : RdL w v 1 encI P) :
    Calls Tryz.prog 29 #[v, .int .i64 x] w fun e w' => e = .returned (.bool (leafB P x)) ∧ w = w' := by
  have HH := Lib.hid (has_any w v P x h)
  obtain ⟨A, cap, rfl, l1, l2, hr⟩ := h
  clear hr
  have HL := Lib.hid (show leafB P x = (decide (0 ≤ x) && decide (x < P.length) && !decide (x ∈ P)) from by
    unfold leafB
    by_cases h1 : 0 ≤ x <;> by_cases h2 : x < P.length <;> by_cases h3 : x ∈ P <;> simp [h1, h2, h3])
  go_enter Tryz.func29, Tryz.ntmps29
  cases h1 : decide (0 ≤ x)
  · rw [h1] at HL
    have h1' : ¬ 0 ≤ x := of_decide_eq_false h1
    go_wp2
    go_ret
    exact ⟨ret_bool HL.out.symm, rfl⟩
  · cases h2 : decide (x < P.length)
    · rw [h1, h2] at HL
      have h1' : 0 ≤ x := of_decide_eq_true h1
      have h2' : ¬ x < P.length := of_decide_eq_false h2
      go_wp2
      go_ret
      exact ⟨ret_bool HL.out.symm, rfl⟩
    · rw [h1, h2] at HL
      have h1' : 0 ≤ x := of_decide_eq_true h1
      have h2' : x < P.length := of_decide_eq_true h2
      cases h3 : decide (x ∈ P)
      · rw [h3] at HL HH
        clear h3
        go_wp2_with (go_at_call 47; refine HH.out.mono ?_; rintro e w' ⟨rfl, rfl⟩)
        go_ret
        exact ⟨ret_bool HL.out.symm, rfl⟩
      · rw [h3] at HL HH
        clear h3
        go_wp2_with (go_at_call 47; refine HH.out.mono ?_; rintro e w' ⟨rfl, rfl⟩)
        go_ret
        exact ⟨ret_bool HL.out.symm, rfl⟩
theorem dep_stop {P : List Int} {f : Nat} {v : Int} (h : ¬ (0 ≤ v ∧ v < P.length)) : dep P f v = 0 := by
  cases f with
  | zero => rfl
  | succ f => unfold dep; rw [if_neg h]
theorem dep_go {P : List Int} {f : Nat} {v p : Int} (h0 : 0 ≤ v) (hp : P[v.toNat]? = some p) : dep P (f + 1) v = dep P f p + 1 := by
  have := (List.getElem?_eq_some_iff.1 hp).1
  show (if 0 ≤ v ∧ v < P.length then dep P f (P.getD v.toNat 0) + 1 else 0) = _
  rw [if_pos (by omega), getD_of hp]
set_option maxHeartbeats 1000000 in
theorem rdeep_any (w : World) (v : Value) (P : List Int) (x : Int) (h : RdL w v 1 encI P) :
    Calls Tryz.prog 30 #[v, .int .i64 x] w fun e w' => e = .returned (.int .i64 ((depL P x : Nat) : Int)) ∧ w = w' := by
  obtain ⟨A, cap, rfl, l1, l2, hr⟩ := h
  have HR := Lib.hid hr
  clear hr
  go_enter Tryz.func30, Tryz.ntmps30
  go_wp2
  go_loop [1, 5, 6] (fun y m i => ∃ (k n : Nat) (z : Int), i = .int .i64 k ∧ m = .int .i64 n ∧ y = .int .i64 z ∧ k ≤ P.length ∧ n ≤ k ∧ n + dep P (P.length - k) z = depL P x) (fun _ _ i => P.length - (intOf i).toNat)
  case atStart => exact ⟨0, 0, x, rfl, rfl, rfl, by omega, by omega, by simp [depL]⟩
  case round =>
    obtain ⟨k, n, z, rfl, rfl, rfl, hk, hn, hd⟩ := hrel
    have HD := Lib.hid hd
    clear hd
    by_cases hlt : k < P.length
    · by_cases h0 : 0 ≤ z
      · by_cases h1 : z < P.length
        · obtain ⟨bl, off, rfl, hbl, hc⟩ := HR.out (by omega)
          obtain ⟨m, rfl⟩ := Int.eq_ofNat_of_zero_le h0
          obtain ⟨p, hp⟩ := getElem?_lt (show m < P.length by omega)
          have c0 := hc m p hp 0 _ rfl
          simp only [Nat.add_zero, Nat.mul_one] at c0
          have HN := Lib.hid (show n + 1 + dep P (P.length - (k + 1)) p = depL P x from by
            have := HD.out
            rw [show P.length - k = P.length - (k + 1) + 1 by omega, dep_go (by omega) (by simpa using hp)] at this
            omega)
          clear hc hp
          go_wp2
          go_round
          case rel => exact ⟨k + 1, n + 1, p, by go_num, by go_num, rfl, by omega, by omega, HN.out⟩
          case measure => simp [intOf]; omega
        · have HE := Lib.hid (show n = depL P x from by have := HD.out; rw [dep_stop (by omega)] at this; omega)
          go_wp2
          go_ret
          exact ⟨ret_int (by rw [HE.out]), rfl⟩
      · have HE := Lib.hid (show n = depL P x from by have := HD.out; rw [dep_stop (by omega)] at this; omega)
        go_wp2
        go_ret
        exact ⟨ret_int (by rw [HE.out]), rfl⟩
    · have HE := Lib.hid (show n = depL P x from by have := HD.out; rw [show P.length - k = 0 by omega] at this; exact this)
      go_wp2
      go_ret
      exact ⟨ret_int (by rw [HE.out]), rfl⟩
end Go.Proofs.YtmlcfmickonfbaaGreat
end
section
set_option linter.unusedVariables false
set_option linter.unusedSimpArgs false
/- Layer 6, the document's Check, Leaves, Depth. -/
namespace Go.Proofs.YtmlcfmickonfbaaGreat
open Go.RowKit

set_option maxRecDepth 100000 in
set_option maxHeartbeats 4000000 in
theorem rcheck_any (w : World) (vP vT : Value) (P T : List Int) (hP : RdL w vP 1 encI P) (hT : RdL w vT 1 encI T) :
    Calls Tryz.prog 13 #[.agg #[vP, vT]] w fun e w' => e = .returned (.int .i64 (chkT P T)) ∧ Below w.heap.size w w' := by
  have hb0 : Below w.heap.size w (w.alloc (.cells #[vP, vT] 24)) := (Below.refl _ _).alloc (Nat.le_refl _) _
  have HB := Lib.hid hb0
  have HPb := Lib.hid (hP.alloc (.cells #[vP, vT] 24))
  have HTb := Lib.hid (hT.alloc (.cells #[vP, vT] 24))
  obtain ⟨AP, cP, rfl, lP1, lP2⟩ := rdl_form hP
  obtain ⟨AT, cT, rfl, lT1, lT2⟩ := rdl_form hT
  clear hP hT hb0
  have c0 : (w.alloc (.cells #[.slice AP P.length cP, .slice AT T.length cT] 24)).cell? ⟨w.heap.size, 0, none⟩ = some (.slice AP P.length cP) := by simp [World.cell?_alloc_new]
  have c1 : (w.alloc (.cells #[.slice AP P.length cP, .slice AT T.length cT] 24)).cell? ⟨w.heap.size, 1, none⟩ = some (.slice AT T.length cT) := by simp [World.cell?_alloc_new]
  go_enter Tryz.func13, Tryz.ntmps13
  go_upto_region 1 with fail
  generalize (w.alloc (.cells #[.slice AP P.length cP, .slice AT T.length cT] 24)) = wb at *
  by_cases a1 : P.length < 1
  · have HE := Lib.hid (chk_many (P := P) (T := T) (decide_eq_true (.inl a1)))
    go_wp2
    go_ret
    exact ⟨ret_int HE.out.symm, HB.out⟩
  by_cases a2 : 32 < P.length
  · have HE := Lib.hid (chk_many (P := P) (T := T) (decide_eq_true (.inr (.inl a2))))
    go_wp2
    go_ret
    exact ⟨ret_int HE.out.symm, HB.out⟩
  by_cases a3 : T.length < 1
  · have HE := Lib.hid (chk_many (P := P) (T := T) (decide_eq_true (.inr (.inr (.inl a3)))))
    go_wp2
    go_ret
    exact ⟨ret_int HE.out.symm, HB.out⟩
  by_cases a4 : 32 < T.length
  · have HE := Lib.hid (chk_many (P := P) (T := T) (decide_eq_true (.inr (.inr (.inr a4)))))
    go_wp2
    go_ret
    exact ⟨ret_int HE.out.symm, HB.out⟩
  have HM := Lib.hid (show manyB P T = false from decide_eq_false (by omega))
  have H0 := Lib.hid (rdl_int HPb.out (by omega))
  obtain ⟨p0, hp0⟩ := getElem?_lt (show 0 < P.length by omega)
  obtain ⟨b, off, hA, hb, hc⟩ := H0.out
  subst hA
  have q0 := hc 0 p0 hp0
  simp only [Nat.add_zero] at q0
  have HC := Lib.hid hc
  have HG0 := Lib.hid hp0
  clear hc hp0 H0
  go_upto_region 3 with fail
  by_cases hz : p0 = -1
  · subst hz
    have HT1 := Lib.hid (show (List.range 1).all (okP P) = true from by
      have := getD_of HG0.out
      show (okP P 0 && true) = true
      rw [Bool.and_true]
      exact decide_eq_true ⟨fun _ => this, fun h => absurd h (by omega)⟩)
    go_wp2
    go_loop [3] (fun i => ∃ k : Nat, i = .int .i64 k ∧ 1 ≤ k ∧ k ≤ P.length ∧ (List.range k).all (okP P) = true) (fun i => P.length - (intOf i).toNat)
    case atStart => exact ⟨1, rfl, by omega, by omega, HT1.out⟩
    case round =>
      obtain ⟨k, rfl, hk1, hk, ha⟩ := hrel
      by_cases hlt : k < P.length
      · obtain ⟨p, hp⟩ := getElem?_lt hlt
        have q1 := HC.out k p hp
        have HP := Lib.hid (And.intro (getD_of hp) ha)
        clear hp ha
        by_cases g0 : p < 0
        · have HN := Lib.hid (chk_tree HM.out (all_false hlt (decide_eq_false (by rw [HP.out.1]; omega))))
          go_wp2
          go_ret
          exact ⟨ret_int HN.out.symm, HB.out⟩
        · by_cases g1 : (k : Int) ≤ p
          · have HN := Lib.hid (chk_tree HM.out (all_false hlt (decide_eq_false (by rw [HP.out.1]; omega))))
            go_wp2
            go_ret
            exact ⟨ret_int HN.out.symm, HB.out⟩
          · have HN := Lib.hid (show (List.range (k + 1)).all (okP P) = true from by
              rw [range_all_succ, HP.out.2, Bool.true_and]
              exact decide_eq_true (by rw [HP.out.1]; omega))
            go_wp2
            go_round
            case rel => exact ⟨k + 1, by go_num, by omega, by omega, HN.out⟩
            case measure => simp [intOf]; omega
      · obtain rfl : k = P.length := by omega
        have HTR := Lib.hid (show treeB P = true from ha)
        clear ha
        go_wp2
        go_loop [4, 5] (fun f i => ∃ k : Nat, i = .int .i64 k ∧ k ≤ P.length ∧ f = .int .i64 (first P k : Nat) ∧ evL P (leavesTo P k) = true) (fun _ i => P.length - (intOf i).toNat)
        case atStart => exact ⟨0, rfl, by omega, rfl, rfl⟩
        case round =>
          obtain ⟨k, rfl, hk, rfl, hev⟩ := hrel
          by_cases hlt : k < P.length
          · have HL := Lib.hid (rleaf_any wb _ P k HPb.out)
            have HEV := Lib.hid hev
            clear hev
            cases hlf : leafB P k
            · have HN := Lib.hid (And.intro (first_skip hlf) (show leavesTo P (k + 1) = leavesTo P k from by rw [leavesTo_succ, hlf]; rfl))
              rw [hlf] at HL
              clear hlf
              go_wp2_with (go_at_call 29; refine HL.out.mono ?_; rintro e w' ⟨rfl, rfl⟩)
              go_round
              case rel => exact ⟨k + 1, by go_num, by omega, by rw [HN.out.1], by rw [HN.out.2]; exact HEV.out⟩
              case measure => simp [intOf]; omega
            · have hst := first_step hlt hlf
              rw [HEV.out, Bool.true_and] at hst
              have HD := Lib.hid (rdeep_any wb _ P k HPb.out)
              rw [hlf] at HL
              have hpos := depL_pos hlt
              obtain ⟨d, hd⟩ : ∃ d, d = depL P k := ⟨_, rfl⟩
              obtain ⟨f, hf⟩ : ∃ f, f = first P k := ⟨_, rfl⟩
              rw [← hd] at HD hst hpos
              rw [← hf] at hst ⊢
              have HST := Lib.hid (And.intro hst (And.intro hd hf))
              have hbd : evL P (leavesTo P (k + 1)) = false → chkT P T = 9 := fun h => chk_even HM.out HTR.out (even_bad (by omega) h)
              have HBD := Lib.hid hbd
              clear hst hd hf hbd hlf
              by_cases f0 : f = 0
              · subst f0
                by_cases g1 : 5 < d
                · have HN := Lib.hid (HBD.out (by rw [HST.out.1.2]; exact decide_eq_false (by omega)))
                  go_wp2_with (first | (go_at_call 29; refine HL.out.mono ?_; rintro e w' ⟨rfl, rfl⟩) | (go_at_call 30; refine HD.out.mono ?_; rintro e w' ⟨rfl, rfl⟩))
                  go_ret
                  exact ⟨ret_int HN.out.symm, HB.out⟩
                · have HF := Lib.hid (show first P (k + 1) = d from by rw [HST.out.1.1]; rfl)
                  have HN := Lib.hid (show evL P (leavesTo P (k + 1)) = true from by rw [HST.out.1.2]; exact decide_eq_true ⟨by rw [HF.out], by omega⟩)
                  go_wp2_with (first | (go_at_call 29; refine HL.out.mono ?_; rintro e w' ⟨rfl, rfl⟩) | (go_at_call 30; refine HD.out.mono ?_; rintro e w' ⟨rfl, rfl⟩))
                  go_round
                  case rel => exact ⟨k + 1, by go_num, by omega, by rw [HF.out], HN.out⟩
                  case measure => simp [intOf]; omega
              · have HF := Lib.hid (show first P (k + 1) = f from by rw [HST.out.1.1, if_neg f0])
                have e0 : (f == 0) = false := by simpa using f0
                have e0' : ((f : Int) == 0) = false := by rw [beq_eq_false_iff_ne]; omega
                by_cases g0 : d = f
                · subst g0
                  by_cases g1 : 5 < d
                  · have HN := Lib.hid (HBD.out (by rw [HST.out.1.2]; exact decide_eq_false (by omega)))
                    go_wp2_with (first | (go_at_call 29; refine HL.out.mono ?_; rintro e w' ⟨rfl, rfl⟩) | (go_at_call 30; refine HD.out.mono ?_; rintro e w' ⟨rfl, rfl⟩))
                    go_ret
                    exact ⟨ret_int HN.out.symm, HB.out⟩
                  · have HN := Lib.hid (show evL P (leavesTo P (k + 1)) = true from by rw [HST.out.1.2]; exact decide_eq_true ⟨by rw [HF.out], by omega⟩)
                    go_wp2_with (first | (go_at_call 29; refine HL.out.mono ?_; rintro e w' ⟨rfl, rfl⟩) | (go_at_call 30; refine HD.out.mono ?_; rintro e w' ⟨rfl, rfl⟩))
                    go_round
                    case rel => exact ⟨k + 1, by go_num, by omega, by rw [HF.out], HN.out⟩
                    case measure => simp [intOf]; omega
                · have HN := Lib.hid (HBD.out (by rw [HST.out.1.2]; exact decide_eq_false (by rw [HF.out]; omega)))
                  have e1 : (d != f) = true := by simpa using g0
                  have e1' : ((d : Int) != (f : Int)) = true := by rw [bne_iff_ne]; omega
                  go_wp2_with (first | (go_at_call 29; refine HL.out.mono ?_; rintro e w' ⟨rfl, rfl⟩) | (go_at_call 30; refine HD.out.mono ?_; rintro e w' ⟨rfl, rfl⟩))
                  go_ret
                  exact ⟨ret_int HN.out.symm, HB.out⟩
          · obtain rfl : k = P.length := by omega
            have HEV := Lib.hid (chk_thr (T := T) HM.out HTR.out hev)
            have HT0 := Lib.hid (rdl_int HTb.out (by omega))
            obtain ⟨bt, offt, hAt, hbt, hct⟩ := HT0.out
            subst hAt
            have HCT := Lib.hid hct
            clear hct hev HT0
            go_wp2
            go_loopw [7] (fun i wr => ∃ j : Nat, i = .int .i64 j ∧ j ≤ T.length ∧ (T.take j).all (leafB P) = true ∧ Qt wb wr) (fun i _ => T.length - (intOf i).toNat)
            case atStart => exact ⟨0, rfl, by omega, rfl, Qt.refl _⟩
            case round =>
              obtain ⟨j, rfl, hj, ha, hq⟩ := hrel
              obtain ⟨wq, rfl⟩ : ∃ wq : World, wq = wr := ⟨_, rfl⟩
              have d0 : wq.cell? ⟨w.heap.size, 0, none⟩ = some (.slice (some ⟨b, off, none⟩) P.length cP) := by obtain ⟨n, rfl⟩ := hq; exact c0
              have d1 : wq.cell? ⟨w.heap.size, 1, none⟩ = some (.slice (some ⟨bt, offt, none⟩) T.length cT) := by obtain ⟨n, rfl⟩ := hq; exact c1
              have HQ := Lib.hid hq
              by_cases hlt2 : j < T.length
              · obtain ⟨x, hx⟩ := getElem?_lt hlt2
                have q2 : wq.cell? ⟨bt, offt + j, none⟩ = some (.int .i64 x) := by obtain ⟨n, rfl⟩ := hq; exact HCT.out j x hx
                have HX := Lib.hid (And.intro hx ha)
                have HL := Lib.hid (fun n => (rleaf_any (wq.drewN n) _ P x ((HPb.out.qt HQ.out).drewN n)).mono fun _ _ h => And.intro h.1 h.2.symm)
                clear hx ha hq
                cases hlf : leafB P x
                · have HN := Lib.hid (show chkT P T = 4 from by
                    rw [HEV.out, if_neg]
                    intro h
                    unfold thrB at h
                    rw [List.all_eq_true] at h
                    rw [h x (List.mem_of_getElem? HX.out.1)] at hlf
                    cases hlf)
                  rw [hlf] at HL
                  clear hlf
                  go_wp2_with fail
                  go_quiet ((go_at_call 29; exact Calls.quiet_of_same (HL.out _)))
                  go_wp2
                  go_ret
                  exact ⟨ret_int HN.out.symm, below_drewN (HB.out.trans ((HQ.out.below _).mono HB.out.size)) _⟩
                · have HN := Lib.hid (show (T.take (j + 1)).all (leafB P) = true from by
                    rw [take_succ_of HX.out.1, List.all_append, HX.out.2]; simp [hlf])
                  rw [hlf] at HL
                  clear hlf
                  go_wp2_with fail
                  go_quiet ((go_at_call 29; exact Calls.quiet_of_same (HL.out _)))
                  go_wp2
                  go_roundw
                  case rel => exact ⟨j + 1, by go_num, by omega, HN.out, HQ.out.trans ⟨_, rfl⟩⟩
                  case measure => simp [intOf]; omega
              · obtain rfl : j = T.length := by omega
                rw [List.take_length] at ha
                have HN := Lib.hid (show chkT P T = 0 from by rw [HEV.out, if_pos (show thrB P T = true from ha)])
                clear ha hq
                go_wp2
                go_ret
                exact ⟨ret_int HN.out.symm, HB.out.trans ((HQ.out.below _).mono HB.out.size)⟩
  · have HN := Lib.hid (chk_tree (P := P) HM.out (all_false (k := 0) (by omega) (decide_eq_false (by rw [getD_of HG0.out]; omega))))
    have e1 : (p0 != -1) = true := by simpa using hz
    clear hz
    go_wp2
    go_ret
    exact ⟨ret_int HN.out.symm, HB.out⟩
end Go.Proofs.YtmlcfmickonfbaaGreat
end
section
set_option linter.unusedVariables false
set_option linter.unusedSimpArgs false
/- The document's Small; a budget that may be. (out of XHl5, XHl6: for seats without hclh) -/
namespace Go.Proofs.YtmlcfmickonfbaaGreat
open Go.RowKit

theorem rightB (b : Int) (w : World) (h0 : 0 ≤ b) (h1 : b ≤ 1000) : Calls Tryz.prog 44 #[.int .i64 b] w fun e w' => e = .returned (.bool true) ∧ w = w' := by
  have HI : Calls Tryz.prog 71 #[.int .i64 b, .int .i64 0, .int .i64 1000] w fun e w' => e = .returned (.bool true) ∧ w = w' := by
    go_enter Tryz.func71, Tryz.ntmps71
    go_wp2
    go_ret
    exact ⟨rfl, rfl⟩
  have H := Lib.hid HI
  clear HI
  go_enter Tryz.func44, Tryz.ntmps44
  go_wp2_with fail
  refine H.out.mono ?_
  rintro en w1 ⟨rfl, rfl⟩
  go_wp2
  go_ret
  exact ⟨rfl, rfl⟩
def smallB (P T : List Int) (m : Int) : Bool := decide (chkT P T = 0 ∧ (T.length : Int) ≤ m)
set_option maxHeartbeats 1000000 in
theorem smallH (w : World) (vP vT : Value) (P T : List Int) (hP : RdL w vP 1 encI P) (hT : RdL w vT 1 encI T) (m : Int) :
    Calls Tryz.prog 5 #[.agg #[vP, vT], .int .i64 m] w fun e w' => e = .returned (.bool (smallB P T m)) ∧ Below w.heap.size w w' := by
  have HC := Lib.hid (rcheck_any (w.alloc (.cells #[vP, vT] 24)) vP vT P T (hP.alloc _) (hT.alloc _))
  have HB0 := Lib.hid ((Below.refl w.heap.size w).alloc (Nat.le_refl _) (.cells #[vP, vT] 24))
  obtain ⟨AP, cP, rfl, lP1, lP2⟩ := rdl_form hP
  obtain ⟨AT, cT, rfl, lT1, lT2⟩ := rdl_form hT
  have hX : (w.alloc (.cells #[.slice AP P.length cP, .slice AT T.length cT] 24)).cell? ⟨w.heap.size, 1, none⟩ = some (.slice AT T.length cT) := by simp [World.cell?_alloc_new]
  have hbx : w.heap.size < (w.alloc (.cells #[.slice AP P.length cP, .slice AT T.length cT] 24)).heap.size := by simp
  clear hP hT
  by_cases hc : chkT P T = 0
  · have t0 : (chkT P T == 0) = true := by simpa using hc
    have HS : Hid (smallB P T m = decide ((T.length : Int) ≤ m)) := Lib.hid (by unfold smallB; simp [hc])
    clear hc
    go_enter Tryz.func5, Tryz.ntmps5
    go_wp2_with fail
    refine HC.out.mono ?_
    rintro en w1 ⟨rfl, b1⟩
    have f1 := (b1.cell (p := ⟨w.heap.size, 1, none⟩) hbx).trans hX
    have HB1 := Lib.hid (HB0.out.trans (b1.mono HB0.out.size))
    clear b1 hX hbx
    go_wp2
    go_ret
    rw [HS.out]
    exact ⟨rfl, HB1.out⟩
  · have t0 : (chkT P T == 0) = false := by simpa using hc
    have HS : Hid (smallB P T m = false) := Lib.hid (by unfold smallB; simp [hc])
    clear hc hX hbx
    go_enter Tryz.func5, Tryz.ntmps5
    go_wp2_with fail
    refine HC.out.mono ?_
    rintro en w1 ⟨rfl, b1⟩
    have HB1 := Lib.hid (HB0.out.trans (b1.mono HB0.out.size))
    clear b1
    go_wp2
    go_ret
    rw [HS.out]
    exact ⟨rfl, HB1.out⟩
/-- a topology that may not be, or has too many threads -/
def SmNo (w : World) (vP vT : Value) (m : Int) : Prop := ∀ W, Below w.heap.size w W → Calls Tryz.prog 5 #[.agg #[vP, vT], .int .i64 m] W fun e w' => e = .returned (.bool false) ∧ Below W.heap.size W w'
theorem SmNo.of {w : World} {vP vT : Value} {P T : List Int} {m : Int} (hP : RdL w vP 1 encI P) (hT : RdL w vT 1 encI T) (hs : smallB P T m = false) : SmNo w vP vT m := fun W b => by
  have := smallH W vP vT P T (hP.below b (Nat.le_refl _)) (hT.below b (Nat.le_refl _)) m
  rw [hs] at this
  exact this
theorem SmNo.below {w w' : World} {vP vT : Value} {m : Int} (h : SmNo w vP vT m) (b : Below w.heap.size w w') : SmNo w' vP vT m := fun W k => h W (b.trans (k.mono b.size))
set_option maxRecDepth 100000 in
theorem rcheck_raw (w : World) (AP AT : Option Addr) (nP cP nT cT : Nat) (h : 32 < nP ∨ 32 < nT) (h1 : nP ≤ 9223372036854775807) (h2 : nT ≤ 9223372036854775807) :
    Calls Tryz.prog 13 #[.agg #[.slice AP nP cP, .slice AT nT cT]] w fun e w' => e = .returned (.int .i64 8) ∧ Below w.heap.size w w' := by
  have HB := Lib.hid ((Below.refl w.heap.size w).alloc (Nat.le_refl _) (.cells #[.slice AP nP cP, .slice AT nT cT] 24))
  have c0 : (w.alloc (.cells #[.slice AP nP cP, .slice AT nT cT] 24)).cell? ⟨w.heap.size, 0, none⟩ = some (.slice AP nP cP) := by simp [World.cell?_alloc_new]
  have c1 : (w.alloc (.cells #[.slice AP nP cP, .slice AT nT cT] 24)).cell? ⟨w.heap.size, 1, none⟩ = some (.slice AT nT cT) := by simp [World.cell?_alloc_new]
  go_enter Tryz.func13, Tryz.ntmps13
  go_upto_region 1 with fail
  generalize (w.alloc (.cells #[.slice AP nP cP, .slice AT nT cT] 24)) = wb at *
  by_cases a1 : nP < 1
  · go_wp2
    go_ret
    exact ⟨rfl, HB.out⟩
  by_cases a2 : 32 < nP
  · go_wp2
    go_ret
    exact ⟨rfl, HB.out⟩
  have a4 : 32 < nT := by omega
  have a3 : ¬ nT < 1 := by omega
  clear h
  go_wp2
  go_ret
  exact ⟨rfl, HB.out⟩
theorem SmNo.raw (w : World) (AP AT : Option Addr) (nP cP nT cT : Nat) (m : Int) (h : 32 < nP ∨ 32 < nT) (h1 : nP ≤ 9223372036854775807) (h2 : nT ≤ 9223372036854775807) : SmNo w (.slice AP nP cP) (.slice AT nT cT) m := fun W _ => by
  have HC := Lib.hid (fun w => rcheck_raw w AP AT nP cP nT cT h h1 h2)
  have HB0 := Lib.hid ((Below.refl W.heap.size W).alloc (Nat.le_refl _) (.cells #[.slice AP nP cP, .slice AT nT cT] 24))
  clear h h1 h2
  go_enter Tryz.func5, Tryz.ntmps5
  go_wp2_with fail
  refine (HC.out _).mono ?_
  rintro en w1 ⟨rfl, b1⟩
  have HB1 := Lib.hid (HB0.out.trans (b1.mono HB0.out.size))
  clear b1
  go_wp2
  go_ret
  exact ⟨rfl, HB1.out⟩
end Go.Proofs.YtmlcfmickonfbaaGreat
end
section
set_option linter.unusedVariables false
set_option linter.unusedSimpArgs false
/- Layer 24 (cohort): a new lock: it comes to be, and the arena has some words more. -/
namespace Go.Proofs.YtmlcfmickonfbaaGreat
open Go.RowKit

def nodeQ (P T : List Int) (n : Nat) : Nat := (idxI (leavesL P) (T.getD n 0)).toNat
theorem Turns.cellQ {S : List Nat} {w w' : World} (k : Turns S w w') {p : Addr} {u : Value} (h : w.cell? p = some u) (hS : p.block ∉ S) : w'.cell? p = some u := by
  rw [World.cell?_of_block (w := w) (w' := w') (a := p) (k.block p.block (block_lt_of_cell h) hS)]
  exact h
theorem Turns.grownByQ {w w' : World} {row : Option Nat} (h : w.grownBy w' row) : Turns row.toList w w' :=
  ⟨h.os, h.tape, h.output, h.size, fun i hi hn => h.block i hi (by intro e; rw [← e] at hn; simp at hn)⟩
theorem qmade_const4 (u : Value) (n : Nat) : (madeCells #[u, u, u, u] n).toList = List.replicate n u := by
  unfold madeCells
  rw [Array.toList_map, Array.toList_range]
  refine List.ext_getElem? fun i => ?_
  rw [List.getElem?_map, List.getElem?_replicate]
  by_cases h : i < n
  · rw [List.getElem?_range h, if_pos h]
    have : i % 4 = 0 ∨ i % 4 = 1 ∨ i % 4 = 2 ∨ i % 4 = 3 := by omega
    rcases this with e | e | e | e <;> simp [e]
  · rw [if_neg h]; simp; omega
theorem qflat_zero (n : Nat) : (List.replicate n Sp.zero).flatMap encP4 = List.replicate (n * 4) (.int .i64 0) := by
  induction n with
  | zero => rfl
  | succ n ih => rw [List.replicate_succ, List.flatMap_cons, ih, show (n + 1) * 4 = 4 + n * 4 by omega, ← List.replicate_append_replicate]; rfl
theorem Tryz.infoNd : (Tryz.prog.info? 104).map (fun i => (i.zero, i.size, i.bytes)) = some (some (.agg #[.pointer none, .int .i64 0]), 2, 16) := by kernel_rfl
theorem nodesFstQ (B : Nat → Prop) (w : World) (b : Nat) (P T : List Int) (hc : chkT P T = 0) (h : Tab0Q B w b P T) :
    Calls Tryz.prog 25 #[.pointer (some ⟨b, 0, none⟩)] w fun e w' => e = .returned (.int .i64 ((leavesL P).length : Nat)) ∧ TabQ (fun i => B i ∨ w.heap.size ≤ i) w' b P T ∧ Turns [b] w w' :=
  nodesR w b P T (fun w' => TabQ (fun i => B i ∨ w.heap.size ≤ i) w' b P T ∧ Turns [b] w w') (fun _ h => h.1.f) (found_firstQ B w b P T hc h)
theorem nodesFQ (w : World) (b : Nat) (P T : List Int) (h : TabF w b P T) :
    Calls Tryz.prog 25 #[.pointer (some ⟨b, 0, none⟩)] w fun e w' => e = .returned (.int .i64 ((leavesL P).length : Nat)) ∧ w = w' :=
  nodesR w b P T (fun w' => w = w') (fun _ e => e ▸ h) (found_again w b P T h)
def coC (a b : Nat) (G L par bud : Int) (gp nd sp : Value) : Array Value := #[.pointer (some ⟨a, 0, none⟩), .pointer (some ⟨b, 0, none⟩), .int .i64 G, .int .i64 L, .int .i64 par, .int .i64 bud, gp, nd, sp]
end Go.Proofs.YtmlcfmickonfbaaGreat
end
section
set_option linter.unusedVariables false
set_option linter.unusedSimpArgs false
/- Layer 24 (cohort): how a lock lies in memory; has, Threads, Spot, of. -/
namespace Go.Proofs.YtmlcfmickonfbaaGreat
open Go.RowKit

/-- where a cohort lock lies: its own block, the table's, the nodes', the spots'; threads, nodes, the nodes' room; the global lock, the local ones, the counts' words; whose a block is -/
structure Cox where
  l : Nat
  b : Nat
  qn : Nat
  qs : Nat
  n : Nat
  N : Nat
  capn : Nat
  par : Nat
  g : Fx
  X : List Fx
  W : List Nat
  o : Nat → Nat
def ndE (y : Fx × Nat) : List Value := [.pointer (some ⟨y.1.p, 0, none⟩), .int .i64 y.2]
theorem ndE_len (y : Fx × Nat) : (ndE y).length = 2 := rfl
/-- what does not change -/
structure CoFx (B : Nat → Prop) (a g : Nat) (x : Cox) (c : CoC) (P T : List Int) : Prop where
  ck : chkT P T = 0
  nT : x.n = T.length
  nN : x.N = (leavesL P).length
  lX : x.X.length = x.N
  lW : x.W.length = x.N
  cap : x.N ≤ x.capn
  cn : ∀ i, i < x.n → c.node i = nodeQ P T i ∧ (c.slot i : Int) = slotOf T i
  tg : c.tg = x.g.t
  tl : ∀ (n : Nat) (y : Fx), x.X[n]? = some y → c.tl n = y.t ∧ (y.m : Int) = c.m
  gm : (x.g.m : Int) = c.m
  pm : (x.par : Int) = c.m
  cc : ∀ (n v : Nat), x.W[n]? = some v → c.cw n = v ∧ v ≤ 5000
  kg : KOk c.kg
  kl : KOk c.kl
  bud : 0 ≤ c.bud ∧ c.bud ≤ 1000
  par : 1 ≤ x.par ∧ x.par ≤ 4
  ol : x.o x.l = 1
  on : x.o x.qn = 1
  os : x.o x.qs = 2
  oa : x.o a = 3
  og : x.o g = 3
  oG : x.o x.g.p = 4 ∧ x.o x.g.l = 4 ∧ x.o x.g.q = 4
  oL : ∀ (n : Nat) (y : Fx), x.X[n]? = some y → x.o y.p = 5 + n ∧ x.o y.l = 5 + n ∧ x.o y.q = 5 + n
  oB : ∀ i, B i → x.o i = 0
/-- a cohort lock in memory -/
structure CoIs (B : Nat → Prop) (w : World) (a g : Nat) (x : Cox) (c : CoC) (P T : List Int) (st : Co) : Prop where
  fx : CoFx B a g x c P T
  ar : ArIs w a g st.s
  lk : Blk w x.l 100 (coC a x.b c.kg c.kl x.par c.bud (.pointer (some ⟨x.g.p, 0, none⟩)) (.slice (some ⟨x.qn, 0, none⟩) x.N x.capn) (.slice (some ⟨x.qs, 0, none⟩) x.n x.n))
  tb : TabQ B w x.b P T
  nd : ∃ Z : List Value, Blk w x.qn 104 ((x.X.zip x.W).flatMap ndE ++ Z).toArray
  sp : SpR w x.qs st.T
  gl : FlIs w a g c.kg x.g st.s st.G
  lo : ∀ (n : Nat) (y : Fx) (S : List Sp), x.X[n]? = some y → st.L[n]? = some S → FlIs w a g c.kl y st.s S
  lL : st.L.length = x.N
  lG : st.G.length = x.N
  lS : st.T.length = x.n
  sl : ∀ (i : Nat) (S : List Sp), i < x.n → st.L[c.node i]? = some S → c.slot i < S.length
section
variable {B : Nat → Prop} {w w' : World} {a g : Nat} {x : Cox} {c : CoC} {P T : List Int} {st : Co} {s' : Ar}
theorem CoFx.n32 (h : CoFx B a g x c P T) : x.n ≤ 32 ∧ x.N ≤ 32 := by
  have h1 := many_lt (chk_ok h.ck).1
  have := leavesTo_len P P.length
  have e1 := h.nT
  have e2 := h.nN
  have : (leavesL P).length ≤ 32 := by show (leavesTo P P.length).length ≤ 32; omega
  omega
theorem CoFx.node (h : CoFx B a g x c P T) {i : Nat} (hi : i < x.n) : c.node i < x.N ∧ (nodesTo P T T.length)[i]? = some (c.node i : Int) := by
  have hn : i < T.length := by rw [← h.nT]; exact hi
  obtain ⟨y, hy⟩ := getElem?_lt hn
  have hm := thr_mem (chk_ok h.ck).2.2.2 hy
  obtain ⟨k, hk⟩ := Int.eq_ofNat_of_zero_le ((idx_nonneg (leavesL P) y).1.2 hm)
  have hg := idx_get hm hk
  have e : c.node i = k := by
    rw [(h.cn i hi).1]
    unfold nodeQ
    rw [getD_of hy, hk]; rfl
  rw [e, h.nN]
  refine ⟨(List.getElem?_eq_some_iff.1 hg).1, ?_⟩
  unfold nodesTo
  rw [List.take_length, List.getElem?_map, hy]
  show some (idxI (leavesL P) y) = _
  rw [hk]
theorem CoIs.loc (h : CoIs B w a g x c P T st) {i : Nat} (hi : i < x.n) : ∃ (y : Fx) (v : Nat) (S : List Sp), x.X[c.node i]? = some y ∧ x.W[c.node i]? = some v ∧ st.L[c.node i]? = some S ∧ c.slot i < S.length ∧ S[c.slot i]? = some (lsp st.L (c.node i) (c.slot i)) := by
  have hn := (h.fx.node hi).1
  obtain ⟨y, hy⟩ := getElem?_lt (show c.node i < x.X.length by rw [h.fx.lX]; exact hn)
  obtain ⟨v, hv⟩ := getElem?_lt (show c.node i < x.W.length by rw [h.fx.lW]; exact hn)
  obtain ⟨S, hS⟩ := getElem?_lt (show c.node i < st.L.length by rw [h.lL]; exact hn)
  have hs := h.sl i S hi hS
  refine ⟨y, v, S, hy, hv, hS, hs, ?_⟩
  unfold lsp
  have e : st.L.getD (c.node i) [] = S := by rw [List.getD_eq_getElem?_getD, hS]; rfl
  rw [e, List.getD_eq_getElem?_getD, List.getElem?_eq_getElem hs]; rfl
theorem CoIs.glo (h : CoIs B w a g x c P T st) {i : Nat} (hi : i < x.n) : st.G[c.node i]? = some (sv st.G (c.node i)) := by
  have hn := (h.fx.node hi).1
  have : c.node i < st.G.length := by rw [h.lG]; exact hn
  unfold sv
  rw [List.getD_eq_getElem?_getD, List.getElem?_eq_getElem this]; rfl
theorem CoIs.thr (h : CoIs B w a g x c P T st) {i : Nat} (hi : i < x.n) : st.T[i]? = some (sv st.T i) := by
  have : i < st.T.length := by rw [h.lS]; exact hi
  unfold sv
  rw [List.getD_eq_getElem?_getD, List.getElem?_eq_getElem this]; rfl
theorem ne_own {o : Nat → Nat} {i j u v : Nat} (hi : o i = u) (hj : o j = v) (h : u ≠ v) : i ≠ j := fun e => h (by rw [← hi, ← hj, e])
theorem CoIs.turns0 (h : CoIs B w a g x c P T st) (t : Turns [] w w') : CoIs B w' a g x c P T st :=
  { h with ar := h.ar.turns t (by simp) (by simp), lk := t.blk h.lk (by simp), tb := h.tb.turns t (by simp), nd := by obtain ⟨Z, z⟩ := h.nd; exact ⟨Z, t.blk z (by simp)⟩,
           sp := h.sp.turns t (by simp), gl := h.gl.turns t (by simp) (by simp) (by simp) (by simp) (by simp), lo := fun n y S hy hS => (h.lo n y S hy hS).turns t (by simp) (by simp) (by simp) (by simp) (by simp) }
theorem CoIs.below (h : CoIs B w a g x c P T st) (t : Below w.heap.size w w') : CoIs B w' a g x c P T st := h.turns0 (Turns.of_below t)
/-- all but spots and locks, where blocks of whom turned that are none of them -/
theorem CoIs.rest (h : CoIs B w a g x c P T st) {S : List Nat} (t : Turns S w w') (hS : ∀ i ∈ S, 2 ≤ x.o i) :
    Blk w' x.l 100 (coC a x.b c.kg c.kl x.par c.bud (.pointer (some ⟨x.g.p, 0, none⟩)) (.slice (some ⟨x.qn, 0, none⟩) x.N x.capn) (.slice (some ⟨x.qs, 0, none⟩) x.n x.n)) ∧
    TabQ B w' x.b P T ∧ ∃ Z : List Value, Blk w' x.qn 104 ((x.X.zip x.W).flatMap ndE ++ Z).toArray := by
  obtain ⟨Z, z⟩ := h.nd
  exact ⟨t.blk h.lk (fun k => by have := hS _ k; rw [h.fx.ol] at this; omega), h.tb.turns t (fun i hi hb => by have := hS i hi; rw [h.fx.oB i hb] at this; omega), Z, t.blk z (fun k => by have := hS _ k; rw [h.fx.on] at this; omega)⟩
/-- an op on a count's word -/
theorem CoIs.cnt (h : CoIs B w a g x c P T st) (t : Turns [a, g] w w') (ha : ArIs w' a g s') : CoIs B w' a g x c P T { st with s := s' } := by
  obtain ⟨h1, h2, h3⟩ := h.rest t (by intro i hi; simp at hi; rcases hi with rfl | rfl <;> first | (rw [h.fx.oa]; omega) | (rw [h.fx.og]; omega))
  have n2 : ∀ r u, x.o r = u → u ≠ 3 → r ∉ [a, g] := fun r u e hu => by
    simp only [List.mem_cons, List.not_mem_nil, or_false, not_or]
    exact ⟨ne_own e h.fx.oa hu, ne_own e h.fx.og hu⟩
  exact ⟨h.fx, ha, h1, h2, h3, h.sp.turns t (n2 _ _ h.fx.os (by decide)), h.gl.oth t ha (n2 _ _ h.fx.oG.1 (by decide)) (n2 _ _ h.fx.oG.2.1 (by decide)) (n2 _ _ h.fx.oG.2.2 (by decide)),
    fun n y S hy hS => (h.lo n y S hy hS).oth t ha (n2 _ _ (h.fx.oL n y hy).1 (by omega)) (n2 _ _ (h.fx.oL n y hy).2.1 (by omega)) (n2 _ _ (h.fx.oL n y hy).2.2 (by omega)), h.lL, h.lG, h.lS, h.sl⟩
theorem nin3 {o : Nat → Nat} {a g q r u v : Nat} (ha : o a = 3) (hg : o g = 3) (hq : o q = v) (e : o r = u) (h3 : u ≠ 3) (hv : u ≠ v) : r ∉ [a, g, q] := by
  simp only [List.mem_cons, List.not_mem_nil, or_false, not_or]
  exact ⟨ne_own e ha h3, ne_own e hg h3, ne_own e hq hv⟩
/-- an op of a thread's local lock -/
theorem CoIs.locOp (h : CoIs B w a g x c P T st) {i : Nat} (hi : i < x.n) {y : Fx} (hy : x.X[c.node i]? = some y) {p' : Sp} (t : Turns [a, g, y.q] w w')
    (hf : FlIs w' a g c.kl y s' ((st.L.getD (c.node i) []).set (c.slot i) p')) : CoIs B w' a g x c P T { st with s := s', L := lset st.L (c.node i) (c.slot i) p' } := by
  have hq := (h.fx.oL _ y hy).2.2
  obtain ⟨h1, h2, h3⟩ := h.rest t (by intro i hi; simp at hi; rcases hi with rfl | rfl | rfl <;> first | (rw [h.fx.oa]; omega) | (rw [h.fx.og]; omega) | (rw [hq]; omega))
  have n3 : ∀ r u, x.o r = u → u ≠ 3 → u ≠ 5 + c.node i → r ∉ [a, g, y.q] := fun r u e hu hv => nin3 h.fx.oa h.fx.og hq e hu hv
  refine ⟨h.fx, hf.ki.ar, h1, h2, h3, h.sp.turns t (n3 _ _ h.fx.os (by decide) (by omega)), h.gl.oth t hf.ki.ar (n3 _ _ h.fx.oG.1 (by decide) (by omega)) (n3 _ _ h.fx.oG.2.1 (by decide) (by omega)) (n3 _ _ h.fx.oG.2.2 (by decide) (by omega)),
    fun n z S hz hS => ?_, ?_, h.lG, h.lS, fun j S hj hS => ?_⟩
  · unfold lset at hS
    simp only at hS
    rw [List.getElem?_set] at hS
    split at hS
    · rename_i e
      split at hS
      · simp only [Option.some.injEq] at hS
        subst e
        rw [hy] at hz
        injection hz with hz
        subst hz; subst hS
        exact hf
      · cases hS
    · rename_i e
      have hne : ∀ u, u = 5 + n → u ≠ 5 + c.node i := by omega
      exact (h.lo n z S hz hS).oth t hf.ki.ar (n3 _ _ (h.fx.oL n z hz).1 (by omega) (hne _ rfl)) (n3 _ _ (h.fx.oL n z hz).2.1 (by omega) (hne _ rfl)) (n3 _ _ (h.fx.oL n z hz).2.2 (by omega) (hne _ rfl))
  · show (lset _ _ _ _).length = _
    unfold lset; rw [List.length_set]; exact h.lL
  · unfold lset at hS
    simp only at hS
    rw [List.getElem?_set] at hS
    split at hS
    · rename_i e
      split at hS
      · simp only [Option.some.injEq] at hS
        subst hS
        rw [List.length_set]
        rename_i hl
        have := h.sl j (st.L.getD (c.node i) []) hj (by rw [← e, List.getD_eq_getElem?_getD, List.getElem?_eq_getElem hl]; rfl)
        exact this
      · cases hS
    · exact h.sl j S hj hS
/-- an op of the global lock -/
theorem CoIs.gloOp (h : CoIs B w a g x c P T st) {n : Nat} {p' : Sp} (t : Turns [a, g, x.g.q] w w')
    (hf : FlIs w' a g c.kg x.g s' (st.G.set n p')) : CoIs B w' a g x c P T { st with s := s', G := st.G.set n p' } := by
  have hq := h.fx.oG.2.2
  obtain ⟨h1, h2, h3⟩ := h.rest t (by intro i hi; simp at hi; rcases hi with rfl | rfl | rfl <;> first | (rw [h.fx.oa]; omega) | (rw [h.fx.og]; omega) | (rw [hq]; omega))
  have n3 : ∀ r u, x.o r = u → u ≠ 3 → u ≠ 4 → r ∉ [a, g, x.g.q] := fun r u e hu hv => nin3 h.fx.oa h.fx.og hq e hu hv
  exact ⟨h.fx, hf.ki.ar, h1, h2, h3, h.sp.turns t (n3 _ _ h.fx.os (by decide) (by omega)), hf,
    fun n z S hz hS => (h.lo n z S hz hS).oth t hf.ki.ar (n3 _ _ (h.fx.oL n z hz).1 (by omega) (by omega)) (n3 _ _ (h.fx.oL n z hz).2.1 (by omega) (by omega)) (n3 _ _ (h.fx.oL n z hz).2.2 (by omega) (by omega)), h.lL, by show (st.G.set n p').length = _; rw [List.length_set]; exact h.lG, h.lS, h.sl⟩
/-- a store into a thread's spot -/
theorem CoIs.put (h : CoIs B w a g x c P T st) {i : Nat} {p p' : Sp} (hp : st.T[i]? = some p) {j : Nat} {u : Value} (hj : j < 4) (he : (encP4 p).set j u = encP4 p') :
    CoIs B (w.setCell ⟨x.qs, i * 4 + j, none⟩ u) a g x c P T { st with T := st.T.set i p' } := by
  have t : Turns [x.qs] w (w.setCell ⟨x.qs, i * 4 + j, none⟩ u) := turns_q _ _ _
  obtain ⟨h1, h2, h3⟩ := h.rest t (by intro i hi; simp at hi; subst hi; rw [h.fx.os]; omega)
  have n1 : ∀ r v, x.o r = v → v ≠ 2 → r ∉ [x.qs] := fun r v e hv => by simpa using ne_own e h.fx.os hv
  have na := n1 _ _ h.fx.oa (by decide)
  have ng := n1 _ _ h.fx.og (by decide)
  exact ⟨h.fx, h.ar.turns t na ng, h1, h2, h3, h.sp.put hp hj he, h.gl.turns t (n1 _ _ h.fx.oG.1 (by decide)) (n1 _ _ h.fx.oG.2.1 (by decide)) na ng (n1 _ _ h.fx.oG.2.2 (by decide)),
    fun n z S hz hS => (h.lo n z S hz hS).turns t (n1 _ _ (h.fx.oL n z hz).1 (by omega)) (n1 _ _ (h.fx.oL n z hz).2.1 (by omega)) na ng (n1 _ _ (h.fx.oL n z hz).2.2 (by omega)), h.lL, h.lG, by show (st.T.set i p').length = _; rw [List.length_set]; exact h.lS, h.sl⟩
theorem CoIs.put0 (h : CoIs B w a g x c P T st) {i : Nat} {p p' : Sp} (hp : st.T[i]? = some p) {u : Value} (he : (encP4 p).set 0 u = encP4 p') :
    CoIs B (w.setCell ⟨x.qs, i * 4, none⟩ u) a g x c P T { st with T := st.T.set i p' } := h.put hp (j := 0) (by decide) he
/-- a node's row -/
theorem CoIs.row (h : CoIs B w a g x c P T st) {n : Nat} {y : Fx} {v : Nat} (hy : x.X[n]? = some y) (hv : x.W[n]? = some v) :
    w.cell? ⟨x.qn, n * 2, none⟩ = some (.pointer (some ⟨y.p, 0, none⟩)) ∧ w.cell? ⟨x.qn, n * 2 + 1, none⟩ = some (.int .i64 v) := by
  obtain ⟨Z, z⟩ := h.nd
  have hz : (x.X.zip x.W)[n]? = some (y, v) := by rw [List.getElem?_zip_eq_some]; exact ⟨hy, hv⟩
  have c0 := getElem?_flatMap ndE 2 ndE_len _ n _ 0 (.pointer (some ⟨y.p, 0, none⟩)) hz rfl
  have c1 := getElem?_flatMap ndE 2 ndE_len _ n _ 1 (.int .i64 v) hz rfl
  have l0 := (List.getElem?_eq_some_iff.1 c0).1
  have l1 := (List.getElem?_eq_some_iff.1 c1).1
  have e0 := z.cell (n * 2)
  have e1 := z.cell (n * 2 + 1)
  simp only [List.getElem?_toArray] at e0 e1
  rw [List.getElem?_append_left (by simpa using l0), show n * 2 = n * 2 + 0 from rfl, c0] at e0
  rw [List.getElem?_append_left l1, c1] at e1
  exact ⟨e0, e1⟩
theorem results_cell_row3 {P : Program} {fn : Func} {p u v : Tmp} {ty : TypeId} (h : fn.results = #[.cell p ty, .tmp u, .tmp v]) (tmps : Array Value) (w : World) (g : Nat) (t : TypeId) (cs : Array Value) (fr : Nat × Nat) (d : TypeDesc)
    (hp : tmps.getD p undef = .pointer (some ⟨g, 0, none⟩)) (hg : w.heap[g]? = some (.cells cs t fr))
    (hu : P.underlying ty = some d) (hd : (match d with | .struct _ | .array _ _ => true | _ => false) = true) (hi : (P.info? ty).map (·.size) = some cs.size) :
    (results fn tmps).run P w = .ok (.tuple #[.agg cs, tmps.getD u undef, tmps.getD v undef]) w := by
  have hp' : tmps[p]?.getD undef = .pointer (some ⟨g, 0, none⟩) := by simpa using hp
  simp [results, h, hp', asAddr, run_loadVar_row w g t ty cs fr d hg hu hd hi]
theorem threadsCo (h : CoIs B w a g x c P T st) : Calls Tryz.prog 77 #[.pointer (some ⟨x.l, 0, none⟩)] w fun e w' => e = .returned (.int .i64 x.n) ∧ w = w' := by
  have c8 : w.cell? ⟨x.l, 8, none⟩ = some (.slice (some ⟨x.qs, 0, none⟩) x.n x.n) := h.lk.cell 8
  clear h
  go_enter Tryz.func77, Tryz.ntmps77
  go_wp2
  go_ret
  exact ⟨rfl, rfl⟩
theorem hasCo (h : CoIs B w a g x c P T st) (i : Nat) (hi : i < x.n) : Calls Tryz.prog 48 #[.pointer (some ⟨x.l, 0, none⟩), .int .i64 i] w fun e w' => e = .returned (.bool true) ∧ w = w' := by
  have HT := Lib.hid (threadsCo h)
  have hn := h.fx.n32
  have t1 : (0 : Int) ≤ i := by omega
  have t2 : (i : Int) < x.n := by omega
  clear h
  go_enter Tryz.func48, Tryz.ntmps48
  go_wp2_with fail
  refine HT.out.mono ?_
  rintro en w1 ⟨rfl, rfl⟩
  go_wp2
  go_ret
  exact ⟨rfl, rfl⟩
set_option maxHeartbeats 400000 in
theorem spotCo (h : CoIs B w a g x c P T st) (i : Nat) (hi : i < x.n) :
    Calls Tryz.prog 58 #[.pointer (some ⟨x.l, 0, none⟩), .int .i64 i] w fun e w' => e = .returned (spotV (sv st.T i)) ∧ Below w.heap.size w w' := by
  have H : Hid (CoIs B (w.alloc (.cells #[.int .i64 0, .int .i64 0, .int .i64 0, .int .i64 0] 38)) a g x c P T st) := Lib.hid (h.below ((Below.refl _ _).alloc (Nat.le_refl _) _))
  have hp := h.thr hi
  obtain ⟨p, hpp⟩ : ∃ p, p = sv st.T i := ⟨_, rfl⟩
  rw [← hpp] at hp ⊢
  have c8 : w.cell? ⟨x.l, 8, none⟩ = some (.slice (some ⟨x.qs, 0, none⟩) x.n x.n) := h.lk.cell 8
  have a0 := h.sp.cell hp 0 _ rfl
  have a1 := h.sp.cell hp 1 _ rfl
  have a2 := h.sp.cell hp 2 _ rfl
  have a3 := h.sp.cell hp 3 _ rfl
  simp only [Nat.add_zero] at a0
  have HH := Lib.hid (hasCo H.out i hi)
  have hs1 := h.lk.lt
  have hs2 := h.sp.lt
  have t2 : ¬ (i : Int) < 0 := by omega
  clear h hp hpp
  go_enter Tryz.func58, Tryz.ntmps58
  go_wp2_with (go_at_call 48; refine HH.out.mono ?_; rintro e w' ⟨rfl, rfl⟩)
  exact bodyPost_ret (results_cell_row (by rfl) _ _ w.heap.size 38 _ (0, 0) _ (by rfl) (heap_alloc_new w _) Tryz.underlying38 rfl (by kernel_rfl)) rfl ⟨rfl, (Below.refl _ _).alloc (Nat.le_refl _) _⟩
set_option maxRecDepth 100000 in
set_option maxHeartbeats 2000000 in
theorem ofCo (h : CoIs B w a g x c P T st) (i : Nat) (hi : i < x.n) {y : Fx} {v : Nat} (hy : x.X[c.node i]? = some y) (hv : x.W[c.node i]? = some v) :
    Calls Tryz.prog 49 #[.pointer (some ⟨x.l, 0, none⟩), .int .i64 i] w fun e w' => e = .returned (.tuple #[.agg #[.pointer (some ⟨y.p, 0, none⟩), .int .i64 v], .int .i64 (c.node i : Int), .int .i64 (c.slot i : Int)]) ∧ Below w.heap.size w w' := by
  have hn := h.fx.n32
  obtain ⟨hN, hnd⟩ := h.fx.node hi
  have hT : i < T.length := by rw [← h.fx.nT]; exact hi
  have hsl := (h.fx.cn i hi).2
  obtain ⟨r0, r1⟩ := h.row hy hv
  have b1 := (Below.refl w.heap.size w).alloc (Nat.le_refl _) (.cells #[.pointer none, .int .i64 0] 104)
  have h1 := h.below b1
  have c1 : w.cell? ⟨x.l, 1, none⟩ = some (.pointer (some ⟨x.b, 0, none⟩)) := h.lk.cell 1
  have c7 : w.cell? ⟨x.l, 7, none⟩ = some (.slice (some ⟨x.qn, 0, none⟩) x.N x.capn) := h.lk.cell 7
  have HN := Lib.hid (nodeF (w.alloc (.cells #[.pointer none, .int .i64 0] 104)) x.b P T i hT h1.tb.f _ hnd)
  have hsf := slotF (w.alloc (.cells #[.pointer none, .int .i64 0] 104)).drew x.b P T i hT (h1.below (Below.drew (Below.refl _ _))).tb.f
  rw [← hsl] at hsf
  have HS := Lib.hid hsf
  have hl1 := h.lk.lt
  obtain ⟨nd, he⟩ : ∃ nd, nd = c.node i := ⟨_, rfl⟩
  rw [← he] at hN r0 r1 HN ⊢
  obtain ⟨sl, hs⟩ : ∃ s, s = c.slot i := ⟨_, rfl⟩
  rw [← hs] at HS ⊢
  have t1 : (0 : Int) ≤ (nd : Int) := by omega
  have t2 : (nd : Int) < x.N := by omega
  have t3 : (nd : Int) ≤ x.N := by omega
  have HB := Lib.hid b1
  have HK : Hid (∀ o : Obj, (w.alloc o).drew.cell? ⟨x.l, 1, none⟩ = some (.pointer (some ⟨x.b, 0, none⟩)) ∧ (w.alloc o).drew.cell? ⟨x.l, 7, none⟩ = some (.slice (some ⟨x.qn, 0, none⟩) x.N x.capn) ∧ (w.alloc o).drew.cell? ⟨x.qn, nd * 2, none⟩ = some (.pointer (some ⟨y.p, 0, none⟩)) ∧ (w.alloc o).drew.cell? ⟨x.qn, nd * 2 + 1, none⟩ = some (.int .i64 v)) := Lib.hid fun o => by
    have ho := h.below (((Below.refl w.heap.size w).alloc (Nat.le_refl _) o).drew)
    exact ⟨ho.lk.cell 1, ho.lk.cell 7, (ho.row (he ▸ hy) (he ▸ hv)).1, (ho.row (he ▸ hy) (he ▸ hv)).2⟩
  clear h h1 b1 hsf hy hv hnd hsl he hs r0 r1
  go_enter Tryz.func49, Tryz.ntmps49
  go_wp2_with fail
  refine HN.out.mono ?_
  rintro en w1 ⟨rfl, rfl⟩
  go_wp2_with fail
  go_region_held3 (fun W => W.cell? ⟨x.l, 1, none⟩ = some (.pointer (some ⟨x.b, 0, none⟩)) ∧ W.cell? ⟨x.l, 7, none⟩ = some (.slice (some ⟨x.qn, 0, none⟩) x.N x.capn) ∧ W.cell? ⟨x.qn, nd * 2, none⟩ = some (.pointer (some ⟨y.p, 0, none⟩)) ∧ W.cell? ⟨x.qn, nd * 2 + 1, none⟩ = some (.int .i64 v))
    (first | exact HK.out _)
    (first | (go_at_call 78; go_loud (refine HS.out.mono ?_); rintro en w3 ⟨rfl, rfl⟩))
  all_goals
    go_wp2
    exact bodyPost_ret (results_cell_row3 (by rfl) _ _ w.heap.size 104 _ (0, 0) _ (by rfl) (heap_alloc_new w _) Tryz.underlying104 rfl (by kernel_rfl)) rfl ⟨rfl, ((Below.refl _ _).alloc (Nat.le_refl _) _).drew⟩
end
end Go.Proofs.YtmlcfmickonfbaaGreat
end
section
set_option linter.unusedVariables false
set_option linter.unusedSimpArgs false
/- Layer 24 (cohort): what the locks' methods do to a lock of nodes, in its own words. -/
namespace Go.Proofs.YtmlcfmickonfbaaGreat
open Go.RowKit

/-- the blocks that turn -/
def CoS (a g : Nat) (x : Cox) : List Nat := a :: g :: x.qs :: x.g.q :: x.X.map Fx.q
/-- what a step asks of what is -/
structure CoPre (BB : Int) (x : Cox) (c : CoC) (st : Co) : Prop where
  ops : st.s.ops + 1 ≤ 1000000000000
  bd : CoB c BB st
  B0 : 1 ≤ BB
  B1 : BB ≤ 10000000000
  ig : inR st.s.W x.g.t = true
  il : ∀ (n : Nat) (y : Fx), x.X[n]? = some y → inR st.s.W y.t = true
  v : CoV c x.n st
section
variable {B : Nat → Prop} {w w' : World} {a g : Nat} {x : Cox} {c : CoC} {P T : List Int} {st st' : Co} {s' : Ar} {BB : Int}
theorem CoIs.lts (h : CoIs B w a g x c P T st) : ∀ r ∈ CoS a g x, r < w.heap.size := by
  intro r hr
  unfold CoS at hr
  simp only [List.mem_cons] at hr
  rcases hr with rfl | rfl | rfl | rfl | hr
  · exact h.ar.blk.lt
  · exact h.ar.wds.lt
  · exact h.sp.lt
  · exact h.gl.ki.sp.lt
  · obtain ⟨y, hy, rfl⟩ := List.mem_map.1 hr
    obtain ⟨n, hn, e⟩ := List.getElem_of_mem hy
    have hl : n < st.L.length := by rw [h.lL, ← h.fx.lX]; exact hn
    exact (h.lo n y _ (by rw [List.getElem?_eq_getElem hn, e]) (List.getElem?_eq_getElem hl)).ki.sp.lt
theorem tS_agy {y : Fx} {n : Nat} (hy : x.X[n]? = some y) (t : Turns [a, g, y.q] w w') : Turns (CoS a g x) w w' := by
  refine t.mono ?_
  intro i hi
  have hm : y.q ∈ x.X.map Fx.q := List.mem_map.2 ⟨y, List.mem_of_getElem? hy, rfl⟩
  unfold CoS
  simp only [List.mem_cons, List.not_mem_nil, or_false] at hi ⊢
  rcases hi with rfl | rfl | rfl
  · exact .inl rfl
  · exact .inr (.inl rfl)
  · exact .inr (.inr (.inr (.inr hm)))
theorem tS_agG (t : Turns [a, g, x.g.q] w w') : Turns (CoS a g x) w w' := by
  refine t.mono ?_
  intro i hi
  unfold CoS
  simp only [List.mem_cons, List.not_mem_nil, or_false] at hi ⊢
  rcases hi with rfl | rfl | rfl <;> simp
theorem tS_ag (t : Turns [a, g] w w') : Turns (CoS a g x) w w' := by
  refine t.mono ?_
  intro i hi
  unfold CoS
  simp only [List.mem_cons, List.not_mem_nil, or_false] at hi ⊢
  rcases hi with rfl | rfl <;> simp
theorem tS_qs (i : Nat) (u : Value) : Turns (CoS a g x) w (w.setCell ⟨x.qs, i, none⟩ u) := (Turns.refl _ _).setCell (.inl (by unfold CoS; simp)) _
theorem preL (h : CoIs B w a g x c P T st) (C : CoPre BB x c st) {n : Nat} {y : Fx} {S : List Sp} (hy : x.X[n]? = some y) (hS : st.L[n]? = some S) : PreK c.kl y st.s S BB :=
  ⟨C.ops, C.bd.w, C.bd.l S (List.mem_of_getElem? hS), C.B0, C.B1, C.il n y hy⟩
theorem preG (C : CoPre BB x c st) : PreK c.kg x.g st.s st.G BB := ⟨C.ops, C.bd.w, C.bd.g, C.B0, C.B1, C.ig⟩
theorem getD_some' {α : Type} {l : List α} {n : Nat} {z d : α} (h : l[n]? = some z) : l.getD n d = z := by rw [List.getD_eq_getElem?_getD, h]; rfl
theorem co_stepL (h : CoIs B w a g x c P T st) (C : CoPre BB x c st) (i : Nat) (hi : i < x.n) {y : Fx} (hy : x.X[c.node i]? = some y) :
    Calls Tryz.prog 87 #[.pointer (some ⟨y.p, 0, none⟩), .int .i64 (c.slot i)] w fun e w' => e = .returned (.bool (camL c st i)) ∧ CoIs B w' a g x c P T { st with s := (stL c st i).1, L := setL c st i (stL c st i).2 } ∧ Turns (CoS a g x) w w' := by
  obtain ⟨y', v, S, hy', hv, hS, hs, hsp⟩ := h.loc hi
  rw [hy] at hy'
  injection hy' with e
  subst e
  have e1 := (h.fx.tl _ _ hy).1
  have e2 := (h.fx.tl _ _ hy).2
  have eS : st.L.getD (c.node i) [] = S := getD_some' hS
  refine (fl_step (h.lo _ _ _ hy hS) h.fx.kl (c.slot i) _ hsp (preL h C hy hS) (C.v.lpc hi)).mono ?_
  rintro e w' ⟨rfl, hf, t⟩
  rw [← e1, e2] at hf
  rw [← e1, e2]
  refine ⟨rfl, ?_, tS_agy hy t⟩
  refine h.locOp hi hy t ?_
  rw [eS]
  exact hf
theorem co_stepG (h : CoIs B w a g x c P T st) (C : CoPre BB x c st) (i : Nat) (hi : i < x.n) :
    Calls Tryz.prog 87 #[.pointer (some ⟨x.g.p, 0, none⟩), .int .i64 (c.node i)] w fun e w' => e = .returned (.bool (camG c st i)) ∧ CoIs B w' a g x c P T { st with s := (stG c st i).1, G := st.G.set (c.node i) (stG c st i).2 } ∧ Turns (CoS a g x) w w' := by
  have e1 := h.fx.tg
  have e2 := h.fx.gm
  refine (fl_step h.gl h.fx.kg (c.node i) _ (h.glo hi) (preG C) (C.v.gpc hi)).mono ?_
  rintro e w' ⟨rfl, hf, t⟩
  rw [← e1, e2] at hf
  rw [← e1, e2]
  exact ⟨rfl, h.gloOp t hf, tS_agG t⟩
theorem co_leaveL (h : CoIs B w a g x c P T st) (i : Nat) (hi : i < x.n) {y : Fx} (hy : x.X[c.node i]? = some y) :
    Calls Tryz.prog 90 #[.pointer (some ⟨y.p, 0, none⟩), .int .i64 (c.slot i)] w fun e w' => (∃ b, e = .returned (.bool b)) ∧ CoIs B w' a g x c P T { st with L := setL c st i (leaveK (lsp st.L (c.node i) (c.slot i))) } ∧ Turns (CoS a g x) w w' := by
  obtain ⟨y', v, S, hy', hv, hS, hs, hsp⟩ := h.loc hi
  rw [hy] at hy'
  injection hy' with e
  subst e
  have eS : st.L.getD (c.node i) [] = S := getD_some' hS
  refine (fl_leave (h.lo _ _ _ hy hS) h.fx.kl (c.slot i) _ hsp).mono ?_
  rintro e w' ⟨rfl, hf, t⟩
  have t' : Turns [a, g, y.q] w w' := turns_qag t
  refine ⟨⟨_, rfl⟩, ?_, tS_agy hy t'⟩
  refine h.locOp hi hy t' ?_
  rw [eS]
  exact hf
theorem co_leaveG (h : CoIs B w a g x c P T st) (i : Nat) (hi : i < x.n) :
    Calls Tryz.prog 90 #[.pointer (some ⟨x.g.p, 0, none⟩), .int .i64 (c.node i)] w fun e w' => (∃ b, e = .returned (.bool b)) ∧ CoIs B w' a g x c P T { st with G := st.G.set (c.node i) (leaveK (sv st.G (c.node i))) } ∧ Turns (CoS a g x) w w' := by
  refine (fl_leave h.gl h.fx.kg (c.node i) _ (h.glo hi)).mono ?_
  rintro e w' ⟨rfl, hf, t⟩
  exact ⟨⟨_, rfl⟩, h.gloOp (turns_qag t) hf, tS_agG (turns_qag t)⟩
theorem co_askL (h : CoIs B w a g x c P T st) (i : Nat) (hi : i < x.n) {y : Fx} (hy : x.X[c.node i]? = some y) :
    Calls Tryz.prog 50 #[.pointer (some ⟨y.p, 0, none⟩), .int .i64 (c.slot i)] w fun e w' => (∃ b, e = .returned (.bool b)) ∧ CoIs B w' a g x c P T { st with L := setL c st i (askK c.kl (lsp st.L (c.node i) (c.slot i))) } ∧ Turns (CoS a g x) w w' := by
  obtain ⟨y', v, S, hy', hv, hS, hs, hsp⟩ := h.loc hi
  rw [hy] at hy'
  injection hy' with e
  subst e
  have eS : st.L.getD (c.node i) [] = S := getD_some' hS
  refine (fl_ask (h.lo _ _ _ hy hS) h.fx.kl (c.slot i) _ hsp).mono ?_
  rintro e w' ⟨rfl, hf, t⟩
  have t' : Turns [a, g, y.q] w w' := turns_qag t
  refine ⟨⟨_, rfl⟩, ?_, tS_agy hy t'⟩
  refine h.locOp hi hy t' ?_
  rw [eS]
  exact hf
theorem co_askG (h : CoIs B w a g x c P T st) (i : Nat) (hi : i < x.n) :
    Calls Tryz.prog 50 #[.pointer (some ⟨x.g.p, 0, none⟩), .int .i64 (c.node i)] w fun e w' => (∃ b, e = .returned (.bool b)) ∧ CoIs B w' a g x c P T { st with G := st.G.set (c.node i) (askK c.kg (sv st.G (c.node i))) } ∧ Turns (CoS a g x) w w' := by
  refine (fl_ask h.gl h.fx.kg (c.node i) _ (h.glo hi)).mono ?_
  rintro e w' ⟨rfl, hf, t⟩
  exact ⟨⟨_, rfl⟩, h.gloOp (turns_qag t) hf, tS_agG (turns_qag t)⟩
def aloneC (c : CoC) (st : Co) (i : Nat) : Ar × Bool := aloneK c.kl (c.tl (c.node i)) st.s (c.slot i) (lsp st.L (c.node i) (c.slot i))
theorem co_alone (h : CoIs B w a g x c P T st) (C : CoPre BB x c st) (i : Nat) (hi : i < x.n) {y : Fx} (hy : x.X[c.node i]? = some y) (h10 : (lsp st.L (c.node i) (c.slot i)).pc = 10) :
    Calls Tryz.prog 89 #[.pointer (some ⟨y.p, 0, none⟩), .int .i64 (c.slot i)] w fun e w' => e = .returned (.bool (aloneC c st i).2) ∧ CoIs B w' a g x c P T { st with s := (aloneC c st i).1 } ∧ Turns (CoS a g x) w w' := by
  obtain ⟨y', v, S, hy', hv, hS, hs, hsp⟩ := h.loc hi
  rw [hy] at hy'
  injection hy' with e
  subst e
  have e1 := (h.fx.tl _ _ hy).1
  have eS : st.L.getD (c.node i) [] = S := getD_some' hS
  refine (fl_alone (h.lo _ _ _ hy hS) h.fx.kl (c.slot i) _ hsp (preL h C hy hS) h10).mono ?_
  rintro e w' ⟨rfl, hf, t⟩
  rw [← e1] at hf
  rw [← e1]
  refine ⟨rfl, ?_, tS_agy hy t⟩
  have hl := h.locOp (p' := lsp st.L (c.node i) (c.slot i)) hi hy t (s' := (aloneC c st i).1) (by rw [eS, setS_id hsp]; exact hf)
  have eL : lset st.L (c.node i) (c.slot i) (lsp st.L (c.node i) (c.slot i)) = st.L := by
    unfold lset
    rw [eS, setS_id hsp]
    obtain ⟨hl, he⟩ := List.getElem?_eq_some_iff.1 hS; rw [← he]; exact List.set_getElem_self hl
  rw [eL] at hl
  exact hl
theorem co_load (h : CoIs B w a g x c P T st) (ho : st.s.ops + 1 ≤ 1000000000000) (n : Nat) {v : Nat} (hv : x.W[n]? = some v) :
    Calls Tryz.prog 34 #[.pointer (some ⟨a, 0, none⟩), .int .i64 v] w fun e w' => e = .returned (.int .i64 (ldW st.s.W (c.cw n))) ∧ CoIs B w' a g x c P T { st with s := loadA st.s (c.cw n) } ∧ Turns (CoS a g x) w w' := by
  have e1 := (h.fx.cc n v hv).1
  rw [e1]
  refine (load_any h.ar v ho).mono ?_
  rintro e w' ⟨rfl, hf, t⟩
  exact ⟨rfl, h.cnt t hf, tS_ag t⟩
theorem co_store (h : CoIs B w a g x c P T st) (ho : st.s.ops + 1 ≤ 1000000000000) (n : Nat) {v : Nat} (hv : x.W[n]? = some v) (u : Int) :
    Calls Tryz.prog 39 #[.pointer (some ⟨a, 0, none⟩), .int .i64 v, .int .i64 u] w fun e w' => e = .returned (.tuple #[]) ∧ CoIs B w' a g x c P T { st with s := storeA st.s (c.cw n) u } ∧ Turns (CoS a g x) w w' := by
  have e1 := (h.fx.cc n v hv).1
  rw [e1]
  refine (store_any h.ar v u ho).mono ?_
  rintro e w' ⟨rfl, hf, t⟩
  exact ⟨rfl, h.cnt t hf, tS_ag t⟩
/-- a lock, and a copy of a node behind it; what turned since a world w0 -/
structure CoN (B : Nat → Prop) (w0 w : World) (a g : Nat) (x : Cox) (c : CoC) (P T : List Int) (st : Co) (k : Nat) (y : Fx) (v : Nat) : Prop where
  is : CoIs B w a g x c P T st
  nb : Blk w k 104 #[.pointer (some ⟨y.p, 0, none⟩), .int .i64 v]
  nS : k ∉ CoS a g x
  tn : Turns (CoS a g x) w0 w
variable {w0 : World}
theorem CoN.to {k : Nat} {y : Fx} {v : Nat} (h : CoN B w0 w a g x c P T st k y v) (h2 : CoIs B w' a g x c P T st') (t : Turns (CoS a g x) w w') : CoN B w0 w' a g x c P T st' k y v :=
  ⟨h2, t.blk h.nb h.nS, h.nS, h.tn.trans t⟩
theorem CoN.put {k : Nat} {y : Fx} {v : Nat} (h : CoN B w0 w a g x c P T st k y v) {i : Nat} {p p' : Sp} (hp : st.T[i]? = some p) {j : Nat} {u : Value} (hj : j < 4) (he : (encP4 p).set j u = encP4 p') :
    CoN B w0 (w.setCell ⟨x.qs, i * 4 + j, none⟩ u) a g x c P T { st with T := st.T.set i p' } k y v := h.to (h.is.put hp hj he) (tS_qs _ _)
theorem CoN.drew {k : Nat} {y : Fx} {v : Nat} (h : CoN B w0 w a g x c P T st k y v) : CoN B w0 w.drew a g x c P T st k y v := h.to (h.is.below (Below.refl _ _).drew) (Turns.refl _ _).drew
/-- what is read -/
theorem CoN.ar (h : CoIs B w a g x c P T st) : w.cell? ⟨x.l, 0, none⟩ = some (.pointer (some ⟨a, 0, none⟩)) := h.lk.cell 0
theorem CoN.bud (h : CoIs B w a g x c P T st) : w.cell? ⟨x.l, 5, none⟩ = some (.int .i64 c.bud) := h.lk.cell 5
theorem CoN.glo (h : CoIs B w a g x c P T st) : w.cell? ⟨x.l, 6, none⟩ = some (.pointer (some ⟨x.g.p, 0, none⟩)) := h.lk.cell 6
theorem CoN.spots (h : CoIs B w a g x c P T st) : w.cell? ⟨x.l, 8, none⟩ = some (.slice (some ⟨x.qs, 0, none⟩) x.n x.n) := h.lk.cell 8
theorem CoN.n0 {k : Nat} {y : Fx} {v : Nat} (h : CoN B w0 w a g x c P T st k y v) : w.cell? ⟨k, 0, none⟩ = some (.pointer (some ⟨y.p, 0, none⟩)) := h.nb.cell 0
theorem CoN.n1 {k : Nat} {y : Fx} {v : Nat} (h : CoN B w0 w a g x c P T st k y v) : w.cell? ⟨k, 1, none⟩ = some (.int .i64 v) := h.nb.cell 1
theorem CoN.mk' (h : CoIs B w a g x c P T st) {w1 : World} (b1 : Below w.heap.size w w1) (y : Fx) (v : Nat) :
    CoN B w (w1.alloc (.cells #[.pointer (some ⟨y.p, 0, none⟩), .int .i64 v] 104)) a g x c P T st w1.heap.size y v := by
  have hs := b1.size
  refine ⟨h.below (b1.alloc hs _), Blk.new w1 _ _, fun k => ?_, Turns.of_below (b1.alloc hs _)⟩
  have := h.lts _ k
  omega
end
end Go.Proofs.YtmlcfmickonfbaaGreat
end
