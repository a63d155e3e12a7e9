/- Joined: Top8, Hl6, Hw10, Hw11, PaC, Pa10, PaDf. -/
import Derived.Test.YtkdaiomjbkpedaaGreatMgHmcsTenure4
import Derived.Test.YtkdaiomjbkpedaaGreatMgHmcsTenure6
import Derived.Test.YtkdaiomjbkpedaaGreatMgHmcsTenure8
import Derived.Test.YtkdaiomjbkpedaaGreatMgHmcsTenure17
section
/- Layer 6, the document's Check, Leaves, Depth. -/
namespace Go.Proofs.YtkdaiomjbkpedaaGreat
open Go.RowKit

set_option maxRecDepth 100000 in
set_option maxHeartbeats 4000000 in
theorem rcheck_any (w : World) (vP vT : Value) (P T : List Int) (hP : RdL w vP 1 encI P) (hT : RdL w vT 1 encI T) :
    Calls Tryz.prog 45 #[.agg #[vP, vT]] w fun e w' => e = .returned (.int .i64 (chkT P T)) ∧ Below w.heap.size w w' := by
  have hb0 : Below w.heap.size w (w.alloc (.cells #[vP, vT] 24)) := (Below.refl _ _).alloc (Nat.le_refl _) _
  have HB := Lib.hid hb0
  have HPb := Lib.hid (hP.alloc (.cells #[vP, vT] 24))
  have HTb := Lib.hid (hT.alloc (.cells #[vP, vT] 24))
  obtain ⟨AP, cP, rfl, lP1, lP2⟩ := rdl_form hP
  obtain ⟨AT, cT, rfl, lT1, lT2⟩ := rdl_form hT
  clear hP hT hb0
  have c0 : (w.alloc (.cells #[.slice AP P.length cP, .slice AT T.length cT] 24)).cell? ⟨w.heap.size, 0, none⟩ = some (.slice AP P.length cP) := by simp [World.cell?_alloc_new]
  have c1 : (w.alloc (.cells #[.slice AP P.length cP, .slice AT T.length cT] 24)).cell? ⟨w.heap.size, 1, none⟩ = some (.slice AT T.length cT) := by simp [World.cell?_alloc_new]
  go_enter Tryz.func45, Tryz.ntmps45
  go_upto_region 1 with fail
  generalize (w.alloc (.cells #[.slice AP P.length cP, .slice AT T.length cT] 24)) = wb at *
  by_cases a1 : P.length < 1
  · have HE := Lib.hid (chk_many (P := P) (T := T) (decide_eq_true (.inl a1)))
    go_wp2
    go_ret
    exact ⟨ret_int HE.out.symm, HB.out⟩
  by_cases a2 : 32 < P.length
  · have HE := Lib.hid (chk_many (P := P) (T := T) (decide_eq_true (.inr (.inl a2))))
    go_wp2
    go_ret
    exact ⟨ret_int HE.out.symm, HB.out⟩
  by_cases a3 : T.length < 1
  · have HE := Lib.hid (chk_many (P := P) (T := T) (decide_eq_true (.inr (.inr (.inl a3)))))
    go_wp2
    go_ret
    exact ⟨ret_int HE.out.symm, HB.out⟩
  by_cases a4 : 32 < T.length
  · have HE := Lib.hid (chk_many (P := P) (T := T) (decide_eq_true (.inr (.inr (.inr a4)))))
    go_wp2
    go_ret
    exact ⟨ret_int HE.out.symm, HB.out⟩
  have HM := Lib.hid (show manyB P T = false from decide_eq_false (by omega))
  have H0 := Lib.hid (rdl_int HPb.out (by omega))
  obtain ⟨p0, hp0⟩ := getElem?_lt (show 0 < P.length by omega)
  obtain ⟨b, off, hA, hb, hc⟩ := H0.out
  subst hA
  have q0 := hc 0 p0 hp0
  simp only [Nat.add_zero] at q0
  have HC := Lib.hid hc
  have HG0 := Lib.hid hp0
  clear hc hp0 H0
  go_upto_region 3 with fail
  by_cases hz : p0 = -1
  · subst hz
    have HT1 := Lib.hid (show (List.range 1).all (okP P) = true from by
      have := getD_of HG0.out
      show (okP P 0 && true) = true
      rw [Bool.and_true]
      exact decide_eq_true ⟨fun _ => this, fun h => absurd h (by omega)⟩)
    go_wp2
    go_loop [3] (fun i => ∃ k : Nat, i = .int .i64 k ∧ 1 ≤ k ∧ k ≤ P.length ∧ (List.range k).all (okP P) = true) (fun i => P.length - (intOf i).toNat)
    case atStart => exact ⟨1, rfl, by omega, by omega, HT1.out⟩
    case round =>
      obtain ⟨k, rfl, hk1, hk, ha⟩ := hrel
      by_cases hlt : k < P.length
      · obtain ⟨p, hp⟩ := getElem?_lt hlt
        have q1 := HC.out k p hp
        have HP := Lib.hid (And.intro (getD_of hp) ha)
        clear hp ha
        by_cases g0 : p < 0
        · have HN := Lib.hid (chk_tree HM.out (all_false hlt (decide_eq_false (by rw [HP.out.1]; omega))))
          go_wp2
          go_ret
          exact ⟨ret_int HN.out.symm, HB.out⟩
        · by_cases g1 : (k : Int) ≤ p
          · have HN := Lib.hid (chk_tree HM.out (all_false hlt (decide_eq_false (by rw [HP.out.1]; omega))))
            go_wp2
            go_ret
            exact ⟨ret_int HN.out.symm, HB.out⟩
          · have HN := Lib.hid (show (List.range (k + 1)).all (okP P) = true from by
              rw [range_all_succ, HP.out.2, Bool.true_and]
              exact decide_eq_true (by rw [HP.out.1]; omega))
            go_wp2
            go_round
            case rel => exact ⟨k + 1, by go_num, by omega, by omega, HN.out⟩
            case measure => simp [intOf]; omega
      · obtain rfl : k = P.length := by omega
        have HTR := Lib.hid (show treeB P = true from ha)
        clear ha
        go_wp2
        go_loop [4, 5] (fun f i => ∃ k : Nat, i = .int .i64 k ∧ k ≤ P.length ∧ f = .int .i64 (first P k : Nat) ∧ evL P (leavesTo P k) = true) (fun _ i => P.length - (intOf i).toNat)
        case atStart => exact ⟨0, rfl, by omega, rfl, rfl⟩
        case round =>
          obtain ⟨k, rfl, hk, rfl, hev⟩ := hrel
          by_cases hlt : k < P.length
          · have HL := Lib.hid (rleaf_any wb _ P k HPb.out)
            have HEV := Lib.hid hev
            clear hev
            cases hlf : leafB P k
            · have HN := Lib.hid (And.intro (first_skip hlf) (show leavesTo P (k + 1) = leavesTo P k from by rw [leavesTo_succ, hlf]; rfl))
              rw [hlf] at HL
              clear hlf
              go_wp2_with (go_at_call 84; refine HL.out.mono ?_; rintro e w' ⟨rfl, rfl⟩)
              go_round
              case rel => exact ⟨k + 1, by go_num, by omega, by rw [HN.out.1], by rw [HN.out.2]; exact HEV.out⟩
              case measure => simp [intOf]; omega
            · have hst := first_step hlt hlf
              rw [HEV.out, Bool.true_and] at hst
              have HD := Lib.hid (rdeep_any wb _ P k HPb.out)
              rw [hlf] at HL
              have hpos := depL_pos hlt
              obtain ⟨d, hd⟩ : ∃ d, d = depL P k := ⟨_, rfl⟩
              obtain ⟨f, hf⟩ : ∃ f, f = first P k := ⟨_, rfl⟩
              rw [← hd] at HD hst hpos
              rw [← hf] at hst ⊢
              have HST := Lib.hid (And.intro hst (And.intro hd hf))
              have hbd : evL P (leavesTo P (k + 1)) = false → chkT P T = 9 := fun h => chk_even HM.out HTR.out (even_bad (by omega) h)
              have HBD := Lib.hid hbd
              clear hst hd hf hbd hlf
              by_cases f0 : f = 0
              · subst f0
                by_cases g1 : 5 < d
                · have HN := Lib.hid (HBD.out (by rw [HST.out.1.2]; exact decide_eq_false (by omega)))
                  go_wp2_with (first | (go_at_call 84; refine HL.out.mono ?_; rintro e w' ⟨rfl, rfl⟩) | (go_at_call 85; refine HD.out.mono ?_; rintro e w' ⟨rfl, rfl⟩))
                  go_ret
                  exact ⟨ret_int HN.out.symm, HB.out⟩
                · have HF := Lib.hid (show first P (k + 1) = d from by rw [HST.out.1.1]; rfl)
                  have HN := Lib.hid (show evL P (leavesTo P (k + 1)) = true from by rw [HST.out.1.2]; exact decide_eq_true ⟨by rw [HF.out], by omega⟩)
                  go_wp2_with (first | (go_at_call 84; refine HL.out.mono ?_; rintro e w' ⟨rfl, rfl⟩) | (go_at_call 85; refine HD.out.mono ?_; rintro e w' ⟨rfl, rfl⟩))
                  go_round
                  case rel => exact ⟨k + 1, by go_num, by omega, by rw [HF.out], HN.out⟩
                  case measure => simp [intOf]; omega
              · have HF := Lib.hid (show first P (k + 1) = f from by rw [HST.out.1.1, if_neg f0])
                have e0 : (f == 0) = false := by simpa using f0
                have e0' : ((f : Int) == 0) = false := by rw [beq_eq_false_iff_ne]; omega
                by_cases g0 : d = f
                · subst g0
                  by_cases g1 : 5 < d
                  · have HN := Lib.hid (HBD.out (by rw [HST.out.1.2]; exact decide_eq_false (by omega)))
                    go_wp2_with (first | (go_at_call 84; refine HL.out.mono ?_; rintro e w' ⟨rfl, rfl⟩) | (go_at_call 85; refine HD.out.mono ?_; rintro e w' ⟨rfl, rfl⟩))
                    go_ret
                    exact ⟨ret_int HN.out.symm, HB.out⟩
                  · have HN := Lib.hid (show evL P (leavesTo P (k + 1)) = true from by rw [HST.out.1.2]; exact decide_eq_true ⟨by rw [HF.out], by omega⟩)
                    go_wp2_with (first | (go_at_call 84; refine HL.out.mono ?_; rintro e w' ⟨rfl, rfl⟩) | (go_at_call 85; refine HD.out.mono ?_; rintro e w' ⟨rfl, rfl⟩))
                    go_round
                    case rel => exact ⟨k + 1, by go_num, by omega, by rw [HF.out], HN.out⟩
                    case measure => simp [intOf]; omega
                · have HN := Lib.hid (HBD.out (by rw [HST.out.1.2]; exact decide_eq_false (by rw [HF.out]; omega)))
                  have e1 : (d != f) = true := by simpa using g0
                  have e1' : ((d : Int) != (f : Int)) = true := by rw [bne_iff_ne]; omega
                  go_wp2_with (first | (go_at_call 84; refine HL.out.mono ?_; rintro e w' ⟨rfl, rfl⟩) | (go_at_call 85; refine HD.out.mono ?_; rintro e w' ⟨rfl, rfl⟩))
                  go_ret
                  exact ⟨ret_int HN.out.symm, HB.out⟩
          · obtain rfl : k = P.length := by omega
            have HEV := Lib.hid (chk_thr (T := T) HM.out HTR.out hev)
            have HT0 := Lib.hid (rdl_int HTb.out (by omega))
            obtain ⟨bt, offt, hAt, hbt, hct⟩ := HT0.out
            subst hAt
            have HCT := Lib.hid hct
            clear hct hev HT0
            go_wp2
            go_loopw [7] (fun i wr => ∃ j : Nat, i = .int .i64 j ∧ j ≤ T.length ∧ (T.take j).all (leafB P) = true ∧ Qt wb wr) (fun i _ => T.length - (intOf i).toNat)
            case atStart => exact ⟨0, rfl, by omega, rfl, Qt.refl _⟩
            case round =>
              obtain ⟨j, rfl, hj, ha, hq⟩ := hrel
              obtain ⟨wq, rfl⟩ : ∃ wq : World, wq = wr := ⟨_, rfl⟩
              have d0 : wq.cell? ⟨w.heap.size, 0, none⟩ = some (.slice (some ⟨b, off, none⟩) P.length cP) := by obtain ⟨n, rfl⟩ := hq; exact c0
              have d1 : wq.cell? ⟨w.heap.size, 1, none⟩ = some (.slice (some ⟨bt, offt, none⟩) T.length cT) := by obtain ⟨n, rfl⟩ := hq; exact c1
              have HQ := Lib.hid hq
              by_cases hlt2 : j < T.length
              · obtain ⟨x, hx⟩ := getElem?_lt hlt2
                have q2 : wq.cell? ⟨bt, offt + j, none⟩ = some (.int .i64 x) := by obtain ⟨n, rfl⟩ := hq; exact HCT.out j x hx
                have HX := Lib.hid (And.intro hx ha)
                have HL := Lib.hid (fun n => (rleaf_any (wq.drewN n) _ P x ((HPb.out.qt HQ.out).drewN n)).mono fun _ _ h => And.intro h.1 h.2.symm)
                clear hx ha hq
                cases hlf : leafB P x
                · have HN := Lib.hid (show chkT P T = 4 from by
                    rw [HEV.out, if_neg]
                    intro h
                    unfold thrB at h
                    rw [List.all_eq_true] at h
                    rw [h x (List.mem_of_getElem? HX.out.1)] at hlf
                    cases hlf)
                  rw [hlf] at HL
                  clear hlf
                  go_wp2_with fail
                  go_quiet ((go_at_call 84; exact Calls.quiet_of_same (HL.out _)))
                  go_wp2
                  go_ret
                  exact ⟨ret_int HN.out.symm, below_drewN (HB.out.trans ((HQ.out.below _).mono HB.out.size)) _⟩
                · have HN := Lib.hid (show (T.take (j + 1)).all (leafB P) = true from by
                    rw [take_succ_of HX.out.1, List.all_append, HX.out.2]; simp [hlf])
                  rw [hlf] at HL
                  clear hlf
                  go_wp2_with fail
                  go_quiet ((go_at_call 84; exact Calls.quiet_of_same (HL.out _)))
                  go_wp2
                  go_roundw
                  case rel => exact ⟨j + 1, by go_num, by omega, HN.out, HQ.out.trans ⟨_, rfl⟩⟩
                  case measure => simp [intOf]; omega
              · obtain rfl : j = T.length := by omega
                rw [List.take_length] at ha
                have HN := Lib.hid (show chkT P T = 0 from by rw [HEV.out, if_pos (show thrB P T = true from ha)])
                clear ha hq
                go_wp2
                go_ret
                exact ⟨ret_int HN.out.symm, HB.out.trans ((HQ.out.below _).mono HB.out.size)⟩
  · have HN := Lib.hid (chk_tree (P := P) HM.out (all_false (k := 0) (by omega) (decide_eq_false (by rw [getD_of HG0.out]; omega))))
    have e1 : (p0 != -1) = true := by simpa using hz
    clear hz
    go_wp2
    go_ret
    exact ⟨ret_int HN.out.symm, HB.out⟩
end Go.Proofs.YtkdaiomjbkpedaaGreat
end
section
/- Layer 29 (hclh): a lock of one's own, call by call; what the law's helpers do. -/
namespace Go.Proofs.YtkdaiomjbkpedaaGreat
open Go.RowKit

theorem HOk.cond {nd n N : Nat} {dl : Int} {node : Nat → Nat} {h : Hc} {G : Nat → List Nat} (k : HOk nd n dl node h N G) (hN : N < 1000000) (hd : dl ≤ 3) : HCond h := by
  refine ⟨by have := k.ops; omega, fun j p hp => ?_⟩
  have hj : j < n := by rw [← k.iv.sl]; exact (List.getElem?_eq_some_iff.1 hp).1
  have e : sv h.S j = p := by unfold sv; rw [List.getD_eq_getElem?_getD, hp]; rfl
  subst e
  have hn := k.iv.n32
  refine ⟨⟨k.iv.d0 j, by have := k.dn j; omega⟩, fun h2 => ?_, fun h5 => ?_⟩
  · have h1 := k.bb j hj h2
    have h3 := k.iv.at234 hj (.inl h2)
    rcases k.iv.mast j (ne_of_head h3) with ⟨h4 | h4, _⟩ | ⟨h4, _⟩ <;> omega
  · rcases k.iv.at5 hj h5 with ⟨q, p, _, hp, ha⟩ | ⟨_, t, d, ht, h1, h2, ha⟩
    · rw [ha]
      have := k.iv.d0 p
      have := k.dn p
      have := k.iv.lt _ _ hp
      unfold tokH; omega
    · rw [ha]
      have := k.dn t
      unfold tokH; omega
def smallB (P T : List Int) (m : Int) : Bool := decide (chkT P T = 0 ∧ (T.length : Int) ≤ m)
set_option maxHeartbeats 1000000 in
theorem smallH (w : World) (vP vT : Value) (P T : List Int) (hP : RdL w vP 1 encI P) (hT : RdL w vT 1 encI T) (m : Int) :
    Calls Tryz.prog 13 #[.agg #[vP, vT], .int .i64 m] w fun e w' => e = .returned (.bool (smallB P T m)) ∧ Below w.heap.size w w' := by
  have HC := Lib.hid (rcheck_any (w.alloc (.cells #[vP, vT] 24)) vP vT P T (hP.alloc _) (hT.alloc _))
  have HB0 := Lib.hid ((Below.refl w.heap.size w).alloc (Nat.le_refl _) (.cells #[vP, vT] 24))
  obtain ⟨AP, cP, rfl, lP1, lP2⟩ := rdl_form hP
  obtain ⟨AT, cT, rfl, lT1, lT2⟩ := rdl_form hT
  have hX : (w.alloc (.cells #[.slice AP P.length cP, .slice AT T.length cT] 24)).cell? ⟨w.heap.size, 1, none⟩ = some (.slice AT T.length cT) := by simp [World.cell?_alloc_new]
  have hbx : w.heap.size < (w.alloc (.cells #[.slice AP P.length cP, .slice AT T.length cT] 24)).heap.size := by simp
  clear hP hT
  by_cases hc : chkT P T = 0
  · have t0 : (chkT P T == 0) = true := by simpa using hc
    have HS : Hid (smallB P T m = decide ((T.length : Int) ≤ m)) := Lib.hid (by unfold smallB; simp [hc])
    clear hc
    go_enter Tryz.func13, Tryz.ntmps13
    go_wp2_with fail
    refine HC.out.mono ?_
    rintro en w1 ⟨rfl, b1⟩
    have f1 := (b1.cell (p := ⟨w.heap.size, 1, none⟩) hbx).trans hX
    have HB1 := Lib.hid (HB0.out.trans (b1.mono HB0.out.size))
    clear b1 hX hbx
    go_wp2
    go_ret
    rw [HS.out]
    exact ⟨rfl, HB1.out⟩
  · have t0 : (chkT P T == 0) = false := by simpa using hc
    have HS : Hid (smallB P T m = false) := Lib.hid (by unfold smallB; simp [hc])
    clear hc hX hbx
    go_enter Tryz.func13, Tryz.ntmps13
    go_wp2_with fail
    refine HC.out.mono ?_
    rintro en w1 ⟨rfl, b1⟩
    have HB1 := Lib.hid (HB0.out.trans (b1.mono HB0.out.size))
    clear b1
    go_wp2
    go_ret
    rw [HS.out]
    exact ⟨rfl, HB1.out⟩
structure HSt (w0 w : World) (l a g q b u lo hi : Nat) (d : Int) (P T : List Int) (h : Hc) (N : Nat) (G : Nat → List Nat) : Prop where
  is : HcIs w l a g q b u lo hi d P T h
  ok : HOk (leavesL P).length T.length d (nodeN P T) h N G
  bel : Below w0.heap.size w0 w
  hl : ∀ x ∈ [l, a, g, q, u], w0.heap.size ≤ x
  d0 : 0 ≤ d ∧ d ≤ 3
section
variable {w0 w w' : World} {l a g q b u lo hi : Nat} {d : Int} {P T : List Int} {h h' : Hc} {N M : Nat} {G G' : Nat → List Nat}
theorem HSt.below (s : HSt w0 w l a g q b u lo hi d P T h N G) (k : Below w.heap.size w w') : HSt w0 w' l a g q b u lo hi d P T h N G :=
  ⟨s.is.below k, s.ok, s.bel.trans (k.mono s.bel.size), s.hl, s.d0⟩
theorem HSt.next (s : HSt w0 w l a g q b u lo hi d P T h N G) (k : Turns [a, g, q, u] w w') (hI : HcIs w' l a g q b u lo hi d P T h') (ho : HOk (leavesL P).length T.length d (nodeN P T) h' M G') : HSt w0 w' l a g q b u lo hi d P T h' M G' :=
  ⟨hI, ho, s.bel.trans (k.below (fun i hm => s.hl i (List.mem_cons_of_mem _ hm)) s.bel.size), s.hl, s.d0⟩
def actV2 (k i : Int) : Value := .agg #[.int .i64 k, .int .i64 i]
set_option maxHeartbeats 1000000 in
theorem doHl (s : HcIs w l a g q b u lo hi d P T h) (C : HCond h) (k i : Int) :
    Calls Tryz.prog 15 #[.pointer (some ⟨l, 0, none⟩), actV2 k i] w (HOp w l a g q b u lo hi d P T (actH (leavesL P).length T.length d (nodeN P T) h k i)) := by
  have hb : Below w.heap.size w (w.alloc (.cells #[.int .i64 k, .int .i64 i] 33)) := (Below.refl _ _).alloc (Nat.le_refl _) _
  have HW := Lib.hid (And.intro (s.below hb) hb)
  have HC := Lib.hid C
  clear s hb C
  unfold actV2
  obtain ⟨x, hx⟩ : ∃ x, x = actH (leavesL P).length T.length d (nodeN P T) h k i := ⟨_, rfl⟩
  rw [← hx]
  by_cases k0 : k = 0
  · have e : x = stepH (leavesL P).length T.length d (nodeN P T) h i := by rw [hx]; unfold actH; rw [if_pos k0]
    have HX := Lib.hid e
    clear e hx
    subst k0
    go_enter Tryz.func15, Tryz.ntmps15
    go_wp2_with fail
    refine (stepHl HW.out.1 i HC.out).mono ?_
    rw [← HX.out]
    rintro en w1 ⟨rfl, h1, t1⟩
    have H1 := Lib.hid (And.intro h1 ((Turns.of_below (S := [a, g, q, u]) HW.out.2).trans t1))
    clear h1 t1 HX
    obtain ⟨r', bb⟩ := x
    go_wp2
    go_ret
    exact ⟨rfl, H1.out.1, H1.out.2⟩
  · by_cases k1 : k = 1
    · have e : x = beginH h i 0 1 := by rw [hx]; unfold actH; rw [if_neg k0, if_pos k1]
      have HX := Lib.hid e
      clear e hx
      subst k1
      clear k0
      go_enter Tryz.func15, Tryz.ntmps15
      go_wp2_with fail
      refine (askHc HW.out.1 i).mono ?_
      rw [← HX.out]
      rintro en w1 ⟨rfl, h1, t1⟩
      have H1 := Lib.hid (And.intro h1 ((Turns.of_below (S := [a, g, q, u]) HW.out.2).trans t1))
      clear h1 t1 HX
      obtain ⟨r', bb⟩ := x
      go_wp2
      go_ret
      exact ⟨rfl, H1.out.1, H1.out.2⟩
    · by_cases k2 : k = 2
      · have e : x = beginH h i 10 11 := by rw [hx]; unfold actH; rw [if_neg k0, if_neg k1, if_pos k2]
        have HX := Lib.hid e
        clear e hx
        subst k2
        clear k0 k1
        go_enter Tryz.func15, Tryz.ntmps15
        go_wp2_with fail
        refine (leaveHc HW.out.1 i).mono ?_
        rw [← HX.out]
        rintro en w1 ⟨rfl, h1, t1⟩
        have H1 := Lib.hid (And.intro h1 ((Turns.of_below (S := [a, g, q, u]) HW.out.2).trans t1))
        clear h1 t1 HX
        obtain ⟨r', bb⟩ := x
        go_wp2
        go_ret
        exact ⟨rfl, H1.out.1, H1.out.2⟩
      · have e : x = (h, false) := by rw [hx]; unfold actH; rw [if_neg k0, if_neg k1, if_neg k2]
        have u0 : (k == 0) = false := by simpa using k0
        have u1 : (k == 1) = false := by simpa using k1
        have u2 : (k == 2) = false := by simpa using k2
        clear k0 k1 k2 hx
        subst e
        go_enter Tryz.func15, Tryz.ntmps15
        go_wp2
        go_ret
        exact ⟨rfl, HW.out.1, Turns.of_below HW.out.2⟩
/-- an act of a lock of one's own -/
theorem doSt (s : HSt w0 w l a g q b u lo hi d P T h N G) (hN : N < 1000000) (k i : Int) :
    Calls Tryz.prog 15 #[.pointer (some ⟨l, 0, none⟩), actV2 k i] w fun e w' => ∃ c h' G', h' = (actH (leavesL P).length T.length d (nodeN P T) h k i).1 ∧ e = .returned (.bool c) ∧ HSt w0 w' l a g q b u lo hi d P T h' (N + 1) G' ∧ ActR T.length (nodeN P T) h.S h'.S i (G 0) (G' 0) ∧ h'.ar.ops ≤ h.ar.ops + 1 ∧ (k ≠ 0 → h'.ar.ops = h.ar.ops) := by
  refine (doHl s.is (s.ok.cond hN s.d0.2) k i).mono ?_
  rintro e w' ⟨he, hi, t⟩
  obtain ⟨G', ho, hr, h1, h2⟩ := s.ok.act hN k i
  exact ⟨_, _, G', rfl, he, s.next t hi ho, hr, h1, h2⟩
end
/-- a topology that may not be, or has too many threads -/
def SmNo (w : World) (vP vT : Value) (m : Int) : Prop := ∀ W, Below w.heap.size w W → Calls Tryz.prog 13 #[.agg #[vP, vT], .int .i64 m] W fun e w' => e = .returned (.bool false) ∧ Below W.heap.size W w'
theorem SmNo.of {w : World} {vP vT : Value} {P T : List Int} {m : Int} (hP : RdL w vP 1 encI P) (hT : RdL w vT 1 encI T) (hs : smallB P T m = false) : SmNo w vP vT m := fun W b => by
  have := smallH W vP vT P T (hP.below b (Nat.le_refl _)) (hT.below b (Nat.le_refl _)) m
  rw [hs] at this
  exact this
theorem SmNo.below {w w' : World} {vP vT : Value} {m : Int} (h : SmNo w vP vT m) (b : Below w.heap.size w w') : SmNo w' vP vT m := fun W k => h W (b.trans (k.mono b.size))
set_option maxRecDepth 100000 in
theorem rcheck_raw (w : World) (AP AT : Option Addr) (nP cP nT cT : Nat) (h : 32 < nP ∨ 32 < nT) (h1 : nP ≤ 9223372036854775807) (h2 : nT ≤ 9223372036854775807) :
    Calls Tryz.prog 45 #[.agg #[.slice AP nP cP, .slice AT nT cT]] w fun e w' => e = .returned (.int .i64 8) ∧ Below w.heap.size w w' := by
  have HB := Lib.hid ((Below.refl w.heap.size w).alloc (Nat.le_refl _) (.cells #[.slice AP nP cP, .slice AT nT cT] 24))
  have c0 : (w.alloc (.cells #[.slice AP nP cP, .slice AT nT cT] 24)).cell? ⟨w.heap.size, 0, none⟩ = some (.slice AP nP cP) := by simp [World.cell?_alloc_new]
  have c1 : (w.alloc (.cells #[.slice AP nP cP, .slice AT nT cT] 24)).cell? ⟨w.heap.size, 1, none⟩ = some (.slice AT nT cT) := by simp [World.cell?_alloc_new]
  go_enter Tryz.func45, Tryz.ntmps45
  go_upto_region 1 with fail
  generalize (w.alloc (.cells #[.slice AP nP cP, .slice AT nT cT] 24)) = wb at *
  by_cases a1 : nP < 1
  · go_wp2
    go_ret
    exact ⟨rfl, HB.out⟩
  by_cases a2 : 32 < nP
  · go_wp2
    go_ret
    exact ⟨rfl, HB.out⟩
  have a4 : 32 < nT := by omega
  have a3 : ¬ nT < 1 := by omega
  clear h
  go_wp2
  go_ret
  exact ⟨rfl, HB.out⟩
theorem SmNo.raw (w : World) (AP AT : Option Addr) (nP cP nT cT : Nat) (m : Int) (h : 32 < nP ∨ 32 < nT) (h1 : nP ≤ 9223372036854775807) (h2 : nT ≤ 9223372036854775807) : SmNo w (.slice AP nP cP) (.slice AT nT cT) m := fun W _ => by
  have HC := Lib.hid (fun w => rcheck_raw w AP AT nP cP nT cT h h1 h2)
  have HB0 := Lib.hid ((Below.refl W.heap.size W).alloc (Nat.le_refl _) (.cells #[.slice AP nP cP, .slice AT nT cT] 24))
  clear h h1 h2
  go_enter Tryz.func13, Tryz.ntmps13
  go_wp2_with fail
  refine (HC.out _).mono ?_
  rintro en w1 ⟨rfl, b1⟩
  have HB1 := Lib.hid (HB0.out.trans (b1.mono HB0.out.size))
  clear b1
  go_wp2
  go_ret
  exact ⟨rfl, HB1.out⟩
theorem madeNo (w : World) (vP vT : Value) (n0 : Nat) (hs : SmNo w vP vT 8) :
    Calls Tryz.prog 12 #[.agg #[vP, vT], .int .u8 n0] w fun e w' => e = .returned (.tuple #[.pointer none, .pointer none, .bool false]) ∧ Below w.heap.size w w' := by
  have HB0 := Lib.hid ((Below.refl w.heap.size w).alloc (Nat.le_refl _) (.cells #[vP, vT] 24))
  have H := Lib.hid (hs _ HB0.out)
  clear hs
  go_enter Tryz.func12, Tryz.ntmps12
  go_wp2_with fail
  refine H.out.mono ?_
  rintro en w1 ⟨rfl, b1⟩
  have HB1 := Lib.hid (HB0.out.trans (b1.mono HB0.out.size))
  clear b1
  go_wp2
  go_ret3
  exact ⟨rfl, HB1.out⟩
set_option maxRecDepth 100000 in
set_option maxHeartbeats 1000000 in
theorem madeYes (w : World) (vP vT : Value) (P T : List Int) (hP : RdL w vP 1 encI P) (hT : RdL w vT 1 encI T) (n0 : Nat) (hn0 : n0 < 256) (hs : smallB P T 8 = true) :
    Calls Tryz.prog 12 #[.agg #[vP, vT], .int .u8 n0] w fun e w' => ∃ l a g q b u lo hi d h G, e = .returned (.tuple #[.pointer (some ⟨a, 0, none⟩), .pointer (some ⟨l, 0, none⟩), .bool true]) ∧ HSt w w' l a g q b u lo hi d P T h 0 G ∧ h.S = List.replicate T.length Sp.zero ∧ G = fun _ => [] := by
  have hck : chkT P T = 0 ∧ (T.length : Int) ≤ 8 := of_decide_eq_true hs
  have HS := smallH (w.alloc (.cells #[vP, vT] 24)) vP vT P T (hP.alloc _) (hT.alloc _) 8
  rw [hs] at HS
  have H := Lib.hid HS
  have HB0 := Lib.hid ((Below.refl w.heap.size w).alloc (Nat.le_refl _) (.cells #[vP, vT] 24))
  have HRD := Lib.hid (And.intro hP hT)
  have hX : (w.alloc (.cells #[vP, vT] 24)).cell? ⟨w.heap.size, 0, none⟩ = some vP ∧ (w.alloc (.cells #[vP, vT] 24)).cell? ⟨w.heap.size, 1, none⟩ = some vT := by simp [World.cell?_alloc_new]
  have HX := Lib.hid hX
  have hbx : w.heap.size < (w.alloc (.cells #[vP, vT] 24)).heap.size := by simp
  have hq0 : (0 : Int) ≤ (n0 : Int) % 4 ∧ (n0 : Int) % 4 < 4 := by omega
  have HCK := Lib.hid hck
  clear HS hs hP hT hX hck
  go_enter Tryz.func12, Tryz.ntmps12
  go_wp2_with fail
  refine H.out.mono ?_
  rintro en w1 ⟨rfl, b1⟩
  have HB1 := Lib.hid (And.intro (HB0.out.trans (b1.mono HB0.out.size)) b1)
  clear b1
  go_wp2_with fail
  refine (newA_any _ 4096).mono ?_
  rintro en w2 ⟨a, g, rfl, hA, ha, hg, hb⟩
  have f0 : w2.cell? ⟨w.heap.size, 0, none⟩ = some vP := (hb.cell (p := ⟨w.heap.size, 0, none⟩) (Nat.lt_of_lt_of_le hbx HB1.out.2.size)).trans ((HB1.out.2.cell (p := ⟨w.heap.size, 0, none⟩) hbx).trans HX.out.1)
  have f1 : w2.cell? ⟨w.heap.size, 1, none⟩ = some vT := (hb.cell (p := ⟨w.heap.size, 1, none⟩) (Nat.lt_of_lt_of_le hbx HB1.out.2.size)).trans ((HB1.out.2.cell (p := ⟨w.heap.size, 1, none⟩) hbx).trans HX.out.2)
  have HA := Lib.hid (And.intro hA (And.intro ha (And.intro hg (HB1.out.1.trans (hb.mono HB1.out.1.size)))))
  clear hA ha hg hb
  go_wp2_with fail
  have B2 := HA.out.2.2.2
  refine (newHc HA.out.1 rfl HA.out.1.ne vP vT P T (HRD.out.1.below B2 (Nat.le_refl _)) (HRD.out.2.below B2 (Nat.le_refl _)) HCK.out.1 ((n0 : Int) % 4) (by omega) (by omega) rfl).mono ?_
  rintro en w3 ⟨l, q, b, u, lo, hi, rfl, k3, hl, hq, hbb, hu, t3⟩
  have HK := Lib.hid (And.intro k3 (And.intro hl (And.intro hq (And.intro hu t3))))
  clear B2 k3 hl hq hbb hu t3 f0 f1
  go_wp2
  go_ret3
  have s1 := HB1.out.1.size
  have s2 := HA.out.2.2.2.size
  have s3 := HK.out.2.1
  have s4 := HK.out.2.2.1
  have s5 := HK.out.2.2.2.1
  have s6 := HA.out.2.1
  have s7 := HA.out.2.2.1
  have hlT := HCK.out.2
  refine ⟨l, a, g, q, b, u, lo, hi, _, _, _, rfl, ⟨HK.out.1, ?_, ?_, ?_, ?_⟩, rfl, rfl⟩
  · exact HOk.start _ (by omega) (fun t ht => (nodeN_at HK.out.1 ht).2) rfl rfl
  · exact HA.out.2.2.2.trans (HK.out.2.2.2.2.below (by simp; omega) s2)
  · simp; omega
  · omega
end Go.Proofs.YtkdaiomjbkpedaaGreat
end
section
/- Layer 27 (hmcs): a lock of one's own, call by call; what the law's helper does. -/
namespace Go.Proofs.YtkdaiomjbkpedaaGreat
open Go.RowKit

structure HmSt (w0 w : World) (B : Nat → Prop) (x : Hx) (T : HTr) (bud : Int) (s : Ar) (m : Hm) (N : Nat) : Prop where
  is : HmIs B w x T bud s m
  iv : ∃ Q O, HInv T bud m Q O
  bel : Below w0.heap.size w0 w
  hl : ∀ i ∈ mvL x T, w0.heap.size ≤ i
  b0 : 0 ≤ bud ∧ bud ≤ 3
  op : s.ops ≤ N
def actHm (T : HTr) (bud : Int) (m : Hm) (k i : Int) : Hm := if k = 0 then stepI T bud m i else if k = 1 then askI T m i else if k = 2 then leaveI T bud m i else m
section
variable {w0 w w' : World} {B : Nat → Prop} {x : Hx} {T : HTr} {bud : Int} {s s' : Ar} {m m' : Hm} {N M : Nat} {Q : Nat → List Nat} {O : Nat → Nat → Option Nat}
theorem HInv.act (h : HInv T bud m Q O) (hT : T.Ok) (hb : 0 ≤ bud) (k i : Int) : ∃ Q' O', HInv T bud (actHm T bud m k i) Q' O' := by
  have hi : ∀ j, okI m.S j → j.toNat < T.n := fun j hj => by
    have := (h.x 0).sl
    obtain ⟨h0, h1⟩ := hj
    omega
  unfold actHm
  split
  · unfold stepI
    split
    · rename_i hok
      exact h.step hT hb (hi _ hok)
    · exact ⟨Q, O, h⟩
  · split
    · unfold askI
      split
      · rename_i hok
        obtain ⟨O', h'⟩ := h.ask hT (hi _ hok)
        exact ⟨Q, O', h'⟩
      · exact ⟨Q, O, h⟩
    · split
      · unfold leaveI
        split
        · rename_i hok
          exact ⟨Q, O, h.leave hT (hi _ hok)⟩
        · exact ⟨Q, O, h⟩
      · exact ⟨Q, O, h⟩
theorem HmSt.below (h : HmSt w0 w B x T bud s m N) (k : Below w.heap.size w w') : HmSt w0 w' B x T bud s m N := ⟨h.is.below k, h.iv, h.bel.trans (k.mono h.bel.size), h.hl, h.b0, h.op⟩
theorem HmSt.next (h : HmSt w0 w B x T bud s m N) (k : Turns (mvL x T) w w') (hI : HmIs B w' x T bud s' m') (hv : ∃ Q O, HInv T bud m' Q O) (ho : s'.ops ≤ M) : HmSt w0 w' B x T bud s' m' M := ⟨hI, hv, h.bel.trans (k.below h.hl h.bel.size), h.hl, h.b0, ho⟩
set_option maxHeartbeats 1000000 in
theorem doHm (h : HmSt w0 w B x T bud s m N) (hT : T.Ok) (hN : N < 1000000) (k i : Int) :
    Calls Tryz.prog 27 #[.pointer (some ⟨x.l, 0, none⟩), actV2 k i] w fun e w' => ∃ r s', e = .returned (.bool r) ∧ HmSt w0 w' B x T bud s' (actHm T bud m k i) (N + 1) ∧ s'.ops ≤ s.ops + 1 ∧ (k ≠ 0 → s'.ops = s.ops) := by
  obtain ⟨Q, O, hI⟩ := h.iv
  have hop := h.op
  have hb : 0 ≤ bud ∧ bud ≤ 1000 := by have := h.b0; omega
  have hact := hI.act hT h.b0.1 k i
  have hd : Below w.heap.size w (w.alloc (.cells #[.int .i64 k, .int .i64 i] 33)) := (Below.refl _ _).alloc (Nat.le_refl _) _
  have HW := Lib.hid (h.below hd)
  have fin : ∀ (W : World) (r : Bool) (s' : Ar), HmIs B W x T bud s' (actHm T bud m k i) → Turns (mvL x T) (w.alloc (.cells #[.int .i64 k, .int .i64 i] 33)) W → s'.ops ≤ s.ops + 1 → (k ≠ 0 → s'.ops = s.ops) → ∃ r' s', (Ending.returned (.bool r)) = .returned (.bool r') ∧ HmSt w0 W B x T bud s' (actHm T bud m k i) (N + 1) ∧ s'.ops ≤ s.ops + 1 ∧ (k ≠ 0 → s'.ops = s.ops) := fun W r s' h1 h2 h3 h4 =>
    ⟨r, s', rfl, HW.out.next h2 h1 hact (by omega), h3, h4⟩
  have HF := Lib.hid fin
  clear fin h hd
  unfold actV2
  by_cases k0 : k = 0
  · have e : actHm T bud m k i = stepI T bud m i := by unfold actHm; rw [if_pos k0]
    rw [e] at HF
    rw [e]
    clear e hact
    subst k0
    go_enter Tryz.func27, Tryz.ntmps27
    go_wp2_with fail
    refine (stepHw HW.out.is hT hI hb (by omega) i).mono ?_
    rintro en w1 ⟨b, s', rfl, h1, h2, h3⟩
    have H1 := Lib.hid (HF.out w1 b s' h1 h3 h2 (fun h => absurd rfl h))
    clear h1 h2 h3
    go_wp2
    go_ret
    exact H1.out
  · by_cases k1 : k = 1
    · have e : actHm T bud m k i = askI T m i := by unfold actHm; rw [if_neg k0, if_pos k1]
      rw [e] at HF
      rw [e]
      clear e hact k0
      subst k1
      go_enter Tryz.func27, Tryz.ntmps27
      go_wp2_with fail
      refine (askHw HW.out.is hT i).mono ?_
      rintro en w1 ⟨rfl, h1, h3⟩
      obtain ⟨b, hbb⟩ : ∃ b, b = decide (okI m.S i ∧ (getS m.S i).pc = 0) := ⟨_, rfl⟩
      rw [← hbb]
      clear hbb
      have H1 := Lib.hid (HF.out w1 b s h1 h3 (by omega) (fun _ => rfl))
      clear h1 h3
      go_wp2
      go_ret
      exact H1.out
    · by_cases k2 : k = 2
      · have e : actHm T bud m k i = leaveI T bud m i := by unfold actHm; rw [if_neg k0, if_neg k1, if_pos k2]
        rw [e] at HF
        rw [e]
        clear e hact k0 k1
        subst k2
        go_enter Tryz.func27, Tryz.ntmps27
        go_wp2_with fail
        refine (leaveHw HW.out.is hT hI hb i).mono ?_
        rintro en w1 ⟨b, rfl, h1, h3⟩
        have H1 := Lib.hid (HF.out w1 b s h1 h3 (by omega) (fun _ => rfl))
        clear h1 h3
        go_wp2
        go_ret
        exact H1.out
      · have e : actHm T bud m k i = m := by unfold actHm; rw [if_neg k0, if_neg k1, if_neg k2]
        rw [e] at HF
        rw [e]
        have u0 : (k == 0) = false := by simpa using k0
        have u1 : (k == 1) = false := by simpa using k1
        have u2 : (k == 2) = false := by simpa using k2
        clear k0 k1 k2 hact e
        go_enter Tryz.func27, Tryz.ntmps27
        go_wp2
        go_ret
        exact HF.out _ false s HW.out.is (Turns.refl _ _) (by omega) (fun _ => rfl)
end
end Go.Proofs.YtkdaiomjbkpedaaGreat
end
section
/- Layer 27 (hmcs): the places below a place. -/
namespace Go.Proofs.YtkdaiomjbkpedaaGreat
open Go.RowKit

set_option maxRecDepth 100000 in
set_option maxHeartbeats 1000000 in
theorem belowHw (w : World) (vP vT : Value) (P : List Int) (h : RdL w vP 1 encI P) (h32 : P.length ≤ 1000) (p : Int) :
    Calls Tryz.prog 103 #[.agg #[vP, vT], .int .i64 p] w fun e w' => ∃ v', e = .returned v' ∧ w'.ownsRow w.heap.size 3 1 v' (chL P p).length ((chL P p).flatMap encI) ∧ Below w.heap.size w w' := by
  obtain ⟨i0, hi, hz0, hz1, hz2⟩ := info_parts Tryz.infoIn
  have HI := Lib.hid (And.intro hi (And.intro hz0 (And.intro hz1 hz2)))
  have hR := h.alloc (.cells #[vP, vT] 24)
  obtain ⟨A, cap, rfl, l1, l2, hr⟩ := hR
  have HR := Lib.hid hr
  have hs0 : (w.alloc (.cells #[.slice A P.length cap, vT] 24)).heap.size = w.heap.size + 1 := by simp
  have HB := Lib.hid ((Below.refl w.heap.size w).alloc (Nat.le_refl _) (.cells #[.slice A P.length cap, vT] 24))
  have b0 : (w.alloc (.cells #[.slice A P.length cap, vT] 24)).cell? ⟨w.heap.size, 0, none⟩ = some (.slice A P.length cap) := by simp [World.cell?_alloc_new]
  obtain ⟨w1, hw1⟩ : ∃ w1, w1 = w.alloc (.cells #[.slice A P.length cap, vT] 24) := ⟨_, rfl⟩
  clear hi hz0 hz1 hz2 h hr
  go_enter Tryz.func103, Tryz.ntmps103
  rw [← hw1] at HR HB b0 hs0
  have HZ := Lib.hid hs0
  clear hs0
  go_wp2
  rw [← hw1]
  clear hw1
  go_loopw [5, 11] (fun o i wr => ∃ k : Nat, i = .int .i64 k ∧ k ≤ P.length ∧ wr.ownsRow w1.heap.size 3 1 o (chTo P p k).length ((chTo P p k).flatMap encI) ∧ Below w1.heap.size w1 wr) (fun _ i _ => P.length - (intOf i).toNat)
  case atStart => exact ⟨0, rfl, by omega, World.ownsRow_nil _ _ _ _, Below.refl _ _⟩
  case round =>
    obtain ⟨k, rfl, hk, hown, hbel⟩ := hrel
    by_cases hlt : k < P.length
    · obtain ⟨q, hq⟩ := getElem?_lt hlt
      obtain ⟨bl, off, rfl, hbl, hc⟩ := HR.out (by omega)
      have c0 := (hbel.cell (p := ⟨bl, off + k * 1 + 0, none⟩) hbl).trans (hc k _ hq 0 _ rfl)
      simp only [Nat.add_zero, Nat.mul_one] at c0
      have hll := chTo_len P p k
      have hsz := hbel.size
      have HS := Lib.hid (chTo_succ P p hq)
      have HO := Lib.hid (And.intro hown hbel)
      obtain ⟨A9, c9, rfl⟩ := own_form hown
      clear hc hbel
      cases hm : (q == p)
      · have HM : Hid (¬ q = p) := Lib.hid (by simpa using hm)
        clear hown
        go_wp2
        go_roundw
        case rel => exact ⟨k + 1, by go_num, by omega, by rw [HS.out, if_neg HM.out]; exact HO.out.1, HO.out.2⟩
        case measure => simp [intOf]; omega
      · have HM : Hid (q = p) := Lib.hid (by simpa using hm)
        go_wp2_with (at_builtin; refine wpList_append_own _ rfl _ _ 22 rfl w1.heap.size 3 i0 (.int .i64 0) 1 8 Tryz.underlying22 HI.out.1 HI.out.2.1 HI.out.2.2.1 HI.out.2.2.2 rfl (by decide) _ _ _ rfl (hown.alloc _) ⟨wr.heap.size, 0, none⟩ 1 1 (encI k) rfl rfl (cell_one_new _ _ _) (one_enc _) ?c3 ?c4 ?c5 ?_)
        case c3 => unfold maxLen; omega
        case c4 => omega
        case c5 => simp; omega
        intro v' w' hown' hgrow hnil
        have HN := Lib.hid (And.intro hown' hgrow)
        clear hown' hgrow hnil hown
        go_wp2
        go_roundw
        case rel => exact ⟨k + 1, by go_num, by omega, by rw [HS.out, if_pos HM.out, flat_snoc, List.length_append]; exact HN.out.1, (HO.out.2.alloc hsz _).grown HN.out.2 (by simp; omega) (fun j hj => (HO.out.1.lt j hj).1)⟩
        case measure => simp [intOf]; omega
    · obtain rfl : k = P.length := by omega
      have HO := Lib.hid (And.intro hown hbel)
      clear hown hbel
      go_wp2
      go_ret
      exact ⟨_, rfl, own_lower HO.out.1 (by have := HZ.out; omega), HB.out.trans (HO.out.2.mono (by have := HZ.out; omega))⟩
end Go.Proofs.YtkdaiomjbkpedaaGreat
end
section
/- path: the table's rows in blocks that a predicate tells (written by wip/gen_pac.py). -/
namespace Go.Proofs.YtkdaiomjbkpedaaGreat
open Go.RowKit

structure Tab0Q (B : Nat → Prop) (w : World) (b : Nat) (P T : List Int) : Prop where
  low : B b
  ex : ∃ AP cP AT cT, Blk w b 140 #[.slice AP P.length cP, .slice AT T.length cT, .int .u32 0, .int .i32 0, .int .u32 0, .slice none 0 0, .slice none 0 0, .slice none 0 0, .slice none 0 0] ∧ RdL w (.slice AP P.length cP) 1 encI P ∧ RdL w (.slice AT T.length cT) 1 encI T ∧ (∀ g, (Value.slice AP P.length cP).ownBlock = some g → g ≠ b) ∧ (∀ g, (Value.slice AT T.length cT).ownBlock = some g → g ≠ b) ∧
    (∀ g, (Value.slice AP P.length cP).ownBlock = some g → B g) ∧ (∀ g, (Value.slice AT T.length cT).ownBlock = some g → B g)
theorem rd_block {α : Type} {w : World} {v : Value} {sz : Nat} {enc : α → List Value} {l : List α} (h : RdL w v sz enc l) (hl : 0 < l.length) {g : Nat} (hg : v.ownBlock = some g) : g < w.heap.size := by
  obtain ⟨A, cap, rfl, _, _, h4⟩ := h
  obtain ⟨b, off, rfl, hb, _⟩ := h4 hl
  injection hg with hg
  subst hg
  exact hb
/-- right behind New -/
theorem Tab0L.q {lo : Nat} {w : World} {b : Nat} {P T : List Int} (hc : chkT P T = 0) (h : Tab0L lo w b P T) : Tab0Q (fun i => lo ≤ i ∧ i < w.heap.size) w b P T := by
  have hml := many_lt (chk_ok hc).1
  obtain ⟨AP, cP, AT, cT, h1, h2, h3, h4, h5, h6, h7⟩ := h.ex
  exact ⟨⟨h.low, h1.lt⟩, AP, cP, AT, cT, h1, h2, h3, h4, h5, fun g hg => ⟨h6 g hg, rd_block h2 (by omega) hg⟩, fun g hg => ⟨h7 g hg, rd_block h3 (by omega) hg⟩⟩
theorem Tab0Q.turns {B : Nat → Prop} {S : List Nat} {w w' : World} {b : Nat} {P T : List Int} (h : Tab0Q B w b P T) (k : Turns S w w') (hS : ∀ i ∈ S, ¬ B i) : Tab0Q B w' b P T := by
  obtain ⟨AP, cP, AT, cT, h1, h2, h3, h4, h5, h6, h7⟩ := h.ex
  exact ⟨h.low, AP, cP, AT, cT, k.blk h1 (fun hm => hS _ hm h.low), h2.turns k (fun g hg hm => hS g hm (h6 g hg)), h3.turns k (fun g hg hm => hS g hm (h7 g hg)), h4, h5, h6, h7⟩
theorem Tab0Q.tab {B : Nat → Prop} {w : World} {b : Nat} {P T : List Int} (hc : chkT P T = 0) (h : Tab0Q B w b P T) : Tab w b P T := by
  obtain ⟨AP, cP, AT, cT, h1, h2, h3, h4, h5, h6, h7⟩ := h.ex
  exact ⟨hc, .inl ⟨AP, cP, AT, cT, h1, h2, h3, h4, h5⟩⟩
def RdQ (B : Nat → Prop) (w : World) (v : Value) (sz : Nat) {α : Type} (enc : α → List Value) (l : List α) : Prop := RdL w v sz enc l ∧ (0 < l.length → ∀ g, v.ownBlock = some g → B g)
theorem RdQ.keep {B : Nat → Prop} {w w' : World} {v : Value} {sz : Nat} {α : Type} {enc : α → List Value} {l : List α} (h : RdQ B w v sz enc l) (k : ∀ i, B i → i < w.heap.size → w'.heap[i]? = w.heap[i]?) (hs : w.heap.size ≤ w'.heap.size) : RdQ B w' v sz enc l := by
  refine ⟨?_, h.2⟩
  obtain ⟨A, cap, rfl, h2, h3, h4⟩ := h.1
  refine ⟨A, cap, rfl, h2, h3, fun hl => ?_⟩
  obtain ⟨b, off, rfl, hb, hc⟩ := h4 hl
  have hb' := h.2 hl b rfl
  refine ⟨b, off, rfl, by omega, fun i x hx j u hu => ?_⟩
  rw [World.cell?_of_block (w := w) (w' := w') (a := ⟨b, off + i * sz + j, none⟩) (k b hb' hb)]
  exact hc i x hx j u hu
theorem RdQ.of {B : Nat → Prop} {w : World} {v : Value} {sz : Nat} {α : Type} {enc : α → List Value} {l : List α} (h : RdL w v sz enc l) (h2 : ∀ g, v.ownBlock = some g → B g) : RdQ B w v sz enc l := ⟨h, fun _ => h2⟩
structure TabQ (B : Nat → Prop) (w : World) (b : Nat) (P T : List Int) : Prop where
  ok : chkT P T = 0
  low : B b
  ex : ∃ AP cP AT cT vU vN vS vM us, Blk w b 140 (tabC (.slice AP P.length cP) (.slice AT T.length cT) 1 0 vU vN vS vM) ∧ RdQ B w (.slice AP P.length cP) 1 encI P ∧ RdQ B w (.slice AT T.length cT) 1 encI T ∧
    RdQ B w vN 1 encI (nodesTo P T T.length) ∧ RdQ B w vS 1 encI (slotsTo T T.length) ∧ RdQ B w vM 1 encI (matesTo P T T.length) ∧
    RdQ B w vU 1 (fun v => [v]) us ∧ us.length = T.length ∧ ∀ (i : Nat) (x : Int) (v : Value), T[i]? = some x → us[i]? = some v → RdQ B w v 1 encI (upL P x)
theorem TabQ.f {B : Nat → Prop} {w : World} {b : Nat} {P T : List Int} (h : TabQ B w b P T) : TabF w b P T := by
  obtain ⟨AP, cP, AT, cT, vU, vN, vS, vM, us, h1, h2, h3, h4, h5, h6, h7, h8, h9⟩ := h.ex
  exact ⟨h.ok, AP, cP, AT, cT, vU, vN, vS, vM, us, h1, h2.1, h3.1, h4.1, h5.1, h6.1, h7.1, h8, fun i x v a c => (h9 i x v a c).1⟩
theorem TabQ.turns {B : Nat → Prop} {S : List Nat} {w w' : World} {b : Nat} {P T : List Int} (h : TabQ B w b P T) (t : Turns S w w') (hS : ∀ i ∈ S, ¬ B i) : TabQ B w' b P T := by
  have k : ∀ i, B i → i < w.heap.size → w'.heap[i]? = w.heap[i]? := fun i hi hl => t.block i hl fun hm => hS i hm hi
  have hs := t.size
  obtain ⟨AP, cP, AT, cT, vU, vN, vS, vM, us, h1, h2, h3, h4, h5, h6, h7, h8, h9⟩ := h.ex
  exact ⟨h.ok, h.low, AP, cP, AT, cT, vU, vN, vS, vM, us, (k b h.low h1.lt).trans h1, h2.keep k hs, h3.keep k hs, h4.keep k hs, h5.keep k hs, h6.keep k hs, h7.keep k hs, h8, fun i x v a c => (h9 i x v a c).keep k hs⟩
theorem RdQ.mono {B C : Nat → Prop} {w : World} {v : Value} {sz : Nat} {α : Type} {enc : α → List Value} {l : List α} (h : RdQ B w v sz enc l) (k : ∀ i, B i → C i) : RdQ C w v sz enc l := ⟨h.1, fun hl g hg => k g (h.2 hl g hg)⟩
theorem TabQ.mono {B C : Nat → Prop} {w : World} {b : Nat} {P T : List Int} (h : TabQ B w b P T) (k : ∀ i, B i → C i) : TabQ C w b P T := by
  obtain ⟨AP, cP, AT, cT, vU, vN, vS, vM, us, h1, h2, h3, h4, h5, h6, h7, h8, h9⟩ := h.ex
  exact ⟨h.ok, k _ h.low, AP, cP, AT, cT, vU, vN, vS, vM, us, h1, h2.mono k, h3.mono k, h4.mono k, h5.mono k, h6.mono k, h7.mono k, h8, fun i x v a c => (h9 i x v a c).mono k⟩
theorem TabQ.size {B : Nat → Prop} {m n : Nat} {w : World} {b : Nat} {P T : List Int} (h : TabQ (fun i => B i ∨ m ≤ i) w b P T) (e : m = n) : TabQ (fun i => B i ∨ n ≤ i) w b P T := by subst e; exact h
theorem tab_of_findQ {w1 w2 : World} {b : Nat} {AP AT : Option Addr} {cP cT : Nat} {P T : List Int} {vL vU vN vS vM : Value} {us : List ORow} (hc : chkT P T = 0)
    (h : FindIs w1 w2 b (.slice AP P.length cP) (.slice AT T.length cT) P T vL vU vN vS vM us T.length)
    (hP : RdL w1 (.slice AP P.length cP) 1 encI P) (hT : RdL w1 (.slice AT T.length cT) 1 encI T)
    (nP : ∀ g, (Value.slice AP P.length cP).ownBlock = some g → g ≠ b) (nT : ∀ g, (Value.slice AT T.length cT).ownBlock = some g → g ≠ b) {B : Nat → Prop} (hlo : B b) (lP : ∀ g, (Value.slice AP P.length cP).ownBlock = some g → B g) (lT : ∀ g, (Value.slice AT T.length cT).ownBlock = some g → B g) :
    TabQ (fun i => B i ∨ w1.heap.size ≤ i) (onceEnd b 2 w2) b P T ∧ Turns [b] w1 (onceEnd b 2 w2) := by
  have hml := many_lt (chk_ok hc).1
  have hll : (leavesL P).length ≤ 32 := by have := leavesTo_len P P.length; show (leavesTo P P.length).length ≤ _; omega
  have k0 : Turns [b] w2 (onceEnd b 2 w2) := ((Turns.refl [b] w2).drew.setCell (.inl (by simp)) _).setCell (.inl (by simp)) _
  have k1 := h.bel.trans k0
  have hr : ∀ r ∈ ([intRow vL (leavesL P), intRow vM (matesTo P T T.length), intRow vN (nodesTo P T T.length), intRow vS (slotsTo T T.length), upRow (us.map (·.v)) vU] ++ us), (onceEnd b 2 w2).ownsRow w1.heap.size r.e 1 r.v r.n r.xs := fun r hr => (h.rows.turn k0).own r hr
  have hrl : ∀ r ∈ ([intRow vL (leavesL P), intRow vM (matesTo P T T.length), intRow vN (nodesTo P T T.length), intRow vS (slotsTo T T.length), upRow (us.map (·.v)) vU] ++ us), ∀ g, r.v.ownBlock = some g → (B g ∨ w1.heap.size ≤ g) := fun r hm g hg => .inr ((hr r hm).lt g hg).1
  refine ⟨⟨hc, .inl hlo, AP, cP, AT, cT, vU, vN, vS, vM, us.map (·.v), ?_, RdQ.of (hP.turns k1 (fun g hg hm => by simp at hm; exact nP g hg hm)) (fun g hg => .inl (lP g hg)), RdQ.of (hT.turns k1 (fun g hg hm => by simp at hm; exact nT g hg hm)) (fun g hg => .inl (lT g hg)), RdQ.of ?_ (hrl (intRow vN (nodesTo P T T.length)) (by simp)), RdQ.of ?_ (hrl (intRow vS (slotsTo T T.length)) (by simp)), RdQ.of ?_ (hrl (intRow vM (matesTo P T T.length)) (by simp)), RdQ.of ?_ (hrl (upRow (us.map (·.v)) vU) (by simp)), by simp [h.len], fun i x v hi hv => ?_⟩, k1⟩
  · exact ((h.blk.drew).set_ 2 (.int .u32 1)).set_ 3 (.int .i32 0)
  · exact own_rdl (hr (intRow vN (nodesTo P T T.length)) (by simp)) (by rw [nodesTo_len (Nat.le_refl _)]; omega)
  · exact own_rdl (hr (intRow vS (slotsTo T T.length)) (by simp)) (by rw [slotsTo_len]; omega)
  · exact own_rdl (hr (intRow vM (matesTo P T T.length)) (by simp)) (by rw [matesTo_len]; omega)
  · have h1 := hr (upRow (us.map (·.v)) vU) (by simp)
    refine RdL.of_own (enc := fun v => [v]) (sz := 1) (fun _ => rfl) rfl (by rw [List.length_map, h.len]; omega) (e := 22) (base := w1.heap.size) ?_
    have e : (us.map (·.v)).flatMap (fun (v : Value) => [v]) = us.map (·.v) := by simp
    rw [e]
    exact h1
  · rw [List.getElem?_map] at hv
    cases hu : us[i]? with
    | none => rw [hu] at hv; cases hv
    | some r =>
      rw [hu] at hv
      injection hv with hv
      subst hv
      have hrr := h.up i x r hi hu
      have ho := hr r (by simp [List.mem_of_getElem? hu])
      rw [hrr] at ho
      refine RdQ.of (own_rdl ho (by have := upL_le P x; omega)) (fun g hg => hrl r (by simp [List.mem_of_getElem? hu]) g ?_)
      rw [hrr]; exact hg
theorem found_firstQ (B : Nat → Prop) (w : World) (b : Nat) (P T : List Int) (hc : chkT P T = 0) (h : Tab0Q B w b P T) :
    Calls Tryz.prog 116 #[.pointer (some ⟨b, 0, none⟩)] w fun e w' => e = .returned (.pointer (some ⟨b, 0, none⟩)) ∧ TabQ (fun i => B i ∨ w.heap.size ≤ i) w' b P T ∧ Turns [b] w w' := by
  have hlo := h.low
  obtain ⟨AP, cP, AT, cT, hB, hP, hT, nP, nT, lP, lT⟩ := h.ex
  have k0 : Turns [b] w (w.setCell ⟨b, 3, none⟩ (.int .i32 1)) := Turns.setCell (Turns.refl [b] w) (.inl (by simp)) _
  have hP1 := hP.turns k0 (fun g hg hm => by simp at hm; exact nP g hg hm)
  have hT1 := hT.turns k0 (fun g hg hm => by simp at hm; exact nT g hg hm)
  have hf := find_any (w.setCell ⟨b, 3, none⟩ (.int .i32 1)) b AP AT cP cT P T hc (hB.set_ 3 (.int .i32 1)) hP1 hT1 nP nT
  have HD := Lib.hid (do_first b 2 (.pointer (some ⟨b, 0, none⟩)) w (fun w2 => TabQ (fun i => B i ∨ w.heap.size ≤ i) (onceEnd b 2 w2) b P T ∧ Turns [b] w (onceEnd b 2 w2)) (hB.cell 2) (hB.cell 3) (hB.free 2) (hB.free 3)
    (hf.mono fun e w2 ⟨he, vL, vU, vN, vS, vM, us, hF⟩ => ⟨he, ⟨hF.blk.cell 2, hF.blk.cell 3, hF.blk.free 2, hF.blk.free 3⟩, (tab_of_findQ hc hF hP1 hT1 nP nT hlo lP lT).1.size (by simp), k0.trans (tab_of_findQ hc hF hP1 hT1 nP nT hlo lP lT).2⟩))
  clear hf hP1 hT1 hB hP hT nP nT lP lT k0 hc h hlo
  go_enter Tryz.func116, Tryz.ntmps116
  go_wp2_with fail
  refine HD.out.mono ?_
  rintro en w' ⟨rfl, w2, hR, hw⟩
  have HR := Lib.hid (show TabQ (fun i => B i ∨ w.heap.size ≤ i) w' b P T ∧ Turns [b] w w' by rw [hw]; exact hR)
  clear hR hw
  go_wp2
  go_ret
  exact ⟨rfl, HR.out⟩
/-- a thread's node, when the table is found by that -/
theorem nodeFst (B : Nat → Prop) (w : World) (b : Nat) (P T : List Int) (hc : chkT P T = 0) (i : Nat) (hi : i < T.length) (h : Tab0Q B w b P T) (x : Int) (hx : (nodesTo P T T.length)[i]? = some x) :
    Calls Tryz.prog 86 #[.pointer (some ⟨b, 0, none⟩), .int .i64 i] w fun e w' => e = .returned (.int .i64 x) ∧ TabQ (fun i => B i ∨ w.heap.size ≤ i) w' b P T ∧ Turns [b] w w' := by
  have HF := Lib.hid (found_firstQ B w b P T hc h)
  have HH := Lib.hid (has_b w b P T i true (decide_eq_true (by omega)) (h.tab hc))
  have HX := Lib.hid hx
  clear h hx
  go_enter Tryz.func86, Tryz.ntmps86
  go_wp2_with fail
  refine HH.out.mono ?_
  rintro en w' ⟨rfl, rfl⟩
  go_wp2_with fail
  refine HF.out.mono ?_
  rintro en w1 ⟨rfl, hF0, t1⟩
  have HTF := Lib.hid (And.intro hF0 t1)
  clear t1
  have hF := hF0.f
  clear hF0
  obtain ⟨AP, cP, AT, cT, vU, vN, vS, vM, us, h1, h2, h3, h4, h5, h6, h7, h8, h9⟩ := hF.ex
  have hl : (nodesTo P T T.length).length = T.length := nodesTo_len (Nat.le_refl _)
  obtain ⟨AM, cM, rfl, _, _⟩ := rdl_form h4
  obtain ⟨b1, o1, hA, _, hc1⟩ := rdl_int h4 (by omega)
  subst hA
  have q1 := hc1 i x HX.out
  have c8 := h1.cell 6
  rw [hl] at *
  simp only [tabC] at c8
  clear hF h1 h2 h3 h4 h5 h6 h7 h8 h9 hc1 hl
  go_wp2
  go_ret
  exact ⟨rfl, HTF.out⟩
end Go.Proofs.YtkdaiomjbkpedaaGreat
end
section
/- path.Table: Node, Slot (written by wip/gen_pa10.py). -/
namespace Go.Proofs.YtkdaiomjbkpedaaGreat
open Go.RowKit

theorem node_any (w : World) (b : Nat) (P T : List Int) (i : Nat) (hi : i < T.length) (h : Tab w b P T) (x : Int) (hx : (nodesTo P T T.length)[i]? = some x) :
    Calls Tryz.prog 86 #[.pointer (some ⟨b, 0, none⟩), .int .i64 i] w fun e w' => e = .returned (.int .i64 x) ∧ TabF w' b P T ∧ Turns [b] w w' := by
  have HF := Lib.hid (found_any w b P T h)
  have HH := Lib.hid (has_b w b P T i true (decide_eq_true (by omega)) h)
  have HX := Lib.hid hx
  clear h hx
  go_enter Tryz.func86, Tryz.ntmps86
  go_wp2_with fail
  refine HH.out.mono ?_
  rintro en w' ⟨rfl, rfl⟩
  go_wp2_with fail
  refine HF.out.mono ?_
  rintro en w' ⟨rfl, hF, hT⟩
  have HTF := Lib.hid (And.intro hF hT)
  obtain ⟨AP, cP, AT, cT, vU, vN, vS, vM, us, h1, h2, h3, h4, h5, h6, h7, h8, h9⟩ := hF.ex
  have hl : (nodesTo P T T.length).length = T.length := nodesTo_len (Nat.le_refl _)
  obtain ⟨AM, cM, rfl, _, _⟩ := rdl_form h4
  obtain ⟨b1, o1, hA, _, hc1⟩ := rdl_int h4 (by omega)
  subst hA
  have q1 := hc1 i x HX.out
  have c8 := h1.cell 6
  rw [hl] at *
  simp only [tabC] at c8
  clear hF hT h1 h2 h3 h4 h5 h6 h7 h8 h9 hc1 hl
  go_wp2
  go_ret
  exact ⟨rfl, HTF.out⟩
theorem node_any_no (w : World) (b : Nat) (P T : List Int) (i : Int) (hi : hasB T i = false) (h : Tab w b P T) :
    Calls Tryz.prog 86 #[.pointer (some ⟨b, 0, none⟩), .int .i64 i] w fun e w' => e = .returned (.int .i64 (-1)) ∧ w = w' := by
  have HH := Lib.hid (has_b w b P T i false hi h)
  clear h hi
  go_enter Tryz.func86, Tryz.ntmps86
  go_wp2_with fail
  refine HH.out.mono ?_
  rintro en w' ⟨rfl, rfl⟩
  go_wp2
  go_ret
  exact ⟨rfl, rfl⟩
theorem slot_any (w : World) (b : Nat) (P T : List Int) (i : Nat) (hi : i < T.length) (h : Tab w b P T) (x : Int) (hx : (slotsTo T T.length)[i]? = some x) :
    Calls Tryz.prog 107 #[.pointer (some ⟨b, 0, none⟩), .int .i64 i] w fun e w' => e = .returned (.int .i64 x) ∧ TabF w' b P T ∧ Turns [b] w w' := by
  have HF := Lib.hid (found_any w b P T h)
  have HH := Lib.hid (has_b w b P T i true (decide_eq_true (by omega)) h)
  have HX := Lib.hid hx
  clear h hx
  go_enter Tryz.func107, Tryz.ntmps107
  go_wp2_with fail
  refine HH.out.mono ?_
  rintro en w' ⟨rfl, rfl⟩
  go_wp2_with fail
  refine HF.out.mono ?_
  rintro en w' ⟨rfl, hF, hT⟩
  have HTF := Lib.hid (And.intro hF hT)
  obtain ⟨AP, cP, AT, cT, vU, vN, vS, vM, us, h1, h2, h3, h4, h5, h6, h7, h8, h9⟩ := hF.ex
  have hl : (slotsTo T T.length).length = T.length := slotsTo_len _ _
  obtain ⟨AM, cM, rfl, _, _⟩ := rdl_form h5
  obtain ⟨b1, o1, hA, _, hc1⟩ := rdl_int h5 (by omega)
  subst hA
  have q1 := hc1 i x HX.out
  have c8 := h1.cell 7
  rw [hl] at *
  simp only [tabC] at c8
  clear hF hT h1 h2 h3 h4 h5 h6 h7 h8 h9 hc1 hl
  go_wp2
  go_ret
  exact ⟨rfl, HTF.out⟩
theorem slot_any_no (w : World) (b : Nat) (P T : List Int) (i : Int) (hi : hasB T i = false) (h : Tab w b P T) :
    Calls Tryz.prog 107 #[.pointer (some ⟨b, 0, none⟩), .int .i64 i] w fun e w' => e = .returned (.int .i64 (-1)) ∧ w = w' := by
  have HH := Lib.hid (has_b w b P T i false hi h)
  clear h hi
  go_enter Tryz.func107, Tryz.ntmps107
  go_wp2_with fail
  refine HH.out.mono ?_
  rintro en w' ⟨rfl, rfl⟩
  go_wp2
  go_ret
  exact ⟨rfl, rfl⟩
end Go.Proofs.YtkdaiomjbkpedaaGreat
end
section
/- Layer 7: what a path answers, in plain. -/
namespace Go.Proofs.YtkdaiomjbkpedaaGreat
open Go.RowKit

def nodeI (P T : List Int) (i : Int) : Int := if hasB T i then idxI (leavesL P) (T.getD i.toNat 0) else -1
def slotI (T : List Int) (i : Int) : Int := if hasB T i then slotOf T i.toNat else -1
def matesI (P T : List Int) (n : Int) : Int := if 0 ≤ n ∧ n < (leavesL P).length then ((T.count ((leavesL P).getD n.toNat 0) : Nat) : Int) else 0
def upI (P T : List Int) (i : Int) : List Int := if hasB T i then upL P (T.getD i.toNat 0) else []
theorem has_nat {T : List Int} {i : Int} (h : hasB T i = true) : ∃ k : Nat, i = k ∧ k < T.length := by
  unfold hasB at h
  have h' := of_decide_eq_true h
  exact ⟨i.toNat, by omega, by omega⟩
end Go.Proofs.YtkdaiomjbkpedaaGreat
end
