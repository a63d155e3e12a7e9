/- Layer 6: the document's Depth; topo.Depth. -/
import Derived.Test.YthgpjiebeinamaaTop9
namespace Go.Proofs.Ythgpjiebeinamaa
open Go.RowKit

set_option maxHeartbeats 2000000 in
theorem rdepth_any (w : World) (vP vT : Value) (P T : List Int) (hP : RdL w vP 1 encI P) (hT : RdL w vT 1 encI T) :
    Calls Try.prog 90 #[.agg #[vP, vT]] w fun e w' => e = .returned (.int .i64 (depT P T)) ∧ Below w.heap.size w w' := by
  have hb0 : Below w.heap.size w (w.alloc (.cells #[vP, vT] 61)) := (Below.refl _ _).alloc (Nat.le_refl _) _
  have HC := Lib.hid (rcheck_any (w.alloc (.cells #[vP, vT] 61)) vP vT P T (hP.alloc _) (hT.alloc _))
  have HPT := Lib.hid (And.intro hP hT)
  have HB0 := Lib.hid hb0
  obtain ⟨AP, cP, rfl, lP1, lP2⟩ := rdl_form hP
  obtain ⟨AT, cT, rfl, lT1, lT2⟩ := rdl_form hT
  clear hP hT hb0
  have hbx : w.heap.size < (w.alloc (.cells #[.slice AP P.length cP, .slice AT T.length cT] 61)).heap.size := by simp
  have HX := Lib.hid (show (w.alloc (.cells #[.slice AP P.length cP, .slice AT T.length cT] 61)).cell? ⟨w.heap.size, 0, none⟩ = some (.slice AP P.length cP) ∧ (w.alloc (.cells #[.slice AP P.length cP, .slice AT T.length cT] 61)).cell? ⟨w.heap.size, 1, none⟩ = some (.slice AT T.length cT) by simp [World.cell?_alloc_new])
  go_enter Try.func90, Try.ntmps90
  by_cases hc : chkT P T = 0
  · obtain ⟨hm, _, _, ht⟩ := chk_ok hc
    have hml := many_lt hm
    obtain ⟨x, hx⟩ := getElem?_lt (show 0 < T.length by omega)
    have HD := Lib.hid (And.intro hx (depT_of hc (thr_mem ht hx)))
    rw [hc] at HC
    clear hc hm ht hx
    go_wp2_with fail
    refine HC.out.mono ?_
    rintro en w1 ⟨rfl, b1⟩
    have x0 := (b1.cell (p := ⟨w.heap.size, 0, none⟩) hbx).trans HX.out.1
    have x1 := (b1.cell (p := ⟨w.heap.size, 1, none⟩) hbx).trans HX.out.2
    have HB1 := Lib.hid (HB0.out.trans (b1.mono HB0.out.size))
    have HP1 := Lib.hid (HPT.out.1.below HB1.out (Nat.le_refl _))
    obtain ⟨bt, offt, hAt, hbt, hct⟩ := rdl_int (HPT.out.2.below HB1.out (Nat.le_refl _)) (by omega)
    subst hAt
    have q0 := hct 0 x HD.out.1
    simp only [Nat.add_zero] at q0
    have HL := Lib.hid (fun n => (rdeep_any (w1.drewN n) _ P x (HP1.out.drewN n)).mono fun _ _ h => And.intro h.1 h.2.symm)
    clear b1 hct
    go_wp2_with fail
    go_quiet ((go_at_call 88; exact Calls.quiet_of_same (HL.out _)))
    go_wp2
    go_ret
    exact ⟨ret_int HD.out.2, below_drewN HB1.out _⟩
  · have HL := Lib.hid (show depT P T = 0 from by unfold depT; rw [if_neg hc])
    obtain ⟨z, hz⟩ : ∃ z, z = chkT P T := ⟨_, rfl⟩
    rw [← hz] at HC hc
    have hz0 : (z != 0) = true := by simpa using hc
    clear hc hz
    go_wp2_with fail
    refine HC.out.mono ?_
    rintro en w1 ⟨rfl, b1⟩
    have HB1 := Lib.hid (HB0.out.trans (b1.mono HB0.out.size))
    clear b1
    go_wp2
    go_ret
    exact ⟨ret_int HL.out.symm, HB1.out⟩
set_option maxRecDepth 100000 in
set_option maxHeartbeats 4000000 in
theorem tdepth_any (w : World) (vP vT : Value) (P T : List Int) (hP : RdL w vP 1 encI P) (hT : RdL w vT 1 encI T) :
    Calls Try.prog 84 #[.agg #[vP, vT]] w fun e w' => e = .returned (.int .i64 (depT P T)) ∧ Below w.heap.size w w' := by
  have hb0 : Below w.heap.size w (w.alloc (.cells #[vP, vT] 61)) := (Below.refl _ _).alloc (Nat.le_refl _) _
  have HC := Lib.hid (check_any (w.alloc (.cells #[vP, vT] 61)) vP vT P T (hP.alloc _) (hT.alloc _))
  have HP := Lib.hid hP
  have HB0 := Lib.hid hb0
  obtain ⟨AP, cP, rfl, lP1, lP2⟩ := rdl_form hP
  obtain ⟨AT, cT, rfl, lT1, lT2⟩ := rdl_form hT
  clear hP hT hb0
  have hbx : w.heap.size < (w.alloc (.cells #[.slice AP P.length cP, .slice AT T.length cT] 61)).heap.size := by simp
  have HX := Lib.hid (show (w.alloc (.cells #[.slice AP P.length cP, .slice AT T.length cT] 61)).cell? ⟨w.heap.size, 0, none⟩ = some (.slice AP P.length cP) by simp [World.cell?_alloc_new])
  go_enter Try.func84, Try.ntmps84
  by_cases hc : chkT P T = 0
  · obtain ⟨hm, htr, _, ht⟩ := chk_ok hc
    have hml := many_lt hm
    obtain ⟨y, l, hyl⟩ := leaves_ne hc
    have hy : (leavesL P)[0]? = some y := by rw [hyl]; rfl
    have hyl := mem_leavesTo (P := P) (k := P.length) (List.mem_of_getElem? hy)
    obtain ⟨y, rfl⟩ := Int.eq_ofNat_of_zero_le hyl.2.1
    have hlv := lev_get (P := P) hyl.2.1 hyl.2.2
    have HD := Lib.hid (And.intro hy (And.intro (depT_of hc (List.mem_of_getElem? hy)) (show (levL P)[y]? = some ((depL P y : Nat) : Int) by simpa using hlv)))
    have HTR := Lib.hid htr
    have hy32 : y < P.length := by have := hyl.2.2; omega
    have hll := leavesTo_len P P.length
    have hl5 : 0 < (leavesL P).length ∧ (leavesL P).length ≤ 32 := ⟨(List.getElem?_eq_some_iff.1 hy).1, by show (leavesTo P P.length).length ≤ _; omega⟩
    have hl6 : (levL P).length = P.length := by simp [levL]
    rw [hc] at HC
    have HL6 := Lib.hid hl6
    have hy6 : y < (levL P).length := by omega
    clear hc hm ht hy hyl hlv htr hl6
    go_wp2_with fail
    refine HC.out.mono ?_
    rintro en w1 ⟨rfl, b1⟩
    have c0 := (b1.cell (p := ⟨w.heap.size, 0, none⟩) hbx).trans HX.out
    have hs1 := b1.size
    simp at hs1
    have HB1 := Lib.hid (HB0.out.trans (b1.mono HB0.out.size))
    have HPb := Lib.hid (HP.out.below HB1.out (Nat.le_refl _))
    have bd : Below w1.heap.size w1 w1.drew := (Below.refl _ _).drew
    clear b1
    go_wp2_with fail
    go_region_with
      (first
        | (go_at_call 74; go_loud (refine (levels_any _ _ P (HPb.out.below (B := w1.heap.size) (by exact bd) (Nat.le_refl _)) HTR.out (by omega)).mono ?_); rintro e w2 ⟨v2, rfl, o2, b2⟩; (have k2 : Below w1.heap.size w1 w2 := bd.trans (b2.mono (by simp))); (have x2 := (k2.cell (p := ⟨w.heap.size, 0, none⟩) (show w.heap.size < w1.heap.size by omega)).trans c0); have O2 := Lib.hid (own_rdl o2 (by rw [HL6.out]; omega)); have hz2 := k2.size; obtain ⟨A2, c2, rfl, t1, t2⟩ := rdl_form (own_rdl o2 (by rw [HL6.out]; omega)); (obtain ⟨bb2, of2, hA2, hb2, hh2⟩ := rdl_int O2.out (by rw [HL6.out]; omega)); subst hA2; have p2 := hh2 y _ HD.out.2.2; clear hh2 o2)
        | (go_at_call 73; go_loud (refine (leaves_any _ _ P (HPb.out.below (B := w1.heap.size) (by exact k2) (Nat.le_refl _)) HTR.out (by omega)).mono ?_); rintro e w3 ⟨v3, rfl, o3, b3⟩; have k3 := k2.trans (b3.mono k2.size); have p3 := (b3.cell (p := ⟨bb2, of2 + y, none⟩) hb2).trans p2; have hc3 := (bcell b3).1; have O3 := Lib.hid (own_rdl o3 (by omega)); obtain ⟨A3, c3, rfl, t3, t4⟩ := rdl_form (own_rdl o3 (by omega)); (obtain ⟨bb3, of3, hA3, hb3, hh3⟩ := rdl_int O3.out (by omega)); subst hA3; have p4 := hh3 0 _ HD.out.1; simp only [Nat.add_zero] at p4; clear hh3 o3))
    all_goals
      have HK := Lib.hid k3
      go_wp2
      go_ret
      exact ⟨ret_int HD.out.2.1, HB1.out.trans (HK.out.mono HB1.out.size)⟩
  · have HL := Lib.hid (show depT P T = 0 from by unfold depT; rw [if_neg hc])
    obtain ⟨z, hz⟩ : ∃ z, z = chkT P T := ⟨_, rfl⟩
    rw [← hz] at HC hc
    have hz0 : (z != 0) = true := by simpa using hc
    clear hc hz
    go_wp2_with fail
    refine HC.out.mono ?_
    rintro en w1 ⟨rfl, b1⟩
    have HB1 := Lib.hid (HB0.out.trans (b1.mono HB0.out.size))
    clear b1
    go_wp2
    go_ret
    exact ⟨ret_int HL.out.symm, HB1.out⟩
end Go.Proofs.Ythgpjiebeinamaa
