/- Layer 44: Cohort, and Each of the flat kinds. -/
import Derived.Test.YthgpjiebeinamaaSp2
import Derived.Test.YthgpjiebeinamaaTop6
namespace Go.Proofs.Ythgpjiebeinamaa
open Go.RowKit

theorem fifo_eq (g l : Int) : fifoB g l = (inI g 1 5 && inI l 1 5 && (g != 1) && (l != 1)) := by
  unfold fifoB inI
  rw [Bool.eq_iff_iff]
  simp only [Bool.and_eq_true, decide_eq_true_eq, bne_iff_ne]
  omega
set_option maxRecDepth 100000 in
theorem fifo_b (w : World) (g l p b : Int) (r : Bool) (hr : fifoB g l = r) : Calls Try.prog 60 #[.agg #[.int .i64 g, .int .i64 l, .int .i64 p, .int .i64 b]] w fun e w' => e = .returned (.bool r) ∧ Below w.heap.size w w' := by
  have hb0 : Below w.heap.size w (w.alloc (.cells #[.int .i64 g, .int .i64 l, .int .i64 p, .int .i64 b] 63)) := (Below.refl _ _).alloc (Nat.le_refl _) _
  have HB := Lib.hid hb0
  clear hb0
  rw [fifo_eq] at hr
  cases k1 : inI g 1 5
  · have HK1 := Lib.hid (fun W => kind_b W g _ k1)
    rw [k1] at hr
    have HE := Lib.hid hr
    clear k1 hr
    go_enter Try.func60, Try.ntmps60
    go_wp2_with (go_at_call 93; refine (HK1.out _).mono ?_; rintro e w' ⟨rfl, rfl⟩)
    go_ret
    exact ⟨ret_bool (by rw [← HE.out]; rfl), HB.out⟩
  · cases k2 : inI l 1 5
    · have HK1 := Lib.hid (fun W => kind_b W g _ k1)
      have HK2 := Lib.hid (fun W => kind_b W l _ k2)
      rw [k1, k2] at hr
      have HE := Lib.hid hr
      clear k1 k2 hr
      go_enter Try.func60, Try.ntmps60
      go_wp2_with fail
      refine (HK1.out _).mono ?_
      rintro e w' ⟨rfl, rfl⟩
      go_wp2_with fail
      refine (HK2.out _).mono ?_
      rintro e w' ⟨rfl, rfl⟩
      go_wp2
      go_ret
      exact ⟨ret_bool (by rw [← HE.out]; rfl), HB.out⟩
    · have HK1 := Lib.hid (fun W => kind_b W g _ k1)
      have HK2 := Lib.hid (fun W => kind_b W l _ k2)
      rw [k1, k2] at hr
      cases e1 : (g != 1)
      · rw [e1] at hr
        have HE := Lib.hid hr
        clear k1 k2 hr
        go_enter Try.func60, Try.ntmps60
        go_wp2_with fail
        refine (HK1.out _).mono ?_
        rintro e w' ⟨rfl, rfl⟩
        go_wp2_with fail
        refine (HK2.out _).mono ?_
        rintro e w' ⟨rfl, rfl⟩
        go_wp2
        go_ret
        exact ⟨ret_bool (by rw [← HE.out]; rfl), HB.out⟩
      · rw [e1] at hr
        have HE := Lib.hid (show (l != 1) = r from by simpa using hr)
        clear k1 k2 hr
        go_enter Try.func60, Try.ntmps60
        go_wp2_with fail
        refine (HK1.out _).mono ?_
        rintro e w' ⟨rfl, rfl⟩
        go_wp2_with fail
        refine (HK2.out _).mono ?_
        rintro e w' ⟨rfl, rfl⟩
        go_wp2
        go_ret
        exact ⟨ret_bool HE.out, HB.out⟩
theorem coh_true {A B stay g l b : Int} (h : cohB A B stay g l b = true) : ∃ a c s d : Nat, A = a ∧ B = c ∧ stay = s ∧ b = d ∧ (1 ≤ a ∧ a ≤ 32) ∧ (1 ≤ c ∧ c ≤ 32) ∧ s ≤ 40000 ∧ d ≤ 1000 ∧ fifoB g l = true := by
  simp only [cohB, decide_eq_true_eq] at h
  exact ⟨A.toNat, B.toNat, stay.toNat, b.toNat, by omega, by omega, by omega, by omega, by omega, by omega, by omega, by omega, by simp only [fifoB, decide_eq_true_eq]; exact h.1⟩
theorem cohI_nat {a c s d : Nat} {g l : Int} (h : cohB a c s g l d = true) : cohI a c s g l d = cohN a c s d := by unfold cohI; rw [if_pos h]; simp
theorem cohI_no {A B stay g l b : Int} (h : cohB A B stay g l b = false) : cohI A B stay g l b = 0 := by unfold cohI; rw [h]; rfl
set_option maxRecDepth 100000 in
set_option maxHeartbeats 4000000 in
theorem coh_any (w : World) (A B stay g l p b : Int) :
    Calls Try.prog 29 #[.int .i64 A, .int .i64 B, .int .i64 stay, .agg #[.int .i64 g, .int .i64 l, .int .i64 p, .int .i64 b]] w fun e w' => e = .returned (.int .i64 (cohI A B stay g l b : Nat)) ∧ Below w.heap.size w w' := by
  have hb0 : Below w.heap.size w (w.alloc (.cells #[.int .i64 g, .int .i64 l, .int .i64 p, .int .i64 b] 63)) := (Below.refl _ _).alloc (Nat.le_refl _) _
  have HB := Lib.hid hb0
  clear hb0
  have HX := Lib.hid (show (w.alloc (.cells #[.int .i64 g, .int .i64 l, .int .i64 p, .int .i64 b] 63)).cell? ⟨w.heap.size, 3, none⟩ = some (.int .i64 b) by simp [World.cell?_alloc_new])
  have hbx : w.heap.size < (w.alloc (.cells #[.int .i64 g, .int .i64 l, .int .i64 p, .int .i64 b] 63)).heap.size := by simp
  cases hc : cohB A B stay g l b
  · have HN := Lib.hid (cohI_no hc)
    have HE : cohB A B stay g l b = (fifoB g l && inI b 0 1000 && inI A 1 32 && inI B 1 32 && inI stay 0 40000) := by
      unfold fifoB inI cohB
      rw [Bool.eq_iff_iff]
      simp only [Bool.and_eq_true, decide_eq_true_eq]
      omega
    rw [HE] at hc
    clear HE
    cases k1 : fifoB g l
    · have H1 := Lib.hid (fun W => fifo_b W g l p b _ k1)
      clear k1 hc
      go_enter Try.func29, Try.ntmps29
      go_wp2_with fail
      refine (H1.out _).mono ?_
      rintro en w1 ⟨rfl, b1⟩
      have HB1 := Lib.hid (HB.out.trans (b1.mono HB.out.size))
      clear b1
      go_wp2
      go_ret
      exact ⟨ret_int (by rw [HN.out]; rfl), HB1.out⟩
    · have H1 := Lib.hid (fun W => fifo_b W g l p b _ k1)
      rw [k1] at hc
      clear k1
      cases k2 : inI b 0 1000
      · have H2 := Lib.hid (fun W => right_b W b _ k2)
        clear k2 hc
        go_enter Try.func29, Try.ntmps29
        go_wp2_with fail
        refine (H1.out _).mono ?_
        rintro en w1 ⟨rfl, b1⟩
        have x1 := (b1.cell (p := ⟨w.heap.size, 3, none⟩) hbx).trans HX.out
        have HB1 := Lib.hid (HB.out.trans (b1.mono HB.out.size))
        clear b1
        go_wp2_with fail
        refine (H2.out _).mono ?_
        rintro en w' ⟨rfl, rfl⟩
        go_wp2
        go_ret
        exact ⟨ret_int (by rw [HN.out]; rfl), HB1.out⟩
      · have H2 := Lib.hid (fun W => right_b W b _ k2)
        rw [k2] at hc
        clear k2
        cases k3 : inI A 1 32
        · have H3 := Lib.hid (fun W => in_b W A 1 32 _ k3)
          clear k3 hc
          go_enter Try.func29, Try.ntmps29
          go_wp2_with fail
          refine (H1.out _).mono ?_
          rintro en w1 ⟨rfl, b1⟩
          have x1 := (b1.cell (p := ⟨w.heap.size, 3, none⟩) hbx).trans HX.out
          have HB1 := Lib.hid (HB.out.trans (b1.mono HB.out.size))
          clear b1
          go_wp2_with fail
          refine (H2.out _).mono ?_
          rintro en w' ⟨rfl, rfl⟩
          go_wp2_with fail
          refine (H3.out _).mono ?_
          rintro en w' ⟨rfl, rfl⟩
          go_wp2
          go_ret
          exact ⟨ret_int (by rw [HN.out]; rfl), HB1.out⟩
        · have H3 := Lib.hid (fun W => in_b W A 1 32 _ k3)
          rw [k3] at hc
          clear k3
          cases k4 : inI B 1 32
          · have H4 := Lib.hid (fun W => in_b W B 1 32 _ k4)
            clear k4 hc
            go_enter Try.func29, Try.ntmps29
            go_wp2_with fail
            refine (H1.out _).mono ?_
            rintro en w1 ⟨rfl, b1⟩
            have x1 := (b1.cell (p := ⟨w.heap.size, 3, none⟩) hbx).trans HX.out
            have HB1 := Lib.hid (HB.out.trans (b1.mono HB.out.size))
            clear b1
            go_wp2_with fail
            refine (H2.out _).mono ?_
            rintro en w' ⟨rfl, rfl⟩
            go_wp2_with fail
            refine (H3.out _).mono ?_
            rintro en w' ⟨rfl, rfl⟩
            go_wp2_with fail
            refine (H4.out _).mono ?_
            rintro en w' ⟨rfl, rfl⟩
            go_wp2
            go_ret
            exact ⟨ret_int (by rw [HN.out]; rfl), HB1.out⟩
          · have H4 := Lib.hid (fun W => in_b W B 1 32 _ k4)
            rw [k4] at hc
            clear k4
            have H5 := Lib.hid (fun W => in_b W stay 0 40000 false (by simpa using hc))
            clear hc
            go_enter Try.func29, Try.ntmps29
            go_wp2_with fail
            refine (H1.out _).mono ?_
            rintro en w1 ⟨rfl, b1⟩
            have x1 := (b1.cell (p := ⟨w.heap.size, 3, none⟩) hbx).trans HX.out
            have HB1 := Lib.hid (HB.out.trans (b1.mono HB.out.size))
            clear b1
            go_wp2_with fail
            refine (H2.out _).mono ?_
            rintro en w' ⟨rfl, rfl⟩
            go_wp2_with fail
            refine (H3.out _).mono ?_
            rintro en w' ⟨rfl, rfl⟩
            go_wp2_with fail
            refine (H4.out _).mono ?_
            rintro en w' ⟨rfl, rfl⟩
            go_wp2_with fail
            refine (H5.out _).mono ?_
            rintro en w' ⟨rfl, rfl⟩
            go_wp2
            go_ret
            exact ⟨ret_int (by rw [HN.out]; rfl), HB1.out⟩
  · obtain ⟨a, c, s, d, rfl, rfl, rfl, rfl, ha, hc', hs, hd, hf⟩ := coh_true hc
    have HN := Lib.hid ((cohI_nat hc).trans (cohN_prog a c s d).symm)
    have H1 := Lib.hid (fun W => fifo_b W g l p d _ hf)
    have H2 := Lib.hid (fun W => right_b W d true (decide_eq_true (by omega)))
    have H3 := Lib.hid (fun W => in_b W a 1 32 true (decide_eq_true (by omega)))
    have H4 := Lib.hid (fun W => in_b W c 1 32 true (decide_eq_true (by omega)))
    have H5 := Lib.hid (fun W => in_b W s 0 40000 true (decide_eq_true (by omega)))
    clear hc hf
    have m1 := mulN_le (d + 1) (s + 14)
    obtain ⟨t1, ht1⟩ : ∃ t, t = sumN [mulN (d + 1) (s + 14), 12] := ⟨_, rfl⟩
    have m2 : t1 ≤ 1099511627776 := by rw [ht1]; exact addN_le _ _
    have m3 := mulN_le c t1
    obtain ⟨t2, ht2⟩ : ∃ t, t = sumN [mulN c t1, s, 26] := ⟨_, rfl⟩
    have m4 : t2 ≤ 1099511627776 := by rw [ht2]; exact addN_le _ _
    have m5 := mulN_le a t2
    have HT := Lib.hid (And.intro ht1 ht2)
    clear ht1 ht2
    go_enter Try.func29, Try.ntmps29
    go_wp2_with fail
    refine (H1.out _).mono ?_
    rintro en w1 ⟨rfl, b1⟩
    have x1 := (b1.cell (p := ⟨w.heap.size, 3, none⟩) hbx).trans HX.out
    have hs1 := b1.size
    simp at hs1
    have HB1 := Lib.hid (HB.out.trans (b1.mono HB.out.size))
    clear b1
    go_wp2_with fail
    refine (H2.out _).mono ?_
    rintro en w' ⟨rfl, rfl⟩
    go_wp2_with fail
    refine (H3.out _).mono ?_
    rintro en w' ⟨rfl, rfl⟩
    go_wp2_with fail
    refine (H4.out _).mono ?_
    rintro en w' ⟨rfl, rfl⟩
    go_wp2_with fail
    refine (H5.out _).mono ?_
    rintro en w' ⟨rfl, rfl⟩
    go_wp2_with fail
    refine (reckon_any _).mono ?_
    rintro en w' ⟨rfl, rfl⟩
    go_wp2_with fail
    refine (prod_call _ _ _ (d + 1) (s + 14) (by omega) (by omega) (by omega) (by omega)).mono ?_
    rintro en w' ⟨rfl, rfl⟩
    go_wp2_with fail
    refine (sum_call2 _ _ _ (mulN (d + 1) (s + 14)) 12 _ (by rfl) (by omega) m1 (by omega) (by rfl)).mono ?_
    rintro en w' ⟨rfl, rfl⟩
    rw [← HT.out.1]
    go_wp2_with fail
    refine (prod_call _ _ _ c t1 (by rfl) (by rfl) (by omega) m2).mono ?_
    rintro en w' ⟨rfl, rfl⟩
    go_wp2_with fail
    refine (sum_call3 _ _ _ _ (mulN c t1) s 26 _ (by rfl) (by rfl) (by omega) m3 (by omega) (by omega) (by simp)).mono ?_
    rintro en w' ⟨rfl, rfl⟩
    rw [← HT.out.2]
    go_wp2_with fail
    refine (prod_call _ _ _ a t2 (by rfl) (by rfl) (by omega) m4).mono ?_
    rintro en w' ⟨rfl, rfl⟩
    go_wp2_with fail
    refine (sum_call2 _ _ _ 4 (mulN a t2) _ (by omega) (by rfl) (by omega) m5 (by simp)).mono ?_
    rintro en w' ⟨rfl, rfl⟩
    go_wp2
    go_ret
    exact ⟨ret_int (by rw [HN.out, HT.out.2, HT.out.1]), ((HB1.out.alloc (by omega) _).alloc (by simp; omega) _).alloc (by simp; omega) _⟩
end Go.Proofs.Ythgpjiebeinamaa
