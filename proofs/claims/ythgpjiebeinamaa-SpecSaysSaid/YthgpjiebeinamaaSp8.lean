/- Layer 44: the document's turns. -/
import Derived.Test.YthgpjiebeinamaaSp7
import Derived.Test.YthgpjiebeinamaaTop10
namespace Go.Proofs.Ythgpjiebeinamaa
open Go.RowKit

theorem prod_bd {a b A B : Nat} (ha : a ≤ A) (hb : b ≤ B) : (0 : Int) ≤ (a : Int) * (b : Int) ∧ (a : Int) * (b : Int) ≤ ((A * B : Nat) : Int) := by
  rw [← Int.natCast_mul]
  exact ⟨Int.natCast_nonneg _, Int.ofNat_le.2 (Nat.mul_le_mul ha hb)⟩
theorem turn_6 (th nd pl dp : Nat) (g l b : Int) (s : Nat) (r : Bool) : turnN th nd pl dp 6 g l b s r = cohI th nd s g l b := by unfold turnN; simp
theorem turn_7 (th nd pl dp : Nat) (g l b : Int) (s : Nat) (r : Bool) : turnN th nd pl dp 7 g l b s r = treeI th pl dp s b := by unfold turnN; simp
theorem turn_8 (th nd pl dp : Nat) (g l b : Int) (s : Nat) (r : Bool) : turnN th nd pl dp 8 g l b s r = b.toNat + 8 + th * (s + 4) := by unfold turnN; simp
theorem turn_9 (th nd pl dp : Nat) (g l b : Int) (s : Nat) (r : Bool) : turnN th nd pl dp 9 g l b s r = 4 + ((th - 1 + th * b.toNat) + 1) * (s + th + 20) := by unfold turnN; simp
theorem turn_10 (th nd pl dp : Nat) (g l b : Int) (s : Nat) (r : Bool) : turnN th nd pl dp 10 g l b s r = 4 + (th * (th + b.toNat + 2) + 1) * (s + 24) := by unfold turnN; simp
theorem turn_12 (th nd pl dp : Nat) (g l b : Int) (s : Nat) (r : Bool) : turnN th nd pl dp 12 g l b s r = if r then 4 * nd + s + 12 else 0 := by unfold turnN; cases r <;> simp
theorem turn_13 (th nd pl dp : Nat) (g l b : Int) (s : Nat) : turnN th nd pl dp 13 g l b s true = 0 := by unfold turnN; simp
def longC (th nd : Nat) (g l b : Int) (s : Nat) : Nat := cohI th nd (longN th nd s : Nat) g l b
theorem turn_x (th nd pl dp : Nat) (k g l b : Int) (s : Nat) (r : Bool) (h : k = 11 ∨ (k = 13 ∧ r = false)) : turnN th nd pl dp k g l b s r = if longC th nd g l b s = 0 then 0 else addN (longC th nd g l b s) (longN th nd s + 20) := by
  unfold turnN longC
  rcases h with rfl | ⟨rfl, rfl⟩ <;> simp
theorem lvs_len {P T : List Int} (h : chkT P T = 0) : (lvsT P T).length = (leavesL P).length := by unfold lvsT; rw [if_pos h]
theorem cohI_le (A B s g l b : Int) : cohI A B s g l b ≤ 1099511627776 := by unfold cohI; split; exact addN_le _ _; omega
set_option maxRecDepth 100000 in
set_option maxHeartbeats 16000000 in
theorem rturns_any (w : World) (vP vT : Value) (P T : List Int) (kind g l p : Int) (b s : Nat) (r : Bool) (hP : RdL w vP 1 encI P) (hT : RdL w vT 1 encI T) (hc : chkT P T = 0) (hk : 6 ≤ kind ∧ kind ≤ 13) (hb : b ≤ 1000) (hs : s ≤ 4000) :
    Calls Try.prog 59 #[.agg #[vP, vT], .agg #[.int .i64 kind, .int .i64 g, .int .i64 l, .int .i64 p, .int .i64 b], .int .i64 s, .bool r] w fun e w' => e = .returned (.int .i64 (turnN T.length (leavesL P).length P.length (depT P T).toNat kind g l b s r : Nat)) ∧ Below w.heap.size w w' := by
  obtain ⟨hm, _, _, ht⟩ := chk_ok hc
  have hml := many_lt hm
  have hll := leavesTo_len P P.length
  obtain ⟨nd, hnd⟩ : ∃ nd, nd = (leavesL P).length := ⟨_, rfl⟩
  have hndl : nd ≤ 32 := by rw [hnd]; show (leavesTo P P.length).length ≤ _; omega
  have hnd2 : (lvsT P T).length = nd := by rw [lvs_len hc, hnd]
  have hdp : ((depT P T).toNat : Int) = depT P T := by unfold depT; rw [if_pos hc]; simp
  obtain ⟨dp, hdpe⟩ : ∃ dp, dp = (depT P T).toNat := ⟨_, rfl⟩
  rw [← hnd, ← hdpe]
  rw [← hdpe] at hdp
  obtain ⟨W0, hW0⟩ : ∃ W0, W0 = (w.alloc (.cells #[vP, vT] 61)).alloc (.cells #[.int .i64 kind, .int .i64 g, .int .i64 l, .int .i64 p, .int .i64 b] 65) := ⟨_, rfl⟩
  have hb0 : Below w.heap.size w W0 := by rw [hW0]; exact ((Below.refl _ _).alloc (Nat.le_refl _) _).alloc (by simp) _
  have hsz0 : W0.heap.size = w.heap.size + 2 := by rw [hW0]; simp
  have HPT := Lib.hid (And.intro (hP.below hb0 (Nat.le_refl _)) (hT.below hb0 (Nat.le_refl _)))
  obtain ⟨AP, cP, rfl, lP1, lP2⟩ := rdl_form hP
  obtain ⟨AT, cT, rfl, lT1, lT2⟩ := rdl_form hT
  have HC := Lib.hid (show W0.cell? ⟨w.heap.size, 0, none⟩ = some (.slice AP P.length cP) ∧ W0.cell? ⟨w.heap.size, 1, none⟩ = some (.slice AT T.length cT) ∧ W0.cell? ⟨w.heap.size + 1, 0, none⟩ = some (.int .i64 kind) ∧ W0.cell? ⟨w.heap.size + 1, 1, none⟩ = some (.int .i64 g) ∧ W0.cell? ⟨w.heap.size + 1, 2, none⟩ = some (.int .i64 l) ∧ W0.cell? ⟨w.heap.size + 1, 3, none⟩ = some (.int .i64 p) ∧ W0.cell? ⟨w.heap.size + 1, 4, none⟩ = some (.int .i64 b) from by
    rw [hW0]
    refine ⟨?_, ?_, ?_, ?_, ?_, ?_, ?_⟩
    · rw [World.cell?_alloc_lt _ _ _ (by simp)]; simp [World.cell?_alloc_new]
    · rw [World.cell?_alloc_lt _ _ _ (by simp)]; simp [World.cell?_alloc_new]
    all_goals
      rw [show w.heap.size + 1 = (w.alloc (.cells #[.slice AP P.length cP, .slice AT T.length cT] 61)).heap.size from by simp]
      simp [World.cell?_alloc_new])
  have HB := Lib.hid hb0
  have HN2 := Lib.hid hnd2
  have HD := Lib.hid hdp
  clear hP hT hb0 hm ht hnd hnd2 hdp hdpe hc hll
  go_enter Try.func59, Try.ntmps59
  go_upto_region 1 with fail
  rw [← hW0]
  clear hW0
  have bd : Below W0.heap.size W0 W0.drew := (Below.refl _ _).drew
  have c0 := HC.out.1
  have c1 := HC.out.2.1
  have e4 := HC.out.2.2.2.2.2.2
  go_cut [9, 10, 11] (fun s9 s10 s11 wx => s9 = .int .i64 (T.length : Nat) ∧ s10 = .int .i64 (nd : Nat) ∧ s11 = .int .i64 (b : Nat) ∧ Below W0.heap.size W0 wx)
  case first =>
    go_region_held3 (fun W => W.cell? ⟨w.heap.size, 0, none⟩ = some (.slice AP P.length cP) ∧ W.cell? ⟨w.heap.size, 1, none⟩ = some (.slice AT T.length cT) ∧ W.cell? ⟨w.heap.size + 1, 4, none⟩ = some (.int .i64 (b : Nat)))
      (first | exact ⟨c0, c1, e4⟩ | exact ⟨(k2.cell (p := ⟨w.heap.size, 0, none⟩) (show w.heap.size < W0.heap.size by omega)).trans c0, (k2.cell (p := ⟨w.heap.size, 1, none⟩) (show w.heap.size < W0.heap.size by omega)).trans c1, (k2.cell (p := ⟨w.heap.size + 1, 4, none⟩) (show w.heap.size + 1 < W0.heap.size by omega)).trans e4⟩)
      ((go_at_call 89; go_loud (refine (rleaves_any _ _ _ P T (HPT.out.1.below bd (Nat.le_refl _)) (HPT.out.2.below bd (Nat.le_refl _))).mono ?_); rintro e w2 ⟨v2, rfl, o2, b2⟩; obtain ⟨A2, c2, rfl⟩ := own_form o2; rw [HN2.out]; (have k2 : Below W0.heap.size W0 w2 := bd.trans (b2.mono (by simp)))))
    all_goals
      have K2 := Lib.hid k2
      go_wp2_with fail
      go_meet
      case rel => exact ⟨rfl, rfl, rfl, K2.out⟩
  case rest =>
    obtain ⟨rfl, rfl, rfl, bc⟩ := hcut
    have f0 := (bc.cell (p := ⟨w.heap.size, 0, none⟩) (show w.heap.size < W0.heap.size by omega)).trans c0
    have f1 := (bc.cell (p := ⟨w.heap.size, 1, none⟩) (show w.heap.size < W0.heap.size by omega)).trans c1
    have q0 := (bc.cell (p := ⟨w.heap.size + 1, 0, none⟩) (show w.heap.size + 1 < W0.heap.size by omega)).trans HC.out.2.2.1
    have q1 := (bc.cell (p := ⟨w.heap.size + 1, 1, none⟩) (show w.heap.size + 1 < W0.heap.size by omega)).trans HC.out.2.2.2.1
    have q2 := (bc.cell (p := ⟨w.heap.size + 1, 2, none⟩) (show w.heap.size + 1 < W0.heap.size by omega)).trans HC.out.2.2.2.2.1
    have q3 := (bc.cell (p := ⟨w.heap.size + 1, 3, none⟩) (show w.heap.size + 1 < W0.heap.size by omega)).trans HC.out.2.2.2.2.2.1
    have q4 := (bc.cell (p := ⟨w.heap.size + 1, 4, none⟩) (show w.heap.size + 1 < W0.heap.size by omega)).trans e4
    have hszc := bc.size
    have HBc := Lib.hid (HB.out.trans (bc.mono HB.out.size))
    have HPc := Lib.hid (And.intro (HPT.out.1.below bc (Nat.le_refl _)) (HPT.out.2.below bc (Nat.le_refl _)))
    clear bd c0 c1 e4 HC bc HPT
    obtain ⟨th, hth⟩ : ∃ th, th = T.length := ⟨_, rfl⟩
    have hth1 : 1 ≤ th ∧ th ≤ 32 := by omega
    by_cases k6 : kind = 6
    · subst k6
      have HN := Lib.hid (turn_6 T.length nd P.length dp g l b s r)
      go_wp2_with fail
      refine (rcoh_any _ _ _ _ _ _ _ _).mono ?_
      rintro en w3 ⟨rfl, b3⟩
      have HB3 := Lib.hid (HBc.out.trans (b3.mono HBc.out.size))
      clear b3
      go_wp2
      go_ret
      exact ⟨ret_int (by rw [HN.out]), HB3.out⟩
    by_cases k7 : kind = 7
    · subst k7
      have HN := Lib.hid (turn_7 T.length nd P.length dp g l b s r)
      have bd : Below wc.heap.size wc wc.drew := (Below.refl _ _).drew
      go_wp2_with fail
      go_region_held3 (fun W => W.cell? ⟨w.heap.size, 0, none⟩ = some (.slice AP P.length cP) ∧ W.cell? ⟨w.heap.size, 1, none⟩ = some (.slice AT T.length cT))
        (first | exact ⟨f0, f1⟩ | exact ⟨(k2.cell (p := ⟨w.heap.size, 0, none⟩) (show w.heap.size < wc.heap.size by omega)).trans f0, (k2.cell (p := ⟨w.heap.size, 1, none⟩) (show w.heap.size < wc.heap.size by omega)).trans f1⟩)
        (first
          | (go_at_call 90; go_loud (refine (rdepth_any _ _ _ P T (HPc.out.1.below bd (Nat.le_refl _)) (HPc.out.2.below bd (Nat.le_refl _))).mono ?_); rintro e w2 ⟨rfl, b2⟩; (have k2 : Below wc.heap.size wc w2 := bd.trans (b2.mono (by simp))))
          | (go_at_call 32; go_loud (refine (rtree_any _ _ _ _ _ _).mono ?_); rintro e w3 ⟨rfl, rfl⟩))
      all_goals
        have K2 := Lib.hid (HBc.out.trans (k2.mono HBc.out.size))
        go_wp2
        go_ret
        exact ⟨ret_int (by rw [HN.out, HD.out]), K2.out⟩
    by_cases k8 : kind = 8
    · subst k8
      have HN := Lib.hid (turn_8 T.length nd P.length dp g l b s r)
      have i1 : (0 : Int) ≤ (T.length : Int) * ((s : Int) + 4) ∧ (T.length : Int) * ((s : Int) + 4) ≤ 128128 := by
        have h := prod_bd (a := T.length) (b := s + 4) (A := 32) (B := 4004) (by omega) (by omega)
        have h' : ((s + 4 : Nat) : Int) = (s : Int) + 4 := by simp
        rw [h'] at h; omega
      go_wp2
      go_ret
      exact ⟨ret_int (by rw [HN.out]; simp), HBc.out⟩
    by_cases k9 : kind = 9
    · subst k9
      have HN := Lib.hid (turn_9 T.length nd P.length dp g l b s r)
      have hM : T.length - 1 + T.length * b ≤ 32031 := by
        have := Nat.mul_le_mul (show T.length ≤ 32 by omega) hb
        omega
      have HM := Lib.hid (fun W => rcna_most W T.length b (by omega) hb)
      obtain ⟨M, hMe⟩ : ∃ M, M = T.length - 1 + T.length * b := ⟨_, rfl⟩
      rw [show ((b : Int)).toNat = b from rfl] at HN
      rw [← hMe] at HM HN hM
      have i1 : (0 : Int) ≤ ((M : Int) + 1) * ((s : Int) + (T.length : Int) + 20) ∧ ((M : Int) + 1) * ((s : Int) + (T.length : Int) + 20) ≤ 129793664 := by
        have h := prod_bd (a := M + 1) (b := s + T.length + 20) (A := 32032) (B := 4052) (by omega) (by omega)
        have h' : ((s + T.length + 20 : Nat) : Int) = (s : Int) + (T.length : Int) + 20 := by simp
        have h2 : ((M + 1 : Nat) : Int) = (M : Int) + 1 := by simp
        rw [h', h2] at h; omega
      clear hMe
      go_wp2_with (go_at_call 91; refine (HM.out _).mono ?_; rintro e w' ⟨rfl, rfl⟩)
      go_ret
      exact ⟨ret_int (by rw [HN.out]; simp), HBc.out⟩
    by_cases k10 : kind = 10
    · subst k10
      have HN := Lib.hid (turn_10 T.length nd P.length dp g l b s r)
      have hM : T.length * (T.length + b + 2) ≤ 33088 := Nat.le_trans (Nat.mul_le_mul (show T.length ≤ 32 by omega) (show T.length + b + 2 ≤ 1034 by omega)) (by omega)
      have HM := Lib.hid (fun W => rmal_most W T.length b (by omega) hb)
      obtain ⟨M, hMe⟩ : ∃ M, M = T.length * (T.length + b + 2) := ⟨_, rfl⟩
      rw [show ((b : Int)).toNat = b from rfl] at HN
      rw [← hMe] at HM HN hM
      have i1 : (0 : Int) ≤ ((M : Int) + 1) * ((s : Int) + 24) ∧ ((M : Int) + 1) * ((s : Int) + 24) ≤ 133150136 := by
        have h := prod_bd (a := M + 1) (b := s + 24) (A := 33089) (B := 4024) (by omega) (by omega)
        have h' : ((s + 24 : Nat) : Int) = (s : Int) + 24 := by simp
        have h2 : ((M + 1 : Nat) : Int) = (M : Int) + 1 := by simp
        rw [h', h2] at h; omega
      clear hMe
      go_wp2_with (go_at_call 92; refine (HM.out _).mono ?_; rintro e w' ⟨rfl, rfl⟩)
      go_ret
      exact ⟨ret_int (by rw [HN.out]; simp), HBc.out⟩
    by_cases k12 : kind = 12
    · subst k12
      have HN := Lib.hid (turn_12 T.length nd P.length dp g l b s r)
      cases r
      · go_wp2
        go_ret
        exact ⟨ret_int (by rw [HN.out]; simp), HBc.out⟩
      · go_wp2
        go_ret
        exact ⟨ret_int (by rw [HN.out]; simp), HBc.out⟩
    by_cases k13 : kind = 13 ∧ r = true
    · obtain ⟨rfl, rfl⟩ := k13
      have HN := Lib.hid (turn_13 T.length nd P.length dp g l b s)
      go_wp2
      go_ret
      exact ⟨ret_int (by rw [HN.out]; rfl), HBc.out⟩
    have hkx : kind = 11 ∨ (kind = 13 ∧ r = false) := by
      cases r
      · rcases Int.lt_or_le kind 12 with h | h
        · exact .inl (by omega)
        · exact .inr ⟨by omega, rfl⟩
      · exact .inl (by
          have : kind ≠ 13 := fun h => k13 ⟨h, rfl⟩
          omega)
    have HN := Lib.hid (turn_x T.length nd P.length dp kind g l b s r hkx)
    have hL : longN T.length nd s = 2 * s + 2 * nd + 7 * T.length + 12 := rfl
    have HCO := Lib.hid (fun W => rcoh_any W T.length nd (longN T.length nd s : Nat) g l p b)
    have hCL : longC T.length nd g l b s ≤ 1099511627776 := cohI_le _ _ _ _ _ _
    obtain ⟨L, hLe⟩ : ∃ L, L = longN T.length nd s := ⟨_, rfl⟩
    have HE := Lib.hid (show cohI T.length nd (L : Nat) g l b = longC T.length nd g l b s from by rw [hLe]; rfl)
    rw [← hLe] at HCO HN hL
    obtain ⟨C, hCe⟩ : ∃ C, C = longC T.length nd g l b s := ⟨_, rfl⟩
    rw [← hCe] at HE HN hCL
    have hLi : (2 : Int) * (s : Int) + 2 * (nd : Int) + 7 * (T.length : Int) + 12 = (L : Int) := by omega
    have hL2 : L ≤ 8312 := by omega
    clear hL hLe hCe k6 k7 k8 k9 k10 k12
    have HX : Hid (C = 0 ∨ C ≠ 0) := Lib.hid (by omega)
    rcases hkx with rfl | ⟨rfl, rfl⟩
    · clear k13
      go_wp2_with fail
      refine (HCO.out _).mono ?_
      rintro en w3 ⟨rfl, b3⟩
      rw [HE.out]
      have HB3 := Lib.hid (HBc.out.trans (b3.mono HBc.out.size))
      clear b3
      rcases HX.out with h | h
      · subst h
        go_wp2
        go_ret
        exact ⟨ret_int (by rw [HN.out]; rfl), HB3.out⟩
      · have e0 : ((C : Int) == 0) = false := by rw [beq_eq_false_iff_ne]; omega
        rw [if_neg h] at HN
        clear h
        go_wp2_with fail
        refine (add_call _ _ _ C (L + 20) (by rfl) (by omega) (by omega) (by omega)).mono ?_
        rintro en w4 ⟨rfl, rfl⟩
        go_wp2
        go_ret
        exact ⟨ret_int (by rw [HN.out]), HB3.out⟩
    · clear k13
      go_wp2_with fail
      refine (HCO.out _).mono ?_
      rintro en w3 ⟨rfl, b3⟩
      rw [HE.out]
      have HB3 := Lib.hid (HBc.out.trans (b3.mono HBc.out.size))
      clear b3
      rcases HX.out with h | h
      · subst h
        go_wp2
        go_ret
        exact ⟨ret_int (by rw [HN.out]; rfl), HB3.out⟩
      · have e0 : ((C : Int) == 0) = false := by rw [beq_eq_false_iff_ne]; omega
        rw [if_neg h] at HN
        clear h
        go_wp2_with fail
        refine (add_call _ _ _ C (L + 20) (by rfl) (by omega) (by omega) (by omega)).mono ?_
        rintro en w4 ⟨rfl, rfl⟩
        go_wp2
        go_ret
        exact ⟨ret_int (by rw [HN.out]), HB3.out⟩
end Go.Proofs.Ythgpjiebeinamaa
