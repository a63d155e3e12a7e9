/- Layer 44: the program's turns. -/
import Derived.Test.YthgpjiebeinamaaSp8
namespace Go.Proofs.Ythgpjiebeinamaa
open Go.RowKit

set_option maxRecDepth 100000 in
set_option maxHeartbeats 1000000 in
theorem tree_no (w : World) (A B C stay b : Int) (hc : treeB' A B C stay b = false) :
    Calls Try.prog 31 #[.int .i64 A, .int .i64 B, .int .i64 C, .int .i64 stay, .int .i64 b] w fun e w' => e = .returned (.int .i64 0) ∧ w = w' := by
  rw [tree_eq] at hc
  cases k0 : inI A 1 32
  · have H0 := Lib.hid (fun W => in_b W A 1 32 _ k0)
    clear k0 hc
    go_enter Try.func31, Try.ntmps31
    go_wp2_with fail
    refine (H0.out _).mono ?_
    rintro en w' ⟨rfl, rfl⟩
    go_wp2
    go_ret
    exact ⟨rfl, rfl⟩
  have H0 := Lib.hid (fun W => in_b W A 1 32 _ k0)
  rw [k0] at hc
  clear k0
  cases k1 : inI B 1 32
  · have H1 := Lib.hid (fun W => in_b W B 1 32 _ k1)
    clear k1 hc
    go_enter Try.func31, Try.ntmps31
    go_wp2_with fail
    refine (H0.out _).mono ?_
    rintro en w' ⟨rfl, rfl⟩
    go_wp2_with fail
    refine (H1.out _).mono ?_
    rintro en w' ⟨rfl, rfl⟩
    go_wp2
    go_ret
    exact ⟨rfl, rfl⟩
  have H1 := Lib.hid (fun W => in_b W B 1 32 _ k1)
  rw [k1] at hc
  clear k1
  cases k2 : inI C 1 5
  · have H2 := Lib.hid (fun W => in_b W C 1 5 _ k2)
    clear k2 hc
    go_enter Try.func31, Try.ntmps31
    go_wp2_with fail
    refine (H0.out _).mono ?_
    rintro en w' ⟨rfl, rfl⟩
    go_wp2_with fail
    refine (H1.out _).mono ?_
    rintro en w' ⟨rfl, rfl⟩
    go_wp2_with fail
    refine (H2.out _).mono ?_
    rintro en w' ⟨rfl, rfl⟩
    go_wp2
    go_ret
    exact ⟨rfl, rfl⟩
  have H2 := Lib.hid (fun W => in_b W C 1 5 _ k2)
  rw [k2] at hc
  clear k2
  cases k3 : inI stay 0 4000
  · have H3 := Lib.hid (fun W => in_b W stay 0 4000 _ k3)
    clear k3 hc
    go_enter Try.func31, Try.ntmps31
    go_wp2_with fail
    refine (H0.out _).mono ?_
    rintro en w' ⟨rfl, rfl⟩
    go_wp2_with fail
    refine (H1.out _).mono ?_
    rintro en w' ⟨rfl, rfl⟩
    go_wp2_with fail
    refine (H2.out _).mono ?_
    rintro en w' ⟨rfl, rfl⟩
    go_wp2_with fail
    refine (H3.out _).mono ?_
    rintro en w' ⟨rfl, rfl⟩
    go_wp2
    go_ret
    exact ⟨rfl, rfl⟩
  have H3 := Lib.hid (fun W => in_b W stay 0 4000 _ k3)
  rw [k3] at hc
  clear k3
  have H4 := Lib.hid (fun W => right_b W b false (by simpa using hc))
  clear hc
  go_enter Try.func31, Try.ntmps31
  go_wp2_with fail
  refine (H0.out _).mono ?_
  rintro en w' ⟨rfl, rfl⟩
  go_wp2_with fail
  refine (H1.out _).mono ?_
  rintro en w' ⟨rfl, rfl⟩
  go_wp2_with fail
  refine (H2.out _).mono ?_
  rintro en w' ⟨rfl, rfl⟩
  go_wp2_with fail
  refine (H3.out _).mono ?_
  rintro en w' ⟨rfl, rfl⟩
  go_wp2_with fail
  refine (H4.out _).mono ?_
  rintro en w' ⟨rfl, rfl⟩
  go_wp2
  go_ret
  exact ⟨rfl, rfl⟩
theorem ptree_any (w : World) (A B C stay b : Int) :
    Calls Try.prog 31 #[.int .i64 A, .int .i64 B, .int .i64 C, .int .i64 stay, .int .i64 b] w fun e w' => e = .returned (.int .i64 (treeI A B C stay b : Nat)) ∧ Below w.heap.size w w' := by
  cases hc : treeB' A B C stay b
  · exact (tree_no w A B C stay b hc).mono fun _ _ h => ⟨by rw [h.1, treeI_no hc]; rfl, by rw [← h.2]; exact Below.refl _ _⟩
  · obtain ⟨x, y, z, s, d, rfl, rfl, rfl, rfl, rfl, hx, hy, hz, hs, hd⟩ := tree_true hc
    exact (tree_yes w x y z s d hx hy hz hs hd).mono fun _ _ h => ⟨by rw [h.1, treeI_nat hc], h.2⟩
set_option maxRecDepth 100000 in
set_option maxHeartbeats 16000000 in
theorem turns_any (w : World) (vP vT : Value) (P T : List Int) (kind g l p : Int) (b s : Nat) (r : Bool) (hP : RdL w vP 1 encI P) (hT : RdL w vT 1 encI T) (hc : chkT P T = 0) (hk : 6 ≤ kind ∧ kind ≤ 13) (hb : b ≤ 1000) (hs : s ≤ 4000) :
    Calls Try.prog 54 #[.agg #[vP, vT], .agg #[.int .i64 kind, .int .i64 g, .int .i64 l, .int .i64 p, .int .i64 b], .int .i64 s, .bool r] w fun e w' => e = .returned (.int .i64 (turnN T.length (leavesL P).length P.length (depT P T).toNat kind g l b s r : Nat)) ∧ Below w.heap.size w w' := by
  obtain ⟨hm, _, _, ht⟩ := chk_ok hc
  have hml := many_lt hm
  have hll := leavesTo_len P P.length
  obtain ⟨nd, hnd⟩ : ∃ nd, nd = (leavesL P).length := ⟨_, rfl⟩
  have hndl : nd ≤ 32 := by rw [hnd]; show (leavesTo P P.length).length ≤ _; omega
  have hnd2 : (lvsT P T).length = nd := by rw [lvs_len hc, hnd]
  have hdp : ((depT P T).toNat : Int) = depT P T := by unfold depT; rw [if_pos hc]; simp
  obtain ⟨dp, hdpe⟩ : ∃ dp, dp = (depT P T).toNat := ⟨_, rfl⟩
  rw [← hnd, ← hdpe]
  rw [← hdpe] at hdp
  obtain ⟨W0, hW0⟩ : ∃ W0, W0 = (w.alloc (.cells #[vP, vT] 61)).alloc (.cells #[.int .i64 kind, .int .i64 g, .int .i64 l, .int .i64 p, .int .i64 b] 65) := ⟨_, rfl⟩
  have hb0 : Below w.heap.size w W0 := by rw [hW0]; exact ((Below.refl _ _).alloc (Nat.le_refl _) _).alloc (by simp) _
  have hsz0 : W0.heap.size = w.heap.size + 2 := by rw [hW0]; simp
  have HPT := Lib.hid (And.intro (hP.below hb0 (Nat.le_refl _)) (hT.below hb0 (Nat.le_refl _)))
  obtain ⟨AP, cP, rfl, lP1, lP2⟩ := rdl_form hP
  obtain ⟨AT, cT, rfl, lT1, lT2⟩ := rdl_form hT
  have HC := Lib.hid (show W0.cell? ⟨w.heap.size, 0, none⟩ = some (.slice AP P.length cP) ∧ W0.cell? ⟨w.heap.size, 1, none⟩ = some (.slice AT T.length cT) ∧ W0.cell? ⟨w.heap.size + 1, 0, none⟩ = some (.int .i64 kind) ∧ W0.cell? ⟨w.heap.size + 1, 1, none⟩ = some (.int .i64 g) ∧ W0.cell? ⟨w.heap.size + 1, 2, none⟩ = some (.int .i64 l) ∧ W0.cell? ⟨w.heap.size + 1, 3, none⟩ = some (.int .i64 p) ∧ W0.cell? ⟨w.heap.size + 1, 4, none⟩ = some (.int .i64 b) from by
    rw [hW0]
    refine ⟨?_, ?_, ?_, ?_, ?_, ?_, ?_⟩
    · rw [World.cell?_alloc_lt _ _ _ (by simp)]; simp [World.cell?_alloc_new]
    · rw [World.cell?_alloc_lt _ _ _ (by simp)]; simp [World.cell?_alloc_new]
    all_goals
      rw [show w.heap.size + 1 = (w.alloc (.cells #[.slice AP P.length cP, .slice AT T.length cT] 61)).heap.size from by simp]
      simp [World.cell?_alloc_new])
  have HB := Lib.hid hb0
  have HN2 := Lib.hid hnd2
  have HD := Lib.hid hdp
  clear hP hT hb0 hm ht hnd hnd2 hdp hdpe hc hll
  go_enter Try.func54, Try.ntmps54
  go_upto_region 1 with fail
  rw [← hW0]
  clear hW0
  go_wp2_with fail
  refine (reckon_any _).mono ?_
  rintro en w' ⟨rfl, rfl⟩
  go_upto_region 2 with fail
  have bd : Below W0.heap.size W0 W0.drew := (Below.refl _ _).drew
  have c0 := HC.out.1
  have c1 := HC.out.2.1
  have e4 := HC.out.2.2.2.2.2.2
  go_cut [11, 12, 13] (fun s9 s10 s11 wx => s9 = .int .i64 (T.length : Nat) ∧ s10 = .int .i64 (nd : Nat) ∧ s11 = .int .i64 (b : Nat) ∧ Below W0.heap.size W0 wx)
  case first =>
    go_region_held3 (fun W => W.cell? ⟨w.heap.size, 0, none⟩ = some (.slice AP P.length cP) ∧ W.cell? ⟨w.heap.size, 1, none⟩ = some (.slice AT T.length cT) ∧ W.cell? ⟨w.heap.size + 1, 4, none⟩ = some (.int .i64 (b : Nat)))
      (first | exact ⟨c0, c1, e4⟩ | exact ⟨(k2.cell (p := ⟨w.heap.size, 0, none⟩) (show w.heap.size < W0.heap.size by omega)).trans c0, (k2.cell (p := ⟨w.heap.size, 1, none⟩) (show w.heap.size < W0.heap.size by omega)).trans c1, (k2.cell (p := ⟨w.heap.size + 1, 4, none⟩) (show w.heap.size + 1 < W0.heap.size by omega)).trans e4⟩)
      ((go_at_call 83; go_loud (refine (tleaves_any _ _ _ P T (HPT.out.1.below bd (Nat.le_refl _)) (HPT.out.2.below bd (Nat.le_refl _))).mono ?_); rintro e w2 ⟨v2, rfl, o2, b2⟩; obtain ⟨A2, c2, rfl⟩ := own_form o2; rw [HN2.out]; (have k2 : Below W0.heap.size W0 w2 := bd.trans (b2.mono (by simp)))))
    all_goals
      have K2 := Lib.hid k2
      go_wp2_with fail
      go_meet
      case rel => exact ⟨rfl, rfl, rfl, K2.out⟩
  case rest =>
    obtain ⟨rfl, rfl, rfl, bc⟩ := hcut
    have f0 := (bc.cell (p := ⟨w.heap.size, 0, none⟩) (show w.heap.size < W0.heap.size by omega)).trans c0
    have f1 := (bc.cell (p := ⟨w.heap.size, 1, none⟩) (show w.heap.size < W0.heap.size by omega)).trans c1
    have q0 := (bc.cell (p := ⟨w.heap.size + 1, 0, none⟩) (show w.heap.size + 1 < W0.heap.size by omega)).trans HC.out.2.2.1
    have q1 := (bc.cell (p := ⟨w.heap.size + 1, 1, none⟩) (show w.heap.size + 1 < W0.heap.size by omega)).trans HC.out.2.2.2.1
    have q2 := (bc.cell (p := ⟨w.heap.size + 1, 2, none⟩) (show w.heap.size + 1 < W0.heap.size by omega)).trans HC.out.2.2.2.2.1
    have q3 := (bc.cell (p := ⟨w.heap.size + 1, 3, none⟩) (show w.heap.size + 1 < W0.heap.size by omega)).trans HC.out.2.2.2.2.2.1
    have q4 := (bc.cell (p := ⟨w.heap.size + 1, 4, none⟩) (show w.heap.size + 1 < W0.heap.size by omega)).trans e4
    have hszc := bc.size
    have HBc := Lib.hid (HB.out.trans (bc.mono HB.out.size))
    have HPc := Lib.hid (And.intro (HPT.out.1.below bc (Nat.le_refl _)) (HPT.out.2.below bc (Nat.le_refl _)))
    clear bd c0 c1 e4 HC bc HPT
    obtain ⟨th, hth⟩ : ∃ th, th = T.length := ⟨_, rfl⟩
    have hth1 : 1 ≤ th ∧ th ≤ 32 := by omega
    by_cases k6 : kind = 6
    · subst k6
      have HN := Lib.hid (turn_6 T.length nd P.length dp g l b s r)
      go_wp2_with fail
      refine (coh_any _ _ _ _ _ _ _ _).mono ?_
      rintro en w3 ⟨rfl, b3⟩
      have HB3 := Lib.hid (HBc.out.trans (b3.mono HBc.out.size))
      clear b3
      go_wp2
      go_ret
      exact ⟨ret_int (by rw [HN.out]), HB3.out⟩
    by_cases k7 : kind = 7
    · subst k7
      have HN := Lib.hid (turn_7 T.length nd P.length dp g l b s r)
      have bd : Below wc.heap.size wc wc.drew := (Below.refl _ _).drew
      go_wp2_with fail
      go_region_held3 (fun W => W.cell? ⟨w.heap.size, 0, none⟩ = some (.slice AP P.length cP) ∧ W.cell? ⟨w.heap.size, 1, none⟩ = some (.slice AT T.length cT))
        (first | exact ⟨f0, f1⟩ | exact ⟨(k3.cell (p := ⟨w.heap.size, 0, none⟩) (show w.heap.size < wc.heap.size by omega)).trans f0, (k3.cell (p := ⟨w.heap.size, 1, none⟩) (show w.heap.size < wc.heap.size by omega)).trans f1⟩ | exact ⟨(k2.cell (p := ⟨w.heap.size, 0, none⟩) (show w.heap.size < wc.heap.size by omega)).trans f0, (k2.cell (p := ⟨w.heap.size, 1, none⟩) (show w.heap.size < wc.heap.size by omega)).trans f1⟩)
        (first
          | (go_at_call 84; go_loud (refine (tdepth_any _ _ _ P T (HPc.out.1.below bd (Nat.le_refl _)) (HPc.out.2.below bd (Nat.le_refl _))).mono ?_); rintro e w2 ⟨rfl, b2⟩; (have k2 : Below wc.heap.size wc w2 := bd.trans (b2.mono (by simp))))
          | (go_at_call 31; go_loud (refine (ptree_any _ _ _ _ _ _).mono ?_); rintro e w3 ⟨rfl, b3⟩; (have k3 : Below wc.heap.size wc w3 := k2.trans (b3.mono k2.size))))
      all_goals
        have K2 := Lib.hid (HBc.out.trans (k3.mono HBc.out.size))
        go_wp2
        go_ret
        exact ⟨ret_int (by rw [HN.out, HD.out]), K2.out⟩
    by_cases k8 : kind = 8
    · subst k8
      have hp : T.length * (s + 4) ≤ 128128 := Nat.mul_le_mul (show T.length ≤ 32 by omega) (show s + 4 ≤ 4004 by omega)
      have HN := Lib.hid (show sumN [b, 8, mulN T.length (s + 4)] = turnN T.length nd P.length dp 8 g l b s r from by
        rw [turn_8, sum_three (by omega), mulN_of (by omega), addN_of (a := b) (b := 8) (by omega), addN_of (by omega)]; rfl)
      have m1 := mulN_le T.length (s + 4)
      go_wp2_with fail
      refine (prod_call _ _ _ T.length (s + 4) (by rfl) (by omega) (by omega) (by omega)).mono ?_
      rintro en w' ⟨rfl, rfl⟩
      go_wp2_with fail
      refine (sum_call3 _ _ _ _ b 8 (mulN T.length (s + 4)) _ (by rfl) (by omega) (by rfl) (by omega) (by omega) m1 (by simp)).mono ?_
      rintro en w' ⟨rfl, rfl⟩
      go_wp2
      go_ret
      exact ⟨ret_int (by rw [HN.out]), HBc.out.alloc (by omega) _⟩
    by_cases k9 : kind = 9
    · subst k9
      have hM : T.length - 1 + T.length * b ≤ 32031 := by
        have := Nat.mul_le_mul (show T.length ≤ 32 by omega) hb
        omega
      have HM := Lib.hid (fun W => cna_most W T.length b (by omega) hb)
      have HN0 := turn_9 T.length nd P.length dp g l b s r
      rw [show ((b : Int)).toNat = b from rfl] at HN0
      obtain ⟨M, hMe⟩ : ∃ M, M = T.length - 1 + T.length * b := ⟨_, rfl⟩
      rw [← hMe] at HM HN0 hM
      have hp : (M + 1) * (s + T.length + 20) ≤ 129793664 := Nat.mul_le_mul (show M + 1 ≤ 32032 by omega) (show s + T.length + 20 ≤ 4052 by omega)
      have HN := Lib.hid (show sumN [4, mulN (M + 1) (s + T.length + 20)] = turnN T.length nd P.length dp 9 g l b s r from by
        rw [HN0, sum_two (by omega), mulN_of (by omega), addN_of (by omega)])
      have m1 := mulN_le (M + 1) (s + T.length + 20)
      clear hMe HN0
      go_wp2_with fail
      refine (HM.out _).mono ?_
      rintro en w' ⟨rfl, rfl⟩
      go_wp2_with fail
      refine (prod_call _ _ _ (M + 1) (s + T.length + 20) (by omega) (by omega) (by omega) (by omega)).mono ?_
      rintro en w' ⟨rfl, rfl⟩
      go_wp2_with fail
      refine (sum_call2 _ _ _ 4 (mulN (M + 1) (s + T.length + 20)) _ (by omega) (by rfl) (by omega) m1 (by simp)).mono ?_
      rintro en w' ⟨rfl, rfl⟩
      go_wp2
      go_ret
      exact ⟨ret_int (by rw [HN.out]), HBc.out.alloc (by omega) _⟩
    by_cases k10 : kind = 10
    · subst k10
      have hM : T.length * (T.length + b + 2) ≤ 33088 := Nat.le_trans (Nat.mul_le_mul (show T.length ≤ 32 by omega) (show T.length + b + 2 ≤ 1034 by omega)) (by omega)
      have HM := Lib.hid (fun W => mal_most W T.length b (by omega) hb)
      have HN0 := turn_10 T.length nd P.length dp g l b s r
      rw [show ((b : Int)).toNat = b from rfl] at HN0
      obtain ⟨M, hMe⟩ : ∃ M, M = T.length * (T.length + b + 2) := ⟨_, rfl⟩
      rw [← hMe] at HM HN0 hM
      have hp : (M + 1) * (s + 24) ≤ 133150136 := Nat.mul_le_mul (show M + 1 ≤ 33089 by omega) (show s + 24 ≤ 4024 by omega)
      have HN := Lib.hid (show sumN [4, mulN (M + 1) (s + 24)] = turnN T.length nd P.length dp 10 g l b s r from by
        rw [HN0, sum_two (by omega), mulN_of (by omega), addN_of (by omega)])
      have m1 := mulN_le (M + 1) (s + 24)
      clear hMe HN0
      go_wp2_with fail
      refine (HM.out _).mono ?_
      rintro en w' ⟨rfl, rfl⟩
      go_wp2_with fail
      refine (prod_call _ _ _ (M + 1) (s + 24) (by omega) (by omega) (by omega) (by omega)).mono ?_
      rintro en w' ⟨rfl, rfl⟩
      go_wp2_with fail
      refine (sum_call2 _ _ _ 4 (mulN (M + 1) (s + 24)) _ (by omega) (by rfl) (by omega) m1 (by simp)).mono ?_
      rintro en w' ⟨rfl, rfl⟩
      go_wp2
      go_ret
      exact ⟨ret_int (by rw [HN.out]), HBc.out.alloc (by omega) _⟩
    by_cases k12 : kind = 12
    · subst k12
      have HN := Lib.hid (turn_12 T.length nd P.length dp g l b s r)
      cases r
      · go_wp2
        go_ret
        exact ⟨ret_int (by rw [HN.out]; simp), HBc.out⟩
      · have HN' := Lib.hid (show sumN [4 * nd, s, 12] = turnN T.length nd P.length dp 12 g l b s true from by
          rw [HN.out, sum_three (by omega), addN_of (a := 4 * nd) (b := s) (by omega), addN_of (by omega)]; rfl)
        go_wp2_with fail
        refine (sum_call3 _ _ _ _ (4 * nd) s 12 _ (by omega) (by rfl) (by omega) (by omega) (by omega) (by omega) (by simp)).mono ?_
        rintro en w' ⟨rfl, rfl⟩
        go_wp2
        go_ret
        exact ⟨ret_int (by rw [HN'.out]), HBc.out.alloc (by omega) _⟩
    by_cases k13 : kind = 13 ∧ r = true
    · obtain ⟨rfl, rfl⟩ := k13
      have HN := Lib.hid (turn_13 T.length nd P.length dp g l b s)
      go_wp2
      go_ret
      exact ⟨ret_int (by rw [HN.out]; rfl), HBc.out⟩
    have hkx : kind = 11 ∨ (kind = 13 ∧ r = false) := by
      cases r
      · rcases Int.lt_or_le kind 12 with h | h
        · exact .inl (by omega)
        · exact .inr ⟨by omega, rfl⟩
      · exact .inl (by
          have : kind ≠ 13 := fun h => k13 ⟨h, rfl⟩
          omega)
    have HN := Lib.hid (turn_x T.length nd P.length dp kind g l b s r hkx)
    have hL : longN T.length nd s = 2 * s + 2 * nd + 7 * T.length + 12 := rfl
    have HCO := Lib.hid (fun W => coh_any W T.length nd (longN T.length nd s : Nat) g l p b)
    have hCL : longC T.length nd g l b s ≤ 1099511627776 := cohI_le _ _ _ _ _ _
    obtain ⟨L, hLe⟩ : ∃ L, L = longN T.length nd s := ⟨_, rfl⟩
    have HE := Lib.hid (show cohI T.length nd (L : Nat) g l b = longC T.length nd g l b s from by rw [hLe]; rfl)
    rw [← hLe] at HCO HN hL
    obtain ⟨C, hCe⟩ : ∃ C, C = longC T.length nd g l b s := ⟨_, rfl⟩
    rw [← hCe] at HE HN hCL
    have hLi : (2 : Int) * (s : Int) + 2 * (nd : Int) + 7 * (T.length : Int) + 12 = (L : Int) := by omega
    have hL2 : L ≤ 8312 := by omega
    clear hL hLe hCe k6 k7 k8 k9 k10 k12
    have HX : Hid (C = 0 ∨ C ≠ 0) := Lib.hid (by omega)
    rcases hkx with rfl | ⟨rfl, rfl⟩
    · clear k13
      go_wp2_with fail
      refine (HCO.out _).mono ?_
      rintro en w3 ⟨rfl, b3⟩
      rw [HE.out]
      have HB3 := Lib.hid (HBc.out.trans (b3.mono HBc.out.size))
      clear b3
      rcases HX.out with h | h
      · subst h
        go_wp2
        go_ret
        exact ⟨ret_int (by rw [HN.out]; rfl), HB3.out⟩
      · have e0 : ((C : Int) == 0) = false := by rw [beq_eq_false_iff_ne]; omega
        rw [if_neg h] at HN
        clear h
        go_wp2_with fail
        have hs3 := HB3.out.size
        refine (sum_call3 _ _ _ _ C L 20 _ (by rfl) (by rfl) (by omega) hCL (by omega) (by omega) (by simp)).mono ?_
        rintro en w4 ⟨rfl, rfl⟩
        go_wp2
        go_ret
        exact ⟨ret_int (by rw [HN.out, sum_three hCL, add_three]), HB3.out.alloc hs3 _⟩
    · clear k13
      go_wp2_with fail
      refine (HCO.out _).mono ?_
      rintro en w3 ⟨rfl, b3⟩
      rw [HE.out]
      have HB3 := Lib.hid (HBc.out.trans (b3.mono HBc.out.size))
      clear b3
      rcases HX.out with h | h
      · subst h
        go_wp2
        go_ret
        exact ⟨ret_int (by rw [HN.out]; rfl), HB3.out⟩
      · have e0 : ((C : Int) == 0) = false := by rw [beq_eq_false_iff_ne]; omega
        rw [if_neg h] at HN
        clear h
        go_wp2_with fail
        have hs3 := HB3.out.size
        refine (sum_call3 _ _ _ _ C L 20 _ (by rfl) (by rfl) (by omega) hCL (by omega) (by omega) (by simp)).mono ?_
        rintro en w4 ⟨rfl, rfl⟩
        go_wp2
        go_ret
        exact ⟨ret_int (by rw [HN.out, sum_three hCL, add_three]), HB3.out.alloc hs3 _⟩
end Go.Proofs.Ythgpjiebeinamaa
