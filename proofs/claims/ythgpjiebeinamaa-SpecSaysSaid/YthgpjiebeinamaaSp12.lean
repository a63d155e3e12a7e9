/- Layer 44: Each, the document's (written by wip/gen_sp10.py). -/
import Derived.Test.YthgpjiebeinamaaSp10
namespace Go.Proofs.Ythgpjiebeinamaa
open Go.RowKit

set_option maxRecDepth 100000 in
set_option maxHeartbeats 16000000 in
theorem reach_any (w : World) (vP vT : Value) (P T : List Int) (kind g l p b k s : Int) (r : Bool) (hP : RdL w vP 1 encI P) (hT : RdL w vT 1 encI T) :
    Calls Try.prog 28 #[.agg #[vP, vT], .agg #[.int .i64 kind, .int .i64 g, .int .i64 l, .int .i64 p, .int .i64 b], .int .i64 k, .int .i64 s, .bool r] w fun e w' => e = .returned (.int .i64 (eachI P T kind g l b k s r : Nat)) ∧ Below w.heap.size w w' := by
  obtain ⟨W0, hW0⟩ : ∃ W0, W0 = (w.alloc (.cells #[vP, vT] 61)).alloc (.cells #[.int .i64 kind, .int .i64 g, .int .i64 l, .int .i64 p, .int .i64 b] 65) := ⟨_, rfl⟩
  have hb0 : Below w.heap.size w W0 := by rw [hW0]; exact ((Below.refl _ _).alloc (Nat.le_refl _) _).alloc (by simp) _
  have hsz0 : W0.heap.size = w.heap.size + 2 := by rw [hW0]; simp
  have HPT := Lib.hid (And.intro hP hT)
  obtain ⟨AP, cP, rfl, lP1, lP2⟩ := rdl_form hP
  obtain ⟨AT, cT, rfl, lT1, lT2⟩ := rdl_form hT
  have HC := Lib.hid (show W0.cell? ⟨w.heap.size, 0, none⟩ = some (.slice AP P.length cP) ∧ W0.cell? ⟨w.heap.size, 1, none⟩ = some (.slice AT T.length cT) ∧ W0.cell? ⟨w.heap.size + 1, 0, none⟩ = some (.int .i64 kind) ∧ W0.cell? ⟨w.heap.size + 1, 1, none⟩ = some (.int .i64 g) ∧ W0.cell? ⟨w.heap.size + 1, 2, none⟩ = some (.int .i64 l) ∧ W0.cell? ⟨w.heap.size + 1, 3, none⟩ = some (.int .i64 p) ∧ W0.cell? ⟨w.heap.size + 1, 4, none⟩ = some (.int .i64 b) from by
    rw [hW0]
    refine ⟨?_, ?_, ?_, ?_, ?_, ?_, ?_⟩
    · rw [World.cell?_alloc_lt _ _ _ (by simp)]; simp
    · rw [World.cell?_alloc_lt _ _ _ (by simp)]; simp
    all_goals
      rw [show w.heap.size + 1 = (w.alloc (.cells #[.slice AP P.length cP, .slice AT T.length cT] 61)).heap.size from by simp]
      simp)
  have HB := Lib.hid hb0
  clear hP hT hb0
  by_cases x1 : kind < 1
  · have HN := Lib.hid (each_no (P := P) (T := T) (kind := kind) (b := b) (k := k) (s := s) (r := r) g l (fun h => by have := h.1; omega))
    go_enter Try.func28, Try.ntmps28
    go_upto_region 1 with fail
    rw [← hW0]
    clear hW0
    have f2 := HC.out.2.2.1
    go_wp2
    go_ret
    exact ⟨ret_int (by rw [HN.out]; rfl), HB.out⟩
  by_cases x2 : 13 < kind
  · have HN := Lib.hid (each_no (P := P) (T := T) (kind := kind) (b := b) (k := k) (s := s) (r := r) g l (fun h => by have := h.1; omega))
    go_enter Try.func28, Try.ntmps28
    go_upto_region 1 with fail
    rw [← hW0]
    clear hW0
    have f2 := HC.out.2.2.1
    go_wp2
    go_ret
    exact ⟨ret_int (by rw [HN.out]; rfl), HB.out⟩
  have hk1 : 1 ≤ kind ∧ kind ≤ 13 := by omega
  clear x1 x2
  by_cases hc : chkT P T = 0
  rotate_left
  · have HN := Lib.hid (each_no (P := P) (T := T) (kind := kind) (b := b) (k := k) (s := s) (r := r) g l (fun h => hc h.2.1))
    obtain ⟨z, hz⟩ : ∃ z, z = chkT P T := ⟨_, rfl⟩
    have HZ := Lib.hid hz.symm
    rw [← hz] at hc
    have hz0 : (z != 0) = true := by simpa using hc
    clear hc hz
    go_enter Try.func28, Try.ntmps28
    go_upto_region 1 with fail
    rw [← hW0]
    clear hW0
    have f0 := HC.out.1
    have f1 := HC.out.2.1
    have f2 := HC.out.2.2.1
    have f3 := HC.out.2.2.2.1
    have f4 := HC.out.2.2.2.2.1
    have f5 := HC.out.2.2.2.2.2.1
    have f6 := HC.out.2.2.2.2.2.2
    go_wp2_with fail
    refine (rcheck_any _ _ _ P T (HPT.out.1.below HB.out (Nat.le_refl _)) (HPT.out.2.below HB.out (Nat.le_refl _))).mono ?_
    rintro en w2 ⟨rfl, b2⟩
    rw [HZ.out]
    have s2 := b2.size
    have g0 := (b2.cell (p := ⟨w.heap.size, 0, none⟩) (show w.heap.size < W0.heap.size by omega)).trans f0
    have g1 := (b2.cell (p := ⟨w.heap.size, 1, none⟩) (show w.heap.size < W0.heap.size by omega)).trans f1
    have g2 := (b2.cell (p := ⟨w.heap.size + 1, 0, none⟩) (show w.heap.size + 1 < W0.heap.size by omega)).trans f2
    have g3 := (b2.cell (p := ⟨w.heap.size + 1, 1, none⟩) (show w.heap.size + 1 < W0.heap.size by omega)).trans f3
    have g4 := (b2.cell (p := ⟨w.heap.size + 1, 2, none⟩) (show w.heap.size + 1 < W0.heap.size by omega)).trans f4
    have g5 := (b2.cell (p := ⟨w.heap.size + 1, 3, none⟩) (show w.heap.size + 1 < W0.heap.size by omega)).trans f5
    have g6 := (b2.cell (p := ⟨w.heap.size + 1, 4, none⟩) (show w.heap.size + 1 < W0.heap.size by omega)).trans f6
    have HB2 := Lib.hid (HB.out.trans (b2.mono HB.out.size))
    clear b2 f0 f1 f2 f3 f4 f5 f6
    go_wp2
    go_ret
    exact ⟨ret_int (by rw [HN.out]; rfl), HB2.out⟩
  have HZ := Lib.hid hc
  by_cases hb1 : 0 ≤ b ∧ b ≤ 1000
  rotate_left
  · have HN := Lib.hid (each_no (P := P) (T := T) (kind := kind) (b := b) (k := k) (s := s) (r := r) g l (fun h => hb1 h.2.2.1))
    have H1 := Lib.hid (fun W => rright_b W b false (decide_eq_false hb1))
    clear hb1 hc
    go_enter Try.func28, Try.ntmps28
    go_upto_region 1 with fail
    rw [← hW0]
    clear hW0
    have f0 := HC.out.1
    have f1 := HC.out.2.1
    have f2 := HC.out.2.2.1
    have f3 := HC.out.2.2.2.1
    have f4 := HC.out.2.2.2.2.1
    have f5 := HC.out.2.2.2.2.2.1
    have f6 := HC.out.2.2.2.2.2.2
    go_wp2_with fail
    refine (rcheck_any _ _ _ P T (HPT.out.1.below HB.out (Nat.le_refl _)) (HPT.out.2.below HB.out (Nat.le_refl _))).mono ?_
    rintro en w2 ⟨rfl, b2⟩
    rw [HZ.out]
    have s2 := b2.size
    have g0 := (b2.cell (p := ⟨w.heap.size, 0, none⟩) (show w.heap.size < W0.heap.size by omega)).trans f0
    have g1 := (b2.cell (p := ⟨w.heap.size, 1, none⟩) (show w.heap.size < W0.heap.size by omega)).trans f1
    have g2 := (b2.cell (p := ⟨w.heap.size + 1, 0, none⟩) (show w.heap.size + 1 < W0.heap.size by omega)).trans f2
    have g3 := (b2.cell (p := ⟨w.heap.size + 1, 1, none⟩) (show w.heap.size + 1 < W0.heap.size by omega)).trans f3
    have g4 := (b2.cell (p := ⟨w.heap.size + 1, 2, none⟩) (show w.heap.size + 1 < W0.heap.size by omega)).trans f4
    have g5 := (b2.cell (p := ⟨w.heap.size + 1, 3, none⟩) (show w.heap.size + 1 < W0.heap.size by omega)).trans f5
    have g6 := (b2.cell (p := ⟨w.heap.size + 1, 4, none⟩) (show w.heap.size + 1 < W0.heap.size by omega)).trans f6
    have HB2 := Lib.hid (HB.out.trans (b2.mono HB.out.size))
    clear b2 f0 f1 f2 f3 f4 f5 f6
    go_wp2_with fail
    refine (H1.out _).mono ?_
    rintro en w' ⟨rfl, rfl⟩
    go_wp2
    go_ret
    exact ⟨ret_int (by rw [HN.out]; rfl), HB2.out⟩
  have H1 := Lib.hid (fun W => rright_b W b true (decide_eq_true hb1))
  by_cases y1 : k < 1
  · have HN := Lib.hid (each_no (P := P) (T := T) (kind := kind) (b := b) (k := k) (s := s) (r := r) g l (fun h => by have := h.2.2.2.1; have := h.2.2.2.2.1; omega))
    clear hc
    go_enter Try.func28, Try.ntmps28
    go_upto_region 1 with fail
    rw [← hW0]
    clear hW0
    have f0 := HC.out.1
    have f1 := HC.out.2.1
    have f2 := HC.out.2.2.1
    have f3 := HC.out.2.2.2.1
    have f4 := HC.out.2.2.2.2.1
    have f5 := HC.out.2.2.2.2.2.1
    have f6 := HC.out.2.2.2.2.2.2
    go_wp2_with fail
    refine (rcheck_any _ _ _ P T (HPT.out.1.below HB.out (Nat.le_refl _)) (HPT.out.2.below HB.out (Nat.le_refl _))).mono ?_
    rintro en w2 ⟨rfl, b2⟩
    rw [HZ.out]
    have s2 := b2.size
    have g0 := (b2.cell (p := ⟨w.heap.size, 0, none⟩) (show w.heap.size < W0.heap.size by omega)).trans f0
    have g1 := (b2.cell (p := ⟨w.heap.size, 1, none⟩) (show w.heap.size < W0.heap.size by omega)).trans f1
    have g2 := (b2.cell (p := ⟨w.heap.size + 1, 0, none⟩) (show w.heap.size + 1 < W0.heap.size by omega)).trans f2
    have g3 := (b2.cell (p := ⟨w.heap.size + 1, 1, none⟩) (show w.heap.size + 1 < W0.heap.size by omega)).trans f3
    have g4 := (b2.cell (p := ⟨w.heap.size + 1, 2, none⟩) (show w.heap.size + 1 < W0.heap.size by omega)).trans f4
    have g5 := (b2.cell (p := ⟨w.heap.size + 1, 3, none⟩) (show w.heap.size + 1 < W0.heap.size by omega)).trans f5
    have g6 := (b2.cell (p := ⟨w.heap.size + 1, 4, none⟩) (show w.heap.size + 1 < W0.heap.size by omega)).trans f6
    have HB2 := Lib.hid (HB.out.trans (b2.mono HB.out.size))
    clear b2 f0 f1 f2 f3 f4 f5 f6
    go_wp2_with fail
    refine (H1.out _).mono ?_
    rintro en w' ⟨rfl, rfl⟩
    go_wp2
    go_ret
    exact ⟨ret_int (by rw [HN.out]; rfl), HB2.out⟩
  by_cases y2 : 4000 < k
  · have HN := Lib.hid (each_no (P := P) (T := T) (kind := kind) (b := b) (k := k) (s := s) (r := r) g l (fun h => by have := h.2.2.2.1; have := h.2.2.2.2.1; omega))
    clear hc
    go_enter Try.func28, Try.ntmps28
    go_upto_region 1 with fail
    rw [← hW0]
    clear hW0
    have f0 := HC.out.1
    have f1 := HC.out.2.1
    have f2 := HC.out.2.2.1
    have f3 := HC.out.2.2.2.1
    have f4 := HC.out.2.2.2.2.1
    have f5 := HC.out.2.2.2.2.2.1
    have f6 := HC.out.2.2.2.2.2.2
    go_wp2_with fail
    refine (rcheck_any _ _ _ P T (HPT.out.1.below HB.out (Nat.le_refl _)) (HPT.out.2.below HB.out (Nat.le_refl _))).mono ?_
    rintro en w2 ⟨rfl, b2⟩
    rw [HZ.out]
    have s2 := b2.size
    have g0 := (b2.cell (p := ⟨w.heap.size, 0, none⟩) (show w.heap.size < W0.heap.size by omega)).trans f0
    have g1 := (b2.cell (p := ⟨w.heap.size, 1, none⟩) (show w.heap.size < W0.heap.size by omega)).trans f1
    have g2 := (b2.cell (p := ⟨w.heap.size + 1, 0, none⟩) (show w.heap.size + 1 < W0.heap.size by omega)).trans f2
    have g3 := (b2.cell (p := ⟨w.heap.size + 1, 1, none⟩) (show w.heap.size + 1 < W0.heap.size by omega)).trans f3
    have g4 := (b2.cell (p := ⟨w.heap.size + 1, 2, none⟩) (show w.heap.size + 1 < W0.heap.size by omega)).trans f4
    have g5 := (b2.cell (p := ⟨w.heap.size + 1, 3, none⟩) (show w.heap.size + 1 < W0.heap.size by omega)).trans f5
    have g6 := (b2.cell (p := ⟨w.heap.size + 1, 4, none⟩) (show w.heap.size + 1 < W0.heap.size by omega)).trans f6
    have HB2 := Lib.hid (HB.out.trans (b2.mono HB.out.size))
    clear b2 f0 f1 f2 f3 f4 f5 f6
    go_wp2_with fail
    refine (H1.out _).mono ?_
    rintro en w' ⟨rfl, rfl⟩
    go_wp2
    go_ret
    exact ⟨ret_int (by rw [HN.out]; rfl), HB2.out⟩
  by_cases y3 : s < 0
  · have HN := Lib.hid (each_no (P := P) (T := T) (kind := kind) (b := b) (k := k) (s := s) (r := r) g l (fun h => by have := h.2.2.2.1; have := h.2.2.2.2.1; omega))
    clear hc
    go_enter Try.func28, Try.ntmps28
    go_upto_region 1 with fail
    rw [← hW0]
    clear hW0
    have f0 := HC.out.1
    have f1 := HC.out.2.1
    have f2 := HC.out.2.2.1
    have f3 := HC.out.2.2.2.1
    have f4 := HC.out.2.2.2.2.1
    have f5 := HC.out.2.2.2.2.2.1
    have f6 := HC.out.2.2.2.2.2.2
    go_wp2_with fail
    refine (rcheck_any _ _ _ P T (HPT.out.1.below HB.out (Nat.le_refl _)) (HPT.out.2.below HB.out (Nat.le_refl _))).mono ?_
    rintro en w2 ⟨rfl, b2⟩
    rw [HZ.out]
    have s2 := b2.size
    have g0 := (b2.cell (p := ⟨w.heap.size, 0, none⟩) (show w.heap.size < W0.heap.size by omega)).trans f0
    have g1 := (b2.cell (p := ⟨w.heap.size, 1, none⟩) (show w.heap.size < W0.heap.size by omega)).trans f1
    have g2 := (b2.cell (p := ⟨w.heap.size + 1, 0, none⟩) (show w.heap.size + 1 < W0.heap.size by omega)).trans f2
    have g3 := (b2.cell (p := ⟨w.heap.size + 1, 1, none⟩) (show w.heap.size + 1 < W0.heap.size by omega)).trans f3
    have g4 := (b2.cell (p := ⟨w.heap.size + 1, 2, none⟩) (show w.heap.size + 1 < W0.heap.size by omega)).trans f4
    have g5 := (b2.cell (p := ⟨w.heap.size + 1, 3, none⟩) (show w.heap.size + 1 < W0.heap.size by omega)).trans f5
    have g6 := (b2.cell (p := ⟨w.heap.size + 1, 4, none⟩) (show w.heap.size + 1 < W0.heap.size by omega)).trans f6
    have HB2 := Lib.hid (HB.out.trans (b2.mono HB.out.size))
    clear b2 f0 f1 f2 f3 f4 f5 f6
    go_wp2_with fail
    refine (H1.out _).mono ?_
    rintro en w' ⟨rfl, rfl⟩
    go_wp2
    go_ret
    exact ⟨ret_int (by rw [HN.out]; rfl), HB2.out⟩
  by_cases y4 : 4000 < s
  · have HN := Lib.hid (each_no (P := P) (T := T) (kind := kind) (b := b) (k := k) (s := s) (r := r) g l (fun h => by have := h.2.2.2.1; have := h.2.2.2.2.1; omega))
    clear hc
    go_enter Try.func28, Try.ntmps28
    go_upto_region 1 with fail
    rw [← hW0]
    clear hW0
    have f0 := HC.out.1
    have f1 := HC.out.2.1
    have f2 := HC.out.2.2.1
    have f3 := HC.out.2.2.2.1
    have f4 := HC.out.2.2.2.2.1
    have f5 := HC.out.2.2.2.2.2.1
    have f6 := HC.out.2.2.2.2.2.2
    go_wp2_with fail
    refine (rcheck_any _ _ _ P T (HPT.out.1.below HB.out (Nat.le_refl _)) (HPT.out.2.below HB.out (Nat.le_refl _))).mono ?_
    rintro en w2 ⟨rfl, b2⟩
    rw [HZ.out]
    have s2 := b2.size
    have g0 := (b2.cell (p := ⟨w.heap.size, 0, none⟩) (show w.heap.size < W0.heap.size by omega)).trans f0
    have g1 := (b2.cell (p := ⟨w.heap.size, 1, none⟩) (show w.heap.size < W0.heap.size by omega)).trans f1
    have g2 := (b2.cell (p := ⟨w.heap.size + 1, 0, none⟩) (show w.heap.size + 1 < W0.heap.size by omega)).trans f2
    have g3 := (b2.cell (p := ⟨w.heap.size + 1, 1, none⟩) (show w.heap.size + 1 < W0.heap.size by omega)).trans f3
    have g4 := (b2.cell (p := ⟨w.heap.size + 1, 2, none⟩) (show w.heap.size + 1 < W0.heap.size by omega)).trans f4
    have g5 := (b2.cell (p := ⟨w.heap.size + 1, 3, none⟩) (show w.heap.size + 1 < W0.heap.size by omega)).trans f5
    have g6 := (b2.cell (p := ⟨w.heap.size + 1, 4, none⟩) (show w.heap.size + 1 < W0.heap.size by omega)).trans f6
    have HB2 := Lib.hid (HB.out.trans (b2.mono HB.out.size))
    clear b2 f0 f1 f2 f3 f4 f5 f6
    go_wp2_with fail
    refine (H1.out _).mono ?_
    rintro en w' ⟨rfl, rfl⟩
    go_wp2
    go_ret
    exact ⟨ret_int (by rw [HN.out]; rfl), HB2.out⟩
  have hk2 : 1 ≤ k ∧ k ≤ 4000 := by omega
  have hs1 : 0 ≤ s ∧ s ≤ 4000 := by omega
  clear y1 y2 y3 y4
  obtain ⟨b, rfl⟩ := Int.eq_ofNat_of_zero_le hb1.1
  obtain ⟨k, rfl⟩ := Int.eq_ofNat_of_zero_le (show 0 ≤ k by omega)
  obtain ⟨s, rfl⟩ := Int.eq_ofNat_of_zero_le hs1.1
  obtain ⟨hm, _, _, _⟩ := chk_ok hc
  have hml := many_lt hm
  clear hm
  by_cases hr : r = true ∧ ¬ 11 ≤ kind
  · have HN := Lib.hid (each_no (P := P) (T := T) (kind := kind) (b := b) (k := k) (s := s) (r := r) g l (fun h => hr.2 (h.2.2.2.2.2 hr.1)))
    obtain ⟨rfl, hr⟩ := hr
    have hr11 : kind < 11 := by omega
    clear hc
    go_enter Try.func28, Try.ntmps28
    go_upto_region 1 with fail
    rw [← hW0]
    clear hW0
    have f0 := HC.out.1
    have f1 := HC.out.2.1
    have f2 := HC.out.2.2.1
    have f3 := HC.out.2.2.2.1
    have f4 := HC.out.2.2.2.2.1
    have f5 := HC.out.2.2.2.2.2.1
    have f6 := HC.out.2.2.2.2.2.2
    go_wp2_with fail
    refine (rcheck_any _ _ _ P T (HPT.out.1.below HB.out (Nat.le_refl _)) (HPT.out.2.below HB.out (Nat.le_refl _))).mono ?_
    rintro en w2 ⟨rfl, b2⟩
    rw [HZ.out]
    have s2 := b2.size
    have g0 := (b2.cell (p := ⟨w.heap.size, 0, none⟩) (show w.heap.size < W0.heap.size by omega)).trans f0
    have g1 := (b2.cell (p := ⟨w.heap.size, 1, none⟩) (show w.heap.size < W0.heap.size by omega)).trans f1
    have g2 := (b2.cell (p := ⟨w.heap.size + 1, 0, none⟩) (show w.heap.size + 1 < W0.heap.size by omega)).trans f2
    have g3 := (b2.cell (p := ⟨w.heap.size + 1, 1, none⟩) (show w.heap.size + 1 < W0.heap.size by omega)).trans f3
    have g4 := (b2.cell (p := ⟨w.heap.size + 1, 2, none⟩) (show w.heap.size + 1 < W0.heap.size by omega)).trans f4
    have g5 := (b2.cell (p := ⟨w.heap.size + 1, 3, none⟩) (show w.heap.size + 1 < W0.heap.size by omega)).trans f5
    have g6 := (b2.cell (p := ⟨w.heap.size + 1, 4, none⟩) (show w.heap.size + 1 < W0.heap.size by omega)).trans f6
    have HB2 := Lib.hid (HB.out.trans (b2.mono HB.out.size))
    clear b2 f0 f1 f2 f3 f4 f5 f6
    go_wp2_with fail
    refine (H1.out _).mono ?_
    rintro en w' ⟨rfl, rfl⟩
    go_wp2
    go_ret
    exact ⟨ret_int (by rw [HN.out]; rfl), HB2.out⟩
  have hyes := each_yes (P := P) (T := T) (kind := kind) (b := b) (k := k) (s := s) (r := r) g l ⟨hk1, hc, hb1, hk2, hs1, fun h => by
    rcases Int.lt_or_le kind 11 with h1 | h1
    · exact absurd ⟨h, by omega⟩ hr
    · exact h1⟩
  by_cases h6 : kind < 6
  · rw [if_pos h6] at hyes
    have HN := Lib.hid hyes
    obtain rfl : r = false := by
      cases r
      · rfl
      · exact absurd ⟨rfl, by omega⟩ hr
    clear hc hyes hr
    go_enter Try.func28, Try.ntmps28
    go_upto_region 1 with fail
    rw [← hW0]
    clear hW0
    have f0 := HC.out.1
    have f1 := HC.out.2.1
    have f2 := HC.out.2.2.1
    have f3 := HC.out.2.2.2.1
    have f4 := HC.out.2.2.2.2.1
    have f5 := HC.out.2.2.2.2.2.1
    have f6 := HC.out.2.2.2.2.2.2
    go_wp2_with fail
    refine (rcheck_any _ _ _ P T (HPT.out.1.below HB.out (Nat.le_refl _)) (HPT.out.2.below HB.out (Nat.le_refl _))).mono ?_
    rintro en w2 ⟨rfl, b2⟩
    rw [HZ.out]
    have s2 := b2.size
    have g0 := (b2.cell (p := ⟨w.heap.size, 0, none⟩) (show w.heap.size < W0.heap.size by omega)).trans f0
    have g1 := (b2.cell (p := ⟨w.heap.size, 1, none⟩) (show w.heap.size < W0.heap.size by omega)).trans f1
    have g2 := (b2.cell (p := ⟨w.heap.size + 1, 0, none⟩) (show w.heap.size + 1 < W0.heap.size by omega)).trans f2
    have g3 := (b2.cell (p := ⟨w.heap.size + 1, 1, none⟩) (show w.heap.size + 1 < W0.heap.size by omega)).trans f3
    have g4 := (b2.cell (p := ⟨w.heap.size + 1, 2, none⟩) (show w.heap.size + 1 < W0.heap.size by omega)).trans f4
    have g5 := (b2.cell (p := ⟨w.heap.size + 1, 3, none⟩) (show w.heap.size + 1 < W0.heap.size by omega)).trans f5
    have g6 := (b2.cell (p := ⟨w.heap.size + 1, 4, none⟩) (show w.heap.size + 1 < W0.heap.size by omega)).trans f6
    have HB2 := Lib.hid (HB.out.trans (b2.mono HB.out.size))
    clear b2 f0 f1 f2 f3 f4 f5 f6
    go_wp2_with fail
    refine (H1.out _).mono ?_
    rintro en w' ⟨rfl, rfl⟩
    go_wp2_with fail
    refine (rspan_any _ _ _ _ _).mono ?_
    rintro en w' ⟨rfl, rfl⟩
    go_wp2
    go_ret
    exact ⟨ret_int (by rw [HN.out]), HB2.out⟩
  rw [if_neg h6, Int.toNat_natCast, Int.toNat_natCast] at hyes
  have hll := leavesTo_len P P.length
  have hTL := turnN_le (th := T.length) (nd := (leavesL P).length) (pl := P.length) (dp := (depT P T).toNat) (kind := kind) (g := g) (l := l) (b := b) (s := s) (r := r) (by omega) (by show (leavesTo P P.length).length ≤ _; omega) (by omega) (by omega)
  obtain ⟨tn, htn⟩ : ∃ tn, tn = turnN T.length (leavesL P).length P.length (depT P T).toNat kind g l b s r := ⟨_, rfl⟩
  rw [← htn] at hTL hyes
  have HTN := Lib.hid htn.symm
  have HCH := Lib.hid hc
  have HN := Lib.hid hyes
  clear htn hyes hll
  cases r
  · clear hc
    go_enter Try.func28, Try.ntmps28
    go_upto_region 1 with fail
    rw [← hW0]
    clear hW0
    have f0 := HC.out.1
    have f1 := HC.out.2.1
    have f2 := HC.out.2.2.1
    have f3 := HC.out.2.2.2.1
    have f4 := HC.out.2.2.2.2.1
    have f5 := HC.out.2.2.2.2.2.1
    have f6 := HC.out.2.2.2.2.2.2
    go_wp2_with fail
    refine (rcheck_any _ _ _ P T (HPT.out.1.below HB.out (Nat.le_refl _)) (HPT.out.2.below HB.out (Nat.le_refl _))).mono ?_
    rintro en w2 ⟨rfl, b2⟩
    rw [HZ.out]
    have s2 := b2.size
    have g0 := (b2.cell (p := ⟨w.heap.size, 0, none⟩) (show w.heap.size < W0.heap.size by omega)).trans f0
    have g1 := (b2.cell (p := ⟨w.heap.size, 1, none⟩) (show w.heap.size < W0.heap.size by omega)).trans f1
    have g2 := (b2.cell (p := ⟨w.heap.size + 1, 0, none⟩) (show w.heap.size + 1 < W0.heap.size by omega)).trans f2
    have g3 := (b2.cell (p := ⟨w.heap.size + 1, 1, none⟩) (show w.heap.size + 1 < W0.heap.size by omega)).trans f3
    have g4 := (b2.cell (p := ⟨w.heap.size + 1, 2, none⟩) (show w.heap.size + 1 < W0.heap.size by omega)).trans f4
    have g5 := (b2.cell (p := ⟨w.heap.size + 1, 3, none⟩) (show w.heap.size + 1 < W0.heap.size by omega)).trans f5
    have g6 := (b2.cell (p := ⟨w.heap.size + 1, 4, none⟩) (show w.heap.size + 1 < W0.heap.size by omega)).trans f6
    have HB2 := Lib.hid (HB.out.trans (b2.mono HB.out.size))
    clear b2 f0 f1 f2 f3 f4 f5 f6
    go_wp2_with fail
    refine (H1.out _).mono ?_
    rintro en w' ⟨rfl, rfl⟩
    go_wp2_with fail
    refine (rturns_any _ _ _ P T kind g l p b s false (HPT.out.1.below HB2.out (Nat.le_refl _)) (HPT.out.2.below HB2.out (Nat.le_refl _)) HCH.out (by omega) (by omega) (by omega)).mono ?_
    rintro en w3 ⟨rfl, b3⟩
    rw [HTN.out]
    have HB3 := Lib.hid (HB2.out.trans (b3.mono HB2.out.size))
    clear b3
    go_wp2_with fail
    refine (times_call _ _ _ k tn (by rfl) (by rfl) (by omega) hTL).mono ?_
    rintro en w' ⟨rfl, rfl⟩
    go_wp2
    go_ret
    exact ⟨ret_int (by rw [HN.out]), HB3.out⟩
  · have h11 : 11 ≤ kind := by
      rcases Int.lt_or_le kind 11 with h1 | h1
      · exact absurd ⟨rfl, by omega⟩ hr
      · exact h1
    clear hc hr
    go_enter Try.func28, Try.ntmps28
    go_upto_region 1 with fail
    rw [← hW0]
    clear hW0
    have f0 := HC.out.1
    have f1 := HC.out.2.1
    have f2 := HC.out.2.2.1
    have f3 := HC.out.2.2.2.1
    have f4 := HC.out.2.2.2.2.1
    have f5 := HC.out.2.2.2.2.2.1
    have f6 := HC.out.2.2.2.2.2.2
    go_wp2_with fail
    refine (rcheck_any _ _ _ P T (HPT.out.1.below HB.out (Nat.le_refl _)) (HPT.out.2.below HB.out (Nat.le_refl _))).mono ?_
    rintro en w2 ⟨rfl, b2⟩
    rw [HZ.out]
    have s2 := b2.size
    have g0 := (b2.cell (p := ⟨w.heap.size, 0, none⟩) (show w.heap.size < W0.heap.size by omega)).trans f0
    have g1 := (b2.cell (p := ⟨w.heap.size, 1, none⟩) (show w.heap.size < W0.heap.size by omega)).trans f1
    have g2 := (b2.cell (p := ⟨w.heap.size + 1, 0, none⟩) (show w.heap.size + 1 < W0.heap.size by omega)).trans f2
    have g3 := (b2.cell (p := ⟨w.heap.size + 1, 1, none⟩) (show w.heap.size + 1 < W0.heap.size by omega)).trans f3
    have g4 := (b2.cell (p := ⟨w.heap.size + 1, 2, none⟩) (show w.heap.size + 1 < W0.heap.size by omega)).trans f4
    have g5 := (b2.cell (p := ⟨w.heap.size + 1, 3, none⟩) (show w.heap.size + 1 < W0.heap.size by omega)).trans f5
    have g6 := (b2.cell (p := ⟨w.heap.size + 1, 4, none⟩) (show w.heap.size + 1 < W0.heap.size by omega)).trans f6
    have HB2 := Lib.hid (HB.out.trans (b2.mono HB.out.size))
    clear b2 f0 f1 f2 f3 f4 f5 f6
    go_wp2_with fail
    refine (H1.out _).mono ?_
    rintro en w' ⟨rfl, rfl⟩
    go_wp2_with fail
    refine (rturns_any _ _ _ P T kind g l p b s true (HPT.out.1.below HB2.out (Nat.le_refl _)) (HPT.out.2.below HB2.out (Nat.le_refl _)) HCH.out (by omega) (by omega) (by omega)).mono ?_
    rintro en w3 ⟨rfl, b3⟩
    rw [HTN.out]
    have HB3 := Lib.hid (HB2.out.trans (b3.mono HB2.out.size))
    clear b3
    go_wp2_with fail
    refine (times_call _ _ _ k tn (by rfl) (by rfl) (by omega) hTL).mono ?_
    rintro en w' ⟨rfl, rfl⟩
    go_wp2
    go_ret
    exact ⟨ret_int (by rw [HN.out]), HB3.out⟩
end Go.Proofs.Ythgpjiebeinamaa
