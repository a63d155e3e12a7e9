/- Layer 44: trees of locks. -/
import Derived.Test.YthgpjiebeinamaaSp4
namespace Go.Proofs.Ythgpjiebeinamaa
open Go.RowKit

set_option maxRecDepth 100000 in
theorem rholds_any (w : World) (depth stay b : Nat) (hd : 1 ≤ depth ∧ depth ≤ 5) (hs : stay ≤ 4000) (hb : b ≤ 1000) : ∀ l : Nat, l ≤ 5 →
    Calls Try.prog 94 #[.int .i64 l, .int .i64 depth, .int .i64 stay, .int .i64 b] w fun e w' => e = .returned (.int .i64 (holdsN depth stay b l : Nat)) ∧ w = w'
  | 0, _ => by
    go_enter Try.func94, Try.ntmps94
    go_wp2
    go_ret
    exact ⟨ret_int (by unfold holdsN; simp), rfl⟩
  | l + 1, hl => by
    have HI := Lib.hid (rholds_any w depth stay b hd hs hb l (by omega))
    have hle := holdsN_le depth stay b hd.2 hs l
    have HN := Lib.hid (show holdsN depth stay b (l + 1) = addN (mulN (b + 1) (addN (holdsN depth stay b l) 4)) (8 * depth + 8) from rfl)
    obtain ⟨h, hh⟩ : ∃ h, h = holdsN depth stay b l := ⟨_, rfl⟩
    rw [← hh] at HI hle HN
    have m1 := addN_le h 4
    have m2 := mulN_le (b + 1) (addN h 4)
    have e0 : (((l + 1 : Nat) : Int) == 0) = false := by rw [beq_eq_false_iff_ne]; omega
    obtain ⟨l', hl'⟩ : ∃ l' : Int, l' = ((l + 1 : Nat) : Int) := ⟨_, rfl⟩
    have hl2 : l' - 1 = (l : Int) := by omega
    have hl3 : 1 ≤ l' ∧ l' ≤ 5 := by omega
    rw [← hl'] at e0 ⊢
    clear hh hl'
    go_enter Try.func94, Try.ntmps94
    go_wp2_with fail
    refine HI.out.mono ?_
    rintro en w' ⟨rfl, rfl⟩
    go_wp2_with fail
    refine (add_call _ _ _ h 4 (by rfl) (by omega) (by omega) (by omega)).mono ?_
    rintro en w' ⟨rfl, rfl⟩
    go_wp2_with fail
    refine (times_call _ _ _ (b + 1) (addN h 4) (by omega) (by rfl) (by omega) (by omega)).mono ?_
    rintro en w' ⟨rfl, rfl⟩
    go_wp2_with fail
    refine (add_call _ _ _ (mulN (b + 1) (addN h 4)) (8 * depth + 8) (by rfl) (by omega) (by omega) (by omega)).mono ?_
    rintro en w' ⟨rfl, rfl⟩
    go_wp2
    go_ret
    exact ⟨ret_int (by rw [HN.out]), rfl⟩
set_option maxRecDepth 100000 in
theorem rwaits_any (w : World) (s depth stay b : Nat) (h1 : 1 ≤ s ∧ s ≤ 64) (hd : 1 ≤ depth ∧ depth ≤ 5) (hs : stay ≤ 4000) (hb : b ≤ 1000) : ∀ (n : Nat) (v : Int), v = (depth : Int) - n → n ≤ depth →
    Calls Try.prog 62 #[.int .i64 v, .int .i64 s, .int .i64 depth, .int .i64 stay, .int .i64 b] w fun e w' => e = .returned (.int .i64 (waitsN s depth stay b n : Nat)) ∧ w = w'
  | 0, v, hv, _ => by
    obtain rfl : v = depth := by omega
    clear hv
    have HE := Lib.hid (show waitsN s depth stay b 0 = 0 from rfl)
    go_enter Try.func62, Try.ntmps62
    go_wp2
    go_ret
    exact ⟨ret_int (by rw [HE.out]; rfl), rfl⟩
  | n + 1, v, hv, hn => by
    have HI := Lib.hid (rwaits_any w s depth stay b h1 hd hs hb n (v + 1) (by omega) (by omega))
    have HH := Lib.hid (rholds_any w depth stay b hd hs hb (depth - (n + 1)) (by omega))
    have hv2 : v = ((depth - (n + 1) : Nat) : Int) := by omega
    have hle := waitsN_le s depth stay b n
    have hlh := holdsN_le depth stay b hd.2 hs (depth - (n + 1))
    have HN := Lib.hid (show waitsN s depth stay b (n + 1) = addN (addN 7 (waitsN s depth stay b n)) (mulN (s - 1) (addN (addN 4 (waitsN s depth stay b n)) (addN (holdsN depth stay b (depth - (n + 1))) (8 * depth + 8)))) from rfl)
    obtain ⟨u, hu⟩ : ∃ u, u = waitsN s depth stay b n := ⟨_, rfl⟩
    obtain ⟨h, hh⟩ : ∃ h, h = holdsN depth stay b (depth - (n + 1)) := ⟨_, rfl⟩
    rw [← hu] at HI hle HN
    rw [← hh] at HH hlh HN
    rw [← hv2] at HH
    have e0 : (v == (depth : Int)) = false := by rw [beq_eq_false_iff_ne]; omega
    have hvb : 0 ≤ v ∧ v ≤ 5 := by omega
    have m1 := addN_le 4 u
    have m2 := addN_le h (8 * depth + 8)
    have m3 := addN_le (addN 4 u) (addN h (8 * depth + 8))
    have m4 := addN_le 7 u
    have m5 := mulN_le (s - 1) (addN (addN 4 u) (addN h (8 * depth + 8)))
    clear hu hh hv hv2
    go_enter Try.func62, Try.ntmps62
    go_wp2_with fail
    refine HI.out.mono ?_
    rintro en w' ⟨rfl, rfl⟩
    go_wp2_with fail
    refine (add_call _ _ _ 4 u (by omega) (by rfl) (by omega) (by omega)).mono ?_
    rintro en w' ⟨rfl, rfl⟩
    go_wp2_with fail
    refine HH.out.mono ?_
    rintro en w' ⟨rfl, rfl⟩
    go_wp2_with fail
    refine (add_call _ _ _ h (8 * depth + 8) (by rfl) (by omega) (by omega) (by omega)).mono ?_
    rintro en w' ⟨rfl, rfl⟩
    go_wp2_with fail
    refine (add_call _ _ _ (addN 4 u) (addN h (8 * depth + 8)) (by rfl) (by rfl) (by omega) (by omega)).mono ?_
    rintro en w' ⟨rfl, rfl⟩
    go_wp2_with fail
    refine (add_call _ _ _ 7 u (by omega) (by rfl) (by omega) (by omega)).mono ?_
    rintro en w' ⟨rfl, rfl⟩
    go_wp2_with fail
    refine (times_call _ _ _ (s - 1) (addN (addN 4 u) (addN h (8 * depth + 8))) (by omega) (by rfl) (by omega) (by omega)).mono ?_
    rintro en w' ⟨rfl, rfl⟩
    go_wp2_with fail
    refine (add_call _ _ _ (addN 7 u) (mulN (s - 1) (addN (addN 4 u) (addN h (8 * depth + 8)))) (by rfl) (by rfl) (by omega) (by omega)).mono ?_
    rintro en w' ⟨rfl, rfl⟩
    go_wp2
    go_ret
    exact ⟨ret_int (by rw [HN.out]), rfl⟩
theorem tree_true {A B C stay b : Int} (h : treeB' A B C stay b = true) : ∃ x y z s d : Nat, A = x ∧ B = y ∧ C = z ∧ stay = s ∧ b = d ∧ (1 ≤ x ∧ x ≤ 32) ∧ (1 ≤ y ∧ y ≤ 32) ∧ (1 ≤ z ∧ z ≤ 5) ∧ s ≤ 4000 ∧ d ≤ 1000 := by
  simp only [treeB', decide_eq_true_eq] at h
  exact ⟨A.toNat, B.toNat, C.toNat, stay.toNat, b.toNat, by omega, by omega, by omega, by omega, by omega, by omega, by omega, by omega, by omega, by omega⟩
theorem treeI_nat {x y z s d : Nat} (h : treeB' x y z s d = true) : treeI x y z s d = treeN x y z s d := by unfold treeI; rw [if_pos h]; simp
theorem treeI_no {A B C stay b : Int} (h : treeB' A B C stay b = false) : treeI A B C stay b = 0 := by unfold treeI; rw [h]; rfl
set_option maxRecDepth 100000 in
set_option maxHeartbeats 1000000 in
theorem rtree_any (w : World) (A B C stay b : Int) : Calls Try.prog 32 #[.int .i64 A, .int .i64 B, .int .i64 C, .int .i64 stay, .int .i64 b] w fun e w' => e = .returned (.int .i64 (treeI A B C stay b : Nat)) ∧ w = w' := by
  cases hc : treeB' A B C stay b
  · have HN := Lib.hid (treeI_no hc)
    have hc' : ¬ ((1 ≤ A ∧ A ≤ 32) ∧ (1 ≤ B ∧ B ≤ 32) ∧ (1 ≤ C ∧ C ≤ 5) ∧ (0 ≤ stay ∧ stay ≤ 4000) ∧ (0 ≤ b ∧ b ≤ 1000)) := of_decide_eq_false hc
    clear hc
    by_cases h1 : A < 1
    · go_enter Try.func32, Try.ntmps32
      go_wp2
      go_ret
      exact ⟨ret_int (by rw [HN.out]; rfl), rfl⟩
    by_cases h2 : 32 < A
    · go_enter Try.func32, Try.ntmps32
      go_wp2
      go_ret
      exact ⟨ret_int (by rw [HN.out]; rfl), rfl⟩
    by_cases h3 : B < 1
    · go_enter Try.func32, Try.ntmps32
      go_wp2
      go_ret
      exact ⟨ret_int (by rw [HN.out]; rfl), rfl⟩
    by_cases h4 : 32 < B
    · go_enter Try.func32, Try.ntmps32
      go_wp2
      go_ret
      exact ⟨ret_int (by rw [HN.out]; rfl), rfl⟩
    by_cases h5 : C < 1
    · go_enter Try.func32, Try.ntmps32
      go_wp2
      go_ret
      exact ⟨ret_int (by rw [HN.out]; rfl), rfl⟩
    by_cases h6 : 5 < C
    · go_enter Try.func32, Try.ntmps32
      go_wp2
      go_ret
      exact ⟨ret_int (by rw [HN.out]; rfl), rfl⟩
    by_cases h7 : stay < 0
    · go_enter Try.func32, Try.ntmps32
      go_wp2
      go_ret
      exact ⟨ret_int (by rw [HN.out]; rfl), rfl⟩
    by_cases h8 : 4000 < stay
    · go_enter Try.func32, Try.ntmps32
      go_wp2
      go_ret
      exact ⟨ret_int (by rw [HN.out]; rfl), rfl⟩
    have HR := Lib.hid (fun W => rright_b W b false (decide_eq_false (by omega)))
    clear hc'
    go_enter Try.func32, Try.ntmps32
    go_wp2_with fail
    refine (HR.out _).mono ?_
    rintro en w' ⟨rfl, rfl⟩
    go_wp2
    go_ret
    exact ⟨ret_int (by rw [HN.out]; rfl), rfl⟩
  · obtain ⟨x, y, z, s, d, rfl, rfl, rfl, rfl, rfl, hx, hy, hz, hs, hd⟩ := tree_true hc
    have HN := Lib.hid (treeI_nat hc)
    have HR := Lib.hid (fun W => rright_b W d true (decide_eq_true (by omega)))
    have HW := Lib.hid (rwaits_any w (x + y) z s d (by omega) hz hs hd z 0 (by omega) (by omega))
    clear hc
    go_enter Try.func32, Try.ntmps32
    go_wp2_with fail
    refine (HR.out _).mono ?_
    rintro en w' ⟨rfl, rfl⟩
    go_wp2_with fail
    rw [show ((x : Int) + (y : Int)) = ((x + y : Nat) : Int) by simp]
    refine HW.out.mono ?_
    rintro en w' ⟨rfl, rfl⟩
    go_wp2
    go_ret
    exact ⟨ret_int (by rw [HN.out]; rfl), rfl⟩
end Go.Proofs.Ythgpjiebeinamaa
