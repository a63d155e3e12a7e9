/- Layer 44: the program's Tree. -/
import Derived.Test.YthgpjiebeinamaaSp6
namespace Go.Proofs.Ythgpjiebeinamaa
open Go.RowKit

theorem tree_eq (A B C stay b : Int) : treeB' A B C stay b = (inI A 1 32 && inI B 1 32 && inI C 1 5 && inI stay 0 4000 && inI b 0 1000) := by
  unfold treeB' inI
  rw [Bool.eq_iff_iff]
  simp only [Bool.and_eq_true, decide_eq_true_eq]
  omega
set_option maxRecDepth 100000 in
set_option maxHeartbeats 8000000 in
theorem tree_yes (w : World) (x y z s d : Nat) (hx : 1 ≤ x ∧ x ≤ 32) (hy : 1 ≤ y ∧ y ≤ 32) (hz : 1 ≤ z ∧ z ≤ 5) (hs : s ≤ 4000) (hd : d ≤ 1000) :
    Calls Try.prog 31 #[.int .i64 x, .int .i64 y, .int .i64 z, .int .i64 s, .int .i64 d] w fun e w' => e = .returned (.int .i64 (treeN x y z s d : Nat)) ∧ Below w.heap.size w w' := by
  have H1 := Lib.hid (fun W => in_b W x 1 32 true (decide_eq_true (by omega)))
  have H2 := Lib.hid (fun W => in_b W y 1 32 true (decide_eq_true (by omega)))
  have H3 := Lib.hid (fun W => in_b W z 1 5 true (decide_eq_true (by omega)))
  have H4 := Lib.hid (fun W => in_b W s 0 4000 true (decide_eq_true (by omega)))
  have H5 := Lib.hid (fun W => right_b W d true (decide_eq_true (by omega)))
  obtain ⟨f, hf⟩ : ∃ f : Nat → Nat, f = holdsN z s d := ⟨_, rfl⟩
  have hfle : ∀ l, f l ≤ 1099511627776 := fun l => by rw [hf]; exact holdsN_le z s d hz.2 hs l
  have HF := Lib.hid (show (∀ l, sumN [mulN (d + 1) (sumN [f l, 4]), 8 * z + 8] = f (l + 1)) ∧ f 0 = s + 1 + (8 * z + 8) ∧ (∀ l, f l ≤ 1099511627776) from ⟨fun l => by rw [hf]; exact holds_prog z s d l hz.2 hs, by rw [hf]; rfl, hfle⟩)
  have HW := Lib.hid (show ∀ n, sumN [7, waitsN (x + y) z s d n, mulN (x + y - 1) (sumN [4, waitsN (x + y) z s d n, f (z - (n + 1)), 8 * z + 8])] = waitsN (x + y) z s d (n + 1) from fun n => by rw [hf]; exact waits_prog (x + y) z s d n)
  clear hf hfle
  go_enter Try.func31, Try.ntmps31
  go_wp2_with fail
  refine (H1.out _).mono ?_
  rintro en w' ⟨rfl, rfl⟩
  go_wp2_with fail
  refine (H2.out _).mono ?_
  rintro en w' ⟨rfl, rfl⟩
  go_wp2_with fail
  refine (H3.out _).mono ?_
  rintro en w' ⟨rfl, rfl⟩
  go_wp2_with fail
  refine (H4.out _).mono ?_
  rintro en w' ⟨rfl, rfl⟩
  go_wp2_with fail
  refine (H5.out _).mono ?_
  rintro en w' ⟨rfl, rfl⟩
  go_wp2_with fail
  refine (reckon_any _).mono ?_
  rintro en w' ⟨rfl, rfl⟩
  go_wp2_with fail
  refine (sum_call3 _ _ _ _ s 1 (8 * z + 8) _ (by rfl) (by omega) (by omega) (by omega) (by omega) (by omega) (by simp)).mono ?_
  rintro en w' ⟨rfl, rfl⟩
  rw [show sumN [s, 1, 8 * z + 8] = f 0 from by rw [HF.out.2.1, sum_three (by omega)]; unfold addN; split <;> (try split) <;> omega]
  have hA1 : holdsA f 1 = #[.int .i64 (f 0 : Nat), .int .i64 0, .int .i64 0, .int .i64 0, .int .i64 0] := rfl
  have HA1 := Lib.hid hA1
  clear hA1
  go_wp2
  go_loopw [15] (fun l wr => ∃ (k : Nat) (v : Int), l = .int .i64 v ∧ v = (k : Int) + 1 ∧ k + 1 ≤ z ∧ Blk wr w.heap.size 100 (holdsA f (k + 1)) ∧ Below w.heap.size w wr) (fun l _ => z - (intOf l).toNat)
  case atStart => exact ⟨0, 1, rfl, by omega, by omega, by rw [HA1.out]; exact (Blk.new _ _ _).alloc _, ((Below.refl _ _).alloc (Nat.le_refl _) _).alloc (by simp) _⟩
  case round =>
    obtain ⟨k, v, rfl, hv, hk, hB, hb⟩ := hrel
    obtain ⟨wq, rfl⟩ : ∃ wq : World, wq = wr := ⟨_, rfl⟩
    have hsz := hB.lt
    have HBL := Lib.hid (And.intro hB hb)
    have c0 := hB.cell k
    rw [holdsA_get f (k + 1) k (by omega) (by omega)] at c0
    have v1 : v - 1 = (k : Int) := by omega
    have v2 : v.toNat = k + 1 := by omega
    have v3 : 1 ≤ v ∧ v ≤ 5 := by omega
    by_cases hlt : v < z
    · have hk1 : k + 1 < z := by omega
      have f0 := hB.free (k + 1)
      have c1 := hB.cell (k + 1)
      obtain ⟨u, hu⟩ : ∃ u, (holdsA f (k + 1))[k + 1]? = some (.int .i64 u) := by
        refine ⟨0, ?_⟩
        unfold holdsA
        rw [List.getElem?_toArray, arr_hold f (k + 1) (k + 1) (by omega), if_neg (by omega)]
      rw [hu] at c1
      have hfk := HF.out.2.2 k
      have m1 := addN_le (f k) 4
      have m2 := mulN_le (d + 1) (sumN [f k, 4])
      have m3 : sumN [f k, 4] ≤ 1099511627776 := by rw [sum_two hfk]; exact m1
      have HS := Lib.hid (HF.out.1 k)
      have HV := Lib.hid hv
      clear hB hb hu hv hlt m1
      have hlt : v < z := by omega
      go_wp2_with fail
      refine (sum_call2 _ _ _ (f k) 4 _ (by rfl) (by omega) hfk (by omega) (by simp)).mono ?_
      rintro en w' ⟨rfl, rfl⟩
      go_wp2_with fail
      refine (prod_call _ _ _ (d + 1) (sumN [f k, 4]) (by omega) (by rfl) (by omega) m3).mono ?_
      rintro en w' ⟨rfl, rfl⟩
      go_wp2_with fail
      refine (sum_call2 _ _ _ (mulN (d + 1) (sumN [f k, 4])) (8 * z + 8) _ (by rfl) (by omega) m2 (by omega) (by simp)).mono ?_
      rintro en w' ⟨rfl, rfl⟩
      rw [HS.out]
      go_wp2
      go_roundw
      case rel => exact ⟨k + 1, v + 1, rfl, by have := HV.out; omega, by omega, by rw [← holdsA_set]; exact ((HBL.out.1.set_ (k + 1) _).alloc _).alloc _, ((HBL.out.2.setCell (Nat.le_refl _) _).alloc (by simp; have := HBL.out.2.size; omega) _).alloc (by simp; have := HBL.out.2.size; omega) _⟩
      case measure => simp [intOf]; omega
    · obtain rfl : z = k + 1 := by omega
      have hge : ¬ v < ((k + 1 : Nat) : Int) := hlt
      have hge2 : (k : Int) + 1 ≤ v := by omega
      clear hlt v1 v2 hv c0
      go_wp2
      go_loopw [16, 17] (fun n l wr => ∃ (m : Nat) (u : Int), n = .int .i64 (waitsN (x + y) (k + 1) s d m : Nat) ∧ l = .int .i64 u ∧ u = (k : Int) - m ∧ m ≤ k + 1 ∧ Blk wr w.heap.size 100 (holdsA f (k + 1)) ∧ Below w.heap.size w wr) (fun _ l _ => (intOf l + 1).toNat)
      case atStart => exact ⟨0, _, rfl, rfl, by simp, by omega, HBL.out.1, HBL.out.2⟩
      case round =>
        clear hB hb HBL hsz
        obtain ⟨m, u, rfl, rfl, hu, hm, hB, hb⟩ := hrel
        obtain ⟨wo, rfl⟩ : ∃ wo : World, wo = wr := ⟨_, rfl⟩
        have hsz := hB.lt
        have HBL := Lib.hid (And.intro hB hb)
        by_cases h0 : 0 ≤ u
        · obtain ⟨l, rfl⟩ := Int.eq_ofNat_of_zero_le h0
          have hlm : k + 1 - (m + 1) = l := by omega
          have HS := Lib.hid (HW.out m)
          rw [hlm] at HS
          have c0 := hB.cell l
          rw [holdsA_get f (k + 1) l (by omega) (by omega)] at c0
          have hfl := HF.out.2.2 l
          have hwl := waitsN_le (x + y) (k + 1) s d m
          have HU := Lib.hid hu
          have hl5 : l < 5 := by omega
          obtain ⟨q, hq⟩ : ∃ q, q = waitsN (x + y) (k + 1) s d m := ⟨_, rfl⟩
          rw [← hq] at HS hwl ⊢
          have m1 : sumN [4, q, f l, 8 * (k + 1) + 8] ≤ 1099511627776 := by show addN _ _ ≤ _; exact addN_le _ _
          have m2 := mulN_le (x + y - 1) (sumN [4, q, f l, 8 * (k + 1) + 8])
          clear hB hb hu hlm hq
          go_wp2_with fail
          refine (sum_call4 _ _ _ _ _ 4 q (f l) (8 * (k + 1) + 8) _ (by omega) (by rfl) (by rfl) (by omega) (by omega) hwl hfl (by omega) (by simp)).mono ?_
          rintro en w' ⟨rfl, rfl⟩
          go_wp2_with fail
          refine (prod_call _ _ _ (x + y - 1) (sumN [4, q, f l, 8 * (k + 1) + 8]) (by omega) (by rfl) (by omega) m1).mono ?_
          rintro en w' ⟨rfl, rfl⟩
          go_wp2_with fail
          refine (sum_call3 _ _ _ _ 7 q (mulN (x + y - 1) (sumN [4, q, f l, 8 * (k + 1) + 8])) _ (by omega) (by rfl) (by rfl) (by omega) hwl m2 (by simp)).mono ?_
          rintro en w' ⟨rfl, rfl⟩
          rw [HS.out]
          go_wp2
          go_roundw
          case rel => exact ⟨m + 1, (l : Int) - 1, rfl, rfl, by have := HU.out; omega, by have := HU.out; omega, (HBL.out.1.alloc _).alloc _, (HBL.out.2.alloc (by have := HBL.out.2.size; omega) _).alloc (by simp; have := HBL.out.2.size; omega) _⟩
          case measure => simp [intOf] <;> omega
        · obtain rfl : m = k + 1 := by omega
          clear hB hb hu
          go_wp2
          go_ret
          exact ⟨ret_int rfl, HBL.out.2⟩
end Go.Proofs.Ythgpjiebeinamaa
