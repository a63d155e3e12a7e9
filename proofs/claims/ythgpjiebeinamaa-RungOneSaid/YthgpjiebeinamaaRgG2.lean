/- Layer 26: the walk of RungGives. -/
import Derived.Test.YthgpjiebeinamaaRgG1
import Derived.Test.YthgpjiebeinamaaRg6
namespace Go.Proofs.Ythgpjiebeinamaa
open Go.RowKit

theorem St.drewN {w0 w : World} {l a g q : Nat} {t : Int} {r : Rg} {N : Nat} (h : St w0 w l a g q t r N) (n : Nat) : St w0 (w.drewN n) l a g q t r N := h.below (below_drewN (Below.refl _ _) n)
theorem St.le {w0 w : World} {l a g q : Nat} {t : Int} {r : Rg} {N M : Nat} (h : St w0 w l a g q t r N) (hM : N ≤ M) : St w0 w l a g q t r M := ⟨h.rg, h.bel, h.hl, h.ha, h.hg, h.hq, h.ok, Nat.le_trans h.ops hM⟩
theorem longG (w : World) (A : Option Addr) (m c : Nat) (h1 : 20 < m) (h2 : m ≤ 9223372036854775807) :
    Calls Try.prog 3 #[.slice A m c] w fun e w' => e = .returned (.bool true) ∧ Below w.heap.size w w' := by
  go_enter Try.func3, Try.ntmps3
  go_wp2_with fail
  refine (awake26 _).mono ?_
  rintro en w1 ⟨rfl, hb⟩
  go_wp2
  go_ret
  exact ⟨rfl, hb⟩
set_option maxRecDepth 100000 in
set_option maxHeartbeats 8000000 in
theorem gives26 (w : World) (v : Value) (vs : List Int) (h : RdL w v 1 encI vs) (hl20 : vs.length ≤ 20) :
    Calls Try.prog 3 #[v] w fun e w' => e = .returned (.bool true) ∧ Below w.heap.size w w' := by
  obtain ⟨A, cap, rfl, l1, l2, hr⟩ := h
  have HR := Lib.hid hr
  clear hr
  have hfa := field_a
  have hfb := field_b
  have hfp := field_pc
  go_enter Try.func3, Try.ntmps3
  go_wp2_with fail
  refine (newA_any _ 20).mono ?_
  rintro en wa ⟨a, g, rfl, hA, ha, hg, hb⟩
  have HA := Lib.hid (And.intro hA (And.intro ha (And.intro hg hb)))
  clear hA ha hg hb
  go_wp2_with fail
  refine (newSt_of (n := 2) HA.out.1 HA.out.2.2.2 HA.out.2.1 HA.out.2.2.1 (by omega) (by omega) (by decide)).mono ?_
  rintro en w0 ⟨l, q, rfl, h⟩
  have H0 := Lib.hid h
  clear h
  go_wp2_with fail
  refine (ask_call H0.out 0 true gvE1).mono ?_
  rintro en w1 ⟨rfl, h⟩
  have H1 := Lib.hid h
  clear h
  go_wp2_with fail
  refine (steps_call H1.out 0 9 true (by omega) (by omega) gvE2).mono ?_
  rintro en w2 ⟨rfl, h⟩
  have H2 := Lib.hid h
  clear h
  go_wp2_with fail
  refine (spot_call H2.out 0 _ gvS).mono ?_
  rintro en w3 ⟨rfl, h⟩
  have H3 := Lib.hid h
  clear h
  go_wp2_with fail
  refine (spot_call H3.out 0 _ gvS).mono ?_
  rintro en w4 ⟨rfl, h⟩
  have H4 := Lib.hid h
  clear h
  go_wp2
  go_loopw [6] (fun i wr => ∃ (k : Nat) (r : Rg), i = .int .i64 k ∧ k ≤ vs.length ∧ Held (k % 2) r ∧ St w wr l a g q 1 r (9 + 100 * k)) (fun i _ => vs.length - (intOf i).toNat)
  case atStart => exact ⟨0, gv2, rfl, by omega, gvH, H4.out.le (by omega)⟩
  case round =>
    clear H0 H1 H2 H3 H4 HA
    obtain ⟨k, r, rfl, hk, hh, hS⟩ := hrel
    by_cases hlt : k < vs.length
    · have hbel := hS.bel
      obtain ⟨bl, off, rfl, hbl, hc⟩ := HR.out (by omega)
      obtain ⟨v, hv⟩ := getElem?_lt hlt
      have c0 := (hbel.cell (p := ⟨bl, off + k * 1 + 0, none⟩) hbl).trans (hc k v hv 0 _ rfl)
      simp only [Nat.add_zero, Nat.mul_one] at c0
      have x1 : IntKind.i64.wrap ((k : Int) + 1) = (k : Int) + 1 := IntWalk.i64_in _ (by omega)
      obtain ⟨ow, how⟩ : ∃ ow, ow = k % 2 := ⟨_, rfl⟩
      obtain ⟨nx, hnx⟩ : ∃ nx, nx = (k + 1) % 2 := ⟨_, rfl⟩
      have HO := Lib.hid (And.intro how hnx)
      have x2 : (k : Int).tmod 2 = (ow : Int) := by rw [how, Int.tmod_eq_emod_of_nonneg (by omega)]; omega
      have x3 : ((k : Int) + 1).tmod 2 = (nx : Int) := by rw [hnx, Int.tmod_eq_emod_of_nonneg (by omega)]; omega
      have hown : ow ≤ 1 := by omega
      have hnxt : nx ≤ 1 := by omega
      clear how hnx
      have H := Lib.hid (And.intro hh hS)
      clear hc hv hh hS hbel
      go_wp2
      go_quiet (fail)
      clear x1 x2 x3
      have hS0 := H.out.2.drewN nq
      generalize wr.drewN nq = wd at hS0 c0 ⊢
      by_cases hz : v = 0
      · have hh0 := hand0_any k H.out.1
        rw [← HO.out.1, ← HO.out.2] at hh0
        obtain ⟨r1, r2, r3, r4, r5, e1, e2, e3, e4, e5⟩ := hh0.h
        have E := Lib.hid (And.intro e1 (And.intro e2 (And.intro e3 (And.intro e4 e5))))
        have S0 := Lib.hid hS0
        clear hS0 e1 e2 e3 e4 e5 H hh0
        subst hz
        go_wp2_with fail
        refine (ask_call S0.out _ true E.out.1).mono ?_
        rintro en w1 ⟨rfl, h⟩
        have S1 := Lib.hid h
        clear h
        go_wp2_with fail
        refine (steps_call S1.out _ 9 false (by omega) (by omega) E.out.2.1).mono ?_
        rintro en w2 ⟨rfl, h⟩
        have S2 := Lib.hid h
        clear h
        go_wp2_with fail
        refine (leave_call S2.out _ 0 true E.out.2.2.1).mono ?_
        rintro en w3 ⟨rfl, h⟩
        have S3 := Lib.hid h
        clear h
        go_wp2_with fail
        refine (steps_call S3.out _ 9 true (by omega) (by omega) E.out.2.2.2.1).mono ?_
        rintro en w4 ⟨rfl, h⟩
        have S4 := Lib.hid h
        clear h
        go_wp2_with fail
        refine (steps_call S4.out _ 9 false (by omega) (by omega) E.out.2.2.2.2).mono ?_
        rintro en w5 ⟨rfl, h⟩
        have S5 := Lib.hid h
        clear h
        go_wp2_with fail
        refine (awake26 _).mono ?_
        rintro en w6 ⟨rfl, hb⟩
        have HB := Lib.hid hb
        clear hb
        go_wp2
        go_ret
        exact ⟨rfl, S5.out.bel.trans (HB.out.mono S5.out.bel.size)⟩
      · have hh0 := hand_any k v hz H.out.1
        rw [← HO.out.1, ← HO.out.2] at hh0
        obtain ⟨r1, r2, r3, r4, r5, p, e1, e2, e3, e4, e5, e6, e7, e8, e9, e10, e11⟩ := hh0.h
        have e4' : getS r4.S ((ow : Nat) : Int) = ⟨0, (getS r4.S ow).a, (getS r4.S ow).b, (getS r4.S ow).c⟩ := by
          exact sp_ext e6 rfl rfl rfl
        have hz0 : (v == 0) = false := by simpa using hz
        have E := Lib.hid (And.intro e1 (And.intro e2 (And.intro e3 (And.intro e4 (And.intro e5 (And.intro e4' (And.intro e7 e8)))))))
        have E2 := Lib.hid (And.intro e9 (And.intro e10 (And.intro e11 hz)))
        have S0 := Lib.hid hS0
        clear hS0 e1 e2 e3 e4 e5 e6 e7 e8 e9 e10 e11 e4' H hz hh0
        go_wp2_with fail
        refine (ask_call S0.out _ true E.out.1).mono ?_
        rintro en w1 ⟨rfl, h⟩
        have S1 := Lib.hid h
        clear h
        go_wp2_with fail
        refine (steps_call S1.out _ 9 false (by omega) (by omega) E.out.2.1).mono ?_
        rintro en w2 ⟨rfl, h⟩
        have S2 := Lib.hid h
        clear h
        go_wp2_with fail
        refine (leave_call S2.out _ v true E.out.2.2.1).mono ?_
        rintro en w3 ⟨rfl, h⟩
        have S3 := Lib.hid h
        clear h
        have fin : Hid (∀ W, St w W l a g q 1 r5 (9 + 100 * k + 9 + 9 + 9) → ∃ (k' : Nat) (r' : Rg), Value.int .i64 ((k : Int) + 1) = .int .i64 k' ∧ k' ≤ vs.length ∧ Held (k' % 2) r' ∧ St w W l a g q 1 r' (9 + 100 * k')) := Lib.hid fun W hW =>
          ⟨k + 1, r5, by go_num, by omega, by rw [← HO.out.2]; exact E.out.2.2.2.2.2.2.2, hW.le (by omega)⟩
        cases h3 : ((k : Int) % 3 == 0)
        all_goals
          go_wp2_with fail
          try (refine (pass_call S3.out _ v false E.out.2.2.2.1).mono ?_; rintro en w3b ⟨rfl, h⟩; clear S3; have S3 := Lib.hid h; clear h; go_wp2_with fail)
          refine (steps_call S3.out _ 9 true (by omega) (by omega) E.out.2.2.2.2.1).mono ?_
          rintro en w4 ⟨rfl, h⟩
          have S4 := Lib.hid h
          clear h
          go_wp2_with fail
          refine (spot_call S4.out _ _ E.out.2.2.2.2.2.1).mono ?_
          rintro en w5 ⟨rfl, h⟩
          have S5 := Lib.hid h
          clear h
          go_wp2_with fail
          refine (steps_call S5.out _ 9 true (by omega) (by omega) E.out.2.2.2.2.2.2.1).mono ?_
          rintro en w6 ⟨rfl, h⟩
          have S6 := Lib.hid h
          clear h
          by_cases hp : 0 < v
          · have hsp : getS r5.S (nx : Int) = ⟨p.pc, v, 0, p.c⟩ := by rw [E2.out.1]; exact sp_ext rfl (E2.out.2.1 hp).1 (E2.out.2.1 hp).2 rfl
            have HSP := Lib.hid hsp
            have hn : ¬ v < 0 := by omega
            have hvv : (v != v) = false := by simp
            clear hsp
            go_wp2_with fail
            refine (spot_call S6.out _ _ HSP.out).mono ?_
            rintro en w7 ⟨rfl, h⟩
            have S7 := Lib.hid h
            clear h
            go_wp2
            go_roundw
            case rel => exact fin.out _ (S7.out.below ((Below.refl _ _).alloc (Nat.le_refl _) _))
            case measure => simp [intOf]; omega
          · have hn : v < 0 := by have := E2.out.2.2.2; omega
            have hsp : getS r5.S (nx : Int) = ⟨p.pc, 1, 1, p.c⟩ := by rw [E2.out.1]; exact sp_ext rfl (E2.out.2.2.1 hn).1 (E2.out.2.2.1 hn).2 rfl
            have HSP := Lib.hid hsp
            clear hsp
            go_wp2_with fail
            refine (spot_call S6.out _ _ HSP.out).mono ?_
            rintro en w7 ⟨rfl, h⟩
            have S7 := Lib.hid h
            clear h
            go_wp2
            go_roundw
            case rel => exact fin.out _ (S7.out.below ((Below.refl _ _).alloc (Nat.le_refl _) _))
            case measure => simp [intOf]; omega
    · obtain rfl : k = vs.length := by omega
      have S0 := Lib.hid hS
      clear hS hh
      go_wp2_with fail
      refine (awake26 _).mono ?_
      rintro en w6 ⟨rfl, hb⟩
      have HB := Lib.hid hb
      clear hb
      go_wp2
      go_ret
      exact ⟨rfl, S0.out.bel.trans (HB.out.mono S0.out.bel.size)⟩
end Go.Proofs.Ythgpjiebeinamaa
