/- Joined: Hl7. -/
import Derived.Deep.DeepCutAuto
import Derived.Test.YtignhdomckfnlaaGreatMgHclhOne1
import Derived.Test.YtignhdomckfnlaaGreatMgHclhOne8
import Derived.Test.YtignhdomckfnlaaGreatMgHclhOne13
section
/- Layer 29 (hclh): the walk of HclhOne. -/
namespace Go.Proofs.YtignhdomckfnlaaGreat
open Go.RowKit

set_option maxRecDepth 100000 in
theorem longOne (w : World) (vP vT : Value) (n0 : Int) (A : Option Addr) (m c : Nat) (h1 : 150 < m) (h2 : m ≤ 9223372036854775807) :
    Calls Tryz.prog 4 #[.agg #[vP, vT], .int .u8 n0, .slice A m c] w fun e w' => e = .returned (.bool true) ∧ Below w.heap.size w w' := by
  have HB : Hid (∀ o : Obj, Below w.heap.size w (w.alloc o)) := Lib.hid fun o => (Below.refl _ _).alloc (Nat.le_refl _) o
  go_enter Tryz.func4, Tryz.ntmps4
  go_wp2_with fail
  refine (awake29 _).mono ?_
  rintro en w1 ⟨rfl, hb⟩
  go_wp2
  go_ret
  exact ⟨rfl, (HB.out _).trans (hb.mono (by simp))⟩
set_option maxRecDepth 100000 in
set_option maxHeartbeats 1000000 in
theorem noOne (w : World) (vP vT : Value) (n0 : Nat) (hs : SmNo w vP vT 8) (A : Option Addr) (m c : Nat) (hm : m ≤ 150) :
    Calls Tryz.prog 4 #[.agg #[vP, vT], .int .u8 n0, .slice A m c] w fun e w' => e = .returned (.bool true) ∧ Below w.heap.size w w' := by
  have HB0 := Lib.hid ((Below.refl w.heap.size w).alloc (Nat.le_refl _) (.cells #[vP, vT] 24))
  have hX : (w.alloc (.cells #[vP, vT] 24)).cell? ⟨w.heap.size, 0, none⟩ = some vP ∧ (w.alloc (.cells #[vP, vT] 24)).cell? ⟨w.heap.size, 1, none⟩ = some vT := by simp [World.cell?_alloc_new]
  have HX := Lib.hid hX
  have hbx : w.heap.size < (w.alloc (.cells #[vP, vT] 24)).heap.size := by simp
  have HM := Lib.hid (madeNo _ vP vT n0 (hs.below HB0.out))
  have HS := Lib.hid hs
  clear hs hX
  go_enter Tryz.func4, Tryz.ntmps4
  go_wp2_with fail
  refine HM.out.mono ?_
  rintro en w1 ⟨rfl, b1⟩
  have f0 : w1.cell? ⟨w.heap.size, 0, none⟩ = some vP := (b1.cell (p := ⟨w.heap.size, 0, none⟩) hbx).trans HX.out.1
  have f1 : w1.cell? ⟨w.heap.size, 1, none⟩ = some vT := (b1.cell (p := ⟨w.heap.size, 1, none⟩) hbx).trans HX.out.2
  have HB1 := Lib.hid (HB0.out.trans (b1.mono HB0.out.size))
  clear b1 hbx
  go_wp2_with fail
  refine (HS.out _ HB1.out).mono ?_
  rintro en w2 ⟨rfl, b2⟩
  have HB2 := Lib.hid (HB1.out.trans (b2.mono HB1.out.size))
  clear b2
  go_wp2_with fail
  refine (awake29 _).mono ?_
  rintro en w3 ⟨rfl, b3⟩
  have HB3 := Lib.hid (HB2.out.trans (b3.mono HB2.out.size))
  clear b3
  go_wp2
  go_ret
  exact ⟨rfl, HB3.out⟩
set_option maxRecDepth 100000 in
set_option maxHeartbeats 8000000 in
theorem one29 (w : World) (vP : Value) (AT : Option Addr) (cT : Nat) (P T : List Int) (hP : RdL w vP 1 encI P) (hT : RdL w (.slice AT T.length cT) 1 encI T) (n0 : Nat) (hn0 : n0 < 256) (hs : smallB P T 8 = true) (v : Value) (ls : List (Int × Int)) (h : RdL w v 2 encP ls) (hl150 : ls.length ≤ 150) :
    Calls Tryz.prog 4 #[.agg #[vP, .slice AT T.length cT], .int .u8 n0, v] w fun e w' => e = .returned (.bool true) ∧ Below w.heap.size w w' := by
  obtain ⟨A, cap, rfl, l1, l2, hr⟩ := h
  have HR := Lib.hid hr
  have hT8 : T.length ≤ 8 := by have := (of_decide_eq_true hs).2; omega
  have HB0 := Lib.hid ((Below.refl w.heap.size w).alloc (Nat.le_refl _) (.cells #[vP, .slice AT T.length cT] 24))
  have hX : (w.alloc (.cells #[vP, .slice AT T.length cT] 24)).cell? ⟨w.heap.size, 0, none⟩ = some vP ∧ (w.alloc (.cells #[vP, .slice AT T.length cT] 24)).cell? ⟨w.heap.size, 1, none⟩ = some (.slice AT T.length cT) := by simp [World.cell?_alloc_new]
  have HX := Lib.hid hX
  have hbx : w.heap.size < (w.alloc (.cells #[vP, .slice AT T.length cT] 24)).heap.size := by simp
  have HM := Lib.hid (madeYes _ vP _ P T (hP.alloc (.cells #[vP, .slice AT T.length cT] 24)) (hT.alloc _) n0 hn0 hs)
  clear hr hX hP hT hs
  go_enter Tryz.func4, Tryz.ntmps4
  go_wp2_with fail
  refine HM.out.mono ?_
  rintro en w1 ⟨l, a, g, q, b, u, lo, hi, d, h0, G0, rfl, hS, _, _⟩
  obtain ⟨w0, hw0⟩ : ∃ w0, w0 = w.alloc (.cells #[vP, .slice AT T.length cT] 24) := ⟨_, rfl⟩
  rw [← hw0] at hS hbx HX HB0
  have H0 := Lib.hid hS
  have hw0s : w.heap.size ≤ w0.heap.size := HB0.out.size
  clear hS HM hw0
  go_wp2
  go_loopw [10] (fun i wr => ∃ (k : Nat) (h : Hc) (G : Nat → List Nat), i = .int .i64 k ∧ k ≤ ls.length ∧ HSt w0 wr l a g q b u lo hi d P T h k G) (fun i _ => ls.length - (intOf i).toNat)
  case atStart => exact ⟨0, h0, G0, rfl, by omega, H0.out⟩
  case round =>
    clear H0
    obtain ⟨k, h, G, rfl, hk, hW⟩ := hrel
    obtain ⟨wo, rfl⟩ : ∃ wo : World, wo = wr := ⟨_, rfl⟩
    have HW := Lib.hid hW
    clear hW
    by_cases hlt : k < ls.length
    · obtain ⟨bl, off, rfl, hbl, hc⟩ := HR.out (by omega)
      obtain ⟨⟨kd, ii⟩, hx⟩ := getElem?_lt hlt
      have HC : Hid (∀ W, Below w0.heap.size w0 W → (W.cell? ⟨bl, off + k * 2, none⟩ = some (.int .i64 kd) ∧ W.cell? ⟨bl, off + k * 2 + 1, none⟩ = some (.int .i64 ii)) ∧ W.cell? ⟨w.heap.size, 1, none⟩ = some (.slice AT T.length cT)) := Lib.hid fun W hW =>
        ⟨⟨((HB0.out.trans (hW.mono hw0s)).cell (p := ⟨bl, off + k * 2 + 0, none⟩) hbl).trans (hc k _ hx 0 _ rfl), ((HB0.out.trans (hW.mono hw0s)).cell (p := ⟨bl, off + k * 2 + 1, none⟩) hbl).trans (hc k _ hx 1 _ rfl)⟩, (hW.cell (p := ⟨w.heap.size, 1, none⟩) hbx).trans HX.out.2⟩
      have hops := HW.out.ok.ops
      have HD := Lib.hid (doSt HW.out (by omega) kd ii)
      obtain ⟨⟨x0, x1⟩, x2⟩ := HC.out _ HW.out.bel
      clear hc hx
      go_wp2_with fail
      refine (aops_any HW.out.is.ar).mono ?_
      rintro en w2 ⟨rfl, rfl⟩
      go_wp2_with fail
      refine HD.out.mono ?_
      rintro en w3 ⟨c, h', G', hh, rfl, s3, _, ho1, ho2⟩
      have H3 := Lib.hid s3
      have HO := Lib.hid (And.intro ho1 ho2)
      have hJ := fun m hm => s3.ok.holds m hm
      have hSl : h'.S.length = T.length := s3.is.sl
      clear s3 hh ho1 ho2 HD x0 x1 x2
      go_wp2
      go_loopw [12, 13] (fun hd kk wr => ∃ j : Nat, kk = .int .i64 j ∧ j ≤ T.length ∧ hd = .int .i64 (holdC h'.S j : Nat) ∧ HSt w0 wr l a g q b u lo hi d P T h' (k + 1) G') (fun _ kk _ => T.length - (intOf kk).toNat)
      case atStart => exact ⟨0, rfl, by omega, rfl, H3.out⟩
      case round =>
        obtain ⟨j, rfl, hj, rfl, hC⟩ := hrel
        obtain ⟨wi, rfl⟩ : ∃ wi : World, wi = wr := ⟨_, rfl⟩
        have HCj := Lib.hid hC
        obtain ⟨⟨x0, x1⟩, x2⟩ := HC.out _ hC.bel
        have hn1 := hJ j hj
        clear hC
        by_cases hjs : j < T.length
        · obtain ⟨pj, hpj⟩ : ∃ pj, pj = getS h'.S j := ⟨_, rfl⟩
          have HPj := Lib.hid (show getS h'.S j = pj ∧ sv h'.S j = pj from ⟨hpj.symm, by rw [hpj, getS_nat (by omega)]⟩)
          clear hpj
          go_wp2_with fail
          refine (spotH HCj.out.is j).mono ?_
          rintro en wj ⟨rfl, bj⟩
          rw [HPj.out.1]
          unfold spotV
          have hfp := field_pc
          have HCk := Lib.hid (HCj.out.below bj)
          have HS := Lib.hid (holdC_succ h'.S j)
          clear bj x0 x1 x2
          cases e10 : (pj.pc == 10)
          · have HE := Lib.hid (show holdC h'.S (j + 1) = holdC h'.S j from by
              rw [HS.out, HPj.out.2, if_neg]
              · omega
              · simpa using e10)
            go_wp2
            go_roundw
            case rel => exact ⟨j + 1, by go_num, by omega, by rw [HE.out], HCk.out⟩
            case measure => simp [intOf]; omega
          · have HE := Lib.hid (show holdC h'.S (j + 1) = holdC h'.S j + 1 from by
              rw [HS.out, HPj.out.2, if_pos (by simpa using e10)])
            go_wp2
            go_roundw
            case rel => exact ⟨j + 1, by go_num, by omega, by rw [HE.out]; go_num, HCk.out⟩
            case measure => simp [intOf]; omega
        · obtain rfl : j = T.length := by omega
          have g0 : decide (1 < ((holdC h'.S T.length : Nat) : Int)) = false := decide_eq_false (by omega)
          have hop := HO.out.1
          have g1 : decide (((h.ar.ops : Nat) : Int) + 1 < ((h'.ar.ops : Nat) : Int)) = false := decide_eq_false (by omega)
          go_upto_region 17 with fail
          go_cut [83] (fun s83 wx => s83 = .bool false ∧ wx = wi)
          case first =>
            go_wp2_with fail
            refine (aops_any HCj.out.is.ar).mono ?_
            rintro en w5 ⟨rfl, rfl⟩
            by_cases hkd : kd = 0
            · subst hkd
              go_wp2
              go_meet
              case rel => exact ⟨rfl, rfl⟩
            · have g2 : (kd != 0) = true := by simpa using hkd
              have g3 := HO.out.2 hkd
              go_wp2_with fail
              refine (aops_any HCj.out.is.ar).mono ?_
              rintro en w6 ⟨rfl, rfl⟩
              go_wp2
              go_meet
              case rel => exact ⟨congrArg Value.bool (by simp; omega), rfl⟩
          case rest =>
            obtain ⟨rfl, rfl⟩ := hcut
            go_wp2
            go_roundw
            case rel => exact ⟨k + 1, h', G', by go_num, by omega, HCj.out⟩
            case measure => simp [intOf]; omega
    · obtain rfl : k = ls.length := by omega
      go_wp2_with fail
      refine (awake29 _).mono ?_
      rintro en wa2 ⟨rfl, ba2⟩
      have HB2 := Lib.hid (HB0.out.trans ((HW.out.bel.trans (ba2.mono HW.out.bel.size)).mono hw0s))
      clear ba2
      go_wp2
      go_ret
      exact ⟨rfl, HB2.out⟩
end Go.Proofs.YtignhdomckfnlaaGreat
end
