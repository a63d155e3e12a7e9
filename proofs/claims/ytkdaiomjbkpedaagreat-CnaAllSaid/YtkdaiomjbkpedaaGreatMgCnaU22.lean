/- Joined: Cw13. -/
import Derived.Deep.DeepCutAuto
import Derived.Test.YtkdaiomjbkpedaaGreatMgCnaU1
import Derived.Test.YtkdaiomjbkpedaaGreatMgCnaU16
import Derived.Test.YtkdaiomjbkpedaaGreatMgCnaU21
section
/- Layer 31 (cna): the walk of CnaAll. -/
namespace Go.Proofs.YtkdaiomjbkpedaaGreat
open Go.RowKit

def MadeAnyC (w : World) (vP vT : Value) (n0 : Int) : Prop := Calls Tryz.prog 19 #[.agg #[vP, vT], .int .u8 n0] w fun e w' => ∃ x y c, e = .returned (.tuple #[x, y, .bool c]) ∧ Below w.heap.size w w'
/-- too many acts -/
theorem longAllC (w : World) (vP vT : Value) (n0 : Int) (hm : MadeAnyC (w.alloc (.cells #[vP, vT] 24)) vP vT n0) (A : Option Addr) (m c : Nat) (h1 : 100 < m) (h2 : m ≤ 9223372036854775807) :
    Calls Tryz.prog 6 #[.agg #[vP, vT], .int .u8 n0, .slice A m c] w fun e w' => e = .returned (.bool true) ∧ Below w.heap.size w w' := by
  have HB0 := Lib.hid ((Below.refl w.heap.size w).alloc (Nat.le_refl _) (.cells #[vP, vT] 24))
  unfold MadeAnyC at hm
  have HM := Lib.hid hm
  clear hm
  go_enter Tryz.func6, Tryz.ntmps6
  go_wp2_with fail
  refine HM.out.mono ?_
  rintro en w1 ⟨x, y, c, rfl, b1⟩
  have HB1 := Lib.hid (HB0.out.trans (b1.mono HB0.out.size))
  clear b1
  go_wp2_with fail
  refine (awake31 _).mono ?_
  rintro en w3 ⟨rfl, b3⟩
  have HB3 := Lib.hid (HB1.out.trans (b3.mono HB1.out.size))
  clear b3
  go_wp2
  go_ret
  exact ⟨rfl, HB3.out⟩
set_option maxRecDepth 100000 in
set_option maxHeartbeats 1000000 in
theorem noAllC (w : World) (vP vT : Value) (n0 : Int) (hm : MadeAnyC (w.alloc (.cells #[vP, vT] 24)) vP vT n0) (hs : SmNo w vP vT 6) (A : Option Addr) (m c : Nat) (hl : m ≤ 100) :
    Calls Tryz.prog 6 #[.agg #[vP, vT], .int .u8 n0, .slice A m c] w fun e w' => e = .returned (.bool true) ∧ Below w.heap.size w w' := by
  have HB0 := Lib.hid ((Below.refl w.heap.size w).alloc (Nat.le_refl _) (.cells #[vP, vT] 24))
  unfold MadeAnyC at hm
  have HM := Lib.hid hm
  have HS := Lib.hid hs
  have hX : (w.alloc (.cells #[vP, vT] 24)).cell? ⟨w.heap.size, 0, none⟩ = some vP ∧ (w.alloc (.cells #[vP, vT] 24)).cell? ⟨w.heap.size, 1, none⟩ = some vT := by simp [World.cell?_alloc_new]
  have HX := Lib.hid hX
  have hbx : w.heap.size < (w.alloc (.cells #[vP, vT] 24)).heap.size := by simp
  clear hm hs hX
  go_enter Tryz.func6, Tryz.ntmps6
  go_wp2_with fail
  refine HM.out.mono ?_
  rintro en w1 ⟨x, y, c, rfl, b1⟩
  have f0 : w1.cell? ⟨w.heap.size, 0, none⟩ = some vP := (b1.cell (p := ⟨w.heap.size, 0, none⟩) hbx).trans HX.out.1
  have f1 : w1.cell? ⟨w.heap.size, 1, none⟩ = some vT := (b1.cell (p := ⟨w.heap.size, 1, none⟩) hbx).trans HX.out.2
  have HB1 := Lib.hid (HB0.out.trans (b1.mono HB0.out.size))
  clear b1 hbx
  go_wp2_with fail
  refine (HS.out _ HB1.out).mono ?_
  rintro en w2 ⟨rfl, b2⟩
  have HB2 := Lib.hid (HB1.out.trans (b2.mono HB1.out.size))
  clear b2
  go_wp2_with fail
  refine (awake31 _).mono ?_
  rintro en w3 ⟨rfl, b3⟩
  have HB3 := Lib.hid (HB2.out.trans (b3.mono HB2.out.size))
  clear b3
  go_wp2
  go_ret
  exact ⟨rfl, HB3.out⟩
set_option maxRecDepth 100000 in
set_option maxHeartbeats 8000000 in
theorem all31 (w : World) (vP : Value) (AT : Option Addr) (cT : Nat) (P T : List Int) (hP : RdL w vP 1 encI P) (hT : RdL w (.slice AT T.length cT) 1 encI T) (n0 : Nat) (hn0 : n0 < 256) (hs : smallB P T 6 = true) (v : Value) (ls : List (Int × Int)) (h : RdL w v 2 encP ls) (hl100 : ls.length ≤ 100) :
    Calls Tryz.prog 6 #[.agg #[vP, .slice AT T.length cT], .int .u8 n0, v] w fun e w' => e = .returned (.bool true) ∧ Below w.heap.size w w' := by
  obtain ⟨A, cap, rfl, l1, l2, hr⟩ := h
  have HR := Lib.hid hr
  have hT6 : T.length ≤ 6 := by have := (of_decide_eq_true hs).2; omega
  have hs8 : smallB P T 8 = true := decide_eq_true ⟨(of_decide_eq_true hs).1, by omega⟩
  have HB0 := Lib.hid ((Below.refl w.heap.size w).alloc (Nat.le_refl _) (.cells #[vP, .slice AT T.length cT] 24))
  have hX : (w.alloc (.cells #[vP, .slice AT T.length cT] 24)).cell? ⟨w.heap.size, 0, none⟩ = some vP ∧ (w.alloc (.cells #[vP, .slice AT T.length cT] 24)).cell? ⟨w.heap.size, 1, none⟩ = some (.slice AT T.length cT) := by simp [World.cell?_alloc_new]
  have HX := Lib.hid hX
  have hbx : w.heap.size < (w.alloc (.cells #[vP, .slice AT T.length cT] 24)).heap.size := by simp
  have HM := Lib.hid (madeYesC _ vP _ P T (hP.alloc (.cells #[vP, .slice AT T.length cT] 24)) (hT.alloc _) n0 hn0 hs8)
  have HSm := Lib.hid (fun W (b : Below w.heap.size w W) => by
    have := smallH W vP (.slice AT T.length cT) P T (hP.below b (Nat.le_refl _)) (hT.below b (Nat.le_refl _)) 6
    rw [hs] at this
    exact this)
  clear hr hX hP hT hs hs8
  go_enter Tryz.func6, Tryz.ntmps6
  go_wp2_with fail
  refine HM.out.mono ?_
  rintro en w1 ⟨c, cap, h0, rfl, hS, _⟩
  obtain ⟨bud, hbud⟩ : ∃ x, x = (n0 : Int) % 4 := ⟨_, rfl⟩
  rw [← hbud] at hS
  clear hbud
  obtain ⟨w0, hw0⟩ : ∃ w0, w0 = w.alloc (.cells #[vP, .slice AT T.length cT] 24) := ⟨_, rfl⟩
  rw [← hw0] at hS hbx HX HB0
  have hw0s : w.heap.size ≤ w0.heap.size := HB0.out.size
  have HC : Hid (∀ W, Below w0.heap.size w0 W → W.cell? ⟨w.heap.size, 0, none⟩ = some vP ∧ W.cell? ⟨w.heap.size, 1, none⟩ = some (.slice AT T.length cT)) := Lib.hid fun W hW =>
    ⟨(hW.cell (p := ⟨w.heap.size, 0, none⟩) hbx).trans HX.out.1, (hW.cell (p := ⟨w.heap.size, 1, none⟩) hbx).trans HX.out.2⟩
  have H0 := Lib.hid hS
  obtain ⟨f0, f1⟩ := HC.out _ hS.bel
  clear hS HM hw0
  go_wp2_with fail
  refine (HSm.out _ (HB0.out.trans (H0.out.bel.mono hw0s))).mono ?_
  rintro en w2 ⟨rfl, b2⟩
  have H2 := Lib.hid (H0.out.below b2)
  clear b2 f0 f1 H0
  go_wp2
  go_loopw [10] (fun i wr => ∃ (k : Nat) (h : Cn) (G : Cfg), i = .int .i64 k ∧ k ≤ ls.length ∧ CSt w0 wr c cap bud P T h k G) (fun i _ => ls.length - (intOf i).toNat)
  case atStart => exact ⟨0, h0, none, rfl, by omega, H2.out⟩
  case round =>
    clear H2
    obtain ⟨k, h, G, rfl, hk, hW⟩ := hrel
    obtain ⟨wo, rfl⟩ : ∃ wo : World, wo = wr := ⟨_, rfl⟩
    have HW := Lib.hid hW
    clear hW
    by_cases hlt : k < ls.length
    · obtain ⟨bl, off, rfl, hbl, hc⟩ := HR.out (by omega)
      obtain ⟨⟨kd, ii⟩, hx⟩ := getElem?_lt hlt
      have hWb := HB0.out.trans (HW.out.bel.mono hw0s)
      have x0 : wo.cell? ⟨bl, off + k * 2, none⟩ = some (.int .i64 kd) := (hWb.cell (p := ⟨bl, off + k * 2 + 0, none⟩) hbl).trans (hc k _ hx 0 _ rfl)
      have x1 : wo.cell? ⟨bl, off + k * 2 + 1, none⟩ = some (.int .i64 ii) := (hWb.cell (p := ⟨bl, off + k * 2 + 1, none⟩) hbl).trans (hc k _ hx 1 _ rfl)
      have HD := Lib.hid (doCs HW.out (by omega) kd ii)
      clear hc hx hWb
      go_wp2_with fail
      refine HD.out.mono ?_
      rintro en w3 ⟨rr, h', G', hh, rfl, s3, _, _, _, _⟩
      have H3 := Lib.hid s3
      clear s3 hh HD x0 x1
      go_wp2
      go_roundw
      case rel => exact ⟨k + 1, h', G', by go_num, by omega, H3.out⟩
      case measure => simp [intOf]; omega
    · have H4 := Lib.hid (HW.out.le (M := 100) (by omega))
      obtain ⟨_, f1⟩ := HC.out _ HW.out.bel
      have hn9 := HW.out.ok.wtop
      clear HW
      go_wp2
      clear f1
      go_loopw [12] (fun rr wr => ∃ (r : Nat) (h : Cn) (G : Cfg), rr = .int .i64 r ∧ r ≤ 60 * (T.length + 1) ∧ CSt w0 wr c cap bud P T h (100 + 8 * r) G ∧ (wsum (wgC h.wk) h.S = 0 ∨ wsum (wgC h.wk) h.S + r ≤ T.length * 25)) (fun rr _ => 60 * (T.length + 1) - (intOf rr).toNat)
      case atStart => exact ⟨0, h, G, rfl, by omega, H4.out, .inr (by omega)⟩
      case round =>
        clear H4 hn9
        obtain ⟨r, h1, G1, rfl, hr, hW1, hw1⟩ := hrel
        obtain ⟨wp, rfl⟩ : ∃ wp : World, wp = wr := ⟨_, rfl⟩
        have HW1 := Lib.hid hW1
        have HWS := Lib.hid hw1
        clear hW1 hw1
        by_cases hrl : r < 60 * (T.length + 1)
        · obtain ⟨M, hM⟩ : ∃ M, M = wsum (wgC h1.wk) h1.S := ⟨_, rfl⟩
          have HMM := Lib.hid hM
          have HR0 := Lib.hid (show RdC T.length h1 G1 M 0 by rw [hM]; exact HW1.out.ok.rd0)
          have g9 : decide (((r : Nat) : Int) < 60 * (((T.length : Nat) : Int) + 1)) = true := decide_eq_true (by omega)
          clear hM
          go_wp2
          go_loopw [13] (fun jj wr => ∃ (j : Nat) (h : Cn) (G : Cfg), jj = .int .i64 j ∧ j ≤ T.length ∧ CSt w0 wr c cap bud P T h (100 + 8 * r + j) G ∧ RdC T.length h G M j) (fun jj _ => T.length - (intOf jj).toNat)
          case atStart => exact ⟨0, h1, G1, rfl, by omega, HW1.out, HR0.out⟩
          case round =>
            obtain ⟨j, h2, G2, rfl, hj, hW2, hrd⟩ := hrel
            obtain ⟨wq, rfl⟩ : ∃ wq : World, wq = wr := ⟨_, rfl⟩
            have HW2 := Lib.hid hW2
            have HRD := Lib.hid hrd
            clear hW2 hrd
            by_cases hjl : j < T.length
            · obtain ⟨h3, hh3⟩ : ∃ h3, h3 = (stepC T.length (nodC P T) bud h2 j).1 := ⟨_, rfl⟩
              obtain ⟨h4, hh4⟩ : ∃ h4, h4 = (beginC h3 j 10 11).1 := ⟨_, rfl⟩
              obtain ⟨G4, ok4, rd4⟩ := HW2.out.ok.rdNext HW2.out.b0.1 (by have := HW2.out.b0.2; omega) hT6 hjl HRD.out h3 h4 hh3 hh4
              have HS30 := stepCn HW2.out.is j (by rw [HW2.out.len]; exact HW2.out.ok.ccond (by omega))
              rw [HW2.out.len] at HS30
              have HS3 := Lib.hid HS30
              clear HS30
              have HE := Lib.hid (And.intro hh3 hh4)
              have H4 := Lib.hid (And.intro ok4 rd4)
              clear hh3 hh4 ok4 rd4
              go_wp2_with fail
              refine HS3.out.mono ?_
              rintro en w3 ⟨rfl, i3, t3⟩
              replace i3 : CnIs w3 c cap bud (nodesTo P T T.length) h3 := by rw [HE.out.1]; exact i3
              have HI3 := Lib.hid (And.intro i3 t3)
              clear i3 t3
              go_wp2_with fail
              refine (leaveCn HI3.out.1 j).mono ?_
              rintro en w4 ⟨rfl, i4, t4⟩
              rw [← HE.out.2] at i4
              have H5 := Lib.hid (HW2.out.next (HI3.out.2.trans t4) i4 H4.out.1)
              clear i4 t4
              go_wp2
              go_roundw
              case rel => exact ⟨j + 1, h4, G4, by go_num, by omega, H5.out.le (by omega), H4.out.2⟩
              case measure => simp [intOf]; omega
            · obtain rfl : j = T.length := by omega
              have HL := Lib.hid (show wsum (wgC h2.wk) h2.S = 0 ∨ wsum (wgC h2.wk) h2.S + (r + 1) ≤ T.length * 25 from by
                rcases HRD.out.last with h9 | h9
                · exact .inl h9
                · have := HMM.out
                  rcases HWS.out with h8 | h8
                  · omega
                  · exact .inr (by omega))
              have H6 := Lib.hid (HW2.out.le (M := 100 + 8 * (r + 1)) (by omega))
              go_wp2
              go_roundw
              case rel => exact ⟨r + 1, h2, G2, by go_num, by omega, H6.out, HL.out⟩
              case measure => simp [intOf]; omega
        · have HZ := Lib.hid (show wsum (wgC h1.wk) h1.S = 0 by rcases HWS.out with h8 | h8 <;> omega)
          have HRT := Lib.hid (fun i (hi : i < T.length) => HW1.out.ok.rest HZ.out hi)
          have hSl : h1.S.length = T.length := by rw [HW1.out.is.sl, HW1.out.len]
          go_wp2
          go_loopw [14] (fun jj wr => ∃ j : Nat, jj = .int .i64 j ∧ j ≤ T.length ∧ CSt w0 wr c cap bud P T h1 (100 + 8 * r) G1) (fun jj _ => T.length - (intOf jj).toNat)
          case atStart => exact ⟨0, rfl, by omega, HW1.out⟩
          case round =>
            obtain ⟨j, rfl, hj, hC⟩ := hrel
            obtain ⟨wi, rfl⟩ : ∃ wi : World, wi = wr := ⟨_, rfl⟩
            have HCj := Lib.hid hC
            clear hC
            by_cases hjs : j < T.length
            · obtain ⟨pj, hpj⟩ : ∃ pj, pj = getS h1.S j := ⟨_, rfl⟩
              have hz : pj.pc = 0 := by rw [hpj, getS_nat (by omega)]; exact HRT.out j hjs
              have HPj := Lib.hid hpj
              have e0 : (pj.pc != 0) = false := by simp [hz]
              clear hpj hz
              go_wp2_with fail
              refine (HCj.out.spot j).mono ?_
              rintro en wj ⟨rfl, bj⟩
              rw [← HPj.out]
              unfold spotV
              have hfp := field_pc
              have HCk := Lib.hid (HCj.out.below bj)
              clear bj
              go_wp2
              go_roundw
              case rel => exact ⟨j + 1, by go_num, by omega, HCk.out⟩
              case measure => simp [intOf]; omega
            · go_wp2_with fail
              refine (awake31 _).mono ?_
              rintro en wa2 ⟨rfl, ba2⟩
              have HB2 := Lib.hid (HB0.out.trans ((HCj.out.bel.trans (ba2.mono HCj.out.bel.size)).mono hw0s))
              clear ba2
              go_wp2
              go_ret
              exact ⟨rfl, HB2.out⟩
theorem MadeAnyC.no {w : World} {vP vT : Value} {n0 : Nat} (hs : SmNo w vP vT 8) : MadeAnyC w vP vT n0 := (madeNoC w vP vT n0 hs).mono fun _ _ ⟨h1, h2⟩ => ⟨_, _, _, h1, h2⟩
theorem MadeAnyC.yes {w : World} {vP vT : Value} {P T : List Int} {n0 : Nat} (hP : RdL w vP 1 encI P) (hT : RdL w vT 1 encI T) (hn0 : n0 < 256) (hs : smallB P T 8 = true) : MadeAnyC w vP vT n0 :=
  (madeYesC w vP vT P T hP hT n0 hn0 hs).mono fun _ _ ⟨_, _, _, h1, h2, _⟩ => ⟨_, _, _, h1, h2.bel⟩
theorem MadeAnyC.of {w : World} {vP vT : Value} {P T : List Int} {n0 : Nat} (hP : RdL w vP 1 encI P) (hT : RdL w vT 1 encI T) (hn0 : n0 < 256) : MadeAnyC w vP vT n0 := by
  cases hs : smallB P T 8
  · exact .no (.of hP hT hs)
  · exact .yes hP hT hn0 hs
end Go.Proofs.YtkdaiomjbkpedaaGreat
end
