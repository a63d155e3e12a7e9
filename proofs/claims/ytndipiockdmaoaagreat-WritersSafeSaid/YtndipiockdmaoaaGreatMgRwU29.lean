/- Joined: Sm10w. -/
import Derived.Deep.DeepCutAuto
import Derived.Test.YtndipiockdmaoaaGreatMgRwU1
import Derived.Test.YtndipiockdmaoaaGreatMgRwU28
section
set_option linter.unusedVariables false
set_option linter.unusedSimpArgs false
/- Layer 38 (writers): the walk of WritersSafe. (printed by gen_sm10.py) -/
namespace Go.Proofs.YtndipiockdmaoaaGreat
open Go.RowKit

set_option maxRecDepth 100000 in
theorem longS_w (w : World) (vP vT : Value) (a0 a1 a2 : Int) (A : Option Addr) (m c : Nat) (h1 : 150 < m) (h2 : m ≤ 9223372036854775807) :
    Calls Tryz.prog 6 #[.agg #[vP, vT], .agg #[.int .u8 a0, .int .u8 a1, .int .u8 a2], .slice A m c] w fun e w' => e = .returned (.bool true) ∧ Below w.heap.size w w' := by
  have HB := Lib.hid (((Below.refl w.heap.size w).alloc (Nat.le_refl _) (.cells #[vP, vT] 29)).alloc (by simp) (.cells #[.int .u8 a0, .int .u8 a1, .int .u8 a2] 50))
  go_enter Tryz.func6, Tryz.ntmps6
  go_wp2_with fail
  refine (awake38 _).mono ?_
  rintro en w1 ⟨rfl, hb⟩
  have H1 := Lib.hid (HB.out.trans (hb.mono HB.out.size))
  clear hb
  go_wp2
  go_ret
  exact ⟨rfl, H1.out⟩
set_option maxRecDepth 100000 in
set_option maxHeartbeats 1000000 in
theorem noS_w (w : World) (vP vT : Value) (a0 a1 a2 : Int) (hs : SmNo w vP vT 8) (A : Option Addr) (m c : Nat) (hm : m ≤ 150) :
    Calls Tryz.prog 6 #[.agg #[vP, vT], .agg #[.int .u8 a0, .int .u8 a1, .int .u8 a2], .slice A m c] w fun e w' => e = .returned (.bool true) ∧ Below w.heap.size w w' := by
  obtain ⟨w0, hw0⟩ : ∃ W, W = (w.alloc (.cells #[vP, vT] 29)).alloc (.cells #[.int .u8 a0, .int .u8 a1, .int .u8 a2] 50) := ⟨_, rfl⟩
  have HB0 := Lib.hid (show Below w.heap.size w w0 from by rw [hw0]; exact ((Below.refl w.heap.size w).alloc (Nat.le_refl _) _).alloc (by simp) _)
  have HX := Lib.hid (show Blk w0 w.heap.size 29 #[vP, vT] from by rw [hw0]; exact (Blk.new w 29 #[vP, vT]).alloc _)
  have HX2 := Lib.hid (show Blk w0 (w.heap.size + 1) 50 #[.int .u8 a0, .int .u8 a1, .int .u8 a2] from by
    rw [hw0]
    have := Blk.new (w.alloc (.cells #[vP, vT] 29)) 50 #[.int .u8 a0, .int .u8 a1, .int .u8 a2]
    simpa using this)
  have HM := Lib.hid (madeNoS_w w0 vP vT a0 a1 a2 (hs.below HB0.out))
  have HS := Lib.hid hs
  clear hs
  go_enter Tryz.func6, Tryz.ntmps6
  go_upto_region 1 with fail
  rw [← hw0]
  clear hw0
  have f0 : w0.cell? ⟨w.heap.size, 0, none⟩ = some vP := HX.out.cell 0
  have f1 : w0.cell? ⟨w.heap.size, 1, none⟩ = some vT := HX.out.cell 1
  have n0 : w0.cell? ⟨w.heap.size + 1, 0, none⟩ = some (.int .u8 a0) := HX2.out.cell 0
  have n1 : w0.cell? ⟨w.heap.size + 1, 1, none⟩ = some (.int .u8 a1) := HX2.out.cell 1
  have n2 : w0.cell? ⟨w.heap.size + 1, 2, none⟩ = some (.int .u8 a2) := HX2.out.cell 2
  go_wp2_with fail
  refine HM.out.mono ?_
  rintro en w1 ⟨rfl, b1⟩
  have hX1 := HX.out.below b1 HX.out.lt
  have HB1 := Lib.hid (HB0.out.trans (b1.mono HB0.out.size))
  clear b1 f0 f1 n0 n1 n2
  have f0 : w1.cell? ⟨w.heap.size, 0, none⟩ = some vP := hX1.cell 0
  have f1 : w1.cell? ⟨w.heap.size, 1, none⟩ = some vT := hX1.cell 1
  clear hX1
  go_wp2_with fail
  refine (HS.out _ HB1.out).mono ?_
  rintro en w2 ⟨rfl, b2⟩
  have HB2 := Lib.hid (HB1.out.trans (b2.mono HB1.out.size))
  clear b2
  go_wp2_with fail
  refine (awake38 _).mono ?_
  rintro en w3 ⟨rfl, b3⟩
  have HB3 := Lib.hid (HB2.out.trans (b3.mono HB2.out.size))
  clear b3
  go_wp2
  go_ret
  exact ⟨rfl, HB3.out⟩
set_option maxRecDepth 100000 in
set_option maxHeartbeats 16000000 in
theorem safeS_w (w : World) (vP : Value) (AT : Option Addr) (cT : Nat) (P T : List Int) (hP : RdL w vP 1 encI P) (hT : RdL w (.slice AT T.length cT) 1 encI T) (a0 a1 a2 : Nat) (h0 : a0 < 256) (h1 : a1 < 256) (h2 : a2 < 256) (hs : smallB P T 8 = true) (v : Value) (ls : List (Int × Int)) (h : RdL w v 2 encP ls) (hl150 : ls.length ≤ 150) :
    Calls Tryz.prog 6 #[.agg #[vP, .slice AT T.length cT], .agg #[.int .u8 a0, .int .u8 a1, .int .u8 a2], v] w fun e w' => e = .returned (.bool true) ∧ Below w.heap.size w w' := by
  obtain ⟨A, cap, rfl, l1, l2, hr⟩ := h
  have HR := Lib.hid hr
  have hT8 : T.length ≤ 8 := by have := (of_decide_eq_true hs).2; omega
  obtain ⟨w0, hw0⟩ : ∃ W, W = (w.alloc (.cells #[vP, .slice AT T.length cT] 29)).alloc (.cells #[.int .u8 a0, .int .u8 a1, .int .u8 a2] 50) := ⟨_, rfl⟩
  have HB0 := Lib.hid (show Below w.heap.size w w0 from by rw [hw0]; exact ((Below.refl w.heap.size w).alloc (Nat.le_refl _) _).alloc (by simp) _)
  have HX := Lib.hid (show Blk w0 w.heap.size 29 #[vP, .slice AT T.length cT] from by rw [hw0]; exact (Blk.new w 29 #[vP, .slice AT T.length cT]).alloc _)
  have HX2 := Lib.hid (show Blk w0 (w.heap.size + 1) 50 #[.int .u8 a0, .int .u8 a1, .int .u8 a2] from by
    rw [hw0]
    have := Blk.new (w.alloc (.cells #[vP, .slice AT T.length cT] 29)) 50 #[.int .u8 a0, .int .u8 a1, .int .u8 a2]
    simpa using this)
  have HM := Lib.hid (madeYesS_w w0 vP _ P T (hP.below HB0.out (Nat.le_refl _)) (hT.below HB0.out (Nat.le_refl _)) a0 a1 a2 h0 h1 h2 hs)
  clear hr hP hT hs
  go_enter Tryz.func6, Tryz.ntmps6
  go_upto_region 1 with fail
  rw [← hw0]
  clear hw0
  have f0 : w0.cell? ⟨w.heap.size, 0, none⟩ = some vP := HX.out.cell 0
  have f1 : w0.cell? ⟨w.heap.size, 1, none⟩ = some (.slice AT T.length cT) := HX.out.cell 1
  have n0 : w0.cell? ⟨w.heap.size + 1, 0, none⟩ = some (.int .u8 a0) := HX2.out.cell 0
  have n1 : w0.cell? ⟨w.heap.size + 1, 1, none⟩ = some (.int .u8 a1) := HX2.out.cell 1
  have n2 : w0.cell? ⟨w.heap.size + 1, 2, none⟩ = some (.int .u8 a2) := HX2.out.cell 2
  go_wp2_with fail
  refine HM.out.mono ?_
  rintro en w1 ⟨a, g, B, BC, X, c, L, x0, rfl, hK, hS⟩
  have H0 := Lib.hid hS
  have HK := Lib.hid hK
  have hw0s : w.heap.size ≤ w0.heap.size := HB0.out.size
  have hx0 : w.heap.size < w0.heap.size := HX.out.lt
  have HC0 : Hid (∀ W, Below w0.heap.size w0 W → W.cell? ⟨w.heap.size, 1, none⟩ = some (.slice AT T.length cT)) := Lib.hid fun W hW => (HX.out.below hW hx0).cell 1
  clear hS hK HM f0 f1 n0 n1 n2
  go_wp2
  go_loopw [10] (fun i wr => ∃ (k : Nat) (x : Nu), i = .int .i64 k ∧ k ≤ ls.length ∧ SmStW w0 wr B BC a g X c P T L x (40 + 4 * (k : Int)) (2000 + k)) (fun i _ => ls.length - (intOf i).toNat)
  case atStart => exact ⟨0, x0, rfl, by omega, H0.out⟩
  case round =>
    clear H0
    obtain ⟨k, x, rfl, hk, hW⟩ := hrel
    obtain ⟨wo, rfl⟩ : ∃ wo : World, wo = wr := ⟨_, rfl⟩
    have HW := Lib.hid hW
    clear hW
    by_cases hlt : k < ls.length
    · obtain ⟨bl, off, rfl, hbl, hc⟩ := HR.out (by omega)
      obtain ⟨⟨kd, ii⟩, hx⟩ := getElem?_lt hlt
      have HLc : Hid (∀ W, Below w0.heap.size w0 W → W.cell? ⟨bl, off + k * 2, none⟩ = some (.int .i64 kd) ∧ W.cell? ⟨bl, off + k * 2 + 1, none⟩ = some (.int .i64 ii)) := Lib.hid fun W hW => by
        have hWb := HB0.out.trans (hW.mono hw0s)
        exact ⟨(hWb.cell (p := ⟨bl, off + k * 2 + 0, none⟩) hbl).trans (hc k _ hx 0 _ rfl), (hWb.cell (p := ⟨bl, off + k * 2 + 1, none⟩) hbl).trans (hc k _ hx 1 _ rfl)⟩
      clear hc hx
      obtain ⟨x0c, x1c⟩ := HLc.out _ HW.out.bel
      have HD := Lib.hid (doS_w HW.out.is HW.out.s HK.out (by omega) (by have := HW.out.op; omega) kd ii)
      go_wp2_with fail
      refine (aops_any HW.out.is.co.ar).mono ?_
      rintro en w2 ⟨rfl, rfl⟩
      go_wp2_with fail
      refine HD.out.mono ?_
      rintro en w3 ⟨rr, rfl, k3, t3⟩
      have H3' := HW.out.act HK.out (by omega) k3 t3
      obtain ⟨x', hx'⟩ : ∃ x', x' = actWs c (leavesL P).length x kd ii := ⟨_, rfl⟩
      rw [← hx'] at H3'
      have H3 := Lib.hid H3'
      clear hx' H3' k3 t3 HD x0c x1c
      have f1 := HC0.out _ H3.out.1.bel
      go_wp2_with fail
      refine (inS_w H3.out.1.is H3.out.1.s).mono ?_
      rintro en w4 ⟨rfl, b4⟩
      have H4 := Lib.hid (H3.out.1.below b4)
      have HCn := Lib.hid (H3.out.1.s.i.cnt HK.out.y)
      clear b4 f1
      obtain ⟨rn, hrn⟩ : ∃ z : Nat, z = cntN T.length (rdH x'.U) := ⟨_, rfl⟩
      obtain ⟨wn, hwn⟩ : ∃ z : Nat, z = cntN T.length (wrH x'.U) := ⟨_, rfl⟩
      rw [← hrn, ← hwn] at HCn ⊢
      clear hrn hwn
      obtain ⟨zw, hzw⟩ : ∃ z : Int, z = (wn : Int) := ⟨_, rfl⟩
      obtain ⟨zr, hzr⟩ : ∃ z : Int, z = (rn : Int) := ⟨_, rfl⟩
      have hcs : zw = 0 ∨ zw = 1 ∧ zr = 0 := by have := HCn.out; omega
      rw [← hzw, ← hzr]
      clear hzw hzr HCn
      have xw : IntKind.i64.wrap ((x.st.s.ops : Int) + 1) = (x.st.s.ops : Int) + 1 := IntWalk.i64_in _ (by have := HW.out.op; omega)
      have g5 : decide ((x.st.s.ops : Int) + 1 < (x'.st.s.ops : Int)) = false := decide_eq_false (by have := H3.out.2.1; omega)
      have g6 : ¬ (x.st.s.ops : Int) + 1 < (x'.st.s.ops : Int) := by have := H3.out.2.1; omega
      obtain ⟨x0c, _⟩ := HLc.out _ H4.out.bel
      have HF := Lib.hid (show SmStW w0 w4 B BC a g X c P T L x' (40 + 4 * ((k + 1 : Nat) : Int)) (2000 + (k + 1)) from ⟨H4.out.is, ⟨H4.out.s.i, H4.out.s.ok.mono (by omega)⟩, H4.out.bel, H4.out.hl, by have := H4.out.op; omega⟩)
      rcases hcs with rfl | ⟨rfl, rfl⟩
      · go_wp2_with fail
        refine (aops_any H4.out.is.co.ar).mono ?_
        rintro en w5 ⟨rfl, rfl⟩
        by_cases k0 : kd = 0
        · subst k0
          go_wp2
          go_roundw
          case rel => exact ⟨k + 1, x', by go_num, by omega, HF.out⟩
          case measure => simp [intOf]; omega
        · have e0 : (kd != 0) = true := by simpa using k0
          have e9 : (x'.st.s.ops : Int) = (x.st.s.ops : Int) := by rw [H3.out.2.2 k0]
          have e1 : ((x'.st.s.ops : Int) != (x.st.s.ops : Int)) = false := by rw [e9]; simp
          clear e9
          go_wp2_with fail
          refine (aops_any H4.out.is.co.ar).mono ?_
          rintro en w6 ⟨rfl, rfl⟩
          go_wp2
          go_roundw
          case rel => exact ⟨k + 1, x', by go_num, by omega, HF.out⟩
          case measure => simp [intOf]; omega
      · go_wp2_with fail
        refine (aops_any H4.out.is.co.ar).mono ?_
        rintro en w5 ⟨rfl, rfl⟩
        by_cases k0 : kd = 0
        · subst k0
          go_wp2
          go_roundw
          case rel => exact ⟨k + 1, x', by go_num, by omega, HF.out⟩
          case measure => simp [intOf]; omega
        · have e0 : (kd != 0) = true := by simpa using k0
          have e9 : (x'.st.s.ops : Int) = (x.st.s.ops : Int) := by rw [H3.out.2.2 k0]
          have e1 : ((x'.st.s.ops : Int) != (x.st.s.ops : Int)) = false := by rw [e9]; simp
          clear e9
          go_wp2_with fail
          refine (aops_any H4.out.is.co.ar).mono ?_
          rintro en w6 ⟨rfl, rfl⟩
          go_wp2
          go_roundw
          case rel => exact ⟨k + 1, x', by go_num, by omega, HF.out⟩
          case measure => simp [intOf]; omega
    · have HW1 := Lib.hid (show w.heap.size ≤ wo.heap.size from Nat.le_trans hw0s HW.out.bel.size)
      go_wp2_with fail
      refine (awake38 _).mono ?_
      rintro en wa2 ⟨rfl, ba2⟩
      have HB2 := Lib.hid (HB0.out.trans ((HW.out.bel.trans (ba2.mono HW.out.bel.size)).mono hw0s))
      clear ba2
      go_wp2
      go_ret
      exact ⟨rfl, HB2.out⟩
end Go.Proofs.YtndipiockdmaoaaGreat
end
