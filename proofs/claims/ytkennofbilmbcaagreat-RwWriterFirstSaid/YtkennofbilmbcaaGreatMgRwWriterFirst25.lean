/- Joined: RwFw. -/
import Derived.Deep.DeepCutAuto
import Derived.Test.YtkennofbilmbcaaGreatMgRwWriterFirst1
import Derived.Test.YtkennofbilmbcaaGreatMgRwWriterFirst19
import Derived.Test.YtkennofbilmbcaaGreatMgRwWriterFirst24
section
set_option linter.unusedVariables false
set_option linter.unusedSimpArgs false
/- Layer 39 (rw): the walk of RwWriterFirst. (printed by gen_rwf.py) -/
namespace Go.Proofs.YtkennofbilmbcaaGreat
open Go.RowKit

set_option maxRecDepth 100000 in
set_option maxHeartbeats 1000000 in
theorem noF_w (w : World) (vP vT : Value) (a0 a1 a2 : Int) (hs : SmNo w vP vT 8) (A : Option Addr) (m c : Nat) (hm : m ≤ 150) :
    Calls Tryz.prog 4 #[.agg #[vP, vT], .agg #[.int .u8 a0, .int .u8 a1, .int .u8 a2], .slice A m c] w fun e w' => e = .returned (.bool true) ∧ Below w.heap.size w w' := by
  obtain ⟨w0, hw0⟩ : ∃ W, W = (w.alloc (.cells #[vP, vT] 24)).alloc (.cells #[.int .u8 a0, .int .u8 a1, .int .u8 a2] 25) := ⟨_, rfl⟩
  have HB0 := Lib.hid (show Below w.heap.size w w0 from by rw [hw0]; exact ((Below.refl w.heap.size w).alloc (Nat.le_refl _) _).alloc (by simp) _)
  have HX := Lib.hid (show Blk w0 w.heap.size 24 #[vP, vT] from by rw [hw0]; exact (Blk.new w 24 #[vP, vT]).alloc _)
  have HX2 := Lib.hid (show Blk w0 (w.heap.size + 1) 25 #[.int .u8 a0, .int .u8 a1, .int .u8 a2] from by
    rw [hw0]
    have := Blk.new (w.alloc (.cells #[vP, vT] 24)) 25 #[.int .u8 a0, .int .u8 a1, .int .u8 a2]
    simpa using this)
  have HM := Lib.hid (rmadeNo_w w0 vP vT a0 a1 a2 (hs.below HB0.out))
  have HS := Lib.hid hs
  clear hs
  go_enter Tryz.func4, Tryz.ntmps4
  go_upto_region 1 with fail
  rw [← hw0]
  clear hw0
  have f0 : w0.cell? ⟨w.heap.size, 0, none⟩ = some vP := HX.out.cell 0
  have f1 : w0.cell? ⟨w.heap.size, 1, none⟩ = some vT := HX.out.cell 1
  have n0 : w0.cell? ⟨w.heap.size + 1, 0, none⟩ = some (.int .u8 a0) := HX2.out.cell 0
  have n1 : w0.cell? ⟨w.heap.size + 1, 1, none⟩ = some (.int .u8 a1) := HX2.out.cell 1
  have n2 : w0.cell? ⟨w.heap.size + 1, 2, none⟩ = some (.int .u8 a2) := HX2.out.cell 2
  go_wp2_with fail
  refine HM.out.mono ?_
  rintro en w1 ⟨rfl, b1⟩
  have hX1 := HX.out.below b1 HX.out.lt
  have HB1 := Lib.hid (HB0.out.trans (b1.mono HB0.out.size))
  clear b1 f0 f1 n0 n1 n2
  have f0 : w1.cell? ⟨w.heap.size, 0, none⟩ = some vP := hX1.cell 0
  have f1 : w1.cell? ⟨w.heap.size, 1, none⟩ = some vT := hX1.cell 1
  clear hX1
  go_wp2_with fail
  refine (HS.out _ HB1.out).mono ?_
  rintro en w2 ⟨rfl, b2⟩
  have HB2 := Lib.hid (HB1.out.trans (b2.mono HB1.out.size))
  clear b2
  go_wp2_with fail
  refine (awake39 _).mono ?_
  rintro en w3 ⟨rfl, b3⟩
  have HB3 := Lib.hid (HB2.out.trans (b3.mono HB2.out.size))
  clear b3
  go_wp2
  go_ret
  exact ⟨rfl, HB3.out⟩
set_option maxRecDepth 100000 in
set_option maxHeartbeats 1000000 in
theorem noFL_w (w : World) (vP vT : Value) (a0 a1 a2 : Int) (hs : SmNo w vP vT 8) (A : Option Addr) (m c : Nat) (hm : 150 < m) (hm2 : m ≤ 9223372036854775807) :
    Calls Tryz.prog 4 #[.agg #[vP, vT], .agg #[.int .u8 a0, .int .u8 a1, .int .u8 a2], .slice A m c] w fun e w' => e = .returned (.bool true) ∧ Below w.heap.size w w' := by
  obtain ⟨w0, hw0⟩ : ∃ W, W = (w.alloc (.cells #[vP, vT] 24)).alloc (.cells #[.int .u8 a0, .int .u8 a1, .int .u8 a2] 25) := ⟨_, rfl⟩
  have HB0 := Lib.hid (show Below w.heap.size w w0 from by rw [hw0]; exact ((Below.refl w.heap.size w).alloc (Nat.le_refl _) _).alloc (by simp) _)
  have HX := Lib.hid (show Blk w0 w.heap.size 24 #[vP, vT] from by rw [hw0]; exact (Blk.new w 24 #[vP, vT]).alloc _)
  have HX2 := Lib.hid (show Blk w0 (w.heap.size + 1) 25 #[.int .u8 a0, .int .u8 a1, .int .u8 a2] from by
    rw [hw0]
    have := Blk.new (w.alloc (.cells #[vP, vT] 24)) 25 #[.int .u8 a0, .int .u8 a1, .int .u8 a2]
    simpa using this)
  have HM := Lib.hid (rmadeNo_w w0 vP vT a0 a1 a2 (hs.below HB0.out))
  clear hs
  go_enter Tryz.func4, Tryz.ntmps4
  go_upto_region 1 with fail
  rw [← hw0]
  clear hw0
  have f0 : w0.cell? ⟨w.heap.size, 0, none⟩ = some vP := HX.out.cell 0
  have f1 : w0.cell? ⟨w.heap.size, 1, none⟩ = some vT := HX.out.cell 1
  have n0 : w0.cell? ⟨w.heap.size + 1, 0, none⟩ = some (.int .u8 a0) := HX2.out.cell 0
  have n1 : w0.cell? ⟨w.heap.size + 1, 1, none⟩ = some (.int .u8 a1) := HX2.out.cell 1
  have n2 : w0.cell? ⟨w.heap.size + 1, 2, none⟩ = some (.int .u8 a2) := HX2.out.cell 2
  go_wp2_with fail
  refine HM.out.mono ?_
  rintro en w1 ⟨rfl, b1⟩
  have hX1 := HX.out.below b1 HX.out.lt
  have HB1 := Lib.hid (HB0.out.trans (b1.mono HB0.out.size))
  clear b1 f0 f1 n0 n1 n2
  have f0 : w1.cell? ⟨w.heap.size, 0, none⟩ = some vP := hX1.cell 0
  have f1 : w1.cell? ⟨w.heap.size, 1, none⟩ = some vT := hX1.cell 1
  clear hX1
  go_wp2_with fail
  refine (awake39 _).mono ?_
  rintro en w3 ⟨rfl, b3⟩
  have HB3 := Lib.hid (HB1.out.trans (b3.mono HB1.out.size))
  clear b3
  go_wp2
  go_ret
  exact ⟨rfl, HB3.out⟩
set_option maxRecDepth 100000 in
set_option maxHeartbeats 16000000 in
theorem yesFL_w (w : World) (vP : Value) (AT : Option Addr) (cT : Nat) (P T : List Int) (hP : RdL w vP 1 encI P) (hT : RdL w (.slice AT T.length cT) 1 encI T) (a0 a1 a2 : Nat) (h0 : a0 < 256) (h1 : a1 < 256) (h2 : a2 < 256) (hs : smallB P T 8 = true) (A : Option Addr) (m cap : Nat) (hl150 : 150 < m) (hl2 : m ≤ 9223372036854775807) :
    Calls Tryz.prog 4 #[.agg #[vP, .slice AT T.length cT], .agg #[.int .u8 a0, .int .u8 a1, .int .u8 a2], .slice A m cap] w fun e w' => e = .returned (.bool true) ∧ Below w.heap.size w w' := by
  have hT8 : T.length ≤ 8 := by have := (of_decide_eq_true hs).2; omega
  obtain ⟨w0, hw0⟩ : ∃ W, W = (w.alloc (.cells #[vP, .slice AT T.length cT] 24)).alloc (.cells #[.int .u8 a0, .int .u8 a1, .int .u8 a2] 25) := ⟨_, rfl⟩
  have HB0 := Lib.hid (show Below w.heap.size w w0 from by rw [hw0]; exact ((Below.refl w.heap.size w).alloc (Nat.le_refl _) _).alloc (by simp) _)
  have HX := Lib.hid (show Blk w0 w.heap.size 24 #[vP, .slice AT T.length cT] from by rw [hw0]; exact (Blk.new w 24 #[vP, .slice AT T.length cT]).alloc _)
  have HX2 := Lib.hid (show Blk w0 (w.heap.size + 1) 25 #[.int .u8 a0, .int .u8 a1, .int .u8 a2] from by
    rw [hw0]
    have := Blk.new (w.alloc (.cells #[vP, .slice AT T.length cT] 24)) 25 #[.int .u8 a0, .int .u8 a1, .int .u8 a2]
    simpa using this)
  have HM := Lib.hid (rmadeYes_w w0 vP _ P T (hP.below HB0.out (Nat.le_refl _)) (hT.below HB0.out (Nat.le_refl _)) a0 a1 a2 h0 h1 h2 hs)
  clear hP hT hs
  go_enter Tryz.func4, Tryz.ntmps4
  go_upto_region 1 with fail
  rw [← hw0]
  clear hw0
  have f0 : w0.cell? ⟨w.heap.size, 0, none⟩ = some vP := HX.out.cell 0
  have f1 : w0.cell? ⟨w.heap.size, 1, none⟩ = some (.slice AT T.length cT) := HX.out.cell 1
  have n0 : w0.cell? ⟨w.heap.size + 1, 0, none⟩ = some (.int .u8 a0) := HX2.out.cell 0
  have n1 : w0.cell? ⟨w.heap.size + 1, 1, none⟩ = some (.int .u8 a1) := HX2.out.cell 1
  have n2 : w0.cell? ⟨w.heap.size + 1, 2, none⟩ = some (.int .u8 a2) := HX2.out.cell 2
  go_wp2_with fail
  refine HM.out.mono ?_
  rintro en w1 ⟨a, g, q, B, BC, X, c, L, x0, rfl, hK, hS, hU0⟩
  have H0 := Lib.hid hS
  have hw0s : w.heap.size ≤ w0.heap.size := HB0.out.size
  clear hS hK HM f0 f1 n0 n1 n2
  go_wp2_with fail
  refine (awake39 _).mono ?_
  rintro en wa2 ⟨rfl, ba2⟩
  have HB2 := Lib.hid (HB0.out.trans ((H0.out.s.bel.trans (ba2.mono H0.out.s.bel.size)).mono hw0s))
  clear ba2
  go_wp2
  go_ret
  exact ⟨rfl, HB2.out⟩
set_option maxRecDepth 100000 in
set_option maxHeartbeats 16000000 in
theorem first_w (w : World) (vP : Value) (AT : Option Addr) (cT : Nat) (P T : List Int) (hP : RdL w vP 1 encI P) (hT : RdL w (.slice AT T.length cT) 1 encI T) (a0 a1 a2 : Nat) (h0 : a0 < 256) (h1 : a1 < 256) (h2 : a2 < 256) (hs : smallB P T 8 = true) (v : Value) (ls : List (Int × Int)) (h : RdL w v 2 encP ls) (hl150 : ls.length ≤ 150) :
    Calls Tryz.prog 4 #[.agg #[vP, .slice AT T.length cT], .agg #[.int .u8 a0, .int .u8 a1, .int .u8 a2], v] w fun e w' => e = .returned (.bool true) ∧ Below w.heap.size w w' := by
  obtain ⟨A, cap, rfl, l1, l2, hr⟩ := h
  have HR := Lib.hid hr
  have hT8 : T.length ≤ 8 := by have := (of_decide_eq_true hs).2; omega
  obtain ⟨w0, hw0⟩ : ∃ W, W = (w.alloc (.cells #[vP, .slice AT T.length cT] 24)).alloc (.cells #[.int .u8 a0, .int .u8 a1, .int .u8 a2] 25) := ⟨_, rfl⟩
  have HB0 := Lib.hid (show Below w.heap.size w w0 from by rw [hw0]; exact ((Below.refl w.heap.size w).alloc (Nat.le_refl _) _).alloc (by simp) _)
  have HX := Lib.hid (show Blk w0 w.heap.size 24 #[vP, .slice AT T.length cT] from by rw [hw0]; exact (Blk.new w 24 #[vP, .slice AT T.length cT]).alloc _)
  have HX2 := Lib.hid (show Blk w0 (w.heap.size + 1) 25 #[.int .u8 a0, .int .u8 a1, .int .u8 a2] from by
    rw [hw0]
    have := Blk.new (w.alloc (.cells #[vP, .slice AT T.length cT] 24)) 25 #[.int .u8 a0, .int .u8 a1, .int .u8 a2]
    simpa using this)
  have HM := Lib.hid (rmadeYes_w w0 vP _ P T (hP.below HB0.out (Nat.le_refl _)) (hT.below HB0.out (Nat.le_refl _)) a0 a1 a2 h0 h1 h2 hs)
  clear hr hP hT hs
  go_enter Tryz.func4, Tryz.ntmps4
  go_upto_region 1 with fail
  rw [← hw0]
  clear hw0
  have f0 : w0.cell? ⟨w.heap.size, 0, none⟩ = some vP := HX.out.cell 0
  have f1 : w0.cell? ⟨w.heap.size, 1, none⟩ = some (.slice AT T.length cT) := HX.out.cell 1
  have n0 : w0.cell? ⟨w.heap.size + 1, 0, none⟩ = some (.int .u8 a0) := HX2.out.cell 0
  have n1 : w0.cell? ⟨w.heap.size + 1, 1, none⟩ = some (.int .u8 a1) := HX2.out.cell 1
  have n2 : w0.cell? ⟨w.heap.size + 1, 2, none⟩ = some (.int .u8 a2) := HX2.out.cell 2
  go_wp2_with fail
  refine HM.out.mono ?_
  rintro en w1 ⟨a, g, q, B, BC, X, c, L, x0, rfl, hK, hS, hU0⟩
  have H0 := Lib.hid hS
  have HK := Lib.hid hK
  have HU0 := Lib.hid hU0
  have hw0s : w.heap.size ≤ w0.heap.size := HB0.out.size
  have hx0 : w.heap.size < w0.heap.size := HX.out.lt
  have HC0 : Hid (∀ W, Below w0.heap.size w0 W → W.cell? ⟨w.heap.size, 1, none⟩ = some (.slice AT T.length cT)) := Lib.hid fun W hW => (HX.out.below hW hx0).cell 1
  clear hS hK HM f0 f1 n0 n1 n2 hU0
  go_wp2
  go_loopw [9] (fun i wr => ∃ (k : Nat) (x : Nu), i = .int .i64 k ∧ k ≤ ls.length ∧ RwStW w0 wr B BC a g q X c P T L x (40 + 4 * (k : Int)) (2000 + k)) (fun i _ => ls.length - (intOf i).toNat)
  case atStart => exact ⟨0, x0, rfl, by omega, H0.out⟩
  case round =>
    clear H0
    obtain ⟨k, x, rfl, hk, hW⟩ := hrel
    obtain ⟨wo, rfl⟩ : ∃ wo : World, wo = wr := ⟨_, rfl⟩
    have HW := Lib.hid hW
    clear hW
    by_cases hlt : k < ls.length
    · obtain ⟨bl, off, rfl, hbl, hc⟩ := HR.out (by omega)
      obtain ⟨⟨kd, ii⟩, hx⟩ := getElem?_lt hlt
      have HLc : Hid (∀ W, Below w0.heap.size w0 W → W.cell? ⟨bl, off + k * 2, none⟩ = some (.int .i64 kd) ∧ W.cell? ⟨bl, off + k * 2 + 1, none⟩ = some (.int .i64 ii)) := Lib.hid fun W hW => by
        have hWb := HB0.out.trans (hW.mono hw0s)
        exact ⟨(hWb.cell (p := ⟨bl, off + k * 2 + 0, none⟩) hbl).trans (hc k _ hx 0 _ rfl), (hWb.cell (p := ⟨bl, off + k * 2 + 1, none⟩) hbl).trans (hc k _ hx 1 _ rfl)⟩
      clear hc hx
      obtain ⟨x0c, x1c⟩ := HLc.out _ HW.out.s.bel
      have HSp0 := rspot_w HW.out.b HW.out.s.is ii
      obtain ⟨p, hp⟩ : ∃ p, p = getS x.U ii := ⟨_, rfl⟩
      rw [← hp] at HSp0
      have HSp := Lib.hid HSp0
      have HPe := Lib.hid hp
      clear HSp0 hp
      go_wp2_with fail
      refine HSp.out.mono ?_
      rintro en w1 ⟨rfl, b1⟩
      have H1 := Lib.hid (HW.out.below b1)
      clear b1 x0c x1c
      unfold spotV
      go_upto_region 11 with fail
      obtain ⟨sb, hsb⟩ : ∃ y, y = w1.heap.size := ⟨_, rfl⟩
      obtain ⟨wa, hwa⟩ : ∃ V, V = w1.alloc (.cells #[.int .i64 p.pc, .int .i64 p.a, .int .i64 p.b, .int .i64 p.c] 35) := ⟨_, rfl⟩
      rw [← hwa, ← hsb]
      have HA := Lib.hid (show RwStW w0 wa B BC a g q X c P T L x (40 + 4 * (k : Int)) (2000 + k) ∧ Blk wa sb 35 #[.int .i64 p.pc, .int .i64 p.a, .int .i64 p.b, .int .i64 p.c] ∧ sb ∉ SmS a g X from ⟨by rw [hwa]; exact H1.out.below ((Below.refl _ _).alloc (Nat.le_refl _) _), by rw [hwa, hsb]; exact Blk.new _ _ _, fun hm => by have := H1.out.s.is.ltsA _ hm; omega⟩)
      clear hwa hsb H1
      obtain ⟨x0c, x1c⟩ := HLc.out _ HA.out.1.s.bel
      have HD := Lib.hid (rdo_w HA.out.1 HK.out (by omega) (by omega) kd ii)
      go_wp2_with fail
      refine HD.out.mono ?_
      rintro en w3 ⟨⟨rr, rfl⟩, k3, t3⟩
      obtain ⟨x', hx'⟩ : ∃ x', x' = actWs c (leavesL P).length x kd ii := ⟨_, rfl⟩
      have hfirst := fun (e0 : (getS x.U ii).pc < 10) (e1 : (getS (actWs c (leavesL P).length x kd ii).U ii).pc = 10) (ea : (getS (actWs c (leavesL P).length x kd ii).U ii).a ≠ 0) => (fun (k : Nat) (hk : k < T.length) (hne : (k : Int) ≠ ii) => WsI.first (N := (leavesL P).length) HA.out.1.s.s.i kd ii e0 e1 ea hk hne)
      rw [← hx'] at k3 hfirst
      have HFi := Lib.hid hfirst
      have H3 := Lib.hid (And.intro k3 (t3.blk HA.out.2.1 HA.out.2.2))
      clear k3 t3 hx' HD x0c x1c hfirst
      have HSp0 := rspot_w H3.out.1.b H3.out.1.s.is ii
      obtain ⟨v, hv⟩ : ∃ v, v = getS x'.U ii := ⟨_, rfl⟩
      rw [← hv] at HSp0
      have HSp := Lib.hid HSp0
      have HVe := Lib.hid hv
      clear HSp0 hv
      go_wp2_with fail
      refine HSp.out.mono ?_
      rintro en w4 ⟨rfl, b4⟩
      have H4 := Lib.hid (And.intro (H3.out.1.below b4) (H3.out.2.below b4 H3.out.2.lt))
      clear b4
      unfold spotV
      go_upto_region 13 with fail
      obtain ⟨sc, hsc⟩ : ∃ y, y = w4.heap.size := ⟨_, rfl⟩
      obtain ⟨wb, hwb⟩ : ∃ V, V = w4.alloc (.cells #[.int .i64 v.pc, .int .i64 v.a, .int .i64 v.b, .int .i64 v.c] 35) := ⟨_, rfl⟩
      rw [← hwb, ← hsc]
      have HBb := Lib.hid (show RwStW w0 wb B BC a g q X c P T L x' (40 + 4 * (k : Int) + 4) (2000 + k + 1) ∧ Blk wb sb 35 #[.int .i64 p.pc, .int .i64 p.a, .int .i64 p.b, .int .i64 p.c] ∧ Blk wb sc 35 #[.int .i64 v.pc, .int .i64 v.a, .int .i64 v.b, .int .i64 v.c] from ⟨by rw [hwb]; exact H4.out.1.below ((Below.refl _ _).alloc (Nat.le_refl _) _), by rw [hwb]; exact H4.out.2.alloc _, by rw [hwb, hsc]; exact Blk.new _ _ _⟩)
      clear hwb hsc H4 H3
      have c0 : wb.cell? ⟨sb, 0, none⟩ = some (.int .i64 p.pc) := HBb.out.2.1.cell 0
      have d0 : wb.cell? ⟨sc, 0, none⟩ = some (.int .i64 v.pc) := HBb.out.2.2.cell 0
      have d1 : wb.cell? ⟨sc, 1, none⟩ = some (.int .i64 v.a) := HBb.out.2.2.cell 1
      have HF := Lib.hid (show RwStW w0 wb B BC a g q X c P T L x' (40 + 4 * ((k + 1 : Nat) : Int)) (2000 + (k + 1)) from HBb.out.1.up (by omega) (by omega))
      by_cases g1 : 10 ≤ p.pc
      · have e1 : decide (10 ≤ p.pc) = true := decide_eq_true g1
        go_wp2
        go_roundw
        case rel => exact ⟨k + 1, x', by go_num, by omega, HF.out⟩
        case measure => simp [intOf]; omega
      by_cases g2 : v.pc = 10
      rotate_left
      · have e1 : decide (10 ≤ p.pc) = false := decide_eq_false g1
        have e2 : (v.pc != 10) = true := by simpa using g2
        clear g2
        go_wp2
        go_roundw
        case rel => exact ⟨k + 1, x', by go_num, by omega, HF.out⟩
        case measure => simp [intOf]; omega
      by_cases g3 : v.a = 0
      · have e1 : decide (10 ≤ p.pc) = false := decide_eq_false g1
        have e2 : (v.pc != 10) = false := by simpa using g2
        have e3 : (v.a == 0) = true := by simpa using g3
        clear g2 g3
        go_wp2
        go_roundw
        case rel => exact ⟨k + 1, x', by go_num, by omega, HF.out⟩
        case measure => simp [intOf]; omega
      have e1 : decide (10 ≤ p.pc) = false := decide_eq_false g1
      have e2 : (v.pc != 10) = false := by simpa using g2
      have e3 : (v.a == 0) = false := by simpa using g3
      have HNo := Lib.hid (HFi.out (by rw [← HPe.out]; omega) (by rw [← HVe.out]; exact g2) (by rw [← HVe.out]; exact g3))
      clear g2 g3 HFi
      go_wp2
      go_loopw [13] (fun i wr => ∃ (j : Nat), i = .int .i64 j ∧ j ≤ T.length ∧ RwStW w0 wr B BC a g q X c P T L x' (40 + 4 * ((k + 1 : Nat) : Int)) (2000 + (k + 1))) (fun i _ => T.length - (intOf i).toNat)
      case atStart => exact ⟨0, rfl, by omega, HF.out⟩
      case round =>
        obtain ⟨j, rfl, hj, hZ⟩ := hrel
        obtain ⟨wp, rfl⟩ : ∃ wp : World, wp = wr := ⟨_, rfl⟩
        have HZ := Lib.hid hZ
        have hjx : j < x'.U.length ∨ T.length ≤ j := by have := hZ.s.is.lU; omega
        clear hZ
        have f1 := HC0.out _ HZ.out.s.bel
        by_cases hjT : j < T.length
        · have HSp0 := rspot_w HZ.out.b HZ.out.s.is (j : Int)
          have hgj : getS x'.U (j : Int) = sv x'.U j := getQ_nat (by omega)
          rw [hgj] at HSp0
          have hno := fun (hne : (j : Int) ≠ ii) => HNo.out j hjT hne
          obtain ⟨r, hr⟩ : ∃ r, r = sv x'.U j := ⟨_, rfl⟩
          rw [← hr] at HSp0 hno
          have HSp := Lib.hid HSp0
          clear HSp0 hgj hr
          go_wp2_with fail
          refine HSp.out.mono ?_
          rintro en w5 ⟨rfl, b5⟩
          have H5 := Lib.hid (HZ.out.below b5)
          clear b5 f1
          unfold spotV
          go_upto_region 18 with fail
          obtain ⟨sd, hsd⟩ : ∃ y, y = w5.heap.size := ⟨_, rfl⟩
          obtain ⟨wc, hwc⟩ : ∃ V, V = w5.alloc (.cells #[.int .i64 r.pc, .int .i64 r.a, .int .i64 r.b, .int .i64 r.c] 35) := ⟨_, rfl⟩
          rw [← hwc, ← hsd]
          have HCc := Lib.hid (show RwStW w0 wc B BC a g q X c P T L x' (40 + 4 * ((k + 1 : Nat) : Int)) (2000 + (k + 1)) ∧ Blk wc sd 35 #[.int .i64 r.pc, .int .i64 r.a, .int .i64 r.b, .int .i64 r.c] from ⟨by rw [hwc]; exact H5.out.below ((Below.refl _ _).alloc (Nat.le_refl _) _), by rw [hwc, hsd]; exact Blk.new _ _ _⟩)
          clear hwc hsd H5
          have q0 : wc.cell? ⟨sd, 0, none⟩ = some (.int .i64 r.pc) := HCc.out.2.cell 0
          have q1 : wc.cell? ⟨sd, 1, none⟩ = some (.int .i64 r.a) := HCc.out.2.cell 1
          by_cases m1 : (j : Int) = ii
          · have n1 : ((j : Int) != ii) = false := by simpa using m1
            clear hno
            go_wp2
            go_roundw
            case rel => exact ⟨j + 1, by go_num, by omega, HCc.out.1⟩
            case measure => simp [intOf]; omega
          have n1 : ((j : Int) != ii) = true := by simpa using m1
          by_cases m2 : r.a = 0
          rotate_left
          · have n2 : (r.a == 0) = false := by simpa using m2
            clear hno m2
            go_wp2
            go_roundw
            case rel => exact ⟨j + 1, by go_num, by omega, HCc.out.1⟩
            case measure => simp [intOf]; omega
          have n2 : (r.a == 0) = true := by simpa using m2
          have hn9 := hno m1
          have n3 : (r.pc == 7) = false := by simp; intro e; exact hn9 ⟨m2, .inl e⟩
          have n4 : (r.pc == 9) = false := by simp; intro e; exact hn9 ⟨m2, .inr (.inl e)⟩
          have n5 : (r.pc == 10) = false := by simp; intro e; exact hn9 ⟨m2, .inr (.inr e)⟩
          clear hno hn9 m2
          go_wp2
          go_roundw
          case rel => exact ⟨j + 1, by go_num, by omega, HCc.out.1⟩
          case measure => simp [intOf]; omega
        · obtain rfl : j = T.length := by omega
          have HFF := Lib.hid (show RwStW w0 wp B BC a g q X c P T L x' (40 + 4 * ((k + 1 : Nat) : Int)) (2000 + (k + 1)) from HZ.out)
          go_wp2
          go_roundw
          case rel => exact ⟨k + 1, x', by go_num, by omega, HFF.out⟩
          case measure => simp [intOf]; omega
    · go_wp2_with fail
      refine (awake39 _).mono ?_
      rintro en wa2 ⟨rfl, ba2⟩
      have HB2 := Lib.hid (HB0.out.trans ((HW.out.s.bel.trans (ba2.mono HW.out.s.bel.size)).mono hw0s))
      clear ba2
      go_wp2
      go_ret
      exact ⟨rfl, HB2.out⟩
end Go.Proofs.YtkennofbilmbcaaGreat
end
