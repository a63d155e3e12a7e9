/- Joined: RwFr. -/
import Derived.Deep.DeepCutAuto
import Derived.Deep.RegionHeld3
import Derived.Test.YtkennofbilmbcaaGreatMgRwReaderFirst1
import Derived.Test.YtkennofbilmbcaaGreatMgRwReaderFirst20
import Derived.Test.YtkennofbilmbcaaGreatMgRwReaderFirst25
section
set_option linter.unusedVariables false
set_option linter.unusedSimpArgs false
/- Layer 39 (rw): the walk of RwReaderFirst. (printed by gen_rwf.py) -/
namespace Go.Proofs.YtkennofbilmbcaaGreat
open Go.RowKit

set_option maxRecDepth 100000 in
set_option maxHeartbeats 1000000 in
theorem noF_r (w : World) (vP vT : Value) (a0 a1 a2 : Int) (hs : SmNo w vP vT 8) (A : Option Addr) (m c : Nat) (hm : m ≤ 150) :
    Calls Tryz.prog 3 #[.agg #[vP, vT], .agg #[.int .u8 a0, .int .u8 a1, .int .u8 a2], .slice A m c] w fun e w' => e = .returned (.bool true) ∧ Below w.heap.size w w' := by
  obtain ⟨w0, hw0⟩ : ∃ W, W = (w.alloc (.cells #[vP, vT] 24)).alloc (.cells #[.int .u8 a0, .int .u8 a1, .int .u8 a2] 25) := ⟨_, rfl⟩
  have HB0 := Lib.hid (show Below w.heap.size w w0 from by rw [hw0]; exact ((Below.refl w.heap.size w).alloc (Nat.le_refl _) _).alloc (by simp) _)
  have HX := Lib.hid (show Blk w0 w.heap.size 24 #[vP, vT] from by rw [hw0]; exact (Blk.new w 24 #[vP, vT]).alloc _)
  have HX2 := Lib.hid (show Blk w0 (w.heap.size + 1) 25 #[.int .u8 a0, .int .u8 a1, .int .u8 a2] from by
    rw [hw0]
    have := Blk.new (w.alloc (.cells #[vP, vT] 24)) 25 #[.int .u8 a0, .int .u8 a1, .int .u8 a2]
    simpa using this)
  have HM := Lib.hid (rmadeNo_r w0 vP vT a0 a1 a2 (hs.below HB0.out))
  have HS := Lib.hid hs
  clear hs
  go_enter Tryz.func3, Tryz.ntmps3
  go_upto_region 1 with fail
  rw [← hw0]
  clear hw0
  have f0 : w0.cell? ⟨w.heap.size, 0, none⟩ = some vP := HX.out.cell 0
  have f1 : w0.cell? ⟨w.heap.size, 1, none⟩ = some vT := HX.out.cell 1
  have n0 : w0.cell? ⟨w.heap.size + 1, 0, none⟩ = some (.int .u8 a0) := HX2.out.cell 0
  have n1 : w0.cell? ⟨w.heap.size + 1, 1, none⟩ = some (.int .u8 a1) := HX2.out.cell 1
  have n2 : w0.cell? ⟨w.heap.size + 1, 2, none⟩ = some (.int .u8 a2) := HX2.out.cell 2
  go_wp2_with fail
  refine HM.out.mono ?_
  rintro en w1 ⟨rfl, b1⟩
  have hX1 := HX.out.below b1 HX.out.lt
  have HB1 := Lib.hid (HB0.out.trans (b1.mono HB0.out.size))
  clear b1 f0 f1 n0 n1 n2
  have f0 : w1.cell? ⟨w.heap.size, 0, none⟩ = some vP := hX1.cell 0
  have f1 : w1.cell? ⟨w.heap.size, 1, none⟩ = some vT := hX1.cell 1
  clear hX1
  go_wp2_with fail
  refine (HS.out _ HB1.out).mono ?_
  rintro en w2 ⟨rfl, b2⟩
  have HB2 := Lib.hid (HB1.out.trans (b2.mono HB1.out.size))
  clear b2
  go_wp2_with fail
  refine (awake39 _).mono ?_
  rintro en w3 ⟨rfl, b3⟩
  have HB3 := Lib.hid (HB2.out.trans (b3.mono HB2.out.size))
  clear b3
  go_wp2
  go_ret
  exact ⟨rfl, HB3.out⟩
set_option maxRecDepth 100000 in
set_option maxHeartbeats 1000000 in
theorem noFL_r (w : World) (vP vT : Value) (a0 a1 a2 : Int) (hs : SmNo w vP vT 8) (A : Option Addr) (m c : Nat) (hm : 150 < m) (hm2 : m ≤ 9223372036854775807) :
    Calls Tryz.prog 3 #[.agg #[vP, vT], .agg #[.int .u8 a0, .int .u8 a1, .int .u8 a2], .slice A m c] w fun e w' => e = .returned (.bool true) ∧ Below w.heap.size w w' := by
  obtain ⟨w0, hw0⟩ : ∃ W, W = (w.alloc (.cells #[vP, vT] 24)).alloc (.cells #[.int .u8 a0, .int .u8 a1, .int .u8 a2] 25) := ⟨_, rfl⟩
  have HB0 := Lib.hid (show Below w.heap.size w w0 from by rw [hw0]; exact ((Below.refl w.heap.size w).alloc (Nat.le_refl _) _).alloc (by simp) _)
  have HX := Lib.hid (show Blk w0 w.heap.size 24 #[vP, vT] from by rw [hw0]; exact (Blk.new w 24 #[vP, vT]).alloc _)
  have HX2 := Lib.hid (show Blk w0 (w.heap.size + 1) 25 #[.int .u8 a0, .int .u8 a1, .int .u8 a2] from by
    rw [hw0]
    have := Blk.new (w.alloc (.cells #[vP, vT] 24)) 25 #[.int .u8 a0, .int .u8 a1, .int .u8 a2]
    simpa using this)
  have HM := Lib.hid (rmadeNo_r w0 vP vT a0 a1 a2 (hs.below HB0.out))
  clear hs
  go_enter Tryz.func3, Tryz.ntmps3
  go_upto_region 1 with fail
  rw [← hw0]
  clear hw0
  have f0 : w0.cell? ⟨w.heap.size, 0, none⟩ = some vP := HX.out.cell 0
  have f1 : w0.cell? ⟨w.heap.size, 1, none⟩ = some vT := HX.out.cell 1
  have n0 : w0.cell? ⟨w.heap.size + 1, 0, none⟩ = some (.int .u8 a0) := HX2.out.cell 0
  have n1 : w0.cell? ⟨w.heap.size + 1, 1, none⟩ = some (.int .u8 a1) := HX2.out.cell 1
  have n2 : w0.cell? ⟨w.heap.size + 1, 2, none⟩ = some (.int .u8 a2) := HX2.out.cell 2
  go_wp2_with fail
  refine HM.out.mono ?_
  rintro en w1 ⟨rfl, b1⟩
  have hX1 := HX.out.below b1 HX.out.lt
  have HB1 := Lib.hid (HB0.out.trans (b1.mono HB0.out.size))
  clear b1 f0 f1 n0 n1 n2
  have f0 : w1.cell? ⟨w.heap.size, 0, none⟩ = some vP := hX1.cell 0
  have f1 : w1.cell? ⟨w.heap.size, 1, none⟩ = some vT := hX1.cell 1
  clear hX1
  go_wp2_with fail
  refine (awake39 _).mono ?_
  rintro en w3 ⟨rfl, b3⟩
  have HB3 := Lib.hid (HB1.out.trans (b3.mono HB1.out.size))
  clear b3
  go_wp2
  go_ret
  exact ⟨rfl, HB3.out⟩
set_option maxRecDepth 100000 in
set_option maxHeartbeats 16000000 in
theorem yesFL_r (w : World) (vP : Value) (AT : Option Addr) (cT : Nat) (P T : List Int) (hP : RdL w vP 1 encI P) (hT : RdL w (.slice AT T.length cT) 1 encI T) (a0 a1 a2 : Nat) (h0 : a0 < 256) (h1 : a1 < 256) (h2 : a2 < 256) (hs : smallB P T 8 = true) (A : Option Addr) (m cap : Nat) (hl150 : 150 < m) (hl2 : m ≤ 9223372036854775807) :
    Calls Tryz.prog 3 #[.agg #[vP, .slice AT T.length cT], .agg #[.int .u8 a0, .int .u8 a1, .int .u8 a2], .slice A m cap] w fun e w' => e = .returned (.bool true) ∧ Below w.heap.size w w' := by
  have hT8 : T.length ≤ 8 := by have := (of_decide_eq_true hs).2; omega
  obtain ⟨w0, hw0⟩ : ∃ W, W = (w.alloc (.cells #[vP, .slice AT T.length cT] 24)).alloc (.cells #[.int .u8 a0, .int .u8 a1, .int .u8 a2] 25) := ⟨_, rfl⟩
  have HB0 := Lib.hid (show Below w.heap.size w w0 from by rw [hw0]; exact ((Below.refl w.heap.size w).alloc (Nat.le_refl _) _).alloc (by simp) _)
  have HX := Lib.hid (show Blk w0 w.heap.size 24 #[vP, .slice AT T.length cT] from by rw [hw0]; exact (Blk.new w 24 #[vP, .slice AT T.length cT]).alloc _)
  have HX2 := Lib.hid (show Blk w0 (w.heap.size + 1) 25 #[.int .u8 a0, .int .u8 a1, .int .u8 a2] from by
    rw [hw0]
    have := Blk.new (w.alloc (.cells #[vP, .slice AT T.length cT] 24)) 25 #[.int .u8 a0, .int .u8 a1, .int .u8 a2]
    simpa using this)
  have HM := Lib.hid (rmadeYes_r w0 vP _ P T (hP.below HB0.out (Nat.le_refl _)) (hT.below HB0.out (Nat.le_refl _)) a0 a1 a2 h0 h1 h2 hs)
  clear hP hT hs
  go_enter Tryz.func3, Tryz.ntmps3
  go_upto_region 1 with fail
  rw [← hw0]
  clear hw0
  have f0 : w0.cell? ⟨w.heap.size, 0, none⟩ = some vP := HX.out.cell 0
  have f1 : w0.cell? ⟨w.heap.size, 1, none⟩ = some (.slice AT T.length cT) := HX.out.cell 1
  have n0 : w0.cell? ⟨w.heap.size + 1, 0, none⟩ = some (.int .u8 a0) := HX2.out.cell 0
  have n1 : w0.cell? ⟨w.heap.size + 1, 1, none⟩ = some (.int .u8 a1) := HX2.out.cell 1
  have n2 : w0.cell? ⟨w.heap.size + 1, 2, none⟩ = some (.int .u8 a2) := HX2.out.cell 2
  go_wp2_with fail
  refine HM.out.mono ?_
  rintro en w1 ⟨a, g, q, B, BC, X, c, L, x0, rfl, hK, hS, hU0⟩
  have H0 := Lib.hid hS
  have hw0s : w.heap.size ≤ w0.heap.size := HB0.out.size
  clear hS hK HM f0 f1 n0 n1 n2
  go_wp2_with fail
  refine (awake39 _).mono ?_
  rintro en wa2 ⟨rfl, ba2⟩
  have HB2 := Lib.hid (HB0.out.trans ((H0.out.s.bel.trans (ba2.mono H0.out.s.bel.size)).mono hw0s))
  clear ba2
  go_wp2
  go_ret
  exact ⟨rfl, HB2.out⟩
set_option maxRecDepth 100000 in
set_option maxHeartbeats 16000000 in
theorem first_r (w : World) (vP : Value) (AT : Option Addr) (cT : Nat) (P T : List Int) (hP : RdL w vP 1 encI P) (hT : RdL w (.slice AT T.length cT) 1 encI T) (a0 a1 a2 : Nat) (h0 : a0 < 256) (h1 : a1 < 256) (h2 : a2 < 256) (hs : smallB P T 8 = true) (v : Value) (ls : List (Int × Int)) (h : RdL w v 2 encP ls) (hl150 : ls.length ≤ 150) :
    Calls Tryz.prog 3 #[.agg #[vP, .slice AT T.length cT], .agg #[.int .u8 a0, .int .u8 a1, .int .u8 a2], v] w fun e w' => e = .returned (.bool true) ∧ Below w.heap.size w w' := by
  obtain ⟨A, cap, rfl, l1, l2, hr⟩ := h
  have HR := Lib.hid hr
  have hT8 : T.length ≤ 8 := by have := (of_decide_eq_true hs).2; omega
  obtain ⟨w0, hw0⟩ : ∃ W, W = (w.alloc (.cells #[vP, .slice AT T.length cT] 24)).alloc (.cells #[.int .u8 a0, .int .u8 a1, .int .u8 a2] 25) := ⟨_, rfl⟩
  have HB0 := Lib.hid (show Below w.heap.size w w0 from by rw [hw0]; exact ((Below.refl w.heap.size w).alloc (Nat.le_refl _) _).alloc (by simp) _)
  have HX := Lib.hid (show Blk w0 w.heap.size 24 #[vP, .slice AT T.length cT] from by rw [hw0]; exact (Blk.new w 24 #[vP, .slice AT T.length cT]).alloc _)
  have HX2 := Lib.hid (show Blk w0 (w.heap.size + 1) 25 #[.int .u8 a0, .int .u8 a1, .int .u8 a2] from by
    rw [hw0]
    have := Blk.new (w.alloc (.cells #[vP, .slice AT T.length cT] 24)) 25 #[.int .u8 a0, .int .u8 a1, .int .u8 a2]
    simpa using this)
  have HM := Lib.hid (rmadeYes_r w0 vP _ P T (hP.below HB0.out (Nat.le_refl _)) (hT.below HB0.out (Nat.le_refl _)) a0 a1 a2 h0 h1 h2 hs)
  clear hr hP hT hs
  obtain ⟨i0, i0a, i0b, i0c, i0d⟩ := info_parts Tryz.infoInR
  go_enter Tryz.func3, Tryz.ntmps3
  go_upto_region 1 with fail
  rw [← hw0]
  clear hw0
  have f0 : w0.cell? ⟨w.heap.size, 0, none⟩ = some vP := HX.out.cell 0
  have f1 : w0.cell? ⟨w.heap.size, 1, none⟩ = some (.slice AT T.length cT) := HX.out.cell 1
  have n0 : w0.cell? ⟨w.heap.size + 1, 0, none⟩ = some (.int .u8 a0) := HX2.out.cell 0
  have n1 : w0.cell? ⟨w.heap.size + 1, 1, none⟩ = some (.int .u8 a1) := HX2.out.cell 1
  have n2 : w0.cell? ⟨w.heap.size + 1, 2, none⟩ = some (.int .u8 a2) := HX2.out.cell 2
  go_wp2_with fail
  refine HM.out.mono ?_
  rintro en w1 ⟨a, g, q, B, BC, X, c, L, x0, rfl, hK, hS, hU0, hNB⟩
  have H0 := Lib.hid hS
  have HK := Lib.hid hK
  have HU0 := Lib.hid hU0
  have hw0s : w.heap.size ≤ w0.heap.size := HB0.out.size
  have hx0 : w.heap.size < w0.heap.size := HX.out.lt
  have HC0 : Hid (∀ W, Below w0.heap.size w0 W → W.cell? ⟨w.heap.size, 1, none⟩ = some (.slice AT T.length cT)) := Lib.hid fun W hW => (HX.out.below hW hx0).cell 1
  clear hS hK HM f0 f1 n0 n1 n2 hU0
  have f1 := HC0.out _ H0.out.s.bel
  go_wp2_with (refine wpList_make_full _ rfl (.tmp 36) (.tmp 36) 22 rfl w1.heap.size 3 i0 (.int .i64 0) 1 Tryz.underlying22 i0a i0b i0c .i64 .i64 T.length T.length T.length rfl rfl rfl rfl ?b2 ?b3 (Nat.le_refl _) ?_)
  case b2 => rw [i0d]; omega
  case b3 => unfold maxLen; omega
  intro w2 hown hg
  have hbk : Blk w2 w1.heap.size 3 ((List.replicate T.length (0 : Int)).map fun x => Value.int .i64 x).toArray := by
    have := own_blk hown
    have e : (madeCells #[Value.int .i64 0] T.length).toList = List.replicate T.length (.int .i64 0) := made_const1 _ _
    rw [e] at this
    simpa using this
  have b2 : Below w1.heap.size w1 w2 := (Below.refl w1.heap.size w1).grown hg (Nat.le_refl _) (fun j hj => by cases hj)
  obtain ⟨pb, hpb⟩ : ∃ pb, pb = w1.heap.size := ⟨_, rfl⟩
  have HPS : Hid (PcR w0 w2 B BC a g q X c P T L x0 (40) (2000) pb (List.replicate T.length 0)) := Lib.hid (by
    have e1 := H0.out.b.lt
    have e2 : pb ∉ SmS a g X := fun hm => by have := H0.out.s.is.ltsA _ hm; omega
    exact ⟨H0.out.below b2, by rw [hpb]; exact hbk, e2, hNB pb (by omega), by omega, by rw [hpb]; exact H0.out.s.bel.size⟩)
  rw [← hpb]
  clear hown hg hbk b2 f1 H0 hpb hNB
  go_wp2
  go_loopw [10] (fun i wr => ∃ (k : Nat) (x : Nu) (F : List Int) (f : Nat → Int), i = .int .i64 k ∧ k ≤ ls.length ∧ PcR w0 wr B BC a g q X c P T L x (40 + 4 * (k : Int)) (2000 + k) pb F ∧ FR T.length F f ∧ RfP c T.length x f) (fun i _ => ls.length - (intOf i).toNat)
  case atStart => exact ⟨0, x0, _, fun _ => 0, rfl, by omega, HPS.out, ⟨by simp, fun k hk => getD_repR _ _⟩, fun k hk h2 => .inl rfl⟩
  case round =>
    clear HPS
    obtain ⟨k, x, F, f, rfl, hk, hW, hF, hP⟩ := hrel
    obtain ⟨wo, rfl⟩ : ∃ wo : World, wo = wr := ⟨_, rfl⟩
    have HW := Lib.hid hW
    have HFP := Lib.hid (And.intro hF hP)
    clear hW hF hP
    by_cases hlt : k < ls.length
    · obtain ⟨bl, off, rfl, hbl, hc⟩ := HR.out (by omega)
      obtain ⟨⟨kd, ii⟩, hx⟩ := getElem?_lt hlt
      have HLc : Hid (∀ W, Below w0.heap.size w0 W → W.cell? ⟨bl, off + k * 2, none⟩ = some (.int .i64 kd) ∧ W.cell? ⟨bl, off + k * 2 + 1, none⟩ = some (.int .i64 ii)) := Lib.hid fun W hW => by
        have hWb := HB0.out.trans (hW.mono hw0s)
        exact ⟨(hWb.cell (p := ⟨bl, off + k * 2 + 0, none⟩) hbl).trans (hc k _ hx 0 _ rfl), (hWb.cell (p := ⟨bl, off + k * 2 + 1, none⟩) hbl).trans (hc k _ hx 1 _ rfl)⟩
      clear hc hx
      obtain ⟨x0c, x1c⟩ := HLc.out _ HW.out.st.s.bel
      have HSp0 := rspot_r HW.out.st.b HW.out.st.s.is ii
      obtain ⟨p, hp⟩ : ∃ p, p = getS x.U ii := ⟨_, rfl⟩
      rw [← hp] at HSp0
      have HSp := Lib.hid HSp0
      have HOk := Lib.hid (show p.pc = 1 → ∃ j : Nat, j < T.length ∧ ii = (j : Int) from fun e => by
        have := getS_ok (S := x.U) (i := ii) (by rw [← hp, e]; decide)
        rw [HW.out.st.s.is.lU] at this
        exact this)
      have HPe := Lib.hid hp
      clear HSp0 hp
      go_wp2_with fail
      refine HSp.out.mono ?_
      rintro en w1 ⟨rfl, b1⟩
      have H1 := Lib.hid (HW.out.below b1)
      clear b1 x0c x1c
      unfold spotV
      go_upto_region 12 with fail
      obtain ⟨sb, hsb⟩ : ∃ y, y = w1.heap.size := ⟨_, rfl⟩
      obtain ⟨wa, hwa⟩ : ∃ V, V = w1.alloc (.cells #[.int .i64 p.pc, .int .i64 p.a, .int .i64 p.b, .int .i64 p.c] 35) := ⟨_, rfl⟩
      rw [← hwa, ← hsb]
      have HA := Lib.hid (show PcR w0 wa B BC a g q X c P T L x (40 + 4 * (k : Int)) (2000 + k) pb F ∧ Blk wa sb 35 #[.int .i64 p.pc, .int .i64 p.a, .int .i64 p.b, .int .i64 p.c] ∧ sb ∉ SmS a g X ∧ sb ≠ pb from ⟨by rw [hwa]; exact H1.out.below ((Below.refl _ _).alloc (Nat.le_refl _) _), by rw [hwa, hsb]; exact Blk.new _ _ _, fun hm => by have := H1.out.st.s.is.ltsA _ hm; omega, by have := H1.out.blk.lt; omega⟩)
      clear hwa hsb H1
      obtain ⟨x0c, x1c⟩ := HLc.out _ HA.out.1.st.s.bel
      have HD := Lib.hid (rdo_r HA.out.1.st HK.out (by omega) (by omega) kd ii)
      go_wp2_with fail
      refine HD.out.mono ?_
      rintro en w3 ⟨⟨rr, rfl⟩, k3, t3⟩
      obtain ⟨x', hx'⟩ : ∃ x', x' = actRs c (leavesL P).length x kd ii := ⟨_, rfl⟩
      have hact := RfP.act (kd := kd) (i := ii) HFP.out.2 HA.out.1.st.s.s.i k3.s.s.i HK.out.y
      rw [← HPe.out, ← hx'] at hact
      rw [← hx'] at k3
      have HAct0 := Lib.hid hact
      have H3 := Lib.hid (And.intro (HA.out.1.next t3 k3) (t3.blk HA.out.2.1 HA.out.2.2.1))
      clear k3 t3 hx' HD x0c x1c hact
      have HSp0 := rspot_r H3.out.1.st.b H3.out.1.st.s.is ii
      obtain ⟨v, hv⟩ : ∃ v, v = getS x'.U ii := ⟨_, rfl⟩
      rw [← hv] at HSp0
      have HSp := Lib.hid HSp0
      have HAct := Lib.hid (show RfP c T.length x' (rf2 f p v ii x'.U) from by rw [hv]; exact HAct0.out)
      clear HSp0 hv HAct0
      go_wp2_with fail
      refine HSp.out.mono ?_
      rintro en w4 ⟨rfl, b4⟩
      have H4 := Lib.hid (And.intro (H3.out.1.below b4) (H3.out.2.below b4 H3.out.2.lt))
      clear b4
      unfold spotV
      go_upto_region 14 with fail
      obtain ⟨sc, hsc⟩ : ∃ y, y = w4.heap.size := ⟨_, rfl⟩
      obtain ⟨wb, hwb⟩ : ∃ V, V = w4.alloc (.cells #[.int .i64 v.pc, .int .i64 v.a, .int .i64 v.b, .int .i64 v.c] 35) := ⟨_, rfl⟩
      rw [← hwb, ← hsc]
      have HBb := Lib.hid (show PcR w0 wb B BC a g q X c P T L x' (40 + 4 * ((k + 1 : Nat) : Int)) (2000 + (k + 1)) pb F ∧ Blk wb sb 35 #[.int .i64 p.pc, .int .i64 p.a, .int .i64 p.b, .int .i64 p.c] ∧ Blk wb sc 35 #[.int .i64 v.pc, .int .i64 v.a, .int .i64 v.b, .int .i64 v.c] ∧ sb ≠ pb ∧ sc ≠ pb from ⟨(show PcR w0 wb B BC a g q X c P T L x' (40 + 4 * (k : Int) + 4) (2000 + k + 1) pb F from by rw [hwb]; exact H4.out.1.below ((Below.refl _ _).alloc (Nat.le_refl _) _)).up (by omega) (by omega), by rw [hwb]; exact H4.out.2.alloc _, by rw [hwb, hsc]; exact Blk.new _ _ _, HA.out.2.2.2, by have := H4.out.1.blk.lt; omega⟩)
      clear hwb hsc H4 H3 HA
      have c0 : wb.cell? ⟨sb, 0, none⟩ = some (.int .i64 p.pc) := HBb.out.2.1.cell 0
      have c1 : wb.cell? ⟨sb, 1, none⟩ = some (.int .i64 p.a) := HBb.out.2.1.cell 1
      have d0 : wb.cell? ⟨sc, 0, none⟩ = some (.int .i64 v.pc) := HBb.out.2.2.1.cell 0
      obtain ⟨b3, hb3⟩ : ∃ b, b = decide (rfZero p v) := ⟨_, rfl⟩
      have HB3 := Lib.hid hb3
      clear hb3
      go_cut [73] (fun s73 wy => s73 = .bool b3 ∧ wy = wb)
      case first =>
        by_cases c4 : p.pc = 1
        · have t4 : (p.pc == 1) = true := by simpa using c4
          by_cases c5 : p.a = 1
          · have t5 : (p.a == 1) = true := by simpa using c5
            by_cases c6 : v.pc = 2
            · have t6 : (v.pc == 2) = true := by simpa using c6
              have HE : Hid (true = b3) := Lib.hid (by rw [HB3.out]; simp [rfZero, c4, c5, c6])
              clear c4 c5 c6
              go_wp2
              go_meet
              case rel => exact ⟨congrArg Value.bool HE.out, rfl⟩
            · have t6 : (v.pc == 2) = false := by simpa using c6
              have HE : Hid (false = b3) := Lib.hid (by rw [HB3.out]; simp [rfZero, c6])
              clear c4 c5 c6
              go_wp2
              go_meet
              case rel => exact ⟨congrArg Value.bool HE.out, rfl⟩
          · have t5 : (p.a == 1) = false := by simpa using c5
            have HE : Hid (false = b3) := Lib.hid (by rw [HB3.out]; simp [rfZero, c5])
            clear c4 c5
            go_wp2
            go_meet
            case rel => exact ⟨congrArg Value.bool HE.out, rfl⟩
        · have t4 : (p.pc == 1) = false := by simpa using c4
          have HE : Hid (false = b3) := Lib.hid (by rw [HB3.out]; simp [rfZero, c4])
          clear c4
          go_wp2
          go_meet
          case rel => exact ⟨congrArg Value.bool HE.out, rfl⟩
      case rest =>
      obtain ⟨rfl, rfl⟩ := hcut
      obtain ⟨wb, rfl⟩ : ∃ x : World, x = wc := ⟨_, rfl⟩
      go_upto_if 73 with fail
      go_cut [76] (fun s76 wy => ∃ F', PcR w0 wy B BC a g q X c P T L x' (40 + 4 * ((k + 1 : Nat) : Int)) (2000 + (k + 1)) pb F' ∧ FR T.length F' (rf1 f p v ii) ∧ Blk wy sb 35 #[.int .i64 p.pc, .int .i64 p.a, .int .i64 p.b, .int .i64 p.c] ∧ Blk wy sc 35 #[.int .i64 v.pc, .int .i64 v.a, .int .i64 v.b, .int .i64 v.c])
      case first =>
        cases b3
        · have HN := Lib.hid (show ¬ rfZero p v from of_decide_eq_false HB3.out.symm)
          go_wp2
          go_meet
          case rel => exact ⟨F, HBb.out.1, HFP.out.1.z0 HN.out, HBb.out.2.1, HBb.out.2.2.1⟩
        · have HN := Lib.hid (show rfZero p v from of_decide_eq_true HB3.out.symm)
          obtain ⟨j, hj, hI⟩ := HOk.out HN.out.1
          have hLl : F.length = T.length := HFP.out.1.1
          have a0 := HBb.out.1.at (i := j) (by omega)
          have z0 := HBb.out.1.blk.free j
          have hj2 : (j : Int) < (T.length : Int) := by omega
          have HJ := Lib.hid hj
          subst hI
          clear hLl hj
          go_wp2
          go_meet
          case rel => exact ⟨_, HBb.out.1.put j 0, HFP.out.1.z1 HN.out HJ.out, (turns_q _ _ _).blk HBb.out.2.1 (by simp; exact HBb.out.2.2.2.1), (turns_q _ _ _).blk HBb.out.2.2.1 (by simp; exact HBb.out.2.2.2.2)⟩
      case rest =>
        obtain ⟨F', hW1, hW2, hW3, hW4⟩ := hcut
        obtain ⟨wy, rfl⟩ : ∃ wy : World, wy = wc := ⟨_, rfl⟩
        have H8 := Lib.hid (And.intro hW1 (And.intro hW2 (And.intro hW3 hW4)))
        clear hW1 hW2 hW3 hW4 c0 c1 d0 HBb HFP
        have c0 : wy.cell? ⟨sb, 0, none⟩ = some (.int .i64 p.pc) := H8.out.2.2.1.cell 0
        have d0 : wy.cell? ⟨sc, 0, none⟩ = some (.int .i64 v.pc) := H8.out.2.2.2.cell 0
        have d1 : wy.cell? ⟨sc, 1, none⟩ = some (.int .i64 v.a) := H8.out.2.2.2.cell 1
        by_cases g1 : 10 ≤ p.pc
        · have e1 : decide (10 ≤ p.pc) = true := decide_eq_true g1
          go_wp2
          go_roundw
          case rel => exact ⟨k + 1, x', F', _, by go_num, by omega, H8.out.1, H8.out.2.1.c0 (fun q => by have := q.1; omega), HAct.out⟩
          case measure => simp [intOf]; omega
        by_cases g2 : v.pc = 10
        rotate_left
        · have e1 : decide (10 ≤ p.pc) = false := decide_eq_false g1
          have e2 : (v.pc != 10) = true := by simpa using g2
          have HG := Lib.hid g2
          clear g2
          go_wp2
          go_roundw
          case rel => exact ⟨k + 1, x', F', _, by go_num, by omega, H8.out.1, H8.out.2.1.c0 (fun q => HG.out q.2.1), HAct.out⟩
          case measure => simp [intOf]; omega
        by_cases g3 : v.a = 1
        · have e1 : decide (10 ≤ p.pc) = false := decide_eq_false g1
          have e2 : (v.pc != 10) = false := by simpa using g2
          have e3 : (v.a == 1) = true := by simpa using g3
          have HG := Lib.hid g3
          clear g2 g3
          go_wp2
          go_roundw
          case rel => exact ⟨k + 1, x', F', _, by go_num, by omega, H8.out.1, H8.out.2.1.c0 (fun q => q.2.2 HG.out), HAct.out⟩
          case measure => simp [intOf]; omega
        have e1 : decide (10 ≤ p.pc) = false := decide_eq_false g1
        have e2 : (v.pc != 10) = false := by simpa using g2
        have e3 : (v.a == 1) = false := by simpa using g3
        have HEn := Lib.hid (show rfEnt p v from ⟨by omega, g2, g3⟩)
        clear g2 g3
        go_wp2
        go_loopw [14] (fun i wr => ∃ (m : Nat) (F2 : List Int), i = .int .i64 m ∧ m ≤ T.length ∧ PcR w0 wr B BC a g q X c P T L x' (40 + 4 * ((k + 1 : Nat) : Int)) (2000 + (k + 1)) pb F2 ∧ FR T.length F2 (rfM f p v ii x'.U m)) (fun i _ => T.length - (intOf i).toNat)
        case atStart => exact ⟨0, F', rfl, by omega, H8.out.1, H8.out.2.1.m0⟩
        case round =>
          obtain ⟨m, F2, rfl, hm, hZ, hZF⟩ := hrel
          obtain ⟨wp, rfl⟩ : ∃ wp : World, wp = wr := ⟨_, rfl⟩
          have HZ := Lib.hid (And.intro hZ hZF)
          have hjx : m < x'.U.length ∨ T.length ≤ m := by have := hZ.st.s.is.lU; omega
          clear hZ hZF
          have f1 := HC0.out _ HZ.out.1.st.s.bel
          by_cases hjT : m < T.length
          · have HSp0 := rspot_r HZ.out.1.st.b HZ.out.1.st.s.is (m : Int)
            have hgj : getS x'.U (m : Int) = sv x'.U m := getQ_nat (by omega)
            rw [hgj] at HSp0
            obtain ⟨r, hr⟩ : ∃ r, r = sv x'.U m := ⟨_, rfl⟩
            rw [← hr] at HSp0
            have HSp := Lib.hid HSp0
            have HRe := Lib.hid hr
            clear HSp0 hgj hr
            go_wp2_with fail
            refine HSp.out.mono ?_
            rintro en w5 ⟨rfl, b5⟩
            have H5 := Lib.hid (HZ.out.1.below b5)
            clear b5 f1
            unfold spotV
            go_upto_region 21 with fail
            obtain ⟨sd, hsd⟩ : ∃ y, y = w5.heap.size := ⟨_, rfl⟩
            obtain ⟨wc, hwc⟩ : ∃ V, V = w5.alloc (.cells #[.int .i64 r.pc, .int .i64 r.a, .int .i64 r.b, .int .i64 r.c] 35) := ⟨_, rfl⟩
            rw [← hwc, ← hsd]
            have HCc := Lib.hid (show PcR w0 wc B BC a g q X c P T L x' (40 + 4 * ((k + 1 : Nat) : Int)) (2000 + (k + 1)) pb F2 ∧ Blk wc sd 35 #[.int .i64 r.pc, .int .i64 r.a, .int .i64 r.b, .int .i64 r.c] from ⟨by rw [hwc]; exact H5.out.below ((Below.refl _ _).alloc (Nat.le_refl _) _), by rw [hwc, hsd]; exact Blk.new _ _ _⟩)
            clear hwc hsd H5
            have q0 : wc.cell? ⟨sd, 0, none⟩ = some (.int .i64 r.pc) := HCc.out.2.cell 0
            have q1 : wc.cell? ⟨sd, 1, none⟩ = some (.int .i64 r.a) := HCc.out.2.cell 1
            by_cases m1 : (m : Int) = ii
            · have n1 : ((m : Int) != ii) = false := by simpa using m1
              have HG := Lib.hid m1
              go_wp2
              go_roundw
              case rel => exact ⟨m + 1, F2, by go_num, by omega, HCc.out.1, HZ.out.2.m2 (fun q => q.1 HG.out)⟩
              case measure => simp [intOf]; omega
            have n1 : ((m : Int) != ii) = true := by simpa using m1
            by_cases m2 : r.a = 1
            rotate_left
            · have n2 : (r.a == 1) = false := by simpa using m2
              have HG := Lib.hid m2
              clear m2
              go_wp2
              go_roundw
              case rel => exact ⟨m + 1, F2, by go_num, by omega, HCc.out.1, HZ.out.2.m2 (fun q => HG.out (by rw [HRe.out]; exact q.2.1))⟩
              case measure => simp [intOf]; omega
            have n2 : (r.a == 1) = true := by simpa using m2
            by_cases m3 : r.pc = 2
            rotate_left
            · have n3 : (r.pc == 2) = false := by simpa using m3
              have HG := Lib.hid m3
              clear m2 m3
              go_wp2
              go_roundw
              case rel => exact ⟨m + 1, F2, by go_num, by omega, HCc.out.1, HZ.out.2.m2 (fun q => HG.out (by rw [HRe.out]; exact q.2.2))⟩
              case measure => simp [intOf]; omega
            have n3 : (r.pc == 2) = true := by simpa using m3
            have hcnd : (m : Int) ≠ ii ∧ wt2 (sv x'.U m) := ⟨m1, by rw [← HRe.out]; exact ⟨m2, m3⟩⟩
            have hle := HAct.out.le hjT hcnd.2
            rw [rf2_at HEn.out hcnd] at hle
            have hv : F2.getD m 0 = rf1 f p v ii m := by rw [HZ.out.2.2 m hjT]; exact rfM_at
            have HRR := Lib.hid (show PcR w0 (wc.setCell ⟨pb, m, none⟩ (.int .i64 (rf1 f p v ii m + 1))) B BC a g q X c P T L x' (40 + 4 * ((k + 1 : Nat) : Int)) (2000 + (k + 1)) pb (F2.set m (rf1 f p v ii m + 1)) ∧ FR T.length (F2.set m (rf1 f p v ii m + 1)) (rfM f p v ii x'.U (m + 1)) from ⟨HCc.out.1.put _ _, HZ.out.2.m1 HEn.out hcnd hjT⟩)
            obtain ⟨qv, hqv⟩ : ∃ y, y = rf1 f p v ii m := ⟨_, rfl⟩
            rw [← hqv] at hle hv HRR
            have hFl : F2.length = T.length := HZ.out.2.1
            have a0 := HCc.out.1.at (i := m) (by omega)
            rw [hv] at a0
            have z0 := HCc.out.1.blk.free m
            obtain ⟨hqa, hqb⟩ := hle
            have x1 : IntKind.i64.wrap (qv + 1) = qv + 1 := IntWalk.i64_in _ (by omega)
            have g4 : decide (1 < qv + 1) = false := decide_eq_false (by omega)
            have hmi : (m : Int) < (T.length : Int) := by omega
            clear hcnd hv hqv hFl m1 m2 m3
            go_wp2
            go_roundw
            case rel => exact ⟨m + 1, _, by go_num, by omega, HRR.out.1, HRR.out.2⟩
            case measure => simp [intOf]; omega
          · obtain rfl : m = T.length := by omega
            have HFF := Lib.hid (show FR T.length F2 (rf2 f p v ii x'.U) from HZ.out.2.done)
            go_wp2
            go_roundw
            case rel => exact ⟨k + 1, x', F2, _, by go_num, by omega, HZ.out.1, HFF.out, HAct.out⟩
            case measure => simp [intOf]; omega
    · go_wp2_with fail
      refine (awake39 _).mono ?_
      rintro en wa2 ⟨rfl, ba2⟩
      have HB2 := Lib.hid (HB0.out.trans ((HW.out.st.s.bel.trans (ba2.mono HW.out.st.s.bel.size)).mono hw0s))
      clear ba2
      go_wp2
      go_ret
      exact ⟨rfl, HB2.out⟩
end Go.Proofs.YtkennofbilmbcaaGreat
end
