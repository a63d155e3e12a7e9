/- Joined: Qw9. -/
import Derived.Deep.DeepCutAuto
import Derived.Test.YtbkckbphkfakkaaGreatMgWritersQuiet1
import Derived.Test.YtbkckbphkfakkaaGreatMgWritersQuiet8
import Derived.Test.YtbkckbphkfakkaaGreatMgWritersQuiet13
section
/- Layer 38 (writers): the walk of WritersQuiet. (written by wip/gen_qu.py) -/
namespace Go.Proofs.YtbkckbphkfakkaaGreat
open Go.RowKit

set_option maxRecDepth 100000 in
theorem longWQ (w : World) (vP vT : Value) (a0 a1 a2 : Int) (A : Option Addr) (m c : Nat) (h1 : 150 < m) (h2 : m ≤ 9223372036854775807) :
    Calls Tryz.prog 5 #[.agg #[vP, vT], .agg #[.int .u8 a0, .int .u8 a1, .int .u8 a2], .slice A m c] w fun e w' => e = .returned (.bool true) ∧ Below w.heap.size w w' := by
  have HB := Lib.hid (((Below.refl w.heap.size w).alloc (Nat.le_refl _) (.cells #[vP, vT] 24)).alloc (by simp) (.cells #[.int .u8 a0, .int .u8 a1, .int .u8 a2] 25))
  go_enter Tryz.func5, Tryz.ntmps5
  go_wp2_with fail
  refine (awake38 _).mono ?_
  rintro en w1 ⟨rfl, hb⟩
  have H1 := Lib.hid (HB.out.trans (hb.mono HB.out.size))
  clear hb
  go_wp2
  go_ret
  exact ⟨rfl, H1.out⟩
set_option maxRecDepth 100000 in
set_option maxHeartbeats 1000000 in
theorem noWQ (w : World) (vP vT : Value) (a0 a1 a2 : Int) (hs : SmNo w vP vT 8) (A : Option Addr) (m c : Nat) (hm : m ≤ 150) :
    Calls Tryz.prog 5 #[.agg #[vP, vT], .agg #[.int .u8 a0, .int .u8 a1, .int .u8 a2], .slice A m c] w fun e w' => e = .returned (.bool true) ∧ Below w.heap.size w w' := by
  obtain ⟨w0, hw0⟩ : ∃ W, W = (w.alloc (.cells #[vP, vT] 24)).alloc (.cells #[.int .u8 a0, .int .u8 a1, .int .u8 a2] 25) := ⟨_, rfl⟩
  have HB0 := Lib.hid (show Below w.heap.size w w0 from by rw [hw0]; exact ((Below.refl w.heap.size w).alloc (Nat.le_refl _) _).alloc (by simp) _)
  have HX := Lib.hid (show Blk w0 w.heap.size 24 #[vP, vT] from by rw [hw0]; exact (Blk.new w 24 #[vP, vT]).alloc _)
  have HX2 := Lib.hid (show Blk w0 (w.heap.size + 1) 25 #[.int .u8 a0, .int .u8 a1, .int .u8 a2] from by
    rw [hw0]
    have := Blk.new (w.alloc (.cells #[vP, vT] 24)) 25 #[.int .u8 a0, .int .u8 a1, .int .u8 a2]
    simpa using this)
  have HM := Lib.hid (madeNoWQ w0 vP vT a0 a1 a2 (hs.below HB0.out))
  have HS := Lib.hid hs
  clear hs
  go_enter Tryz.func5, Tryz.ntmps5
  go_upto_region 1 with fail
  rw [← hw0]
  clear hw0
  have f0 : w0.cell? ⟨w.heap.size, 0, none⟩ = some vP := HX.out.cell 0
  have f1 : w0.cell? ⟨w.heap.size, 1, none⟩ = some vT := HX.out.cell 1
  have n0 : w0.cell? ⟨w.heap.size + 1, 0, none⟩ = some (.int .u8 a0) := HX2.out.cell 0
  have n1 : w0.cell? ⟨w.heap.size + 1, 1, none⟩ = some (.int .u8 a1) := HX2.out.cell 1
  have n2 : w0.cell? ⟨w.heap.size + 1, 2, none⟩ = some (.int .u8 a2) := HX2.out.cell 2
  go_wp2_with fail
  refine HM.out.mono ?_
  rintro en w1 ⟨rfl, b1⟩
  have hX1 := HX.out.below b1 HX.out.lt
  have HB1 := Lib.hid (HB0.out.trans (b1.mono HB0.out.size))
  clear b1 f0 f1 n0 n1 n2
  have f0 : w1.cell? ⟨w.heap.size, 0, none⟩ = some vP := hX1.cell 0
  have f1 : w1.cell? ⟨w.heap.size, 1, none⟩ = some vT := hX1.cell 1
  clear hX1
  go_wp2_with fail
  refine (HS.out _ HB1.out).mono ?_
  rintro en w2 ⟨rfl, b2⟩
  have HB2 := Lib.hid (HB1.out.trans (b2.mono HB1.out.size))
  clear b2
  go_wp2_with fail
  refine (awake38 _).mono ?_
  rintro en w3 ⟨rfl, b3⟩
  have HB3 := Lib.hid (HB2.out.trans (b3.mono HB2.out.size))
  clear b3
  go_wp2
  go_ret
  exact ⟨rfl, HB3.out⟩
set_option maxRecDepth 100000 in
set_option maxHeartbeats 16000000 in
theorem quietWQ (w : World) (vP : Value) (AT : Option Addr) (cT : Nat) (P T : List Int) (hP : RdL w vP 1 encI P) (hT : RdL w (.slice AT T.length cT) 1 encI T) (a0 a1 a2 : Nat) (h0 : a0 < 256) (h1 : a1 < 256) (h2 : a2 < 256) (hs : smallB P T 8 = true) (v : Value) (ls : List (Int × Int)) (h : RdL w v 2 encP ls) (hl150 : ls.length ≤ 150) :
    Calls Tryz.prog 5 #[.agg #[vP, .slice AT T.length cT], .agg #[.int .u8 a0, .int .u8 a1, .int .u8 a2], v] w fun e w' => e = .returned (.bool true) ∧ Below w.heap.size w w' := by
  obtain ⟨A, cap, rfl, l1, l2, hr⟩ := h
  have HR := Lib.hid hr
  have hT8 : T.length ≤ 8 := by have := (of_decide_eq_true hs).2; omega
  obtain ⟨w0, hw0⟩ : ∃ W, W = (w.alloc (.cells #[vP, .slice AT T.length cT] 24)).alloc (.cells #[.int .u8 a0, .int .u8 a1, .int .u8 a2] 25) := ⟨_, rfl⟩
  have HB0 := Lib.hid (show Below w.heap.size w w0 from by rw [hw0]; exact ((Below.refl w.heap.size w).alloc (Nat.le_refl _) _).alloc (by simp) _)
  have HX := Lib.hid (show Blk w0 w.heap.size 24 #[vP, .slice AT T.length cT] from by rw [hw0]; exact (Blk.new w 24 #[vP, .slice AT T.length cT]).alloc _)
  have HX2 := Lib.hid (show Blk w0 (w.heap.size + 1) 25 #[.int .u8 a0, .int .u8 a1, .int .u8 a2] from by
    rw [hw0]
    have := Blk.new (w.alloc (.cells #[vP, .slice AT T.length cT] 24)) 25 #[.int .u8 a0, .int .u8 a1, .int .u8 a2]
    simpa using this)
  have HM := Lib.hid (madeYesWQ w0 vP _ P T (hP.below HB0.out (Nat.le_refl _)) (hT.below HB0.out (Nat.le_refl _)) a0 a1 a2 h0 h1 h2 hs)
  clear hr hP hT hs
  go_enter Tryz.func5, Tryz.ntmps5
  go_upto_region 1 with fail
  rw [← hw0]
  clear hw0
  have f0 : w0.cell? ⟨w.heap.size, 0, none⟩ = some vP := HX.out.cell 0
  have f1 : w0.cell? ⟨w.heap.size, 1, none⟩ = some (.slice AT T.length cT) := HX.out.cell 1
  have n0 : w0.cell? ⟨w.heap.size + 1, 0, none⟩ = some (.int .u8 a0) := HX2.out.cell 0
  have n1 : w0.cell? ⟨w.heap.size + 1, 1, none⟩ = some (.int .u8 a1) := HX2.out.cell 1
  have n2 : w0.cell? ⟨w.heap.size + 1, 2, none⟩ = some (.int .u8 a2) := HX2.out.cell 2
  go_wp2_with fail
  refine HM.out.mono ?_
  rintro en w1 ⟨B, x, s0, rfl, hS⟩
  have H0 := Lib.hid hS
  have hw0s : w.heap.size ≤ w0.heap.size := HB0.out.size
  have hx0 : w.heap.size < w0.heap.size := HX.out.lt
  have HC0 : Hid (∀ W, Below w0.heap.size w0 W → W.cell? ⟨w.heap.size, 1, none⟩ = some (.slice AT T.length cT)) := Lib.hid fun W hW => (HX.out.below hW hx0).cell 1
  clear hS HM f0 f1 n0 n1 n2
  go_wp2
  go_loopw [10] (fun i wr => ∃ (k : Nat) (s : Ar) (S : List Sp), i = .int .i64 k ∧ k ≤ ls.length ∧ QWSt w0 wr B x P T s S (10000 + k)) (fun i _ => ls.length - (intOf i).toNat)
  case atStart => exact ⟨0, s0, _, rfl, by omega, H0.out⟩
  case round =>
    clear H0
    obtain ⟨k, s, S, rfl, hk, hW⟩ := hrel
    obtain ⟨wo, rfl⟩ : ∃ wo : World, wo = wr := ⟨_, rfl⟩
    have HW := Lib.hid hW
    clear hW
    by_cases hlt : k < ls.length
    · obtain ⟨bl, off, rfl, hbl, hc⟩ := HR.out (by omega)
      obtain ⟨⟨kd, ii⟩, hx⟩ := getElem?_lt hlt
      have hWb := HB0.out.trans (HW.out.bel.mono hw0s)
      have x0 : wo.cell? ⟨bl, off + k * 2, none⟩ = some (.int .i64 kd) := (hWb.cell (p := ⟨bl, off + k * 2 + 0, none⟩) hbl).trans (hc k _ hx 0 _ rfl)
      have x1 : wo.cell? ⟨bl, off + k * 2 + 1, none⟩ = some (.int .i64 ii) := (hWb.cell (p := ⟨bl, off + k * 2 + 1, none⟩) hbl).trans (hc k _ hx 1 _ rfl)
      obtain ⟨wa, hwa⟩ : ∃ W, W = wo.alloc (.cells #[.int .i64 kd, .int .i64 ii] 34) := ⟨_, rfl⟩
      obtain ⟨yb, hyb⟩ : ∃ y, y = wo.heap.size := ⟨_, rfl⟩
      have HBa := Lib.hid (show Below wo.heap.size wo wa ∧ Blk wa yb 34 #[.int .i64 kd, .int .i64 ii] ∧ w0.heap.size ≤ yb ∧ yb = wo.heap.size from ⟨by rw [hwa]; exact (Below.refl _ _).alloc (Nat.le_refl _) _, by rw [hwa, hyb]; exact Blk.new _ _ _, by rw [hyb]; exact HW.out.bel.size, hyb⟩)
      obtain ⟨kd2, hkd2⟩ : ∃ z : Int, z = if kd = 1 then 3 else kd := ⟨_, rfl⟩
      have HKD := Lib.hid (show kd2 ≠ 1 from by rw [hkd2]; split <;> omega)
      clear hc hx hWb
      go_upto_region 10 with fail
      rw [← hwa, ← hyb]
      clear hwa hyb x0 x1
      have y0 := HBa.out.2.1.cell 0
      have y1 := HBa.out.2.1.cell 1
      have z0 := HBa.out.2.1.free 0
      go_upto_if 51 with fail
      go_cut [] (fun wx => Blk wx yb 34 #[.int .i64 kd2, .int .i64 ii] ∧ Turns [yb] wa wx)
      case first =>
        by_cases hk1 : kd = 1
        · subst hk1
          have e2 : kd2 = 3 := by rw [hkd2]; rfl
          subst e2
          clear hkd2
          go_wp2
          go_meet
          case rel => exact ⟨HBa.out.2.1.set_ 0 _, (Turns.refl _ _).setCell (.inl (by simp)) _⟩
        · have u1 : (kd == 1) = false := by simpa using hk1
          have e2 : kd2 = kd := by rw [hkd2, if_neg hk1]
          subst e2
          clear hkd2
          go_wp2
          go_meet
          case rel => exact ⟨HBa.out.2.1, Turns.refl _ _⟩
      case rest =>
        obtain ⟨hby, hty⟩ := hcut
        obtain ⟨wx, rfl⟩ : ∃ wx : World, wx = wc := ⟨_, rfl⟩
        have HY := Lib.hid (show Blk wx yb 34 #[.int .i64 kd2, .int .i64 ii] ∧ QWSt w0 wx B x P T s S (10000 + k) from ⟨hby, HW.out.below ⟨hty.os.trans HBa.out.1.os, hty.tape.trans HBa.out.1.tape, hty.output.trans HBa.out.1.output, Nat.le_trans HBa.out.1.size hty.size, fun i hi => (hty.block i (Nat.lt_of_lt_of_le hi HBa.out.1.size) (by have := HBa.out.2.2.2; simp; omega)).trans (HBa.out.1.block i hi)⟩⟩)
        have hyl := hby.lt
        clear hby hty y0 y1 z0
        have y0 : wx.cell? ⟨yb, 0, none⟩ = some (.int .i64 kd2) := HY.out.1.cell 0
        have y1 : wx.cell? ⟨yb, 1, none⟩ = some (.int .i64 ii) := HY.out.1.cell 1
        have HD := Lib.hid (doWQ HY.out.2.is kd2 ii HKD.out (by have := HY.out.2.op; omega))
        clear hkd2
        go_wp2_with fail
        refine (aops_any HY.out.2.is.ar).mono ?_
        rintro en w2 ⟨rfl, rfl⟩
        go_wp2_with fail
        refine HD.out.mono ?_
        rintro en w3 ⟨rr, s2, rfl, k3, o3, wr3, t3⟩
        have H3 := Lib.hid (HY.out.2.next (M' := 10000 + (k + 1)) t3 k3 (by have := HY.out.2.op; omega))
        have HWr := Lib.hid wr3
        have yl : yb ∉ [x.a, x.g, x.q] := by
          have q1 := HW.out.is.ar.blk.lt
          have q2 := HW.out.is.ar.wds.lt
          have q3 := HW.out.is.sp.lt
          have q4 := HBa.out.2.2.2
          simp; omega
        have g1 : w3.cell? ⟨yb, 1, none⟩ = some (.int .i64 ii) := (t3.blk HY.out.1 yl).cell 1
        clear k3 t3 wr3 y0 y1 HD yl
        go_wp2_with fail
        refine (ownWQ H3.out.is ii).mono ?_
        rintro en w4 ⟨rfl, b4⟩
        have H4 := Lib.hid (H3.out.below b4)
        obtain ⟨ow, how⟩ : ∃ o : Int, o = ownQ P T ii := ⟨_, rfl⟩
        rw [← how] at HWr ⊢
        have how2 : 0 ≤ ow ∧ ow ≤ 70 := by
          rw [how]
          unfold ownQ
          split
          · rename_i hi9
            obtain ⟨nd, hd, _, hq9⟩ := nodeWQ H4.out.is (n := ii.toNat) (by omega)
            have := H4.out.is.n32.2
            rw [hq9]
            omega
          · omega
        have hf1 : ∀ (u0 u1 : Int) (u2 : Bool) (W : World), (Instr.field 39 (.agg #[.int .i64 u0, .int .i64 u1, .bool u2]) 1).run Tryz.prog W = .ok (.int .i64 u1) W := fun _ _ _ _ => by kernel_rfl
        have hf2 : ∀ (u0 u1 : Int) (u2 : Bool) (W : World), (Instr.field 39 (.agg #[.int .i64 u0, .int .i64 u1, .bool u2]) 2).run Tryz.prog W = .ok (.bool u2) W := fun _ _ _ _ => by kernel_rfl
        have xw : IntKind.i64.wrap (ow + 1) = ow + 1 := IntWalk.i64_in _ (by omega)
        have HHo := Lib.hid how
        clear b4 g1 how
        go_wp2_with fail
        refine (aops_any H4.out.is.ar).mono ?_
        rintro en w5 ⟨rfl, rfl⟩
        by_cases hgt : s.ops < s2.ops
        · have g5 : decide ((s.ops : Int) < (s2.ops : Int)) = true := decide_eq_true (by omega)
          have g6 : (s.ops : Int) < (s2.ops : Int) := by omega
          go_wp2_with fail
          refine (lastA H4.out.is.ar).mono ?_
          rintro en w6 ⟨rfl, b6⟩
          have H6 := Lib.hid (H4.out.below b6)
          clear b6
          cases hwr : s2.wr
          · go_wp2
            go_roundw
            case rel => exact ⟨k + 1, s2, _, by go_num, by omega, H6.out⟩
            case measure => simp [intOf]; omega
          · rcases HWr.out hgt hwr with hat | hat
            · have e1 : (s2.at_ != ow) = false := by simp [hat]
              go_wp2_with fail
              refine (lastA H6.out.is.ar).mono ?_
              rintro en w7 ⟨rfl, b7⟩
              have H7 := Lib.hid (H6.out.below b7)
              clear b7
              go_wp2
              go_roundw
              case rel => exact ⟨k + 1, s2, _, by go_num, by omega, H7.out⟩
              case measure => simp [intOf]; omega
            · have e1 : (s2.at_ != ow) = true := by simp [hat]; omega
              have e2 : (s2.at_ != ow + 1) = false := by simp [hat]
              go_wp2_with fail
              refine (lastA H6.out.is.ar).mono ?_
              rintro en w7 ⟨rfl, b7⟩
              have H7 := Lib.hid (H6.out.below b7)
              clear b7
              go_wp2_with fail
              refine (lastA H7.out.is.ar).mono ?_
              rintro en w8 ⟨rfl, b8⟩
              have H8 := Lib.hid (H7.out.below b8)
              clear b8
              go_wp2
              go_roundw
              case rel => exact ⟨k + 1, s2, _, by go_num, by omega, H8.out⟩
              case measure => simp [intOf]; omega
        · have g5 : decide ((s.ops : Int) < (s2.ops : Int)) = false := decide_eq_false (by omega)
          have g6 : ¬ (s.ops : Int) < (s2.ops : Int) := by omega
          go_wp2
          go_roundw
          case rel => exact ⟨k + 1, s2, _, by go_num, by omega, H4.out⟩
          case measure => simp [intOf]; omega
    · have f1 := HC0.out _ HW.out.bel
      have HW1 := Lib.hid (show QWSt w0 wo B x P T s S 20000 from ⟨HW.out.is, HW.out.bel, HW.out.hl, by have := HW.out.op; omega⟩)
      go_wp2
      clear f1
      go_loopw [15] (fun jj wr => ∃ (j : Nat) (s : Ar) (S : List Sp), jj = .int .i64 j ∧ j ≤ T.length ∧ QWSt w0 wr B x P T s S (20000 + 20 * j) ∧ ∀ i, i < j → HoldQ (sv S i)) (fun jj _ => T.length - (intOf jj).toNat)
      case atStart => exact ⟨0, s, S, rfl, by omega, HW1.out, fun i hi => absurd hi (Nat.not_lt_zero _)⟩
      case round =>
        obtain ⟨j, s1, S1, rfl, hj, hC, hho⟩ := hrel
        obtain ⟨wi, rfl⟩ : ∃ wi : World, wi = wr := ⟨_, rfl⟩
        have HCj := Lib.hid (And.intro hC hho)
        clear hC hho
        by_cases hjl : j < T.length
        · obtain ⟨p0, hp0⟩ : ∃ p, p = sv S1 j := ⟨_, rfl⟩
          have HRD := Lib.hid (show RdOk true p0 from by rw [hp0]; exact HCj.out.1.is.ok j hjl)
          have HP0 := Lib.hid hp0
          clear hp0
          go_wp2_with fail
          refine (askWQ HCj.out.1.is (j : Int)).mono ?_
          rintro en wk ⟨rr, rfl, k5, t5⟩
          have HK := Lib.hid (show QWSt w0 wk B x P T _ (askS S1 j) (20000 + 20 * j + 0 + 0) ∧ sv (askS S1 j) j = iterQ true (askQ p0) 0 ∧ ∀ i, i < j → HoldQ (sv (askS S1 j) i) from by
            have hl : j < S1.length := by rw [HCj.out.1.is.sl]; exact hjl
            refine ⟨HCj.out.1.next t5 k5 (by have := HCj.out.1.op; omega), ?_, fun i hi => ?_⟩
            · rw [sv_askS hl, if_pos rfl]; rw [← HP0.out]; rfl
            · rw [sv_askS hl, if_neg (by omega)]; exact HCj.out.2 i hi)
          clear k5 t5
          go_wp2
          go_loopw [16] (fun cc wr => ∃ (c : Nat) (s : Ar) (S' : List Sp), cc = .int .i64 c ∧ c ≤ 6 ∧ QWSt w0 wr B x P T s S' (20000 + 20 * j + 0 + c) ∧ sv S' j = iterQ true (askQ p0) c ∧ ∀ i, i < j → HoldQ (sv S' i)) (fun cc _ => 6 - (intOf cc).toNat)
          case atStart => exact ⟨0, _, _, rfl, by omega, HK.out.1, HK.out.2.1, HK.out.2.2⟩
          case round =>
            obtain ⟨c, s3, S3, rfl, hc6, hC, hsv, hho⟩ := hrel
            obtain ⟨wz, rfl⟩ : ∃ wz : World, wz = wr := ⟨_, rfl⟩
            have HCz := Lib.hid (And.intro hC (And.intro hsv hho))
            clear hC hsv hho
            by_cases hcl : c < 6
            · go_wp2_with fail
              refine (stepWQ HCz.out.1.is (j : Int) (by have := HCz.out.1.op; omega)).mono ?_
              rintro en wy ⟨rr, s4, rfl, k4, o4, _, t4⟩
              have HZ := Lib.hid (show QWSt w0 wy B x P T s4 (stS true S3 j) (20000 + 20 * j + 0 + (c + 1)) ∧ sv (stS true S3 j) j = iterQ true (askQ p0) (c + 1) ∧ ∀ i, i < j → HoldQ (sv (stS true S3 j) i) from by
                have hl : j < S3.length := by rw [HCz.out.1.is.sl]; exact hjl
                refine ⟨HCz.out.1.next t4 k4 (by have := HCz.out.1.op; omega), ?_, fun i hi => ?_⟩
                · rw [sv_stS hl, if_pos rfl, HCz.out.2.1]; rfl
                · rw [sv_stS hl, if_neg (by omega)]; exact HCz.out.2.2 i hi)
              clear k4 o4 t4
              go_wp2
              go_roundw
              case rel => exact ⟨c + 1, _, _, by go_num, by omega, HZ.out.1, HZ.out.2.1, HZ.out.2.2⟩
              case measure => simp [intOf]; omega
            · obtain rfl : c = 6 := by omega
              have HZ6 := Lib.hid (And.intro HCz.out.1 (And.intro HCz.out.2.1 HCz.out.2.2))
              have hg : getS S3 (j : Int) = sv S3 j := getQ_nat (by rw [HCz.out.1.is.sl]; exact hjl)
              have HSp := Lib.hid (spotWQ HCz.out.1.is (j : Int))
              rw [hg, HCz.out.2.1] at HSp
              have H6a := Lib.hid (six_ask HRD.out)
              obtain ⟨p6, hp6⟩ : ∃ p, p = iterQ true (askQ p0) 6 := ⟨_, rfl⟩
              rw [← hp6] at HSp H6a HZ6
              have hfp := field_pc
              clear hg hp6 HCz
              go_wp2_with fail
              refine HSp.out.mono ?_
              rintro en wq ⟨rfl, bq⟩
              unfold spotV
              have HQ6 := Lib.hid (HZ6.out.1.below bq)
              clear bq HSp
              by_cases hr0 : p6.pc = 0
              · have er : (p6.pc == 0) = true := by simpa using hr0
                have H6r := Lib.hid (six_rest (w := true) hr0)
                clear hr0
                go_wp2_with fail
                refine (askWQ HQ6.out.is (j : Int)).mono ?_
                rintro en wk ⟨rr, rfl, k5, t5⟩
                have HK2 := Lib.hid (show QWSt w0 wk B x P T _ (askS S3 j) (20000 + 20 * j + 7 + 0) ∧ sv (askS S3 j) j = iterQ true (askQ p6) 0 ∧ ∀ i, i < j → HoldQ (sv (askS S3 j) i) from by
                  have hl : j < S3.length := by rw [HQ6.out.is.sl]; exact hjl
                  refine ⟨HQ6.out.next t5 k5 (by have := HQ6.out.op; omega), ?_, fun i hi => ?_⟩
                  · rw [sv_askS hl, if_pos rfl]; rw [HZ6.out.2.1]; rfl
                  · rw [sv_askS hl, if_neg (by omega)]; exact HZ6.out.2.2 i hi)
                clear k5 t5
                go_wp2
                go_loopw [17] (fun cc wr => ∃ (c : Nat) (s : Ar) (S' : List Sp), cc = .int .i64 c ∧ c ≤ 6 ∧ QWSt w0 wr B x P T s S' (20000 + 20 * j + 7 + c) ∧ sv S' j = iterQ true (askQ p6) c ∧ ∀ i, i < j → HoldQ (sv S' i)) (fun cc _ => 6 - (intOf cc).toNat)
                case atStart => exact ⟨0, _, _, rfl, by omega, HK2.out.1, HK2.out.2.1, HK2.out.2.2⟩
                case round =>
                  obtain ⟨c, s5, S5, rfl, hc6, hC, hsv, hho⟩ := hrel
                  obtain ⟨wz, rfl⟩ : ∃ wz : World, wz = wr := ⟨_, rfl⟩
                  have HCz := Lib.hid (And.intro hC (And.intro hsv hho))
                  clear hC hsv hho
                  by_cases hcl : c < 6
                  · go_wp2_with fail
                    refine (stepWQ HCz.out.1.is (j : Int) (by have := HCz.out.1.op; omega)).mono ?_
                    rintro en wy ⟨rr, s4, rfl, k4, o4, _, t4⟩
                    have HZ := Lib.hid (show QWSt w0 wy B x P T s4 (stS true S5 j) (20000 + 20 * j + 7 + (c + 1)) ∧ sv (stS true S5 j) j = iterQ true (askQ p6) (c + 1) ∧ ∀ i, i < j → HoldQ (sv (stS true S5 j) i) from by
                      have hl : j < S5.length := by rw [HCz.out.1.is.sl]; exact hjl
                      refine ⟨HCz.out.1.next t4 k4 (by have := HCz.out.1.op; omega), ?_, fun i hi => ?_⟩
                      · rw [sv_stS hl, if_pos rfl, HCz.out.2.1]; rfl
                      · rw [sv_stS hl, if_neg (by omega)]; exact HCz.out.2.2 i hi)
                    clear k4 o4 t4
                    go_wp2
                    go_roundw
                    case rel => exact ⟨c + 1, _, _, by go_num, by omega, HZ.out.1, HZ.out.2.1, HZ.out.2.2⟩
                    case measure => simp [intOf]; omega
                  · obtain rfl : c = 6 := by omega
                    have HF := Lib.hid (show QWSt w0 wz B x P T s5 S5 (20000 + 20 * (j + 1)) ∧ ∀ i, i < j + 1 → HoldQ (sv S5 i) from ⟨⟨HCz.out.1.is, HCz.out.1.bel, HCz.out.1.hl, by have := HCz.out.1.op; omega⟩, fun i hi => by
                      by_cases e : i = j
                      · subst e; rw [HCz.out.2.1]; exact H6r.out
                      · exact HCz.out.2.2 i (by omega)⟩)
                    go_wp2
                    go_roundw
                    case rel => exact ⟨j + 1, _, _, by go_num, by omega, HF.out.1, HF.out.2⟩
                    case measure => simp [intOf]; omega
              · have er : (p6.pc == 0) = false := by simpa using hr0
                have hho6 : HoldQ p6 := by
                  rcases H6a.out with h9 | h9
                  · exact h9
                  · exact absurd h9 hr0
                have HF := Lib.hid (show QWSt w0 wq B x P T s3 S3 (20000 + 20 * (j + 1)) ∧ ∀ i, i < j + 1 → HoldQ (sv S3 i) from ⟨⟨HQ6.out.is, HQ6.out.bel, HQ6.out.hl, by have := HQ6.out.op; omega⟩, fun i hi => by
                  by_cases e : i = j
                  · subst e; rw [HZ6.out.2.1]; exact hho6
                  · exact HZ6.out.2.2 i (by omega)⟩)
                clear hho6 hr0
                go_wp2
                go_roundw
                case rel => exact ⟨j + 1, _, _, by go_num, by omega, HF.out.1, HF.out.2⟩
                case measure => simp [intOf]; omega
        · obtain rfl : j = T.length := by omega
          have HIn := Lib.hid (inWQ HCj.out.1.is HCj.out.2)
          go_wp2_with fail
          refine HIn.out.mono ?_
          rintro en wj ⟨rfl, bj⟩
          have HF := Lib.hid (HCj.out.1.below bj)
          clear bj
          go_wp2_with fail
          refine (awake38 _).mono ?_
          rintro en wa2 ⟨rfl, ba2⟩
          have HB2 := Lib.hid (HB0.out.trans ((HF.out.bel.trans (ba2.mono HF.out.bel.size)).mono hw0s))
          clear ba2
          go_wp2
          go_ret
          exact ⟨rfl, HB2.out⟩
end Go.Proofs.YtbkckbphkfakkaaGreat
end
