/- Joined: Sm11w. -/
import Derived.Test.YtndipiockdmaoaaGreatMgWritersAll24
import Derived.Test.YtndipiockdmaoaaGreatMgWritersAll28
section
set_option linter.unusedVariables false
set_option linter.unusedSimpArgs false
/- Layer 38 (writers): the walk of WritersAll. (printed by gen_sm11.py) -/
namespace Go.Proofs.YtndipiockdmaoaaGreat
open Go.RowKit

set_option maxRecDepth 100000 in
set_option maxHeartbeats 2000000 in
theorem madeYesT_w (w : World) (vP vT : Value) (P T : List Int) (hP : RdL w vP 1 encI P) (hT : RdL w vT 1 encI T) (a0 a1 a2 : Nat) (h0 : a0 < 256) (h1 : a1 < 256) (h2 : a2 < 256) (hs : smallB P T 8 = true) :
    Calls Tryz.prog 32 #[.agg #[vP, vT], .agg #[.int .u8 a0, .int .u8 a1, .int .u8 a2]] w fun e w' => ∃ (a g : Nat) (B BC : Nat → Prop) (X : SmX) (c : CoC) (L : Nat) (x : Nu), e = .returned (.tuple #[.pointer (some ⟨a, 0, none⟩), .pointer (some ⟨X.l, 0, none⟩), .bool true]) ∧ (NuK c T.length (leavesL P).length L (mtQ P T) ∧ c.m ≤ 4 ∧ CoL c T.length (leavesL P).length (mtQ P T) x.st) ∧ SmStW w w' B BC a g X c P T L x 40 2000 := by
  have hck : chkT P T = 0 ∧ (T.length : Int) ≤ 8 := of_decide_eq_true hs
  have hml := many_lt (chk_ok hck.1).1
  have HBL := Lib.hid (And.intro (fun g' (hg' : vP.ownBlock = some g') => rd_block hP (by omega) hg') (fun g' (hg' : vT.ownBlock = some g') => rd_block hT (by omega) hg'))
  have HS := smallH ((w.alloc (.cells #[vP, vT] 29)).alloc (.cells #[.int .u8 a0, .int .u8 a1, .int .u8 a2] 50)) vP vT P T ((hP.alloc _).alloc _) ((hT.alloc _).alloc _) 8
  rw [hs] at HS
  have H := Lib.hid HS
  have HB0 := Lib.hid (((Below.refl w.heap.size w).alloc (Nat.le_refl _) (.cells #[vP, vT] 29)).alloc (by simp) (.cells #[.int .u8 a0, .int .u8 a1, .int .u8 a2] 50))
  have HRD := Lib.hid (And.intro hP hT)
  have hbt := (Blk.new w 29 #[vP, vT]).alloc (.cells #[.int .u8 a0, .int .u8 a1, .int .u8 a2] 50)
  have hbn := Blk.new (w.alloc (.cells #[vP, vT] 29)) 50 #[.int .u8 a0, .int .u8 a1, .int .u8 a2]
  rw [show (w.alloc (.cells #[vP, vT] 29)).heap.size = w.heap.size + 1 by simp] at hbn
  obtain ⟨w0, hw0⟩ : ∃ W, W = (w.alloc (.cells #[vP, vT] 29)).alloc (.cells #[.int .u8 a0, .int .u8 a1, .int .u8 a2] 50) := ⟨_, rfl⟩
  rw [← hw0] at H HB0 hbt hbn
  have HX := Lib.hid (And.intro hbt hbn)
  have HCK := Lib.hid hck
  clear HS hs hP hT hck hbt hbn hml
  go_enter Tryz.func32, Tryz.ntmps32
  go_upto_region 1 with fail
  rw [← hw0]
  clear hw0
  have f0 : w0.cell? ⟨w.heap.size, 0, none⟩ = some vP := HX.out.1.cell 0
  have f1 : w0.cell? ⟨w.heap.size, 1, none⟩ = some vT := HX.out.1.cell 1
  go_wp2_with fail
  refine H.out.mono ?_
  rintro en w1 ⟨rfl, b1⟩
  have HX1 := Lib.hid (And.intro (HX.out.1.below b1 HX.out.1.lt) (HX.out.2.below b1 HX.out.2.lt))
  have HB1 := Lib.hid (HB0.out.trans (b1.mono HB0.out.size))
  clear b1 f0 f1
  go_wp2_with fail
  refine (newA_any _ 4096).mono ?_
  rintro en w2 ⟨a, g, rfl, hA, ha, hg, hb⟩
  have hX2 := And.intro (HX1.out.1.below hb HX1.out.1.lt) (HX1.out.2.below hb HX1.out.2.lt)
  have f0 : w2.cell? ⟨w.heap.size, 0, none⟩ = some vP := hX2.1.cell 0
  have f1 : w2.cell? ⟨w.heap.size, 1, none⟩ = some vT := hX2.1.cell 1
  have n0 : w2.cell? ⟨w.heap.size + 1, 0, none⟩ = some (.int .u8 a0) := hX2.2.cell 0
  have n1 : w2.cell? ⟨w.heap.size + 1, 1, none⟩ = some (.int .u8 a1) := hX2.2.cell 1
  have n2 : w2.cell? ⟨w.heap.size + 1, 2, none⟩ = some (.int .u8 a2) := hX2.2.cell 2
  have HA := Lib.hid (And.intro hA (And.intro ha (And.intro hg (HB1.out.trans (hb.mono HB1.out.size)))))
  have x1 : IntKind.i64.wrap (1 + (a0 : Int) % 5) = 1 + (a0 : Int) % 5 := IntWalk.i64_in _ (by omega)
  have x2 : IntKind.i64.wrap (1 + (a1 : Int) % 5) = 1 + (a1 : Int) % 5 := IntWalk.i64_in _ (by omega)
  have x3 : IntKind.i64.wrap (1 + (a2 : Int) / 4 % 4) = 1 + (a2 : Int) / 4 % 4 := IntWalk.i64_in _ (by omega)
  clear hA ha hg hb hX2
  have epar : 1 + (a2 : Int) / 4 % 4 = ((1 + a2 / 4 % 4 : Nat) : Int) := by omega
  have ekg : 1 + (a0 : Int) % 5 = ((1 + a0 % 5 : Nat) : Int) := by omega
  have ekl : 1 + (a1 : Int) % 5 = ((1 + a1 % 5 : Nat) : Int) := by omega
  have HN := Lib.hid (newS_w HA.out.1 rfl HA.out.1.ne vP vT P T (HRD.out.1.below HA.out.2.2.2 (Nat.le_refl _)) (HRD.out.2.below HA.out.2.2.2 (Nat.le_refl _)) (fun i hi => by have := HBL.out.1 i hi; have := HA.out.2.1; have := HB1.out.size; have := HA.out.2.2.2.size; omega) (fun i hi => by have := HBL.out.2 i hi; have := HA.out.2.1; have := HB1.out.size; have := HA.out.2.2.2.size; omega) HCK.out.1 (1 + a0 % 5) (1 + a1 % 5) (KOk.of (by omega)) (KOk.of (by omega)) (1 + a2 / 4 % 4) (by omega) ((a2 : Int) % 4) (by omega) rfl (by show 0 ≤ 1000; omega))
  rw [← epar, ← ekg, ← ekl] at HN
  clear epar ekg ekl
  go_wp2_with fail
  refine HN.out.mono ?_
  rintro en w3 ⟨B, BC, X, rfl, k3, hS, t3⟩
  have HK := Lib.hid (And.intro k3 (And.intro hS t3))
  clear k3 hS t3 f0 f1 n0 n1 n2 x1 x2 x3 HN
  go_wp2
  go_ret3
  have s2 := HA.out.2.2.2.size
  have s6 := HA.out.2.1
  have s7 := HA.out.2.2.1
  have sb := HB1.out.size
  obtain ⟨k3, hS, t3⟩ := HK.out
  have hml := many_lt (chk_ok HCK.out.1).1
  have hN1 : 1 ≤ (leavesL P).length := by
    obtain ⟨y, hy⟩ := getElem?_lt (show 0 < T.length by omega)
    exact List.length_pos_of_mem (thr_mem (chk_ok HCK.out.1).2.2.2 hy)
  have hK := nu_k (s := newAr 4096) (kg := 1 + a0 % 5) (kl := 1 + a1 % 5) (par := 1 + a2 / 4 % 4) (bud := (a2 : Int) % 4) HCK.out.1 (by omega) (by omega) (by omega) rfl hN1
  have hU := ws_s (s := newAr 4096) (kg := 1 + a0 % 5) (kl := 1 + a1 % 5) (par := 1 + a2 / 4 % 4) (bud := (a2 : Int) % 4) HCK.out.1 (by omega) (by omega) (by omega) rfl
  have hL := l_new (s := smA (newAr 4096) (leavesL P).length) (kg := 1 + a0 % 5) (kl := 1 + a1 % 5) (par := 1 + a2 / 4 % 4) (bud := (a2 : Int) % 4) HCK.out.1 (by omega) (by omega) (by omega)
  refine ⟨a, g, B, BC, X, _, _, _, rfl, ⟨hK, (by show ((1 + a2 / 4 % 4 : Nat) : Int) ≤ 4; omega), hL⟩, ⟨k3, hU.1, ?_, fun i hi => ?_, ?_⟩⟩
  · exact HA.out.2.2.2.trans (t3.below (by simp; omega) s2)
  · have := hS i hi
    omega
  · have h2 := hU.2
    have h3 : (newAr 4096).ops = 0 := rfl
    show (coStN _ _ _ _ _ _).s.ops ≤ 2000
    omega
set_option maxRecDepth 100000 in
set_option maxHeartbeats 1000000 in
theorem noA_w (w : World) (vP vT : Value) (a0 a1 a2 : Int) (hs8 : SmNo w vP vT 8) (hs : SmNo w vP vT 6) (A : Option Addr) (m c : Nat) (hm : m ≤ 100) :
    Calls Tryz.prog 9 #[.agg #[vP, vT], .agg #[.int .u8 a0, .int .u8 a1, .int .u8 a2], .slice A m c] w fun e w' => e = .returned (.bool true) ∧ Below w.heap.size w w' := by
  obtain ⟨w0, hw0⟩ : ∃ W, W = (w.alloc (.cells #[vP, vT] 29)).alloc (.cells #[.int .u8 a0, .int .u8 a1, .int .u8 a2] 50) := ⟨_, rfl⟩
  have HB0 := Lib.hid (show Below w.heap.size w w0 from by rw [hw0]; exact ((Below.refl w.heap.size w).alloc (Nat.le_refl _) _).alloc (by simp) _)
  have HX := Lib.hid (show Blk w0 w.heap.size 29 #[vP, vT] from by rw [hw0]; exact (Blk.new w 29 #[vP, vT]).alloc _)
  have HX2 := Lib.hid (show Blk w0 (w.heap.size + 1) 50 #[.int .u8 a0, .int .u8 a1, .int .u8 a2] from by
    rw [hw0]
    have := Blk.new (w.alloc (.cells #[vP, vT] 29)) 50 #[.int .u8 a0, .int .u8 a1, .int .u8 a2]
    simpa using this)
  have HM := Lib.hid (madeNoS_w w0 vP vT a0 a1 a2 (hs8.below HB0.out))
  have HS := Lib.hid hs
  clear hs hs8
  go_enter Tryz.func9, Tryz.ntmps9
  go_upto_region 1 with fail
  rw [← hw0]
  clear hw0
  have f0 : w0.cell? ⟨w.heap.size, 0, none⟩ = some vP := HX.out.cell 0
  have f1 : w0.cell? ⟨w.heap.size, 1, none⟩ = some vT := HX.out.cell 1
  have n0 : w0.cell? ⟨w.heap.size + 1, 0, none⟩ = some (.int .u8 a0) := HX2.out.cell 0
  have n1 : w0.cell? ⟨w.heap.size + 1, 1, none⟩ = some (.int .u8 a1) := HX2.out.cell 1
  have n2 : w0.cell? ⟨w.heap.size + 1, 2, none⟩ = some (.int .u8 a2) := HX2.out.cell 2
  go_wp2_with fail
  refine HM.out.mono ?_
  rintro en w1 ⟨rfl, b1⟩
  have hX1 := HX.out.below b1 HX.out.lt
  have HB1 := Lib.hid (HB0.out.trans (b1.mono HB0.out.size))
  clear b1 f0 f1 n0 n1 n2
  have f0 : w1.cell? ⟨w.heap.size, 0, none⟩ = some vP := hX1.cell 0
  have f1 : w1.cell? ⟨w.heap.size, 1, none⟩ = some vT := hX1.cell 1
  clear hX1
  go_wp2_with fail
  refine (HS.out _ HB1.out).mono ?_
  rintro en w2 ⟨rfl, b2⟩
  have HB2 := Lib.hid (HB1.out.trans (b2.mono HB1.out.size))
  clear b2
  go_wp2_with fail
  refine (awake38 _).mono ?_
  rintro en w3 ⟨rfl, b3⟩
  have HB3 := Lib.hid (HB2.out.trans (b3.mono HB2.out.size))
  clear b3
  go_wp2
  go_ret
  exact ⟨rfl, HB3.out⟩
set_option maxRecDepth 100000 in
set_option maxHeartbeats 1000000 in
theorem noL_w (w : World) (vP vT : Value) (a0 a1 a2 : Int) (hs : SmNo w vP vT 8) (A : Option Addr) (m c : Nat) (hm : 100 < m) (hm2 : m ≤ 9223372036854775807) :
    Calls Tryz.prog 9 #[.agg #[vP, vT], .agg #[.int .u8 a0, .int .u8 a1, .int .u8 a2], .slice A m c] w fun e w' => e = .returned (.bool true) ∧ Below w.heap.size w w' := by
  obtain ⟨w0, hw0⟩ : ∃ W, W = (w.alloc (.cells #[vP, vT] 29)).alloc (.cells #[.int .u8 a0, .int .u8 a1, .int .u8 a2] 50) := ⟨_, rfl⟩
  have HB0 := Lib.hid (show Below w.heap.size w w0 from by rw [hw0]; exact ((Below.refl w.heap.size w).alloc (Nat.le_refl _) _).alloc (by simp) _)
  have HX := Lib.hid (show Blk w0 w.heap.size 29 #[vP, vT] from by rw [hw0]; exact (Blk.new w 29 #[vP, vT]).alloc _)
  have HX2 := Lib.hid (show Blk w0 (w.heap.size + 1) 50 #[.int .u8 a0, .int .u8 a1, .int .u8 a2] from by
    rw [hw0]
    have := Blk.new (w.alloc (.cells #[vP, vT] 29)) 50 #[.int .u8 a0, .int .u8 a1, .int .u8 a2]
    simpa using this)
  have HM := Lib.hid (madeNoS_w w0 vP vT a0 a1 a2 (hs.below HB0.out))
  clear hs
  go_enter Tryz.func9, Tryz.ntmps9
  go_upto_region 1 with fail
  rw [← hw0]
  clear hw0
  have f0 : w0.cell? ⟨w.heap.size, 0, none⟩ = some vP := HX.out.cell 0
  have f1 : w0.cell? ⟨w.heap.size, 1, none⟩ = some vT := HX.out.cell 1
  have n0 : w0.cell? ⟨w.heap.size + 1, 0, none⟩ = some (.int .u8 a0) := HX2.out.cell 0
  have n1 : w0.cell? ⟨w.heap.size + 1, 1, none⟩ = some (.int .u8 a1) := HX2.out.cell 1
  have n2 : w0.cell? ⟨w.heap.size + 1, 2, none⟩ = some (.int .u8 a2) := HX2.out.cell 2
  go_wp2_with fail
  refine HM.out.mono ?_
  rintro en w1 ⟨rfl, b1⟩
  have hX1 := HX.out.below b1 HX.out.lt
  have HB1 := Lib.hid (HB0.out.trans (b1.mono HB0.out.size))
  clear b1 f0 f1 n0 n1 n2
  have f0 : w1.cell? ⟨w.heap.size, 0, none⟩ = some vP := hX1.cell 0
  have f1 : w1.cell? ⟨w.heap.size, 1, none⟩ = some vT := hX1.cell 1
  clear hX1
  go_wp2_with fail
  refine (awake38 _).mono ?_
  rintro en w3 ⟨rfl, b3⟩
  have HB3 := Lib.hid (HB1.out.trans (b3.mono HB1.out.size))
  clear b3
  go_wp2
  go_ret
  exact ⟨rfl, HB3.out⟩
set_option maxRecDepth 100000 in
set_option maxHeartbeats 16000000 in
theorem yesL_w (w : World) (vP : Value) (AT : Option Addr) (cT : Nat) (P T : List Int) (hP : RdL w vP 1 encI P) (hT : RdL w (.slice AT T.length cT) 1 encI T) (a0 a1 a2 : Nat) (h0 : a0 < 256) (h1 : a1 < 256) (h2 : a2 < 256) (hs : smallB P T 8 = true) (A : Option Addr) (m cap : Nat) (hl150 : 100 < m) (hl2 : m ≤ 9223372036854775807) :
    Calls Tryz.prog 9 #[.agg #[vP, .slice AT T.length cT], .agg #[.int .u8 a0, .int .u8 a1, .int .u8 a2], .slice A m cap] w fun e w' => e = .returned (.bool true) ∧ Below w.heap.size w w' := by
  have hT8 : T.length ≤ 8 := by have := (of_decide_eq_true hs).2; omega
  obtain ⟨w0, hw0⟩ : ∃ W, W = (w.alloc (.cells #[vP, .slice AT T.length cT] 29)).alloc (.cells #[.int .u8 a0, .int .u8 a1, .int .u8 a2] 50) := ⟨_, rfl⟩
  have HB0 := Lib.hid (show Below w.heap.size w w0 from by rw [hw0]; exact ((Below.refl w.heap.size w).alloc (Nat.le_refl _) _).alloc (by simp) _)
  have HX := Lib.hid (show Blk w0 w.heap.size 29 #[vP, .slice AT T.length cT] from by rw [hw0]; exact (Blk.new w 29 #[vP, .slice AT T.length cT]).alloc _)
  have HX2 := Lib.hid (show Blk w0 (w.heap.size + 1) 50 #[.int .u8 a0, .int .u8 a1, .int .u8 a2] from by
    rw [hw0]
    have := Blk.new (w.alloc (.cells #[vP, .slice AT T.length cT] 29)) 50 #[.int .u8 a0, .int .u8 a1, .int .u8 a2]
    simpa using this)
  have HM := Lib.hid (madeYesT_w w0 vP _ P T (hP.below HB0.out (Nat.le_refl _)) (hT.below HB0.out (Nat.le_refl _)) a0 a1 a2 h0 h1 h2 hs)
  have HRD := Lib.hid (And.intro (hP.below HB0.out (Nat.le_refl _)) (hT.below HB0.out (Nat.le_refl _)))
  clear hP hT hs
  go_enter Tryz.func9, Tryz.ntmps9
  go_upto_region 1 with fail
  rw [← hw0]
  clear hw0
  have f0 : w0.cell? ⟨w.heap.size, 0, none⟩ = some vP := HX.out.cell 0
  have f1 : w0.cell? ⟨w.heap.size, 1, none⟩ = some (.slice AT T.length cT) := HX.out.cell 1
  have n0 : w0.cell? ⟨w.heap.size + 1, 0, none⟩ = some (.int .u8 a0) := HX2.out.cell 0
  have n1 : w0.cell? ⟨w.heap.size + 1, 1, none⟩ = some (.int .u8 a1) := HX2.out.cell 1
  have n2 : w0.cell? ⟨w.heap.size + 1, 2, none⟩ = some (.int .u8 a2) := HX2.out.cell 2
  go_wp2_with fail
  refine HM.out.mono ?_
  rintro en w1 ⟨a, g, B, BC, X, c, L, x0, rfl, hK, hS⟩
  have H0 := Lib.hid hS
  have HK := Lib.hid hK
  have hw0s : w.heap.size ≤ w0.heap.size := HB0.out.size
  have hx0 : w.heap.size < w0.heap.size := HX.out.lt
  have HC0 : Hid (∀ W, Below w0.heap.size w0 W → W.cell? ⟨w.heap.size, 1, none⟩ = some (.slice AT T.length cT) ∧ W.cell? ⟨w.heap.size, 0, none⟩ = some vP) := Lib.hid fun W hW => ⟨(HX.out.below hW hx0).cell 1, (HX.out.below hW hx0).cell 0⟩
  clear hS hK HM f0 f1 n0 n1 n2
  go_wp2_with fail
  refine (awake38 _).mono ?_
  rintro en wa2 ⟨rfl, ba2⟩
  have HB2 := Lib.hid (HB0.out.trans ((H0.out.bel.trans (ba2.mono H0.out.bel.size)).mono hw0s))
  clear ba2
  go_wp2
  go_ret
  exact ⟨rfl, HB2.out⟩
set_option maxRecDepth 100000 in
set_option maxHeartbeats 16000000 in
theorem yes6_w (w : World) (vP : Value) (AT : Option Addr) (cT : Nat) (P T : List Int) (hP : RdL w vP 1 encI P) (hT : RdL w (.slice AT T.length cT) 1 encI T) (a0 a1 a2 : Nat) (h0 : a0 < 256) (h1 : a1 < 256) (h2 : a2 < 256) (hs : smallB P T 8 = true) (v : Value) (ls : List (Int × Int)) (h : RdL w v 2 encP ls) (hl150 : ls.length ≤ 100) (h6 : smallB P T 6 = false) :
    Calls Tryz.prog 9 #[.agg #[vP, .slice AT T.length cT], .agg #[.int .u8 a0, .int .u8 a1, .int .u8 a2], v] w fun e w' => e = .returned (.bool true) ∧ Below w.heap.size w w' := by
  obtain ⟨A, cap, rfl, l1, l2, hr⟩ := h
  have HR := Lib.hid hr
  have hT8 : T.length ≤ 8 := by have := (of_decide_eq_true hs).2; omega
  obtain ⟨w0, hw0⟩ : ∃ W, W = (w.alloc (.cells #[vP, .slice AT T.length cT] 29)).alloc (.cells #[.int .u8 a0, .int .u8 a1, .int .u8 a2] 50) := ⟨_, rfl⟩
  have HB0 := Lib.hid (show Below w.heap.size w w0 from by rw [hw0]; exact ((Below.refl w.heap.size w).alloc (Nat.le_refl _) _).alloc (by simp) _)
  have HX := Lib.hid (show Blk w0 w.heap.size 29 #[vP, .slice AT T.length cT] from by rw [hw0]; exact (Blk.new w 29 #[vP, .slice AT T.length cT]).alloc _)
  have HX2 := Lib.hid (show Blk w0 (w.heap.size + 1) 50 #[.int .u8 a0, .int .u8 a1, .int .u8 a2] from by
    rw [hw0]
    have := Blk.new (w.alloc (.cells #[vP, .slice AT T.length cT] 29)) 50 #[.int .u8 a0, .int .u8 a1, .int .u8 a2]
    simpa using this)
  have HM := Lib.hid (madeYesT_w w0 vP _ P T (hP.below HB0.out (Nat.le_refl _)) (hT.below HB0.out (Nat.le_refl _)) a0 a1 a2 h0 h1 h2 hs)
  have HRD := Lib.hid (And.intro (hP.below HB0.out (Nat.le_refl _)) (hT.below HB0.out (Nat.le_refl _)))
  clear hr hP hT hs
  go_enter Tryz.func9, Tryz.ntmps9
  go_upto_region 1 with fail
  rw [← hw0]
  clear hw0
  have f0 : w0.cell? ⟨w.heap.size, 0, none⟩ = some vP := HX.out.cell 0
  have f1 : w0.cell? ⟨w.heap.size, 1, none⟩ = some (.slice AT T.length cT) := HX.out.cell 1
  have n0 : w0.cell? ⟨w.heap.size + 1, 0, none⟩ = some (.int .u8 a0) := HX2.out.cell 0
  have n1 : w0.cell? ⟨w.heap.size + 1, 1, none⟩ = some (.int .u8 a1) := HX2.out.cell 1
  have n2 : w0.cell? ⟨w.heap.size + 1, 2, none⟩ = some (.int .u8 a2) := HX2.out.cell 2
  go_wp2_with fail
  refine HM.out.mono ?_
  rintro en w1 ⟨a, g, B, BC, X, c, L, x0, rfl, hK, hS⟩
  have H0 := Lib.hid hS
  have HK := Lib.hid hK
  have hw0s : w.heap.size ≤ w0.heap.size := HB0.out.size
  have hx0 : w.heap.size < w0.heap.size := HX.out.lt
  have HC0 : Hid (∀ W, Below w0.heap.size w0 W → W.cell? ⟨w.heap.size, 1, none⟩ = some (.slice AT T.length cT) ∧ W.cell? ⟨w.heap.size, 0, none⟩ = some vP) := Lib.hid fun W hW => ⟨(HX.out.below hW hx0).cell 1, (HX.out.below hW hx0).cell 0⟩
  clear hS hK HM f0 f1 n0 n1 n2
  have f9 := HC0.out _ H0.out.bel
  have HS6' := smallH _ vP _ P T (HRD.out.1.below H0.out.bel (Nat.le_refl _)) (HRD.out.2.below H0.out.bel (Nat.le_refl _)) 6
  rw [h6] at HS6'
  have HS6 := Lib.hid HS6'
  obtain ⟨f90, f91⟩ := f9
  clear HS6' h6
  go_wp2_with fail
  refine HS6.out.mono ?_
  rintro en wq ⟨rfl, bq⟩
  have H1 := Lib.hid (H0.out.below bq)
  clear bq f90 f91
  go_wp2_with fail
  refine (awake38 _).mono ?_
  rintro en wa2 ⟨rfl, ba2⟩
  have HB2 := Lib.hid (HB0.out.trans ((H1.out.bel.trans (ba2.mono H1.out.bel.size)).mono hw0s))
  clear ba2
  go_wp2
  go_ret
  exact ⟨rfl, HB2.out⟩
set_option maxRecDepth 100000 in
set_option maxHeartbeats 16000000 in
theorem all_w (w : World) (vP : Value) (AT : Option Addr) (cT : Nat) (P T : List Int) (hP : RdL w vP 1 encI P) (hT : RdL w (.slice AT T.length cT) 1 encI T) (a0 a1 a2 : Nat) (h0 : a0 < 256) (h1 : a1 < 256) (h2 : a2 < 256) (hs : smallB P T 8 = true) (v : Value) (ls : List (Int × Int)) (h : RdL w v 2 encP ls) (hl150 : ls.length ≤ 100) (h6 : smallB P T 6 = true) :
    Calls Tryz.prog 9 #[.agg #[vP, .slice AT T.length cT], .agg #[.int .u8 a0, .int .u8 a1, .int .u8 a2], v] w fun e w' => e = .returned (.bool true) ∧ Below w.heap.size w w' := by
  obtain ⟨A, cap, rfl, l1, l2, hr⟩ := h
  have HR := Lib.hid hr
  have hT6 : T.length ≤ 6 := by have := (of_decide_eq_true h6).2; omega
  have hT8 : T.length ≤ 8 := by have := (of_decide_eq_true hs).2; omega
  obtain ⟨w0, hw0⟩ : ∃ W, W = (w.alloc (.cells #[vP, .slice AT T.length cT] 29)).alloc (.cells #[.int .u8 a0, .int .u8 a1, .int .u8 a2] 50) := ⟨_, rfl⟩
  have HB0 := Lib.hid (show Below w.heap.size w w0 from by rw [hw0]; exact ((Below.refl w.heap.size w).alloc (Nat.le_refl _) _).alloc (by simp) _)
  have HX := Lib.hid (show Blk w0 w.heap.size 29 #[vP, .slice AT T.length cT] from by rw [hw0]; exact (Blk.new w 29 #[vP, .slice AT T.length cT]).alloc _)
  have HX2 := Lib.hid (show Blk w0 (w.heap.size + 1) 50 #[.int .u8 a0, .int .u8 a1, .int .u8 a2] from by
    rw [hw0]
    have := Blk.new (w.alloc (.cells #[vP, .slice AT T.length cT] 29)) 50 #[.int .u8 a0, .int .u8 a1, .int .u8 a2]
    simpa using this)
  have HM := Lib.hid (madeYesT_w w0 vP _ P T (hP.below HB0.out (Nat.le_refl _)) (hT.below HB0.out (Nat.le_refl _)) a0 a1 a2 h0 h1 h2 hs)
  have HRD := Lib.hid (And.intro (hP.below HB0.out (Nat.le_refl _)) (hT.below HB0.out (Nat.le_refl _)))
  clear hr hP hT hs
  go_enter Tryz.func9, Tryz.ntmps9
  go_upto_region 1 with fail
  rw [← hw0]
  clear hw0
  have f0 : w0.cell? ⟨w.heap.size, 0, none⟩ = some vP := HX.out.cell 0
  have f1 : w0.cell? ⟨w.heap.size, 1, none⟩ = some (.slice AT T.length cT) := HX.out.cell 1
  have n0 : w0.cell? ⟨w.heap.size + 1, 0, none⟩ = some (.int .u8 a0) := HX2.out.cell 0
  have n1 : w0.cell? ⟨w.heap.size + 1, 1, none⟩ = some (.int .u8 a1) := HX2.out.cell 1
  have n2 : w0.cell? ⟨w.heap.size + 1, 2, none⟩ = some (.int .u8 a2) := HX2.out.cell 2
  go_wp2_with fail
  refine HM.out.mono ?_
  rintro en w1 ⟨a, g, B, BC, X, c, L, x0, rfl, hK, hS⟩
  have H0 := Lib.hid hS
  have HK := Lib.hid hK
  have hw0s : w.heap.size ≤ w0.heap.size := HB0.out.size
  have hx0 : w.heap.size < w0.heap.size := HX.out.lt
  have HC0 : Hid (∀ W, Below w0.heap.size w0 W → W.cell? ⟨w.heap.size, 1, none⟩ = some (.slice AT T.length cT) ∧ W.cell? ⟨w.heap.size, 0, none⟩ = some vP) := Lib.hid fun W hW => ⟨(HX.out.below hW hx0).cell 1, (HX.out.below hW hx0).cell 0⟩
  clear hS hK HM f0 f1 n0 n1 n2
  have f9 := HC0.out _ H0.out.bel
  have HS6' := smallH _ vP _ P T (HRD.out.1.below H0.out.bel (Nat.le_refl _)) (HRD.out.2.below H0.out.bel (Nat.le_refl _)) 6
  rw [h6] at HS6'
  have HS6 := Lib.hid HS6'
  obtain ⟨f90, f91⟩ := f9
  clear HS6' h6
  go_wp2_with fail
  refine HS6.out.mono ?_
  rintro en wq ⟨rfl, bq⟩
  have H1 := Lib.hid (H0.out.below bq)
  clear bq f90 f91
  have hN32 := H1.out.is.nT.2.2.2
  go_wp2
  go_loopw [10] (fun i wr => ∃ (k : Nat) (x : Nu), i = .int .i64 k ∧ k ≤ ls.length ∧ SmStW w0 wr B BC a g X c P T L x (40 + 4 * (k : Int)) (2000 + k) ∧ CoL c T.length (leavesL P).length (mtQ P T) x.st) (fun i _ => ls.length - (intOf i).toNat)
  case atStart => exact ⟨0, x0, rfl, by omega, H1.out, HK.out.2.2⟩
  case round =>
    clear H0 H1
    obtain ⟨k, x, rfl, hk, hW, hCL⟩ := hrel
    obtain ⟨wo, rfl⟩ : ∃ wo : World, wo = wr := ⟨_, rfl⟩
    have HW := Lib.hid hW
    have HL := Lib.hid hCL
    clear hW hCL
    by_cases hlt : k < ls.length
    · obtain ⟨bl, off, rfl, hbl, hc⟩ := HR.out (by omega)
      obtain ⟨⟨kd, ii⟩, hx⟩ := getElem?_lt hlt
      have HLc : Hid (∀ W, Below w0.heap.size w0 W → W.cell? ⟨bl, off + k * 2, none⟩ = some (.int .i64 kd) ∧ W.cell? ⟨bl, off + k * 2 + 1, none⟩ = some (.int .i64 ii)) := Lib.hid fun W hW => by
        have hWb := HB0.out.trans (hW.mono hw0s)
        exact ⟨(hWb.cell (p := ⟨bl, off + k * 2 + 0, none⟩) hbl).trans (hc k _ hx 0 _ rfl), (hWb.cell (p := ⟨bl, off + k * 2 + 1, none⟩) hbl).trans (hc k _ hx 1 _ rfl)⟩
      clear hc hx
      obtain ⟨x0c, x1c⟩ := HLc.out _ HW.out.bel
      have HD := Lib.hid (doS_w HW.out.is HW.out.s HK.out.1 (by omega) (by have := HW.out.op; omega) kd ii)
      go_wp2_with fail
      refine HD.out.mono ?_
      rintro en w3 ⟨rr, rfl, k3, t3⟩
      have H3' := (HW.out.act HK.out.1 (by omega) k3 t3).1
      have H3L := (WsT.act ⟨HW.out.s, HL.out⟩ HK.out.1 (by omega) (by omega) HK.out.2.1 kd ii).l
      obtain ⟨x', hx'⟩ : ∃ x', x' = actWs c (leavesL P).length x kd ii := ⟨_, rfl⟩
      rw [← hx'] at H3' H3L
      have HF := Lib.hid (And.intro (show SmStW w0 w3 B BC a g X c P T L x' (40 + 4 * ((k + 1 : Nat) : Int)) (2000 + (k + 1)) from ⟨H3'.is, ⟨H3'.s.i, H3'.s.ok.mono (by omega)⟩, H3'.bel, H3'.hl, by have := H3'.op; omega⟩) H3L)
      clear hx' H3' H3L k3 t3 HD x0c x1c
      go_wp2
      go_roundw
      case rel => exact ⟨k + 1, x', by go_num, by omega, HF.out.1, HF.out.2⟩
      case measure => simp [intOf]; omega
    · obtain ⟨f1, _⟩ := HC0.out _ HW.out.bel
      have x1 : IntKind.i64.wrap ((T.length : Int) + 1) = (T.length : Int) + 1 := IntWalk.i64_in _ (by omega)
      have x2 : IntKind.i64.wrap (200 * ((T.length : Int) + 1)) = 200 * ((T.length : Int) + 1) := IntWalk.i64_in _ (by omega)
      obtain ⟨R, hRd⟩ : ∃ R : Nat, R = 200 * (T.length + 1) := ⟨_, rfl⟩
      have hR : 200 * ((T.length : Int) + 1) = (R : Int) := by omega
      have hR7 : R ≤ 1400 := by omega
      rw [hR] at x2
      have HRb := Lib.hid (show 213 * T.length < R by omega)
      have HS0 : Hid (SmStW w0 wo B BC a g X c P T L x 1000 4000) := Lib.hid ⟨HW.out.is, ⟨HW.out.s.i, HW.out.s.ok.mono (by omega)⟩, HW.out.bel, HW.out.hl, by have := HW.out.op; omega⟩
      have HRD1 := Lib.hid hRd
      clear hRd
      go_wp2
      go_loopw [12] (fun i wr => ∃ (r : Nat) (z : Nu), i = .int .i64 r ∧ r ≤ R ∧ z = rounds (wsTurn c (leavesL P).length) T.length r x ∧ SmStW w0 wr B BC a g X c P T L z (1000 + 48 * (r : Int)) (4000 + 12 * r)) (fun i _ => R - (intOf i).toNat)
      case atStart => exact ⟨0, x, rfl, by omega, rfl, HS0.out⟩
      case round =>
        obtain ⟨r, z, rfl, hr, hz, hZ⟩ := hrel
        obtain ⟨wp, rfl⟩ : ∃ wp : World, wp = wr := ⟨_, rfl⟩
        have HZ := Lib.hid hZ
        have HZe := Lib.hid hz
        clear hZ hz
        by_cases hrR : r < R
        · have e5 : decide ((r : Int) < 200 * ((T.length : Int) + 1)) = true := decide_eq_true (by omega)
          have HI0 : Hid (SmStW w0 wp B BC a g X c P T L z (1000 + 48 * (r : Int) + 8 * ((0 : Nat) : Int)) (4000 + 12 * r + 2 * 0)) := Lib.hid ⟨HZ.out.is, ⟨HZ.out.s.i, HZ.out.s.ok.mono (by omega)⟩, HZ.out.bel, HZ.out.hl, by have := HZ.out.op; omega⟩
          go_wp2
          go_loopw [13] (fun i wr => ∃ (j : Nat) (y : Nu), i = .int .i64 j ∧ j ≤ T.length ∧ y = turnsN (wsTurn c (leavesL P).length) j z ∧ SmStW w0 wr B BC a g X c P T L y (1000 + 48 * (r : Int) + 8 * (j : Int)) (4000 + 12 * r + 2 * j)) (fun i _ => T.length - (intOf i).toNat)
          case atStart => exact ⟨0, z, rfl, by omega, rfl, HI0.out⟩
          case round =>
            obtain ⟨j, y, rfl, hj, hy, hY⟩ := hrel
            obtain ⟨wq, rfl⟩ : ∃ wq : World, wq = wr := ⟨_, rfl⟩
            have HY := Lib.hid hY
            have HYe := Lib.hid hy
            clear hY hy
            by_cases hjT : j < T.length
            · have HD := Lib.hid (stepI_w HY.out.is HY.out.s HK.out.1 (by omega) (by have := HY.out.op; omega) (j : Int))
              go_wp2_with fail
              refine HD.out.mono ?_
              rintro en w3 ⟨rr, rfl, k3, t3⟩
              have H3 := Lib.hid (HY.out.act HK.out.1 (by omega) k3 t3).1
              clear k3 t3 HD
              have HD := Lib.hid (leaveI_w H3.out.is H3.out.s HK.out.1 (by omega) (by have := H3.out.op; omega) (j : Int))
              go_wp2_with fail
              refine HD.out.mono ?_
              rintro en w4 ⟨rr2, rfl, k3, t3⟩
              have H4 := Lib.hid (H3.out.act HK.out.1 (by omega) k3 t3).1
              clear k3 t3 HD
              have HF : Hid (SmStW w0 w4 B BC a g X c P T L (wsTurn c (leavesL P).length y j) (1000 + 48 * (r : Int) + 8 * ((j + 1 : Nat) : Int)) (4000 + 12 * r + 2 * (j + 1))) := Lib.hid ⟨H4.out.is, ⟨H4.out.s.i, H4.out.s.ok.mono (by omega)⟩, H4.out.bel, H4.out.hl, by have h9 : (wsTurn c (leavesL P).length y j).st.s.ops ≤ 4000 + 12 * r + 2 * j + 1 + 1 := H4.out.op; omega⟩
              have HFe : Hid (wsTurn c (leavesL P).length y j = turnsN (wsTurn c (leavesL P).length) (j + 1) z) := Lib.hid (by rw [HYe.out]; rfl)
              go_wp2
              go_roundw
              case rel => exact ⟨j + 1, _, by go_num, by omega, HFe.out, HF.out⟩
              case measure => simp [intOf]; omega
            · obtain rfl : j = T.length := by omega
              have HF : Hid (SmStW w0 wq B BC a g X c P T L y (1000 + 48 * ((r + 1 : Nat) : Int)) (4000 + 12 * (r + 1))) := Lib.hid ⟨HY.out.is, ⟨HY.out.s.i, HY.out.s.ok.mono (by omega)⟩, HY.out.bel, HY.out.hl, by have := HY.out.op; omega⟩
              have HFe : Hid (y = rounds (wsTurn c (leavesL P).length) T.length (r + 1) x) := Lib.hid (by rw [HYe.out, HZe.out]; rfl)
              go_wp2
              go_roundw
              case rel => exact ⟨r + 1, y, by go_num, by omega, HFe.out, HF.out⟩
              case measure => simp [intOf]; omega
        · obtain rfl : r = R := by omega
          have e5 : decide ((r : Int) < 200 * ((T.length : Int) + 1)) = false := decide_eq_false (by omega)
          have HRest : Hid (nuRest T.length z) := Lib.hid (by
            rw [HZe.out]
            exact ws_all ⟨HS0.out.s, HL.out⟩ HK.out.1 (by omega) (by omega) HK.out.2.1 hN32 hT6 HRb.out (by omega))
          have hfp := field_pc
          go_wp2
          go_loopw [14] (fun i wr => ∃ (j : Nat) (M : Nat), i = .int .i64 j ∧ j ≤ T.length ∧ SmStW w0 wr B BC a g X c P T L z (1000 + 48 * (r : Int)) (4000 + 12 * r)) (fun i _ => T.length - (intOf i).toNat)
          case atStart => exact ⟨0, 0, rfl, by omega, HZ.out⟩
          case round =>
            obtain ⟨j, _, rfl, hj, hY⟩ := hrel
            obtain ⟨wq, rfl⟩ : ∃ wq : World, wq = wr := ⟨_, rfl⟩
            have HY := Lib.hid hY
            clear hY
            by_cases hjT : j < T.length
            · have hg : getS z.U (j : Int) = sv z.U j := getQ_nat (by rw [HY.out.is.lU]; exact hjT)
              have HSp := spot_w HY.out.is (j : Int)
              rw [hg] at HSp
              have h0 := HRest.out j hjT
              obtain ⟨p, hp⟩ : ∃ p, p = sv z.U j := ⟨_, rfl⟩
              rw [← hp] at HSp h0
              obtain ⟨pc, u, b, zz⟩ := p
              simp only at h0
              subst h0
              have HSp := Lib.hid HSp
              clear hg hp
              unfold spotV at HSp
              go_wp2_with fail
              refine HSp.out.mono ?_
              rintro en w4 ⟨rfl, b4⟩
              have H4 := Lib.hid (HY.out.below b4)
              clear b4
              go_wp2
              go_roundw
              case rel => exact ⟨j + 1, 0, by go_num, by omega, H4.out⟩
              case measure => simp [intOf]; omega
            · go_wp2_with fail
              refine (awake38 _).mono ?_
              rintro en wa2 ⟨rfl, ba2⟩
              have HB2 := Lib.hid (HB0.out.trans ((HY.out.bel.trans (ba2.mono HY.out.bel.size)).mono hw0s))
              clear ba2
              go_wp2
              go_ret
              exact ⟨rfl, HB2.out⟩

end Go.Proofs.YtndipiockdmaoaaGreat
end
