/- Joined: Sm10r, Ws1. -/
import Derived.Deep.DeepCutAuto
import Derived.Test.YtndipiockdmaoaaGreatMgRwU1
import Derived.Test.YtndipiockdmaoaaGreatMgRwU15
import Derived.Test.YtndipiockdmaoaaGreatMgRwU19
import Derived.Test.YtndipiockdmaoaaGreatMgRwU24
section
set_option linter.unusedVariables false
set_option linter.unusedSimpArgs false
/- Layer 37 (readers): the walk of ReadersSafe. (printed by gen_sm10.py) -/
namespace Go.Proofs.YtndipiockdmaoaaGreat
open Go.RowKit

set_option maxRecDepth 100000 in
theorem longS_r (w : World) (vP vT : Value) (a0 a1 a2 : Int) (A : Option Addr) (m c : Nat) (h1 : 150 < m) (h2 : m ≤ 9223372036854775807) :
    Calls Tryz.prog 5 #[.agg #[vP, vT], .agg #[.int .u8 a0, .int .u8 a1, .int .u8 a2], .slice A m c] w fun e w' => e = .returned (.bool true) ∧ Below w.heap.size w w' := by
  have HB := Lib.hid (((Below.refl w.heap.size w).alloc (Nat.le_refl _) (.cells #[vP, vT] 29)).alloc (by simp) (.cells #[.int .u8 a0, .int .u8 a1, .int .u8 a2] 50))
  go_enter Tryz.func5, Tryz.ntmps5
  go_wp2_with fail
  refine (awake37 _).mono ?_
  rintro en w1 ⟨rfl, hb⟩
  have H1 := Lib.hid (HB.out.trans (hb.mono HB.out.size))
  clear hb
  go_wp2
  go_ret
  exact ⟨rfl, H1.out⟩
set_option maxRecDepth 100000 in
set_option maxHeartbeats 1000000 in
theorem noS_r (w : World) (vP vT : Value) (a0 a1 a2 : Int) (hs : SmNo w vP vT 8) (A : Option Addr) (m c : Nat) (hm : m ≤ 150) :
    Calls Tryz.prog 5 #[.agg #[vP, vT], .agg #[.int .u8 a0, .int .u8 a1, .int .u8 a2], .slice A m c] w fun e w' => e = .returned (.bool true) ∧ Below w.heap.size w w' := by
  obtain ⟨w0, hw0⟩ : ∃ W, W = (w.alloc (.cells #[vP, vT] 29)).alloc (.cells #[.int .u8 a0, .int .u8 a1, .int .u8 a2] 50) := ⟨_, rfl⟩
  have HB0 := Lib.hid (show Below w.heap.size w w0 from by rw [hw0]; exact ((Below.refl w.heap.size w).alloc (Nat.le_refl _) _).alloc (by simp) _)
  have HX := Lib.hid (show Blk w0 w.heap.size 29 #[vP, vT] from by rw [hw0]; exact (Blk.new w 29 #[vP, vT]).alloc _)
  have HX2 := Lib.hid (show Blk w0 (w.heap.size + 1) 50 #[.int .u8 a0, .int .u8 a1, .int .u8 a2] from by
    rw [hw0]
    have := Blk.new (w.alloc (.cells #[vP, vT] 29)) 50 #[.int .u8 a0, .int .u8 a1, .int .u8 a2]
    simpa using this)
  have HM := Lib.hid (madeNoS_r w0 vP vT a0 a1 a2 (hs.below HB0.out))
  have HS := Lib.hid hs
  clear hs
  go_enter Tryz.func5, Tryz.ntmps5
  go_upto_region 1 with fail
  rw [← hw0]
  clear hw0
  have f0 : w0.cell? ⟨w.heap.size, 0, none⟩ = some vP := HX.out.cell 0
  have f1 : w0.cell? ⟨w.heap.size, 1, none⟩ = some vT := HX.out.cell 1
  have n0 : w0.cell? ⟨w.heap.size + 1, 0, none⟩ = some (.int .u8 a0) := HX2.out.cell 0
  have n1 : w0.cell? ⟨w.heap.size + 1, 1, none⟩ = some (.int .u8 a1) := HX2.out.cell 1
  have n2 : w0.cell? ⟨w.heap.size + 1, 2, none⟩ = some (.int .u8 a2) := HX2.out.cell 2
  go_wp2_with fail
  refine HM.out.mono ?_
  rintro en w1 ⟨rfl, b1⟩
  have hX1 := HX.out.below b1 HX.out.lt
  have HB1 := Lib.hid (HB0.out.trans (b1.mono HB0.out.size))
  clear b1 f0 f1 n0 n1 n2
  have f0 : w1.cell? ⟨w.heap.size, 0, none⟩ = some vP := hX1.cell 0
  have f1 : w1.cell? ⟨w.heap.size, 1, none⟩ = some vT := hX1.cell 1
  clear hX1
  go_wp2_with fail
  refine (HS.out _ HB1.out).mono ?_
  rintro en w2 ⟨rfl, b2⟩
  have HB2 := Lib.hid (HB1.out.trans (b2.mono HB1.out.size))
  clear b2
  go_wp2_with fail
  refine (awake37 _).mono ?_
  rintro en w3 ⟨rfl, b3⟩
  have HB3 := Lib.hid (HB2.out.trans (b3.mono HB2.out.size))
  clear b3
  go_wp2
  go_ret
  exact ⟨rfl, HB3.out⟩
set_option maxRecDepth 100000 in
set_option maxHeartbeats 16000000 in
theorem safeS_r (w : World) (vP : Value) (AT : Option Addr) (cT : Nat) (P T : List Int) (hP : RdL w vP 1 encI P) (hT : RdL w (.slice AT T.length cT) 1 encI T) (a0 a1 a2 : Nat) (h0 : a0 < 256) (h1 : a1 < 256) (h2 : a2 < 256) (hs : smallB P T 8 = true) (v : Value) (ls : List (Int × Int)) (h : RdL w v 2 encP ls) (hl150 : ls.length ≤ 150) :
    Calls Tryz.prog 5 #[.agg #[vP, .slice AT T.length cT], .agg #[.int .u8 a0, .int .u8 a1, .int .u8 a2], v] w fun e w' => e = .returned (.bool true) ∧ Below w.heap.size w w' := by
  obtain ⟨A, cap, rfl, l1, l2, hr⟩ := h
  have HR := Lib.hid hr
  have hT8 : T.length ≤ 8 := by have := (of_decide_eq_true hs).2; omega
  obtain ⟨w0, hw0⟩ : ∃ W, W = (w.alloc (.cells #[vP, .slice AT T.length cT] 29)).alloc (.cells #[.int .u8 a0, .int .u8 a1, .int .u8 a2] 50) := ⟨_, rfl⟩
  have HB0 := Lib.hid (show Below w.heap.size w w0 from by rw [hw0]; exact ((Below.refl w.heap.size w).alloc (Nat.le_refl _) _).alloc (by simp) _)
  have HX := Lib.hid (show Blk w0 w.heap.size 29 #[vP, .slice AT T.length cT] from by rw [hw0]; exact (Blk.new w 29 #[vP, .slice AT T.length cT]).alloc _)
  have HX2 := Lib.hid (show Blk w0 (w.heap.size + 1) 50 #[.int .u8 a0, .int .u8 a1, .int .u8 a2] from by
    rw [hw0]
    have := Blk.new (w.alloc (.cells #[vP, .slice AT T.length cT] 29)) 50 #[.int .u8 a0, .int .u8 a1, .int .u8 a2]
    simpa using this)
  have HM := Lib.hid (madeYesS_r w0 vP _ P T (hP.below HB0.out (Nat.le_refl _)) (hT.below HB0.out (Nat.le_refl _)) a0 a1 a2 h0 h1 h2 hs)
  clear hr hP hT hs
  go_enter Tryz.func5, Tryz.ntmps5
  go_upto_region 1 with fail
  rw [← hw0]
  clear hw0
  have f0 : w0.cell? ⟨w.heap.size, 0, none⟩ = some vP := HX.out.cell 0
  have f1 : w0.cell? ⟨w.heap.size, 1, none⟩ = some (.slice AT T.length cT) := HX.out.cell 1
  have n0 : w0.cell? ⟨w.heap.size + 1, 0, none⟩ = some (.int .u8 a0) := HX2.out.cell 0
  have n1 : w0.cell? ⟨w.heap.size + 1, 1, none⟩ = some (.int .u8 a1) := HX2.out.cell 1
  have n2 : w0.cell? ⟨w.heap.size + 1, 2, none⟩ = some (.int .u8 a2) := HX2.out.cell 2
  go_wp2_with fail
  refine HM.out.mono ?_
  rintro en w1 ⟨a, g, B, BC, X, c, L, x0, rfl, hK, hS⟩
  have H0 := Lib.hid hS
  have HK := Lib.hid hK
  have hw0s : w.heap.size ≤ w0.heap.size := HB0.out.size
  have hx0 : w.heap.size < w0.heap.size := HX.out.lt
  have HC0 : Hid (∀ W, Below w0.heap.size w0 W → W.cell? ⟨w.heap.size, 1, none⟩ = some (.slice AT T.length cT)) := Lib.hid fun W hW => (HX.out.below hW hx0).cell 1
  clear hS hK HM f0 f1 n0 n1 n2
  go_wp2
  go_loopw [10] (fun i wr => ∃ (k : Nat) (x : Nu), i = .int .i64 k ∧ k ≤ ls.length ∧ SmStR w0 wr B BC a g X c P T L x (40 + 4 * (k : Int)) (2000 + k)) (fun i _ => ls.length - (intOf i).toNat)
  case atStart => exact ⟨0, x0, rfl, by omega, H0.out⟩
  case round =>
    clear H0
    obtain ⟨k, x, rfl, hk, hW⟩ := hrel
    obtain ⟨wo, rfl⟩ : ∃ wo : World, wo = wr := ⟨_, rfl⟩
    have HW := Lib.hid hW
    clear hW
    by_cases hlt : k < ls.length
    · obtain ⟨bl, off, rfl, hbl, hc⟩ := HR.out (by omega)
      obtain ⟨⟨kd, ii⟩, hx⟩ := getElem?_lt hlt
      have HLc : Hid (∀ W, Below w0.heap.size w0 W → W.cell? ⟨bl, off + k * 2, none⟩ = some (.int .i64 kd) ∧ W.cell? ⟨bl, off + k * 2 + 1, none⟩ = some (.int .i64 ii)) := Lib.hid fun W hW => by
        have hWb := HB0.out.trans (hW.mono hw0s)
        exact ⟨(hWb.cell (p := ⟨bl, off + k * 2 + 0, none⟩) hbl).trans (hc k _ hx 0 _ rfl), (hWb.cell (p := ⟨bl, off + k * 2 + 1, none⟩) hbl).trans (hc k _ hx 1 _ rfl)⟩
      clear hc hx
      obtain ⟨x0c, x1c⟩ := HLc.out _ HW.out.bel
      have HD := Lib.hid (doS_r HW.out.is HW.out.s HK.out (by omega) (by have := HW.out.op; omega) kd ii)
      go_wp2_with fail
      refine (aops_any HW.out.is.co.ar).mono ?_
      rintro en w2 ⟨rfl, rfl⟩
      go_wp2_with fail
      refine HD.out.mono ?_
      rintro en w3 ⟨rr, rfl, k3, t3⟩
      have H3' := HW.out.act HK.out (by omega) k3 t3
      obtain ⟨x', hx'⟩ : ∃ x', x' = actRs c (leavesL P).length x kd ii := ⟨_, rfl⟩
      rw [← hx'] at H3'
      have H3 := Lib.hid H3'
      clear hx' H3' k3 t3 HD x0c x1c
      have f1 := HC0.out _ H3.out.1.bel
      go_wp2_with fail
      refine (inS_r H3.out.1.is H3.out.1.s).mono ?_
      rintro en w4 ⟨rfl, b4⟩
      have H4 := Lib.hid (H3.out.1.below b4)
      have HCn := Lib.hid (H3.out.1.s.i.cnt HK.out.y)
      clear b4 f1
      obtain ⟨rn, hrn⟩ : ∃ z : Nat, z = cntN T.length (rdH x'.U) := ⟨_, rfl⟩
      obtain ⟨wn, hwn⟩ : ∃ z : Nat, z = cntN T.length (wrH x'.U) := ⟨_, rfl⟩
      rw [← hrn, ← hwn] at HCn ⊢
      clear hrn hwn
      obtain ⟨zw, hzw⟩ : ∃ z : Int, z = (wn : Int) := ⟨_, rfl⟩
      obtain ⟨zr, hzr⟩ : ∃ z : Int, z = (rn : Int) := ⟨_, rfl⟩
      have hcs : zw = 0 ∨ zw = 1 ∧ zr = 0 := by have := HCn.out; omega
      rw [← hzw, ← hzr]
      clear hzw hzr HCn
      have xw : IntKind.i64.wrap ((x.st.s.ops : Int) + 1) = (x.st.s.ops : Int) + 1 := IntWalk.i64_in _ (by have := HW.out.op; omega)
      have g5 : decide ((x.st.s.ops : Int) + 1 < (x'.st.s.ops : Int)) = false := decide_eq_false (by have := H3.out.2.1; omega)
      have g6 : ¬ (x.st.s.ops : Int) + 1 < (x'.st.s.ops : Int) := by have := H3.out.2.1; omega
      obtain ⟨x0c, _⟩ := HLc.out _ H4.out.bel
      have HF := Lib.hid (show SmStR w0 w4 B BC a g X c P T L x' (40 + 4 * ((k + 1 : Nat) : Int)) (2000 + (k + 1)) from ⟨H4.out.is, ⟨H4.out.s.i, H4.out.s.ok.mono (by omega), H4.out.s.dok⟩, H4.out.bel, H4.out.hl, by have := H4.out.op; omega⟩)
      rcases hcs with rfl | ⟨rfl, rfl⟩
      · go_wp2_with fail
        refine (aops_any H4.out.is.co.ar).mono ?_
        rintro en w5 ⟨rfl, rfl⟩
        by_cases k0 : kd = 0
        · subst k0
          go_wp2
          go_roundw
          case rel => exact ⟨k + 1, x', by go_num, by omega, HF.out⟩
          case measure => simp [intOf]; omega
        · have e0 : (kd != 0) = true := by simpa using k0
          have e9 : (x'.st.s.ops : Int) = (x.st.s.ops : Int) := by rw [H3.out.2.2 k0]
          have e1 : ((x'.st.s.ops : Int) != (x.st.s.ops : Int)) = false := by rw [e9]; simp
          clear e9
          go_wp2_with fail
          refine (aops_any H4.out.is.co.ar).mono ?_
          rintro en w6 ⟨rfl, rfl⟩
          go_wp2
          go_roundw
          case rel => exact ⟨k + 1, x', by go_num, by omega, HF.out⟩
          case measure => simp [intOf]; omega
      · go_wp2_with fail
        refine (aops_any H4.out.is.co.ar).mono ?_
        rintro en w5 ⟨rfl, rfl⟩
        by_cases k0 : kd = 0
        · subst k0
          go_wp2
          go_roundw
          case rel => exact ⟨k + 1, x', by go_num, by omega, HF.out⟩
          case measure => simp [intOf]; omega
        · have e0 : (kd != 0) = true := by simpa using k0
          have e9 : (x'.st.s.ops : Int) = (x.st.s.ops : Int) := by rw [H3.out.2.2 k0]
          have e1 : ((x'.st.s.ops : Int) != (x.st.s.ops : Int)) = false := by rw [e9]; simp
          clear e9
          go_wp2_with fail
          refine (aops_any H4.out.is.co.ar).mono ?_
          rintro en w6 ⟨rfl, rfl⟩
          go_wp2
          go_roundw
          case rel => exact ⟨k + 1, x', by go_num, by omega, HF.out⟩
          case measure => simp [intOf]; omega
    · have HW1 := Lib.hid (show w.heap.size ≤ wo.heap.size from Nat.le_trans hw0s HW.out.bel.size)
      go_wp2_with fail
      refine (awake37 _).mono ?_
      rintro en wa2 ⟨rfl, ba2⟩
      have HB2 := Lib.hid (HB0.out.trans ((HW.out.bel.trans (ba2.mono HW.out.bel.size)).mono hw0s))
      clear ba2
      go_wp2
      go_ret
      exact ⟨rfl, HB2.out⟩
end Go.Proofs.YtndipiockdmaoaaGreat
end
section
set_option linter.unusedVariables false
set_option linter.unusedSimpArgs false
/- Layer 38 (writers), plain: the machine; a writer holds alone. No program in sight. (printed by gen_ws1.py out of XNs1) -/
namespace Go.Proofs.YtndipiockdmaoaaGreat
open Go

/-- a step: the cohort lock, the drain, where the thread comes -/
def wsDoes (c : CoC) (N : Nat) (x : Nu) (i : Nat) (p : Sp) : Co × Dr × Int :=
  if p.a = 1 then
    if p.pc = 1 then (onA x.st (loadA x.st.s (nuFl N)), x.d, if ldW x.st.s.W (nuFl N) = 0 then 2 else 1)
    else if p.pc = 2 then (onA x.st (addA x.st.s (gaA (c.node i)) 1), x.d, 3)
    else if p.pc = 3 then (onA x.st (loadA x.st.s (nuFl N)), x.d, if ldW x.st.s.W (nuFl N) = 0 then 10 else 4)
    else if p.pc = 4 then (onA x.st (addA x.st.s (gaW (c.node i)) 1), x.d, 1)
    else (onA x.st (addA x.st.s (gaW (c.node i)) 1), x.d, 0)
  else if p.pc = 5 then (coAsk c (onA x.st (addA x.st.s (nuFl N) 1)) i, x.d, 7)
  else if p.pc = 7 then (coStep c x.st i, if cameK (sv x.st.T i) (sv (coStep c x.st i).T i) then drBeg x.d N false else x.d, if cameK (sv x.st.T i) (sv (coStep c x.st i).T i) then 9 else 7)
  else if p.pc = 9 then (onA x.st (drStep x.st.s x.d).1, (drStep x.st.s x.d).2.1, if (drStep x.st.s x.d).2.2 = true then 10 else 9)
  else if p.pc = 12 then (coLeave (onA x.st (addA x.st.s (nuFl N) (-1))) i, x.d, 13)
  else (coStep c x.st i, x.d, if cameK (sv x.st.T i) (sv (coStep c x.st i).T i) then 0 else 13)
def wsStep (c : CoC) (N : Nat) (x : Nu) (i : Nat) : Nu :=
  if (sv x.U i).pc = 0 ∨ (sv x.U i).pc = 10 then x
  else ⟨(wsDoes c N x i (sv x.U i)).1, (wsDoes c N x i (sv x.U i)).2.1, x.U.set i { (sv x.U i) with pc := (wsDoes c N x i (sv x.U i)).2.2 }⟩
def wsAsk (x : Nu) (i : Nat) (read : Bool) : Nu :=
  if (sv x.U i).pc = 0 then { x with U := x.U.set i (if read then ⟨1, 1, 0, 0⟩ else ⟨5, 0, 0, 0⟩) } else x
def rdInW (p : Sp) : Bool := decide (p.a = 1 ∧ (p.pc = 3 ∨ p.pc = 4 ∨ p.pc = 10 ∨ p.pc = 11))
def rdStW (p : Sp) : Prop := p.a = 1 ∧ (p.pc = 10 ∨ p.pc = 11)
def wrPW (p : Sp) : Prop := p.a = 0 ∧ (p.pc = 9 ∨ p.pc = 10 ∨ p.pc = 12)
def wrC (p : Sp) : Bool := decide (p.a = 0 ∧ (p.pc = 7 ∨ p.pc = 9 ∨ p.pc = 10 ∨ p.pc = 12))
def linkW (p t : Sp) : Prop :=
  (p.pc = 0 ∧ t.pc = 0) ∨ (p.a = 1 ∧ (p.pc = 1 ∨ p.pc = 2 ∨ p.pc = 3 ∨ p.pc = 4 ∨ p.pc = 10 ∨ p.pc = 11) ∧ t.pc = 0) ∨ (p.a = 0 ∧ p.pc = 5 ∧ t.pc = 0) ∨
    (p.a = 0 ∧ p.pc = 7 ∧ 0 < t.pc ∧ t.pc < 10) ∨ (p.a = 0 ∧ (p.pc = 9 ∨ p.pc = 10 ∨ p.pc = 12) ∧ t.pc = 10) ∨ (p.a = 0 ∧ p.pc = 13 ∧ 10 < t.pc)
def cntIW (c : CoC) (n : Nat) (U : List Sp) (a : Nat) : Nat := cntN n (fun j => decide (c.node j = a) && rdInW (sv U j))
def cntF (n : Nat) (U : List Sp) : Nat := cntN n (fun j => wrC (sv U j))
def DrIW (c : CoC) (n N : Nat) (d : Dr) (W : List Int) (U : List Sp) : Prop :=
  (d.busy = true ∧ d.once = false ∧ d.at_ < N ∧ d.lim = N) ∧ (d.second = true → d.out ≤ ldW W (gaW d.at_)) ∧ ∀ j, j < n → rdStW (sv U j) → d.at_ ≤ c.node j
structure WsI (c : CoC) (n N : Nat) (ml : Nat → Nat) (x : Nu) : Prop where
  m : CoM c n N ml x.st
  lU : x.U.length = n
  k : ∀ i, i < n → linkW (sv x.U i) (sv x.st.T i)
  g : ∀ a, a < N → ldW x.st.s.W (gaA a) = ldW x.st.s.W (gaW a) + (cntIW c n x.U a : Int)
  fl : ldW x.st.s.W (nuFl N) = (cntF n x.U : Int)
  dr : ∀ i, i < n → (sv x.U i).a = 0 → (sv x.U i).pc = 9 → DrIW c n N x.d x.st.s.W x.U
  hd : ∀ i, i < n → (sv x.U i).a = 0 → (sv x.U i).pc = 10 → ∀ j, j < n → ¬ rdStW (sv x.U j)
section
variable {c : CoC} {n N : Nat} {ml : Nat → Nat} {x x' : Nu}
/-- a writer holds alone -/
theorem WsI.safe (h : WsI c n N ml x) (y : CoLy c n N ml) {i : Nat} (hi : i < n) (h1 : (sv x.U i).pc = 10) (h0 : (sv x.U i).a = 0) {j : Nat} (hj : j < n) (h2 : (sv x.U j).pc = 10) : j = i ∧ (sv x.U j).a = 0 := by
  have ki := h.k i hi
  have kj := h.k j hj
  by_cases ha : (sv x.U j).a = 1
  · exact absurd ⟨ha, .inl h2⟩ (h.hd i hi h0 h1 j hj)
  · have t1 : (sv x.st.T i).pc = 10 := by unfold linkW at ki; omega
    have t2 : (sv x.st.T j).pc = 10 ∧ (sv x.U j).a = 0 := by unfold linkW at kj; omega
    exact ⟨h.m.one y hj hi (by omega) (by omega), t2.2⟩
theorem WsI.one (h : WsI c n N ml x) (y : CoLy c n N ml) {i j : Nat} (hi : i < n) (hj : j < n) (h1 : (sv x.st.T i).pc = 10) (h2 : (sv x.st.T j).pc = 10) : i = j := h.m.one y hi hj (by omega) (by omega)
theorem wr_tW {p t : Sp} (h : linkW p t) (hw : wrPW p) : t.pc = 10 := by unfold linkW at h; unfold wrPW at hw; omega
theorem cntIW_set {U : List Sp} {i : Nat} (hl : i < U.length) (hi : i < n) (p : Sp) (a : Nat) :
    cntIW c n (U.set i p) a + (if c.node i = a ∧ rdInW (sv U i) = true then 1 else 0) = cntIW c n U a + (if c.node i = a ∧ rdInW p = true then 1 else 0) := by
  unfold cntIW
  have := cntN_one (P := fun j => decide (c.node j = a) && rdInW (sv U j)) (Q := fun j => decide (c.node j = a) && rdInW (sv (U.set i p) j)) (i := i) (fun j hj => by rw [svS hl, if_neg hj]) n hi
  simp only [Bool.and_eq_true, decide_eq_true_eq] at this
  rw [svS hl, if_pos rfl] at this
  exact this
/-- an act of a thread: what is to be shown of it -/
theorem WsI.upd (h : WsI c n N ml x) {i : Nat} (hi : i < n) {st' : Co} {d' : Dr} {p' : Sp} (hm : CoM c n N ml st') (hT : ∀ j, j ≠ i → sv st'.T j = sv x.st.T j) (hk : linkW p' (sv st'.T i))
    (hg : ∀ a, a < N → ldW st'.s.W (gaA a) = ldW st'.s.W (gaW a) + (cntIW c n (x.U.set i p') a : Int))
    (hfl : ldW st'.s.W (nuFl N) = (cntF n (x.U.set i p') : Int))
    (hH : ∀ a, a < N → ldW x.st.s.W (gaW a) ≤ ldW st'.s.W (gaW a))
    (hset : rdStW p' → rdStW (sv x.U i) ∨ ∀ j, j < n → j ≠ i → ¬ wrPW (sv x.U j))
    (hd : ∀ j, j < n → j ≠ i → (sv x.U j).a = 0 → (sv x.U j).pc = 9 → d' = x.d)
    (od : p'.a = 0 → p'.pc = 9 → DrIW c n N d' st'.s.W (x.U.set i p')) (oh : p'.a = 0 → p'.pc = 10 → ∀ j, j < n → j ≠ i → ¬ rdStW (sv x.U j)) : WsI c n N ml ⟨st', d', x.U.set i p'⟩ := by
  have hl : i < x.U.length := by rw [h.lU]; exact hi
  have hs := svS hl p'
  refine ⟨hm, by rw [List.length_set]; exact h.lU, fun j hj => ?_, hg, hfl, fun j hj h0 h9 => ?_, fun j hj h0 h10 => ?_⟩
  · show linkW (sv (x.U.set i p') j) (sv st'.T j)
    rw [hs]
    split
    · rename_i e; rw [e]; exact hk
    · rename_i e; rw [hT j e]; exact h.k j hj
  · have h0' : (sv (x.U.set i p') j).a = 0 := h0
    have h9' : (sv (x.U.set i p') j).pc = 9 := h9
    rw [hs] at h0' h9'
    by_cases e : j = i
    · rw [if_pos e] at h0' h9'
      exact od h0' h9'
    · rw [if_neg e] at h0' h9'
      obtain ⟨q1, q2, q3⟩ := h.dr j hj h0' h9'
      show DrIW c n N d' st'.s.W (x.U.set i p')
      rw [hd j hj e h0' h9']
      refine ⟨q1, fun hq => Int.le_trans (q2 hq) (hH _ q1.2.2.1), fun k hk hr => ?_⟩
      rw [hs] at hr
      split at hr
      · rename_i e2
        rcases hset hr with h1 | h1
        · rw [e2]; exact q3 i hi h1
        · exact absurd ⟨h0', .inl h9'⟩ (h1 j hj e)
      · exact q3 k hk hr
  · have h0' : (sv (x.U.set i p') j).a = 0 := h0
    have h9' : (sv (x.U.set i p') j).pc = 10 := h10
    rw [hs] at h0' h9'
    intro k hk hr
    have hr' : rdStW (sv (x.U.set i p') k) := hr
    rw [hs] at hr'
    by_cases e : j = i
    · rw [if_pos e] at h0' h9'
      split at hr'
      · unfold rdStW at hr'; omega
      · rename_i e2; exact oh h0' h9' k hk e2 hr'
    · rw [if_neg e] at h0' h9'
      split at hr'
      · rcases hset hr' with h1 | h1
        · exact h.hd j hj h0' h9' i hi h1
        · exact h1 j hj e ⟨h0', .inr (.inl h9')⟩
      · exact h.hd j hj h0' h9' k hk hr'
theorem low_stW (h : WsI c n N ml x) (y : CoLy c n N ml) (l : NuL c N x.st.s.W) {z : Int} (hz : 1 ≤ z ∧ z ≤ nuFl N) (v : Int) {s' : Ar} (e : s'.W = stW x.st.s.W z v) : (∀ q, ldW s'.W q = if q = z then v else ldW x.st.s.W q) ∧ CoM c n N ml (onA x.st s') := by
  have hw := ldW_st (W := x.st.s.W) (x := z) (inR_true.2 ⟨hz.1, by have := l.len; unfold nuFl at hz; omega⟩) v
  have h1 : ∀ q, ldW s'.W q = if q = z then v else ldW x.st.s.W q := fun q => by rw [e, hw]
  refine ⟨h1, h.m.low y (by rw [e, stW_len]) (fun q hq => ?_) (h.m.v.ars s')⟩
  rw [h1, if_neg (by have := l.tg; unfold nuFl at hz; omega)]
theorem low_idW (h : WsI c n N ml x) (y : CoLy c n N ml) {s' : Ar} (e : s'.W = x.st.s.W) : CoM c n N ml (onA x.st s') :=
  h.m.low y (by rw [e]) (fun q _ => by rw [e]) (h.m.v.ars s')
theorem cntF_set {U : List Sp} {i : Nat} (hl : i < U.length) (hi : i < n) (p : Sp) : cntF n (U.set i p) + (if wrC (sv U i) = true then 1 else 0) = cntF n U + (if wrC p = true then 1 else 0) := by
  unfold cntF
  have := cntN_one (P := fun j => wrC (sv U j)) (Q := fun j => wrC (sv (U.set i p) j)) (i := i) (fun j hj => by rw [svS hl, if_neg hj]) n hi
  rw [svS hl, if_pos rfl] at this
  exact this
theorem f_same (h : WsI c n N ml x) {i : Nat} (hi : i < n) {p' : Sp} (hb : wrC p' = wrC (sv x.U i)) {v : Int} (hv : v = ldW x.st.s.W (nuFl N)) : v = (cntF n (x.U.set i p') : Int) := by
  have := cntF_set (n := n) (show i < x.U.length by rw [h.lU]; exact hi) hi p'
  rw [hb] at this
  rw [hv, h.fl]; omega
theorem f_up (h : WsI c n N ml x) {i : Nat} (hi : i < n) {p' : Sp} (h0 : wrC (sv x.U i) = false) (h1 : wrC p' = true) {v : Int} (hv : v = ldW x.st.s.W (nuFl N) + 1) : v = (cntF n (x.U.set i p') : Int) := by
  have := cntF_set (n := n) (show i < x.U.length by rw [h.lU]; exact hi) hi p'
  rw [h0, h1] at this
  simp at this
  rw [hv, h.fl]; omega
theorem f_down (h : WsI c n N ml x) {i : Nat} (hi : i < n) {p' : Sp} (h0 : wrC (sv x.U i) = true) (h1 : wrC p' = false) {v : Int} (hv : v = ldW x.st.s.W (nuFl N) + -1) : v = (cntF n (x.U.set i p') : Int) := by
  have := cntF_set (n := n) (show i < x.U.length by rw [h.lU]; exact hi) hi p'
  rw [h0, h1] at this
  simp at this
  rw [hv, h.fl]; omega
theorem cntN_none {P : Nat → Bool} {n i : Nat} (h : cntN n P = 0) (hi : i < n) : P i = false := by
  cases hp : P i with
  | false => rfl
  | true => have := cntN_pos hi hp; omega
/-- while the flag is down no writer is at 7, 9, 10 or 12 -/
theorem WsI.none (h : WsI c n N ml x) (h0 : ldW x.st.s.W (nuFl N) = 0) {j : Nat} (hj : j < n) : ¬ ((sv x.U j).a = 0 ∧ ((sv x.U j).pc = 7 ∨ (sv x.U j).pc = 9 ∨ (sv x.U j).pc = 10 ∨ (sv x.U j).pc = 12)) := by
  have h1 := h.fl
  rw [h0] at h1
  have := cntN_none (P := fun j => wrC (sv x.U j)) (n := n) (show cntN n _ = 0 by have : (cntF n x.U : Int) = 0 := h1.symm; unfold cntF at this; omega) hj
  exact of_decide_eq_false this
theorem cnt_eqW (h : WsI c n N ml x) {i : Nat} (hi : i < n) {p' : Sp} (hb : rdInW p' = rdInW (sv x.U i)) (a : Nat) : cntIW c n (x.U.set i p') a = cntIW c n x.U a := by
  have := cntIW_set (c := c) (n := n) (show i < x.U.length by rw [h.lU]; exact hi) hi p' a
  rw [hb] at this; omega
/-- where no low word turns and the thread is in as it was -/
theorem g_sameW (h : WsI c n N ml x) {i : Nat} (hi : i < n) {p' : Sp} (hb : rdInW p' = rdInW (sv x.U i)) {W' : List Int} (hw : ∀ q, q < nuFl N → ldW W' q = ldW x.st.s.W q) : ∀ a, a < N → ldW W' (gaA a) = ldW W' (gaW a) + (cntIW c n (x.U.set i p') a : Int) := fun a ha => by
  rw [hw _ (gaA_lt ha).2, hw _ (gaW_lt ha).2, cnt_eqW h hi hb a]; exact h.g a ha
theorem g_inW (h : WsI c n N ml x) (hn : ∀ j, j < n → c.node j < N) {i : Nat} (hi : i < n) {p' : Sp} (h0 : rdInW (sv x.U i) = false) (h1 : rdInW p' = true) {W' : List Int} (hw : ∀ q, ldW W' q = if q = gaA (c.node i) then ldW x.st.s.W (gaA (c.node i)) + 1 else ldW x.st.s.W q) : ∀ a, a < N → ldW W' (gaA a) = ldW W' (gaW a) + (cntIW c n (x.U.set i p') a : Int) := fun a ha => by
  have h2 := cntIW_set (c := c) (n := n) (show i < x.U.length by rw [h.lU]; exact hi) hi p' a
  rw [h0, h1] at h2
  have hg := h.g a ha
  have := hn i hi
  rw [hw, hw, if_neg (show ¬ gaW a = gaA (c.node i) by unfold gaA gaW; omega)]
  by_cases e : c.node i = a
  · rw [if_pos (by rw [e]), e]
    simp [e] at h2
    omega
  · rw [if_neg (by unfold gaA; omega)]
    simp [e] at h2
    omega
theorem g_outW (h : WsI c n N ml x) (hn : ∀ j, j < n → c.node j < N) {i : Nat} (hi : i < n) {p' : Sp} (h0 : rdInW (sv x.U i) = true) (h1 : rdInW p' = false) {W' : List Int} (hw : ∀ q, ldW W' q = if q = gaW (c.node i) then ldW x.st.s.W (gaW (c.node i)) + 1 else ldW x.st.s.W q) : ∀ a, a < N → ldW W' (gaA a) = ldW W' (gaW a) + (cntIW c n (x.U.set i p') a : Int) := fun a ha => by
  have h2 := cntIW_set (c := c) (n := n) (show i < x.U.length by rw [h.lU]; exact hi) hi p' a
  rw [h0, h1] at h2
  have hg := h.g a ha
  have := hn i hi
  rw [hw, hw, if_neg (show ¬ gaA a = gaW (c.node i) by unfold gaA gaW; omega)]
  by_cases e : c.node i = a
  · rw [if_pos (by rw [e]), e]
    simp [e] at h2
    omega
  · rw [if_neg (by unfold gaW; omega)]
    simp [e] at h2
    omega
end
end Go.Proofs.YtndipiockdmaoaaGreat
end
