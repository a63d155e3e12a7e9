/- Joined: Hw18, Hw19. -/
import Derived.Deep.DeepCutAuto
import Derived.Test.YtkdaiomjbkpedaaGreatMgHmcsU1
import Derived.Test.YtkdaiomjbkpedaaGreatMgHmcsU17
import Derived.Test.YtkdaiomjbkpedaaGreatMgHmcsU22
section
/- Layer 27 (hmcs): the walk of HmcsOne. -/
namespace Go.Proofs.YtkdaiomjbkpedaaGreat
open Go.RowKit

set_option maxRecDepth 100000 in
theorem longOneH (w : World) (vP vT : Value) (n0 : Int) (A : Option Addr) (m c : Nat) (h1 : 150 < m) (h2 : m ≤ 9223372036854775807) :
    Calls Tryz.prog 9 #[.agg #[vP, vT], .int .u8 n0, .slice A m c] w fun e w' => e = .returned (.bool true) ∧ Below w.heap.size w w' := by
  have HB : Hid (∀ o : Obj, Below w.heap.size w (w.alloc o)) := Lib.hid fun o => (Below.refl _ _).alloc (Nat.le_refl _) o
  go_enter Tryz.func9, Tryz.ntmps9
  go_wp2_with fail
  refine (awake27 _).mono ?_
  rintro en w1 ⟨rfl, hb⟩
  go_wp2
  go_ret
  exact ⟨rfl, (HB.out _).trans (hb.mono (by simp))⟩
set_option maxRecDepth 100000 in
set_option maxHeartbeats 1000000 in
theorem noOneH (w : World) (vP vT : Value) (n0 : Nat) (hs : SmNo w vP vT 8) (A : Option Addr) (m c : Nat) (hm : m ≤ 150) :
    Calls Tryz.prog 9 #[.agg #[vP, vT], .int .u8 n0, .slice A m c] w fun e w' => e = .returned (.bool true) ∧ Below w.heap.size w w' := by
  have HB0 := Lib.hid ((Below.refl w.heap.size w).alloc (Nat.le_refl _) (.cells #[vP, vT] 24))
  have hX : (w.alloc (.cells #[vP, vT] 24)).cell? ⟨w.heap.size, 0, none⟩ = some vP ∧ (w.alloc (.cells #[vP, vT] 24)).cell? ⟨w.heap.size, 1, none⟩ = some vT := by simp [World.cell?_alloc_new]
  have HX := Lib.hid hX
  have hbx : w.heap.size < (w.alloc (.cells #[vP, vT] 24)).heap.size := by simp
  have HM := Lib.hid (madeNoH _ vP vT n0 (hs.below HB0.out))
  have HS := Lib.hid hs
  clear hs hX
  go_enter Tryz.func9, Tryz.ntmps9
  go_wp2_with fail
  refine HM.out.mono ?_
  rintro en w1 ⟨rfl, b1⟩
  have f0 : w1.cell? ⟨w.heap.size, 0, none⟩ = some vP := (b1.cell (p := ⟨w.heap.size, 0, none⟩) hbx).trans HX.out.1
  have f1 : w1.cell? ⟨w.heap.size, 1, none⟩ = some vT := (b1.cell (p := ⟨w.heap.size, 1, none⟩) hbx).trans HX.out.2
  have HB1 := Lib.hid (HB0.out.trans (b1.mono HB0.out.size))
  clear b1 hbx
  go_wp2_with fail
  refine (HS.out _ HB1.out).mono ?_
  rintro en w2 ⟨rfl, b2⟩
  have HB2 := Lib.hid (HB1.out.trans (b2.mono HB1.out.size))
  clear b2
  go_wp2_with fail
  refine (awake27 _).mono ?_
  rintro en w3 ⟨rfl, b3⟩
  have HB3 := Lib.hid (HB2.out.trans (b3.mono HB2.out.size))
  clear b3
  go_wp2
  go_ret
  exact ⟨rfl, HB3.out⟩
/-- whose way up is held -/
theorem hold_up {P T : List Int} {bud : Int} {m : Hm} {Q : Nat → List Nat} {O : Nat → Nat → Option Nat} (hc : chkT P T = 0) (h : HInv (treeT P T) bud m Q O) {t : Nat} (ht : t < T.length) (h10 : (sv m.S t).pc = 10) {x : Int} (a : XAt P T t x) {c : Nat} (hcD : c < (depT P T).toNat) :
    ∃ v : Nat, (upL P x)[c]? = some (v : Int) ∧ (0 ≤ (v : Int) ∧ (v : Int) < (treeT P T).np ∧ ∃ j, j < (treeT P T).nv (v : Int).toNat ∧ holdP (m.sp (v : Int).toNat j)) := by
  obtain ⟨v, b1, b2, b3, _, _⟩ := a.up c hcD
  obtain ⟨K, kk, o⟩ := h.t t ht
  obtain ⟨_, k10⟩ := kk.of10 h10
  have hpl : (treeT P T).pl t c = v := by
    show (plX P (T.getD t 0) c).toNat = v
    rw [getD_of a.at_, b3, Int.toNat_natCast]
  have hs := (treeT_ok hc).slt t c ht hcD
  have hk := k10 c hcD
  rw [hpl] at hs hk
  exact ⟨v, b1, by omega, by show (v : Int) < (P.length : Int); omega, (treeT P T).sl t c, hs, .inl hk⟩
set_option maxRecDepth 100000 in
set_option maxHeartbeats 8000000 in
theorem one27 (w : World) (vP : Value) (AT : Option Addr) (cT : Nat) (P T : List Int) (hP : RdL w vP 1 encI P) (hT : RdL w (.slice AT T.length cT) 1 encI T) (n0 : Nat) (hn0 : n0 < 256) (hs : smallB P T 8 = true) (v : Value) (ls : List (Int × Int)) (h : RdL w v 2 encP ls) (hl150 : ls.length ≤ 150) :
    Calls Tryz.prog 9 #[.agg #[vP, .slice AT T.length cT], .int .u8 n0, v] w fun e w' => e = .returned (.bool true) ∧ Below w.heap.size w w' := by
  obtain ⟨A, cap, rfl, l1, l2, hr⟩ := h
  have HR := Lib.hid hr
  have hT8 : T.length ≤ 8 := by have := (of_decide_eq_true hs).2; omega
  have HCK := Lib.hid (of_decide_eq_true hs).1
  have HB0 := Lib.hid ((Below.refl w.heap.size w).alloc (Nat.le_refl _) (.cells #[vP, .slice AT T.length cT] 24))
  have hX : (w.alloc (.cells #[vP, .slice AT T.length cT] 24)).cell? ⟨w.heap.size, 0, none⟩ = some vP ∧ (w.alloc (.cells #[vP, .slice AT T.length cT] 24)).cell? ⟨w.heap.size, 1, none⟩ = some (.slice AT T.length cT) := by simp [World.cell?_alloc_new]
  have HX := Lib.hid hX
  have hbx : w.heap.size < (w.alloc (.cells #[vP, .slice AT T.length cT] 24)).heap.size := by simp
  have HM := Lib.hid (madeYesH _ vP _ P T (hP.alloc (.cells #[vP, .slice AT T.length cT] 24)) (hT.alloc _) n0 hn0 hs)
  have HTP := Lib.hid (fun W (hW : Below w.heap.size w W) => (⟨hP.below hW (Nat.le_refl _), hT.below hW (Nat.le_refl _), (of_decide_eq_true hs).1⟩ : TopoAt W vP (.slice AT T.length cT) P T))
  clear hr hX hP hT hs
  go_enter Tryz.func9, Tryz.ntmps9
  go_wp2_with fail
  refine HM.out.mono ?_
  rintro en w1 ⟨B, x, s0, rfl, hS⟩
  obtain ⟨bud, hbud⟩ : ∃ x, x = (n0 : Int) % 4 := ⟨_, rfl⟩
  rw [← hbud] at hS
  clear hbud
  obtain ⟨w0, hw0⟩ : ∃ w0, w0 = w.alloc (.cells #[vP, .slice AT T.length cT] 24) := ⟨_, rfl⟩
  rw [← hw0] at hS hbx HX HB0
  have H0 := Lib.hid hS
  have hw0s : w.heap.size ≤ w0.heap.size := HB0.out.size
  clear hS HM hw0
  go_wp2
  go_loopw [10] (fun i wr => ∃ (k : Nat) (s : Ar) (m : Hm), i = .int .i64 k ∧ k ≤ ls.length ∧ HmSt w0 wr B x (treeT P T) bud s m k) (fun i _ => ls.length - (intOf i).toNat)
  case atStart => exact ⟨0, s0, _, rfl, by omega, H0.out⟩
  case round =>
    clear H0
    obtain ⟨k, s, m, rfl, hk, hW⟩ := hrel
    obtain ⟨wo, rfl⟩ : ∃ wo : World, wo = wr := ⟨_, rfl⟩
    have HW := Lib.hid hW
    clear hW
    by_cases hlt : k < ls.length
    · obtain ⟨bl, off, rfl, hbl, hc⟩ := HR.out (by omega)
      obtain ⟨⟨kd, ii⟩, hx⟩ := getElem?_lt hlt
      have HC : Hid (∀ W, Below w0.heap.size w0 W → (W.cell? ⟨bl, off + k * 2, none⟩ = some (.int .i64 kd) ∧ W.cell? ⟨bl, off + k * 2 + 1, none⟩ = some (.int .i64 ii)) ∧ W.cell? ⟨w.heap.size, 0, none⟩ = some vP ∧ W.cell? ⟨w.heap.size, 1, none⟩ = some (.slice AT T.length cT)) := Lib.hid fun W hW =>
        ⟨⟨((HB0.out.trans (hW.mono hw0s)).cell (p := ⟨bl, off + k * 2 + 0, none⟩) hbl).trans (hc k _ hx 0 _ rfl), ((HB0.out.trans (hW.mono hw0s)).cell (p := ⟨bl, off + k * 2 + 1, none⟩) hbl).trans (hc k _ hx 1 _ rfl)⟩, (hW.cell (p := ⟨w.heap.size, 0, none⟩) hbx).trans HX.out.1, (hW.cell (p := ⟨w.heap.size, 1, none⟩) hbx).trans HX.out.2⟩
      have hops := HW.out.op
      have HD := Lib.hid (doHm HW.out (treeT_ok HCK.out) (by omega) kd ii)
      obtain ⟨m2, hm2⟩ : ∃ m2, m2 = actHm (treeT P T) bud m kd ii := ⟨_, rfl⟩
      rw [← hm2] at HD
      obtain ⟨⟨x0, x1⟩, _, x2⟩ := HC.out _ HW.out.bel
      clear hc hx hm2
      go_wp2_with fail
      refine (aops_any HW.out.is.ar).mono ?_
      rintro en w2 ⟨rfl, rfl⟩
      go_wp2_with fail
      refine HD.out.mono ?_
      rintro en w3 ⟨rr, s2, rfl, s3, ho1, ho2⟩
      have H3 := Lib.hid s3
      obtain ⟨⟨y0, y1⟩, _⟩ := HC.out _ s3.bel
      have g1 : decide (((s.ops : Nat) : Int) + 1 < ((s2.ops : Nat) : Int)) = false := decide_eq_false (by omega)
      have hop2 : s2.ops ≤ 151 := by have := s3.op; omega
      clear s3 HD x0 x1 x2
      go_upto_region 11 with fail
      go_cut [67] (fun s67 wx => s67 = .bool false ∧ wx = w3)
      case first =>
        go_wp2_with fail
        refine (aops_any H3.out.is.ar).mono ?_
        rintro en w5 ⟨rfl, rfl⟩
        by_cases hkd : kd = 0
        · subst hkd
          go_wp2
          go_meet
          case rel => exact ⟨rfl, rfl⟩
        · have g2 : (kd != 0) = true := by simpa using hkd
          have g3 := ho2 hkd
          go_wp2_with fail
          refine (aops_any H3.out.is.ar).mono ?_
          rintro en w6 ⟨rfl, rfl⟩
          go_wp2
          go_meet
          case rel => exact ⟨congrArg Value.bool (by simp; omega), rfl⟩
      case rest =>
        obtain ⟨rfl, rfl⟩ := hcut
        clear y0 y1 g1 ho1 ho2
        have hJ := fun j hj => (hold_one (n := T.length) (S := m2.S) (fun a b ha hb h1 h2 => by obtain ⟨Q, O, hI⟩ := H3.out.iv; exact hI.one (treeT_ok HCK.out) ha hb h1 h2) j hj).1
        have hSl : m2.S.length = T.length := H3.out.is.sn
        go_wp2
        go_loopw [12, 13] (fun hd kk wr => ∃ j : Nat, kk = .int .i64 j ∧ j ≤ T.length ∧ hd = .int .i64 (holdC m2.S j : Nat) ∧ HmSt w0 wr B x (treeT P T) bud s2 m2 (k + 1)) (fun _ kk _ => T.length - (intOf kk).toNat)
        case atStart => exact ⟨0, rfl, by omega, rfl, H3.out⟩
        case round =>
          obtain ⟨j, rfl, hj, rfl, hC⟩ := hrel
          obtain ⟨wi, rfl⟩ : ∃ wi : World, wi = wr := ⟨_, rfl⟩
          have HCj := Lib.hid hC
          obtain ⟨_, x2, x3⟩ := HC.out _ hC.bel
          have hn1 := hJ j hj
          clear hC
          by_cases hjs : j < T.length
          · obtain ⟨pj, hpj⟩ : ∃ pj, pj = getS m2.S j := ⟨_, rfl⟩
            have HPj := Lib.hid (show getS m2.S j = pj ∧ sv m2.S j = pj from ⟨hpj.symm, by rw [hpj, getS_nat (by omega)]⟩)
            clear hpj
            go_wp2_with fail
            refine (spotHm HCj.out.is j).mono ?_
            rintro en wj ⟨rfl, bj⟩
            rw [HPj.out.1]
            unfold spotV
            have hfp := field_pc
            have HCk := Lib.hid (HCj.out.below bj)
            have HS := Lib.hid (holdC_succ m2.S j)
            obtain ⟨_, x4, x5⟩ := HC.out _ HCk.out.bel
            clear bj x2 x3
            cases e10 : (pj.pc != 10)
            · have h10 : (sv m2.S j).pc = 10 := by rw [HPj.out.2]; simpa using e10
              have HE := Lib.hid (show holdC m2.S (j + 1) = holdC m2.S j + 1 from by
                rw [HS.out, if_pos h10])
              obtain ⟨xx, ax, _⟩ := xAt HCK.out hjs
              obtain ⟨D, hD⟩ : ∃ D, D = (depT P T).toNat := ⟨_, rfl⟩
              have HU0 := rup_any wj vP (.slice AT T.length cT) P T (j : Int) (HTP.out _ (HB0.out.trans (HCk.out.bel.mono hw0s)))
              have hup : upI P T (j : Int) = upL P xx := by
                unfold upI
                have : hasB T (j : Int) = true := decide_eq_true (by omega)
                rw [if_pos this, Int.toNat_natCast, getD_of ax.at_]
              rw [hup, ax.len, ← hD] at HU0
              have HU := Lib.hid HU0
              have HH := Lib.hid (fun c (hc : c < D) => by
                obtain ⟨Q, O, hI⟩ := H3.out.iv
                exact hold_up HCK.out hI hjs h10 ax (show c < (depT P T).toNat by rw [← hD]; exact hc))
              have hD5 : 1 ≤ D ∧ D ≤ 5 := by rw [hD]; exact ⟨(treeT_ok HCK.out).d1, treeT_D HCK.out⟩
              clear HU0 hup ax hD h10
              go_wp2_with fail
              refine HU.out.mono ?_
              rintro en w7 ⟨v7, rfl, o7, b7⟩
              obtain ⟨bu, cu, rfl, hbu0, hbu1⟩ := own_form1 o7 (by omega)
              have HUC : Hid (∀ W, Below w7.heap.size w7 W → ∀ c, c < D → ∀ u, (upL P xx)[c]? = some u → W.cell? ⟨bu, c, none⟩ = some (.int .i64 u)) := Lib.hid fun W hW c hcD u hu => by
                have e := o7.cellAt c (by omega)
                have e2 : ((upL P xx).flatMap encI)[c]? = some (.int .i64 u) := by rw [flatI_eq, List.getElem?_map, hu]; rfl
                rw [e2] at e
                exact (hW.cell (p := ⟨bu, c, none⟩) hbu1).trans e
              have HC7 := Lib.hid (HCk.out.below b7)
              clear o7 b7 HU x4 x5
              go_wp2
              go_loopw [15] (fun cc wr => ∃ c : Nat, cc = .int .i64 c ∧ c ≤ D ∧ Below w7.heap.size w7 wr ∧ HmSt w0 wr B x (treeT P T) bud s2 m2 (k + 1)) (fun cc _ => D - (intOf cc).toNat)
              case atStart => exact ⟨0, rfl, by omega, Below.refl _ _, HC7.out⟩
              case round =>
                obtain ⟨c, rfl, hcD, hbw, hC⟩ := hrel
                obtain ⟨wc, rfl⟩ : ∃ wc : World, wc = wr := ⟨_, rfl⟩
                by_cases hclt : c < D
                · obtain ⟨u, hu, hheld⟩ := HH.out c hclt
                  have cu0 := HUC.out wc hbw c hclt _ hu
                  have HHe := Lib.hid (heldHw hC.is (u : Int))
                  have HCc := Lib.hid (And.intro hbw (And.intro hC hheld))
                  clear hbw hC hheld hu
                  go_wp2_with fail
                  refine HHe.out.mono ?_
                  rintro en w8 ⟨b, rfl, hb, b8⟩
                  obtain rfl : b = true := hb.2 HCc.out.2.2
                  have H8 := Lib.hid (And.intro (HCc.out.1.trans (b8.mono HCc.out.1.size)) (HCc.out.2.1.below b8))
                  clear hb b8
                  go_wp2
                  go_roundw
                  case rel => exact ⟨c + 1, by go_num, by omega, H8.out.1, H8.out.2⟩
                  case measure => simp [intOf]; omega
                · obtain rfl : c = D := by omega
                  have HC8 := Lib.hid hC
                  clear hC hbw
                  go_wp2
                  go_roundw
                  case rel => exact ⟨j + 1, by go_num, by omega, by rw [HE.out]; go_num, HC8.out⟩
                  case measure => simp [intOf]; omega
            · have HE := Lib.hid (show holdC m2.S (j + 1) = holdC m2.S j from by
                rw [HS.out, HPj.out.2, if_neg]
                · omega
                · simpa using e10)
              go_wp2
              go_roundw
              case rel => exact ⟨j + 1, by go_num, by omega, by rw [HE.out], HCk.out⟩
              case measure => simp [intOf]; omega
          · obtain rfl : j = T.length := by omega
            have g0 : decide (1 < ((holdC m2.S T.length : Nat) : Int)) = false := decide_eq_false (by omega)
            go_wp2
            go_roundw
            case rel => exact ⟨k + 1, s2, m2, by go_num, by omega, HCj.out⟩
            case measure => simp [intOf]; omega
    · obtain rfl : k = ls.length := by omega
      go_wp2_with fail
      refine (awake27 _).mono ?_
      rintro en wa2 ⟨rfl, ba2⟩
      have HB2 := Lib.hid (HB0.out.trans ((HW.out.bel.trans (ba2.mono HW.out.bel.size)).mono hw0s))
      clear ba2
      go_wp2
      go_ret
      exact ⟨rfl, HB2.out⟩
end Go.Proofs.YtkdaiomjbkpedaaGreat
end
section
/- Layer 27 (hmcs): the walk of HmcsAll. -/
namespace Go.Proofs.YtkdaiomjbkpedaaGreat
open Go.RowKit

def MadeAnyH (w : World) (vP vT : Value) (n0 : Int) : Prop := Calls Tryz.prog 25 #[.agg #[vP, vT], .int .u8 n0] w fun e w' => ∃ x y c, e = .returned (.tuple #[x, y, .bool c]) ∧ Below w.heap.size w w'
/-- too many acts -/
theorem longAllH (w : World) (vP vT : Value) (n0 : Int) (hm : MadeAnyH (w.alloc (.cells #[vP, vT] 24)) vP vT n0) (A : Option Addr) (m c : Nat) (h1 : 100 < m) (h2 : m ≤ 9223372036854775807) :
    Calls Tryz.prog 8 #[.agg #[vP, vT], .int .u8 n0, .slice A m c] w fun e w' => e = .returned (.bool true) ∧ Below w.heap.size w w' := by
  have HB0 := Lib.hid ((Below.refl w.heap.size w).alloc (Nat.le_refl _) (.cells #[vP, vT] 24))
  unfold MadeAnyH at hm
  have HM := Lib.hid hm
  clear hm
  go_enter Tryz.func8, Tryz.ntmps8
  go_wp2_with fail
  refine HM.out.mono ?_
  rintro en w1 ⟨x, y, c, rfl, b1⟩
  have HB1 := Lib.hid (HB0.out.trans (b1.mono HB0.out.size))
  clear b1
  go_wp2_with fail
  refine (awake27 _).mono ?_
  rintro en w3 ⟨rfl, b3⟩
  have HB3 := Lib.hid (HB1.out.trans (b3.mono HB1.out.size))
  clear b3
  go_wp2
  go_ret
  exact ⟨rfl, HB3.out⟩
set_option maxRecDepth 100000 in
set_option maxHeartbeats 1000000 in
theorem noAllH (w : World) (vP vT : Value) (n0 : Int) (hm : MadeAnyH (w.alloc (.cells #[vP, vT] 24)) vP vT n0) (hs : SmNo w vP vT 6) (A : Option Addr) (m c : Nat) (hl : m ≤ 100) :
    Calls Tryz.prog 8 #[.agg #[vP, vT], .int .u8 n0, .slice A m c] w fun e w' => e = .returned (.bool true) ∧ Below w.heap.size w w' := by
  have HB0 := Lib.hid ((Below.refl w.heap.size w).alloc (Nat.le_refl _) (.cells #[vP, vT] 24))
  unfold MadeAnyH at hm
  have HM := Lib.hid hm
  have HS := Lib.hid hs
  have hX : (w.alloc (.cells #[vP, vT] 24)).cell? ⟨w.heap.size, 0, none⟩ = some vP ∧ (w.alloc (.cells #[vP, vT] 24)).cell? ⟨w.heap.size, 1, none⟩ = some vT := by simp [World.cell?_alloc_new]
  have HX := Lib.hid hX
  have hbx : w.heap.size < (w.alloc (.cells #[vP, vT] 24)).heap.size := by simp
  clear hm hs hX
  go_enter Tryz.func8, Tryz.ntmps8
  go_wp2_with fail
  refine HM.out.mono ?_
  rintro en w1 ⟨x, y, c, rfl, b1⟩
  have f0 : w1.cell? ⟨w.heap.size, 0, none⟩ = some vP := (b1.cell (p := ⟨w.heap.size, 0, none⟩) hbx).trans HX.out.1
  have f1 : w1.cell? ⟨w.heap.size, 1, none⟩ = some vT := (b1.cell (p := ⟨w.heap.size, 1, none⟩) hbx).trans HX.out.2
  have HB1 := Lib.hid (HB0.out.trans (b1.mono HB0.out.size))
  clear b1 hbx
  go_wp2_with fail
  refine (HS.out _ HB1.out).mono ?_
  rintro en w2 ⟨rfl, b2⟩
  have HB2 := Lib.hid (HB1.out.trans (b2.mono HB1.out.size))
  clear b2
  go_wp2_with fail
  refine (awake27 _).mono ?_
  rintro en w3 ⟨rfl, b3⟩
  have HB3 := Lib.hid (HB2.out.trans (b3.mono HB2.out.size))
  clear b3
  go_wp2
  go_ret
  exact ⟨rfl, HB3.out⟩
theorem HmSt.le {w0 w : World} {B : Nat → Prop} {x : Hx} {T : HTr} {bud : Int} {s : Ar} {m : Hm} {N M : Nat} (h : HmSt w0 w B x T bud s m N) (hM : N ≤ M) : HmSt w0 w B x T bud s m M := ⟨h.is, h.iv, h.bel, h.hl, h.b0, Nat.le_trans h.op hM⟩
set_option maxRecDepth 100000 in
set_option maxHeartbeats 8000000 in
theorem all27 (w : World) (AP : Option Addr) (cP : Nat) (AT : Option Addr) (cT : Nat) (P T : List Int) (hP : RdL w (.slice AP P.length cP) 1 encI P) (hT : RdL w (.slice AT T.length cT) 1 encI T) (n0 : Nat) (hn0 : n0 < 256) (hs : smallB P T 6 = true) (v : Value) (ls : List (Int × Int)) (h : RdL w v 2 encP ls) (hl100 : ls.length ≤ 100) :
    Calls Tryz.prog 8 #[.agg #[.slice AP P.length cP, .slice AT T.length cT], .int .u8 n0, v] w fun e w' => e = .returned (.bool true) ∧ Below w.heap.size w w' := by
  obtain ⟨A, cap, rfl, l1, l2, hr⟩ := h
  have HR := Lib.hid hr
  have hT6 : T.length ≤ 6 := by have := (of_decide_eq_true hs).2; omega
  have HCK := Lib.hid (of_decide_eq_true hs).1
  have hP32 : P.length ≤ 32 := (many_lt (chk_ok HCK.out).1).2.1
  have hs8 : smallB P T 8 = true := decide_eq_true ⟨(of_decide_eq_true hs).1, by omega⟩
  have HB0 := Lib.hid ((Below.refl w.heap.size w).alloc (Nat.le_refl _) (.cells #[.slice AP P.length cP, .slice AT T.length cT] 24))
  have hX : (w.alloc (.cells #[.slice AP P.length cP, .slice AT T.length cT] 24)).cell? ⟨w.heap.size, 0, none⟩ = some (.slice AP P.length cP) ∧ (w.alloc (.cells #[.slice AP P.length cP, .slice AT T.length cT] 24)).cell? ⟨w.heap.size, 1, none⟩ = some (.slice AT T.length cT) := by simp [World.cell?_alloc_new]
  have HX := Lib.hid hX
  have hbx : w.heap.size < (w.alloc (.cells #[.slice AP P.length cP, .slice AT T.length cT] 24)).heap.size := by simp
  have HM := Lib.hid (madeYesH _ (.slice AP P.length cP) _ P T (hP.alloc (.cells #[.slice AP P.length cP, .slice AT T.length cT] 24)) (hT.alloc _) n0 hn0 hs8)
  have HSm := Lib.hid (fun W (b : Below w.heap.size w W) => by
    have := smallH W (.slice AP P.length cP) (.slice AT T.length cT) P T (hP.below b (Nat.le_refl _)) (hT.below b (Nat.le_refl _)) 6
    rw [hs] at this
    exact this)
  clear hr hX hP hT hs hs8
  go_enter Tryz.func8, Tryz.ntmps8
  go_wp2_with fail
  refine HM.out.mono ?_
  rintro en w1 ⟨B, x, s0, rfl, hS⟩
  obtain ⟨bud, hbud⟩ : ∃ x, x = (n0 : Int) % 4 := ⟨_, rfl⟩
  rw [← hbud] at hS
  clear hbud
  obtain ⟨w0, hw0⟩ : ∃ w0, w0 = w.alloc (.cells #[.slice AP P.length cP, .slice AT T.length cT] 24) := ⟨_, rfl⟩
  rw [← hw0] at hS hbx HX HB0
  have hw0s : w.heap.size ≤ w0.heap.size := HB0.out.size
  have HC : Hid (∀ W, Below w0.heap.size w0 W → W.cell? ⟨w.heap.size, 0, none⟩ = some (.slice AP P.length cP) ∧ W.cell? ⟨w.heap.size, 1, none⟩ = some (.slice AT T.length cT)) := Lib.hid fun W hW =>
    ⟨(hW.cell (p := ⟨w.heap.size, 0, none⟩) hbx).trans HX.out.1, (hW.cell (p := ⟨w.heap.size, 1, none⟩) hbx).trans HX.out.2⟩
  have H0 := Lib.hid hS
  obtain ⟨f0, f1⟩ := HC.out _ hS.bel
  clear hS HM hw0
  go_wp2_with fail
  refine (HSm.out _ (HB0.out.trans (H0.out.bel.mono hw0s))).mono ?_
  rintro en w2 ⟨rfl, b2⟩
  have H2 := Lib.hid (H0.out.below b2)
  clear b2 f0 f1 H0
  go_wp2
  go_loopw [10] (fun i wr => ∃ (k : Nat) (s : Ar) (m : Hm), i = .int .i64 k ∧ k ≤ ls.length ∧ HmSt w0 wr B x (treeT P T) bud s m k) (fun i _ => ls.length - (intOf i).toNat)
  case atStart => exact ⟨0, s0, _, rfl, by omega, H2.out⟩
  case round =>
    clear H2
    obtain ⟨k, s, m, rfl, hk, hW⟩ := hrel
    obtain ⟨wo, rfl⟩ : ∃ wo : World, wo = wr := ⟨_, rfl⟩
    have HW := Lib.hid hW
    clear hW
    by_cases hlt : k < ls.length
    · obtain ⟨bl, off, rfl, hbl, hc⟩ := HR.out (by omega)
      obtain ⟨⟨kd, ii⟩, hx⟩ := getElem?_lt hlt
      have hWb := HB0.out.trans (HW.out.bel.mono hw0s)
      have x0 : wo.cell? ⟨bl, off + k * 2, none⟩ = some (.int .i64 kd) := (hWb.cell (p := ⟨bl, off + k * 2 + 0, none⟩) hbl).trans (hc k _ hx 0 _ rfl)
      have x1 : wo.cell? ⟨bl, off + k * 2 + 1, none⟩ = some (.int .i64 ii) := (hWb.cell (p := ⟨bl, off + k * 2 + 1, none⟩) hbl).trans (hc k _ hx 1 _ rfl)
      have HD := Lib.hid (doHm HW.out (treeT_ok HCK.out) (by omega) kd ii)
      clear hc hx hWb
      go_wp2_with fail
      refine HD.out.mono ?_
      rintro en w3 ⟨rr, s2, rfl, s3, _, _⟩
      have H3 := Lib.hid s3
      clear s3 HD x0 x1
      go_wp2
      go_roundw
      case rel => exact ⟨k + 1, s2, _, by go_num, by omega, H3.out⟩
      case measure => simp [intOf]; omega
    · have H4 := Lib.hid (HW.out.le (M := 100) (by omega))
      obtain ⟨_, f1⟩ := HC.out _ HW.out.bel
      have hn9 : wT (treeT P T) m ≤ T.length * 60 := by
        obtain ⟨Q, O, hI⟩ := HW.out.iv
        exact hI.wtop (treeT_ok HCK.out) (treeT_D HCK.out)
      clear HW
      go_wp2
      clear f1
      go_loopw [12] (fun rr wr => ∃ (r : Nat) (s : Ar) (m : Hm), rr = .int .i64 r ∧ r ≤ 60 * (T.length + 1) ∧ HmSt w0 wr B x (treeT P T) bud s m (100 + 8 * r) ∧ (wT (treeT P T) m = 0 ∨ wT (treeT P T) m + r ≤ T.length * 60)) (fun rr _ => 60 * (T.length + 1) - (intOf rr).toNat)
      case atStart => exact ⟨0, s, m, rfl, by omega, H4.out, .inr (by omega)⟩
      case round =>
        clear H4 hn9
        obtain ⟨r, s1, m1, rfl, hr, hW1, hw1⟩ := hrel
        obtain ⟨wp, rfl⟩ : ∃ wp : World, wp = wr := ⟨_, rfl⟩
        have HW1 := Lib.hid hW1
        have HWS := Lib.hid hw1
        clear hW1 hw1
        by_cases hrl : r < 60 * (T.length + 1)
        · obtain ⟨M, hM⟩ : ∃ M, M = wT (treeT P T) m1 := ⟨_, rfl⟩
          have HMM := Lib.hid hM
          have HR0 := Lib.hid (show RdH (treeT P T) m1 M 0 by obtain ⟨Q, O, hI⟩ := HW1.out.iv; rw [hM]; exact hI.rd0 (treeT_ok HCK.out))
          have g9 : decide (((r : Nat) : Int) < 60 * (((T.length : Nat) : Int) + 1)) = true := decide_eq_true (by omega)
          clear hM
          go_wp2
          go_loopw [13] (fun jj wr => ∃ (j : Nat) (s : Ar) (m : Hm), jj = .int .i64 j ∧ j ≤ T.length ∧ HmSt w0 wr B x (treeT P T) bud s m (100 + 8 * r + j) ∧ RdH (treeT P T) m M j) (fun jj _ => T.length - (intOf jj).toNat)
          case atStart => exact ⟨0, s1, m1, rfl, by omega, HW1.out, HR0.out⟩
          case round =>
            obtain ⟨j, s2, m2, rfl, hj, hW2, hrd⟩ := hrel
            obtain ⟨wq, rfl⟩ : ∃ wq : World, wq = wr := ⟨_, rfl⟩
            have HW2 := Lib.hid hW2
            have HRD := Lib.hid hrd
            clear hW2 hrd
            by_cases hjl : j < T.length
            · have hb1 : 0 ≤ bud ∧ bud ≤ 1000 := by have := HW2.out.b0; omega
              have hop := HW2.out.op
              obtain ⟨Q, O, hI⟩ := HW2.out.iv
              have hI3 := hI.step (i := j) (treeT_ok HCK.out) hb1.1 hjl
              have hR4 := hI.rdNext (i := j) (treeT_ok HCK.out) hb1.1 hjl HRD.out
              have hok : okI m2.S (j : Int) := ⟨by omega, by rw [HW2.out.is.sn]; show (j : Int) < ((T.length : Nat) : Int); omega⟩
              have e3 : stepI (treeT P T) bud m2 (j : Int) = stepHm (treeT P T) bud m2 j := by unfold stepI; rw [if_pos hok]; rfl
              have HS3 := Lib.hid (stepHw HW2.out.is (treeT_ok HCK.out) hI hb1 (by omega) (j : Int))
              rw [e3] at HS3
              obtain ⟨m3, hm3⟩ : ∃ m3, m3 = stepHm (treeT P T) bud m2 j := ⟨_, rfl⟩
              rw [← hm3] at HS3 hI3 hR4
              have HI3 := Lib.hid hI3
              have HR4 := Lib.hid hR4
              clear hI hI3 hR4 hok e3 hm3
              go_wp2_with fail
              refine HS3.out.mono ?_
              rintro en w3 ⟨b3, s3, rfl, i3, o3, t3⟩
              obtain ⟨Q3, O3, hI3⟩ := HI3.out
              have hok3 : okI m3.S (j : Int) := ⟨by omega, by rw [i3.sn]; show (j : Int) < ((T.length : Nat) : Int); omega⟩
              have e4 : leaveI (treeT P T) bud m3 (j : Int) = leaveHm (treeT P T) bud m3 j := by unfold leaveI; rw [if_pos hok3]; rfl
              have HL3 := Lib.hid (leaveHw i3 (treeT_ok HCK.out) hI3 hb1 (j : Int))
              rw [e4] at HL3
              have HT3 := Lib.hid t3
              clear hI3 hok3 e4 i3 t3
              go_wp2_with fail
              refine HL3.out.mono ?_
              rintro en w4 ⟨b4, rfl, i4, t4⟩
              have H5 := Lib.hid (show HmSt w0 w4 B x (treeT P T) bud s3 (leaveHm (treeT P T) bud m3 j) (100 + 8 * r + j + 1) from by
                obtain ⟨Q4, O4, h4, _⟩ := HR4.out
                exact HW2.out.next (HT3.out.trans t4) i4 ⟨_, _, h4⟩ (by omega))
              have H6 := Lib.hid (show RdH (treeT P T) (leaveHm (treeT P T) bud m3 j) M (j + 1) from by
                obtain ⟨_, _, _, h4⟩ := HR4.out; exact h4)
              clear i4 t4
              go_wp2
              go_roundw
              case rel => exact ⟨j + 1, s3, _, by go_num, by omega, H5.out.le (by omega), H6.out⟩
              case measure => simp [intOf]; omega
            · obtain rfl : j = T.length := by omega
              have HL := Lib.hid (show wT (treeT P T) m2 = 0 ∨ wT (treeT P T) m2 + (r + 1) ≤ T.length * 60 from by
                rcases RdH.last (show RdH (treeT P T) m2 M (treeT P T).n from HRD.out) with h9 | h9
                · exact .inl h9
                · have := HMM.out
                  rcases HWS.out with h8 | h8
                  · omega
                  · exact .inr (by omega))
              have H6 := Lib.hid (HW2.out.le (M := 100 + 8 * (r + 1)) (by omega))
              go_wp2
              go_roundw
              case rel => exact ⟨r + 1, s2, m2, by go_num, by omega, H6.out, HL.out⟩
              case measure => simp [intOf]; omega
        · have HZ := Lib.hid (show wT (treeT P T) m1 = 0 by rcases HWS.out with h8 | h8 <;> omega)
          have HRT := Lib.hid (fun i (hi : i < T.length) => by obtain ⟨Q, O, hI⟩ := HW1.out.iv; exact hI.restAll (treeT_ok HCK.out) HZ.out (show i < (treeT P T).n from hi))
          have hSl : m1.S.length = T.length := HW1.out.is.sn
          go_wp2
          go_loopw [14] (fun jj wr => ∃ j : Nat, jj = .int .i64 j ∧ j ≤ T.length ∧ HmSt w0 wr B x (treeT P T) bud s1 m1 (100 + 8 * r)) (fun jj _ => T.length - (intOf jj).toNat)
          case atStart => exact ⟨0, rfl, by omega, HW1.out⟩
          case round =>
            obtain ⟨j, rfl, hj, hC⟩ := hrel
            obtain ⟨wi, rfl⟩ : ∃ wi : World, wi = wr := ⟨_, rfl⟩
            have HCj := Lib.hid hC
            clear hC
            by_cases hjs : j < T.length
            · obtain ⟨pj, hpj⟩ : ∃ pj, pj = getS m1.S j := ⟨_, rfl⟩
              have hz : pj.pc = 0 := by rw [hpj, getS_nat (by omega)]; exact HRT.out j hjs
              have HPj := Lib.hid hpj
              have e0 : (pj.pc != 0) = false := by simp [hz]
              clear hpj hz
              go_wp2_with fail
              refine (spotHm HCj.out.is j).mono ?_
              rintro en wj ⟨rfl, bj⟩
              rw [← HPj.out]
              unfold spotV
              have hfp := field_pc
              have HCk := Lib.hid (HCj.out.below bj)
              clear bj
              go_wp2
              go_roundw
              case rel => exact ⟨j + 1, by go_num, by omega, HCk.out⟩
              case measure => simp [intOf]; omega
            · go_wp2
              go_loopw [15] (fun vv wr => ∃ v : Nat, vv = .int .i64 v ∧ v ≤ P.length ∧ HmSt w0 wr B x (treeT P T) bud s1 m1 (100 + 8 * r)) (fun vv _ => P.length - (intOf vv).toNat)
              case atStart => exact ⟨0, rfl, by omega, HCj.out⟩
              case round =>
                obtain ⟨v, rfl, hv, hC⟩ := hrel
                obtain ⟨wv, rfl⟩ : ∃ wv : World, wv = wr := ⟨_, rfl⟩
                have HCv := Lib.hid hC
                obtain ⟨y0, _⟩ := HC.out _ hC.bel
                clear hC
                by_cases hvl : v < P.length
                · go_wp2_with fail
                  refine (heldHw HCv.out.is (v : Int)).mono ?_
                  rintro en w8 ⟨b, rfl, hb, b8⟩
                  have hbf : b = false := by
                    cases b
                    · rfl
                    · exfalso
                      obtain ⟨_, _, j', hj', hp⟩ := hb.1 rfl
                      obtain ⟨Q, O, hI⟩ := HCv.out.iv
                      have h0 := hI.noHeld HRT.out (v := v) (j := j') (show v < (treeT P T).np from hvl) hj'
                      have hp' : holdP (m1.sp v j') := hp
                      unfold holdP at hp'
                      omega
                  subst hbf
                  have H8 := Lib.hid (HCv.out.below b8)
                  clear hb b8 y0
                  go_wp2
                  go_roundw
                  case rel => exact ⟨v + 1, by go_num, by omega, H8.out⟩
                  case measure => simp [intOf]; omega
                · go_wp2_with fail
                  refine (awake27 _).mono ?_
                  rintro en wa2 ⟨rfl, ba2⟩
                  have HB2 := Lib.hid (HB0.out.trans ((HCv.out.bel.trans (ba2.mono HCv.out.bel.size)).mono hw0s))
                  clear ba2
                  go_wp2
                  go_ret
                  exact ⟨rfl, HB2.out⟩
theorem MadeAnyH.no {w : World} {vP vT : Value} {n0 : Nat} (hs : SmNo w vP vT 8) : MadeAnyH w vP vT n0 := (madeNoH w vP vT n0 hs).mono fun _ _ ⟨h1, h2⟩ => ⟨_, _, _, h1, h2⟩
theorem MadeAnyH.yes {w : World} {vP vT : Value} {P T : List Int} {n0 : Nat} (hP : RdL w vP 1 encI P) (hT : RdL w vT 1 encI T) (hn0 : n0 < 256) (hs : smallB P T 8 = true) : MadeAnyH w vP vT n0 :=
  (madeYesH w vP vT P T hP hT n0 hn0 hs).mono fun _ _ ⟨_, _, _, h1, h2⟩ => ⟨_, _, _, h1, h2.bel⟩
theorem MadeAnyH.of {w : World} {vP vT : Value} {P T : List Int} {n0 : Nat} (hP : RdL w vP 1 encI P) (hT : RdL w vT 1 encI T) (hn0 : n0 < 256) : MadeAnyH w vP vT n0 := by
  cases hs : smallB P T 8
  · exact .no (.of hP hT hs)
  · exact .yes hP hT hn0 hs
end Go.Proofs.YtkdaiomjbkpedaaGreat
end
