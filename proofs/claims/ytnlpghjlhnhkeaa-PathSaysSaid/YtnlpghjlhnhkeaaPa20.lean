/- The walk of PathCounts. -/
import Derived.Test.YtnlpghjlhnhkeaaPa19
namespace Go.Proofs.Ytnlpghjlhnhkeaa
open Go.RowKit

set_option maxRecDepth 100000 in
set_option maxHeartbeats 1000000 in
theorem longC (w : World) (AP AT : Option Addr) (nP cP nT cT : Nat) (h : LongT nP nT) :
    Calls Try.prog 4 #[.agg #[.slice AP nP cP, .slice AT nT cT]] w fun e w' => e = .returned (.bool true) ∧ Below w.heap.size w w' := by
  have HN := Lib.hid (fun W => new_long W AP AT nP cP nT cT h)
  have HF := Lib.hid (fun W => few_long W AP AT nP cP nT cT h)
  have HB0 := Lib.hid ((Below.refl w.heap.size w).alloc (Nat.le_refl _) (.cells #[.slice AP nP cP, .slice AT nT cT] 24))
  have HC := Lib.hid (show (w.alloc (.cells #[.slice AP nP cP, .slice AT nT cT] 24)).cell? ⟨w.heap.size, 0, none⟩ = some (.slice AP nP cP) ∧ (w.alloc (.cells #[.slice AP nP cP, .slice AT nT cT] 24)).cell? ⟨w.heap.size, 1, none⟩ = some (.slice AT nT cT) by simp [World.cell?_alloc_new])
  have hbx : w.heap.size < (w.alloc (.cells #[.slice AP nP cP, .slice AT nT cT] 24)).heap.size := by simp
  clear h
  go_enter Try.func4, Try.ntmps4
  go_wp2_with fail
  refine (HN.out _).mono ?_
  rintro en w1 ⟨rfl, b1⟩
  have B1 := Lib.hid (HB0.out.trans (b1.mono HB0.out.size))
  have x0 := (b1.cell (p := ⟨w.heap.size, 0, none⟩) hbx).trans HC.out.1
  have x1 := (b1.cell (p := ⟨w.heap.size, 1, none⟩) hbx).trans HC.out.2
  clear b1
  go_wp2_with fail
  refine (HF.out _).mono ?_
  rintro en w2 ⟨rfl, b2⟩
  have B2 := Lib.hid (B1.out.trans (b2.mono B1.out.size))
  clear b2
  go_wp2_with fail
  refine (awake07 _).mono ?_
  rintro en w3 ⟨rfl, b3⟩
  have B3 := Lib.hid (B2.out.trans (b3.mono B2.out.size))
  clear b3
  go_wp2
  go_ret
  exact ⟨rfl, B3.out⟩
set_option maxRecDepth 100000 in
set_option maxHeartbeats 1000000 in
theorem badC (w : World) (vP vT : Value) (P T : List Int) (hP : RdL w vP 1 encI P) (hT : RdL w vT 1 encI T) (hf : fewB P T = true) (hc : chkT P T ≠ 0) :
    Calls Try.prog 4 #[.agg #[vP, vT]] w fun e w' => e = .returned (.bool true) ∧ Below w.heap.size w w' := by
  have HN := Lib.hid (fun W (k : Below w.heap.size w W) => new_no W vP vT P T (hP.below k (Nat.le_refl _)) (hT.below k (Nat.le_refl _)) hc)
  have HF := Lib.hid (fun W (k : Below w.heap.size w W) => few_any W vP vT P T true hf (hP.below k (Nat.le_refl _)) (hT.below k (Nat.le_refl _)))
  obtain ⟨z, hz⟩ : ∃ z, z = chkT P T := ⟨_, rfl⟩
  rw [← hz] at hc HN
  have hz0 : (z != 0) = true := by simpa using hc
  obtain ⟨AP, cP, rfl, lP1, lP2⟩ := rdl_form hP
  obtain ⟨AT, cT, rfl, lT1, lT2⟩ := rdl_form hT
  have HB0 := Lib.hid ((Below.refl w.heap.size w).alloc (Nat.le_refl _) (.cells #[.slice AP P.length cP, .slice AT T.length cT] 24))
  have HC := Lib.hid (show (w.alloc (.cells #[.slice AP P.length cP, .slice AT T.length cT] 24)).cell? ⟨w.heap.size, 0, none⟩ = some (.slice AP P.length cP) ∧ (w.alloc (.cells #[.slice AP P.length cP, .slice AT T.length cT] 24)).cell? ⟨w.heap.size, 1, none⟩ = some (.slice AT T.length cT) by simp [World.cell?_alloc_new])
  have hbx : w.heap.size < (w.alloc (.cells #[.slice AP P.length cP, .slice AT T.length cT] 24)).heap.size := by simp
  clear hP hT hf hc hz
  go_enter Try.func4, Try.ntmps4
  go_wp2_with fail
  refine (HN.out _ HB0.out).mono ?_
  rintro en w1 ⟨rfl, b1⟩
  have B1 := Lib.hid (HB0.out.trans (b1.mono HB0.out.size))
  have x0 := (b1.cell (p := ⟨w.heap.size, 0, none⟩) hbx).trans HC.out.1
  have x1 := (b1.cell (p := ⟨w.heap.size, 1, none⟩) hbx).trans HC.out.2
  clear b1
  go_wp2_with fail
  refine (HF.out _ B1.out).mono ?_
  rintro en w2 ⟨rfl, b2⟩
  have B2 := Lib.hid (B1.out.trans (b2.mono B1.out.size))
  clear b2
  go_wp2_with fail
  refine (awake07 _).mono ?_
  rintro en w3 ⟨rfl, b3⟩
  have B3 := Lib.hid (B2.out.trans (b3.mono B2.out.size))
  clear b3
  go_wp2
  go_ret
  exact ⟨rfl, B3.out⟩
/-- in the middle of a law: the table, the argument's box, what has turned -/
structure LawT (w wr : World) (b : Nat) (vP vT : Value) (P T : List Int) : Prop where
  tab : Tab wr b P T
  lo : w.heap.size + 1 ≤ b
  bel : Below (w.heap.size + 1) (w.alloc (.cells #[vP, vT] 24)) wr
theorem LawT.sz {w wr : World} {b : Nat} {vP vT : Value} {P T : List Int} (h : LawT w wr b vP vT P T) : w.heap.size + 1 ≤ wr.heap.size := by have := h.bel.size; simp at this; omega
theorem LawT.out {w wr : World} {b : Nat} {vP vT : Value} {P T : List Int} (h : LawT w wr b vP vT P T) : Below w.heap.size w wr := ((Below.refl _ _).alloc (Nat.le_refl _) _).trans (h.bel.mono (by omega))
theorem LawT.box {w wr : World} {b : Nat} {vP vT : Value} {P T : List Int} (h : LawT w wr b vP vT P T) : wr.cell? ⟨w.heap.size, 0, none⟩ = some vP ∧ wr.cell? ⟨w.heap.size, 1, none⟩ = some vT :=
  ⟨(h.bel.cell (p := ⟨w.heap.size, 0, none⟩) (show w.heap.size < w.heap.size + 1 by omega)).trans (by simp [World.cell?_alloc_new]), (h.bel.cell (p := ⟨w.heap.size, 1, none⟩) (show w.heap.size < w.heap.size + 1 by omega)).trans (by simp [World.cell?_alloc_new])⟩
theorem LawT.turn {w wr w' : World} {b : Nat} {vP vT : Value} {P T : List Int} (h : LawT w wr b vP vT P T) (ht : Tab w' b P T) (k : Turns [b] wr w') : LawT w w' b vP vT P T :=
  ⟨ht, h.lo, h.bel.trans (k.below (by simpa using h.lo) h.sz)⟩
theorem LawT.below {w wr w' : World} {b : Nat} {vP vT : Value} {P T : List Int} (h : LawT w wr b vP vT P T) (k : Below wr.heap.size wr w') : LawT w w' b vP vT P T :=
  ⟨h.tab.below k, h.lo, h.bel.trans (k.mono h.sz)⟩
theorem LawT.topo {w wr : World} {b : Nat} {vP vT : Value} {P T : List Int} (h : LawT w wr b vP vT P T) (hP : RdL w vP 1 encI P) (hT : RdL w vT 1 encI T) : TopoAt wr vP vT P T := ⟨hP.below h.out (Nat.le_refl _), hT.below h.out (Nat.le_refl _), h.tab.1⟩
/-- a method of the table, inside a law -/
theorem law_call {f : FuncId} {args : Array Value} {w wr : World} {b : Nat} {vP vT : Value} {P T : List Int} {v : Value} (h : LawT w wr b vP vT P T) (hc : Calls Try.prog f args wr (Tells wr b P T v)) :
    Calls Try.prog f args wr fun e w' => e = .returned v ∧ LawT w w' b vP vT P T := hc.mono fun _ _ ⟨h1, h2, h3⟩ => ⟨h1, h.turn h2 h3⟩
theorem law_nodes {w wr : World} {b : Nat} {vP vT : Value} {P T : List Int} (h : LawT w wr b vP vT P T) :
    Calls Try.prog 14 #[.pointer (some ⟨b, 0, none⟩)] wr fun e w' => e = .returned (.int .i64 ((leavesL P).length : Nat)) ∧ LawT w w' b vP vT P T := (nodes_any wr b P T h.tab).mono fun _ _ ⟨h1, h2, h3⟩ => ⟨h1, h.turn h2.tab h3⟩
set_option maxRecDepth 100000 in
set_option maxHeartbeats 8000000 in
theorem counts07 (w : World) (vP vT : Value) (P T : List Int) (hP : RdL w vP 1 encI P) (hT : RdL w vT 1 encI T) (hf : fewB P T = true) (hc : chkT P T = 0) :
    Calls Try.prog 4 #[.agg #[vP, vT]] w fun e w' => e = .returned (.bool true) ∧ Below w.heap.size w w' := by
  have hm := many_lt (chk_ok hc).1
  have HM := Lib.hid hc
  have hll : (leavesL P).length ≤ 32 := by have := leavesTo_len P P.length; show (leavesTo P P.length).length ≤ _; omega
  have HN := Lib.hid (fun W (k : Below w.heap.size w W) => new_yes W vP vT P T (hP.below k (Nat.le_refl _)) (hT.below k (Nat.le_refl _)) hc)
  have HF := Lib.hid (fun W (k : Below w.heap.size w W) => few_any W vP vT P T true hf (hP.below k (Nat.le_refl _)) (hT.below k (Nat.le_refl _)))
  obtain ⟨AP, cP, rfl, lP1, lP2⟩ := rdl_form hP
  obtain ⟨AT, cT, rfl, lT1, lT2⟩ := rdl_form hT
  have HB0 := Lib.hid ((Below.refl w.heap.size w).alloc (Nat.le_refl _) (.cells #[.slice AP P.length cP, .slice AT T.length cT] 24))
  clear hP hT hf hc
  go_enter Try.func4, Try.ntmps4
  go_wp2_with fail
  refine (HN.out _ HB0.out).mono ?_
  rintro en w1 ⟨b, rfl, hlo, h0, b1⟩
  have hL1 : LawT w w1 b (.slice AP P.length cP) (.slice AT T.length cT) P T := ⟨⟨HM.out, .inl h0⟩, by simpa using hlo, by simpa using b1⟩
  have x0 := hL1.box.1
  have x1 := hL1.box.2
  have L1 := Lib.hid hL1
  clear h0 b1 hlo hL1
  go_wp2_with fail
  refine (HF.out _ L1.out.out).mono ?_
  rintro en w2 ⟨rfl, b2⟩
  have L2 := Lib.hid (L1.out.below b2)
  clear b2 x0 x1
  go_wp2
  go_loopw [5, 6] (fun a s wr => ∃ k : Nat, s = .int .i64 k ∧ k ≤ (leavesL P).length ∧ a = .int .i64 ((sumM P T k : Nat) : Int) ∧ LawT w wr b (.slice AP P.length cP) (.slice AT T.length cT) P T) (fun _ s _ => (leavesL P).length - (intOf s).toNat)
  case atStart => exact ⟨0, rfl, by omega, by rw [sumM_zero HM.out]; rfl, L2.out⟩
  case round =>
    obtain ⟨k, rfl, hk, rfl, hL⟩ := hrel
    have hsl := sumM_le P T k
    have HNN := Lib.hid (law_nodes hL)
    clear hL
    by_cases hlt : k < (leavesL P).length
    · have HS := Lib.hid (sumM_succ HM.out k)
      have hs2 := sumM_le P T (k + 1)
      obtain ⟨z, hz⟩ : ∃ z, z = matesI P T k := ⟨_, rfl⟩
      have hzb : 0 ≤ z ∧ z ≤ 60 := by have h1 := HS.out; rw [← hz] at h1; have : 0 ≤ matesI P T k := by rw [← mateC_all HM.out k]; omega
                                      omega
      rw [← hz] at HS
      have HZ := Lib.hid hz
      clear hz
      go_wp2_with fail
      refine HNN.out.mono ?_
      rintro en w3 ⟨rfl, hL3⟩
      have HMM := law_call hL3 (matesT w3 b P T k hL3.tab)
      rw [← HZ.out] at HMM
      have HMC := Lib.hid HMM
      clear hL3 HMM
      go_wp2_with fail
      refine HMC.out.mono ?_
      rintro en w4 ⟨rfl, hL4⟩
      have L4 := Lib.hid hL4
      clear hL4
      go_wp2
      go_roundw
      case rel => exact ⟨k + 1, by go_num, by omega, by rw [HS.out], L4.out⟩
      case measure => simp [intOf]; omega
    · obtain rfl : k = (leavesL P).length := by omega
      rw [sumM_all]
      go_wp2_with fail
      refine HNN.out.mono ?_
      rintro en w3 ⟨rfl, hL3⟩
      have L3 := Lib.hid hL3
      clear hL3
      go_wp2
      clear hsl hll
      go_loopw [7] (fun s wr => ∃ i : Nat, s = .int .i64 i ∧ i ≤ T.length ∧ LawT w wr b (.slice AP P.length cP) (.slice AT T.length cT) P T) (fun s _ => T.length - (intOf s).toNat)
      case atStart => exact ⟨0, rfl, by omega, L3.out⟩
      case round =>
        obtain ⟨i, rfl, hi, hL⟩ := hrel
        obtain ⟨wo, rfl⟩ : ∃ wo : World, wo = wr := ⟨_, rfl⟩
        have x1 := hL.box.2
        have LO := Lib.hid hL
        clear hL
        by_cases hlt : i < T.length
        · have hsl := slot_lt HM.out hlt
          have HNE := Lib.hid (fun (k : Nat) (hk : k < i) => slot_ne HM.out hlt hk)
          have HA := Lib.hid (fun W (h : LawT w W b (.slice AP P.length cP) (.slice AT T.length cT) P T) => law_call h (slotT W b P T i h.tab))
          have HB := Lib.hid (fun W (h : LawT w W b (.slice AP P.length cP) (.slice AT T.length cT) P T) => law_call h (nodeT W b P T i h.tab))
          obtain ⟨s, hs⟩ : ∃ s, s = slotI T i := ⟨_, rfl⟩
          obtain ⟨nd, hnd⟩ : ∃ nd, nd = nodeI P T i := ⟨_, rfl⟩
          rw [← hs] at HA hsl HNE
          rw [← hnd] at HB hsl HNE
          have HC := Lib.hid (fun W (h : LawT w W b (.slice AP P.length cP) (.slice AT T.length cT) P T) => law_call h (matesT W b P T nd h.tab))
          obtain ⟨mt, hmt⟩ : ∃ mt, mt = matesI P T nd := ⟨_, rfl⟩
          rw [← hmt] at HC hsl
          obtain ⟨hs0, hs1⟩ := hsl
          clear hs hnd hmt
          go_wp2_with fail
          refine (HA.out _ LO.out).mono ?_
          rintro en w4 ⟨rfl, hL4⟩
          have L4 := Lib.hid hL4
          clear hL4
          go_wp2_with fail
          refine (HA.out _ L4.out).mono ?_
          rintro en w5 ⟨rfl, hL5⟩
          have L5 := Lib.hid hL5
          clear hL5
          go_wp2_with fail
          refine (HB.out _ L5.out).mono ?_
          rintro en w6 ⟨rfl, hL6⟩
          have L6 := Lib.hid hL6
          clear hL6
          go_wp2_with fail
          refine (HC.out _ L6.out).mono ?_
          rintro en w7 ⟨rfl, hL7⟩
          have L7 := Lib.hid hL7
          clear hL7 x1
          go_wp2
          go_loopw [8] (fun s wr => ∃ k : Nat, s = .int .i64 k ∧ k ≤ i ∧ LawT w wr b (.slice AP P.length cP) (.slice AT T.length cT) P T) (fun s _ => i - (intOf s).toNat)
          case atStart => exact ⟨0, rfl, by omega, L7.out⟩
          case round =>
            obtain ⟨k, rfl, hk, hL⟩ := hrel
            obtain ⟨wi, rfl⟩ : ∃ wi : World, wi = wr := ⟨_, rfl⟩
            have LI := Lib.hid hL
            clear hL
            by_cases hki : k < i
            · have hN := HNE.out k hki
              have HA2 := Lib.hid (fun W (h : LawT w W b (.slice AP P.length cP) (.slice AT T.length cT) P T) => law_call h (slotT W b P T k h.tab))
              have HB2 := Lib.hid (fun W (h : LawT w W b (.slice AP P.length cP) (.slice AT T.length cT) P T) => law_call h (nodeT W b P T k h.tab))
              obtain ⟨s2, hs2⟩ : ∃ s2, s2 = slotI T k := ⟨_, rfl⟩
              obtain ⟨nd2, hnd2⟩ : ∃ nd2, nd2 = nodeI P T k := ⟨_, rfl⟩
              rw [← hs2] at HA2 hN
              rw [← hnd2] at HB2 hN
              clear hs2 hnd2
              cases he : (nd == nd2)
              · clear hN
                go_wp2_with fail
                refine (HB.out _ LI.out).mono ?_
                rintro en w8 ⟨rfl, hL8⟩
                have L8 := Lib.hid hL8
                clear hL8
                go_wp2_with fail
                refine (HB2.out _ L8.out).mono ?_
                rintro en w9 ⟨rfl, hL9⟩
                have L9 := Lib.hid hL9
                clear hL9
                go_wp2
                go_roundw
                case rel => exact ⟨k + 1, by go_num, by omega, L9.out⟩
                case measure => simp [intOf]; omega
              · have he2 : (s == s2) = false := beq_eq_false_iff_ne.2 (hN (beq_iff_eq.1 he))
                clear hN
                go_wp2_with fail
                refine (HB.out _ LI.out).mono ?_
                rintro en w8 ⟨rfl, hL8⟩
                have L8 := Lib.hid hL8
                clear hL8
                go_wp2_with fail
                refine (HB2.out _ L8.out).mono ?_
                rintro en w9 ⟨rfl, hL9⟩
                have L9 := Lib.hid hL9
                clear hL9
                go_wp2_with fail
                refine (HA.out _ L9.out).mono ?_
                rintro en w10 ⟨rfl, hL10⟩
                have L10 := Lib.hid hL10
                clear hL10
                go_wp2_with fail
                refine (HA2.out _ L10.out).mono ?_
                rintro en w11 ⟨rfl, hL11⟩
                have L11 := Lib.hid hL11
                clear hL11
                go_wp2
                go_roundw
                case rel => exact ⟨k + 1, by go_num, by omega, L11.out⟩
                case measure => simp [intOf]; omega
            · obtain rfl : k = i := by omega
              go_wp2
              go_roundw
              case rel => exact ⟨k + 1, by go_num, by omega, LI.out⟩
              case measure => simp [intOf]; omega
        · obtain rfl : i = T.length := by omega
          go_wp2_with fail
          refine (awake07 _).mono ?_
          rintro en w4 ⟨rfl, b4⟩
          have H4 := Lib.hid (LO.out.out.trans (b4.mono LO.out.out.size))
          clear b4
          go_wp2
          go_ret
          exact ⟨rfl, H4.out⟩
end Go.Proofs.Ytnlpghjlhnhkeaa
