/- Joined: Tn4. -/
import Derived.Deep.RegionLaw
import Derived.Deep.DeepCutAuto
import Derived.Test.YtkdaiomjbkpedaaGreatMgHmcsTenure1
import Derived.Test.YtkdaiomjbkpedaaGreatMgHmcsTenure20
import Derived.Test.YtkdaiomjbkpedaaGreatMgHmcsTenure25
section
/- Layer 27 (hmcs): the walk of HmcsTenure. -/
namespace Go.Proofs.YtkdaiomjbkpedaaGreat
open Go.RowKit

set_option maxRecDepth 100000 in
theorem longTenH (w : World) (vP vT : Value) (n0 : Int) (A : Option Addr) (m c : Nat) (h1 : 150 < m) (h2 : m ≤ 9223372036854775807) :
    Calls Tryz.prog 10 #[.agg #[vP, vT], .int .u8 n0, .slice A m c] w fun e w' => e = .returned (.bool true) ∧ Below w.heap.size w w' := by
  have HB : Hid (∀ o : Obj, Below w.heap.size w (w.alloc o)) := Lib.hid fun o => (Below.refl _ _).alloc (Nat.le_refl _) o
  go_enter Tryz.func10, Tryz.ntmps10
  go_wp2_with fail
  refine (awake27 _).mono ?_
  rintro en w1 ⟨rfl, hb⟩
  go_wp2
  go_ret
  exact ⟨rfl, (HB.out _).trans (hb.mono (by simp))⟩
set_option maxRecDepth 100000 in
set_option maxHeartbeats 1000000 in
theorem noTenH (w : World) (vP vT : Value) (n0 : Nat) (hs : SmNo w vP vT 8) (A : Option Addr) (m c : Nat) (hm : m ≤ 150) :
    Calls Tryz.prog 10 #[.agg #[vP, vT], .int .u8 n0, .slice A m c] w fun e w' => e = .returned (.bool true) ∧ Below w.heap.size w w' := by
  have HB0 := Lib.hid ((Below.refl w.heap.size w).alloc (Nat.le_refl _) (.cells #[vP, vT] 24))
  have hX : (w.alloc (.cells #[vP, vT] 24)).cell? ⟨w.heap.size, 0, none⟩ = some vP ∧ (w.alloc (.cells #[vP, vT] 24)).cell? ⟨w.heap.size, 1, none⟩ = some vT := by simp [World.cell?_alloc_new]
  have HX := Lib.hid hX
  have hbx : w.heap.size < (w.alloc (.cells #[vP, vT] 24)).heap.size := by simp
  have HM := Lib.hid (madeNoH _ vP vT n0 (hs.below HB0.out))
  have HS := Lib.hid hs
  clear hs hX
  go_enter Tryz.func10, Tryz.ntmps10
  go_wp2_with fail
  refine HM.out.mono ?_
  rintro en w1 ⟨rfl, b1⟩
  have f0 : w1.cell? ⟨w.heap.size, 0, none⟩ = some vP := (b1.cell (p := ⟨w.heap.size, 0, none⟩) hbx).trans HX.out.1
  have f1 : w1.cell? ⟨w.heap.size, 1, none⟩ = some vT := (b1.cell (p := ⟨w.heap.size, 1, none⟩) hbx).trans HX.out.2
  have HB1 := Lib.hid (HB0.out.trans (b1.mono HB0.out.size))
  clear b1 hbx
  go_wp2_with fail
  refine (HS.out _ HB1.out).mono ?_
  rintro en w2 ⟨rfl, b2⟩
  have HB2 := Lib.hid (HB1.out.trans (b2.mono HB1.out.size))
  clear b2
  go_wp2_with fail
  refine (awake27 _).mono ?_
  rintro en w3 ⟨rfl, b3⟩
  have HB3 := Lib.hid (HB2.out.trans (b3.mono HB2.out.size))
  clear b3
  go_wp2
  go_ret
  exact ⟨rfl, HB3.out⟩
theorem HmIs.mvLt {B : Nat → Prop} {w : World} {x : Hx} {T : HTr} {bud : Int} {s : Ar} {m : Hm} (h : HmIs B w x T bud s m) {i : Nat} (hm : i ∈ mvL x T) : i < w.heap.size := by
  unfold mvL at hm
  have h1 := h.ar.blk.lt
  have h2 := h.ar.wds.lt
  have h3 := h.ss.lt
  rcases List.mem_append.1 hm with hm | hm
  · simp at hm
    rcases hm with rfl | rfl | rfl
    · exact h1
    · exact h2
    · exact h3
  · obtain ⟨v, hv, rfl⟩ := List.mem_map.1 hm
    exact (h.rs v (List.mem_range.1 hv)).lt
/-- the row of the entries -/
structure RwE (w0 w : World) (B : Nat → Prop) (x : Hx) (T : HTr) (o : Value) (L : List Ev) : Prop where
  own : w.ownsRow w0.heap.size 55 4 o L.length (L.flatMap encE)
  far : ∀ g, o.ownBlock = some g → ¬ B g ∧ g ∉ mvL x T
section
variable {w0 w w' : World} {B : Nat → Prop} {x : Hx} {T : HTr} {bud : Int} {s : Ar} {m : Hm} {N : Nat} {o : Value} {L : List Ev}
theorem RwE.turns (h : RwE w0 w B x T o L) (k : Turns (mvL x T) w w') : RwE w0 w' B x T o L := ⟨Turns.own h.own k fun g hg => (h.far g hg).2, h.far⟩
theorem RwE.below (h : RwE w0 w B x T o L) (k : Below w.heap.size w w') : RwE w0 w' B x T o L := h.turns (Turns.of_below k)
/-- an entry more -/
theorem RwE.app {A : Option Addr} {n cap g3 cap3 : Nat} {ob : Obj} {e : Ev} (h : RwE w0 w B x T (.slice A n cap) L) (hI : HmSt w0 w B x T bud s m N) (h3 : w'.ownsRow w0.heap.size 55 4 (.slice (some ⟨g3, 0, none⟩) (L.length + 1) cap3) (L.length + 1) (L.flatMap encE ++ encE e)) (hg : (w.alloc ob).grownBy w' (Value.slice A n cap).ownBlock) (hg3 : (Value.slice A n cap).ownBlock = some g3 ∨ g3 = (w.alloc ob).heap.size) :
    RwE w0 w' B x T (.slice (some ⟨g3, 0, none⟩) (L.length + 1) cap3) (L ++ [e]) ∧ HmSt w0 w' B x T bud s m N := by
  have tg : Turns (Value.slice A n cap).ownBlock.toList (w.alloc ob) w' := Turns.grownByH hg
  have tw : Turns (Value.slice A n cap).ownBlock.toList w w' := ((Turns.refl _ _).alloc ob).trans tg
  have hsz := hI.bel.size
  refine ⟨⟨by rw [List.length_append, List.flatMap_append]; simpa using h3, fun g hgo => ?_⟩, ⟨hI.is.turns tw (fun i hi => (h.far i (by simpa using hi)).1) (fun i hi => (h.far i (by simpa using hi)).2), hI.iv, ?_, hI.hl, hI.b0, hI.op⟩⟩
  · injection hgo with hgo
    subst hgo
    rcases hg3 with e1 | e1
    · exact h.far _ e1
    · have e2 : (w.alloc ob).heap.size = w.heap.size + 1 := by simp
      refine ⟨fun hb => ?_, fun hm => ?_⟩
      · have h9 : g3 < w.heap.size := hI.is.bd _ hb
        omega
      · have h9 : g3 < w.heap.size := hI.is.mvLt hm
        omega
  · exact hI.bel.trans (tw.below (fun i hi => (h.own.lt i (by simpa using hi)).1) hsz)
end
set_option maxRecDepth 100000 in
set_option maxHeartbeats 8000000 in
theorem ten27 (w : World) (vP : Value) (AT : Option Addr) (cT : Nat) (P T : List Int) (hP : RdL w vP 1 encI P) (hT : RdL w (.slice AT T.length cT) 1 encI T) (n0 : Nat) (hn0 : n0 < 256) (hs : smallB P T 8 = true) (v : Value) (ls : List (Int × Int)) (h : RdL w v 2 encP ls) (hl150 : ls.length ≤ 150) :
    Calls Tryz.prog 10 #[.agg #[vP, .slice AT T.length cT], .int .u8 n0, v] w fun e w' => e = .returned (.bool true) ∧ Below w.heap.size w w' := by
  obtain ⟨j0, hj, hy0, hy1, hy2⟩ := info_parts Tryz.infoEvT
  have HJ := Lib.hid (And.intro hj (And.intro hy0 (And.intro hy1 hy2)))
  obtain ⟨A, cap, rfl, l1, l2, hr⟩ := h
  have HR := Lib.hid hr
  have HCK := Lib.hid (of_decide_eq_true hs).1
  have HB0 := Lib.hid ((Below.refl w.heap.size w).alloc (Nat.le_refl _) (.cells #[vP, .slice AT T.length cT] 24))
  have hX : (w.alloc (.cells #[vP, .slice AT T.length cT] 24)).cell? ⟨w.heap.size, 0, none⟩ = some vP ∧ (w.alloc (.cells #[vP, .slice AT T.length cT] 24)).cell? ⟨w.heap.size, 1, none⟩ = some (.slice AT T.length cT) := by simp [World.cell?_alloc_new]
  have HX := Lib.hid hX
  have hbx : w.heap.size < (w.alloc (.cells #[vP, .slice AT T.length cT] 24)).heap.size := by simp
  have HM := Lib.hid (madeYesH _ vP _ P T (hP.alloc (.cells #[vP, .slice AT T.length cT] 24)) (hT.alloc _) n0 hn0 hs)
  have HTP := Lib.hid (fun W (hW : Below w.heap.size w W) => hT.below hW (Nat.le_refl _))
  clear hr hX hP hT hs hj hy0 hy1 hy2
  go_enter Tryz.func10, Tryz.ntmps10
  go_wp2_with fail
  refine HM.out.mono ?_
  rintro en w1 ⟨B, x, s0, rfl, hS⟩
  obtain ⟨b, hbud⟩ : ∃ x : Nat, x = n0 % 4 := ⟨_, rfl⟩
  have hb3 : b ≤ 3 := by omega
  have hbe : (n0 : Int) % 4 = b := by omega
  have HBE := Lib.hid hbe
  rw [hbe] at hS
  clear hbud
  obtain ⟨w0, hw0⟩ : ∃ w0, w0 = w.alloc (.cells #[vP, .slice AT T.length cT] 24) := ⟨_, rfl⟩
  rw [← hw0] at hS hbx HX HB0
  have H0 := Lib.hid hS
  have HC0 : Hid (∀ W, Below w0.heap.size w0 W → W.cell? ⟨w.heap.size, 0, none⟩ = some vP ∧ W.cell? ⟨w.heap.size, 1, none⟩ = some (.slice AT T.length cT)) := Lib.hid fun W hW => ⟨(hW.cell (p := ⟨w.heap.size, 0, none⟩) hbx).trans HX.out.1, (hW.cell (p := ⟨w.heap.size, 1, none⟩) hbx).trans HX.out.2⟩
  have hw0s : w.heap.size ≤ w0.heap.size := HB0.out.size
  clear hS HM hw0 hbe
  go_wp2
  go_loopw [10, 11] (fun o i wr => ∃ (k : Nat) (s : Ar) (m : Hm) (L : List Ev), i = .int .i64 k ∧ k ≤ ls.length ∧ HmSt w0 wr B x (treeT P T) b s m k ∧ RwE w0 wr B x (treeT P T) o L ∧ L.length ≤ k ∧ TnS P T b m L) (fun _ i _ => ls.length - (intOf i).toNat)
  case atStart => exact ⟨0, s0, _, [], rfl, by omega, H0.out, ⟨World.ownsRow_nil _ _ _ _, fun g hg => by cases hg⟩, Nat.le_refl _, TnS.start _ _ _⟩
  case round =>
    clear H0
    obtain ⟨k, s, m, L, rfl, hk, hW, hRw, hLk, hTn⟩ := hrel
    obtain ⟨wo, rfl⟩ : ∃ wo : World, wo = wr := ⟨_, rfl⟩
    have HW := Lib.hid hW
    clear hW
    by_cases hlt : k < ls.length
    · obtain ⟨Ao, co, rfl⟩ := own_form hRw.own
      have HRw := Lib.hid hRw
      have HTn := Lib.hid hTn
      obtain ⟨bl, off, rfl, hbl, hc⟩ := HR.out (by omega)
      obtain ⟨⟨kd, ii⟩, hx⟩ := getElem?_lt hlt
      have HC : Hid (∀ W, Below w0.heap.size w0 W → W.cell? ⟨bl, off + k * 2, none⟩ = some (.int .i64 kd) ∧ W.cell? ⟨bl, off + k * 2 + 1, none⟩ = some (.int .i64 ii)) := Lib.hid fun W hW =>
        ⟨((HB0.out.trans (hW.mono hw0s)).cell (p := ⟨bl, off + k * 2 + 0, none⟩) hbl).trans (hc k _ hx 0 _ rfl), ((HB0.out.trans (hW.mono hw0s)).cell (p := ⟨bl, off + k * 2 + 1, none⟩) hbl).trans (hc k _ hx 1 _ rfl)⟩
      obtain ⟨x0, x1⟩ := HC.out _ HW.out.bel
      obtain ⟨p, hp⟩ : ∃ p, p = getS m.S ii := ⟨_, rfl⟩
      have HSp := Lib.hid (spotHm HW.out.is ii)
      rw [← hp] at HSp
      have HP := Lib.hid hp
      have hfp := field_pc
      clear hc hx hp hRw hTn
      go_wp2_with fail
      refine HSp.out.mono ?_
      rintro en w2 ⟨rfl, b2⟩
      unfold spotV
      have H2 := Lib.hid (And.intro (HW.out.below b2) (HRw.out.below b2))
      obtain ⟨y0, y1⟩ := HC.out _ H2.out.1.bel
      have HD := Lib.hid (doHmT H2.out.1 (treeT_ok HCK.out) (by omega) kd ii)
      have HA := Lib.hid (show _ from by
        obtain ⟨Q, O, hI⟩ := HW.out.iv
        exact HTn.out.act HCK.out hI HW.out.b0.1 kd ii)
      obtain ⟨m2, hm2⟩ : ∃ m2, m2 = actHm (treeT P T) b m kd ii := ⟨_, rfl⟩
      rw [← hm2] at HD HA
      clear b2 hm2 x0 x1 HSp
      go_wp2_with fail
      refine HD.out.mono ?_
      rintro en w3 ⟨rr, s2, rfl, s3, t3, _, _⟩
      have H3 := Lib.hid (And.intro s3 (H2.out.2.turns t3))
      obtain ⟨z0, z1⟩ := HC.out _ H3.out.1.bel
      obtain ⟨p2, hp2⟩ : ∃ p, p = getS m2.S ii := ⟨_, rfl⟩
      have HSp := Lib.hid (spotHm H3.out.1.is ii)
      rw [← hp2] at HSp
      have HP2 := Lib.hid hp2
      clear s3 t3 y0 y1 hp2 HD
      by_cases c1 : p.pc < 10
      · go_wp2_with fail
        refine HSp.out.mono ?_
        rintro en w4 ⟨rfl, b4⟩
        unfold spotV
        have H4 := Lib.hid (And.intro (H3.out.1.below b4) (H3.out.2.below b4))
        obtain ⟨q0, q1⟩ := HC.out _ H4.out.1.bel
        clear b4 z0 z1 HSp
        by_cases c2 : p2.pc = 10
        · have HT := Lib.hid (HA.out.1 ⟨by rw [← HP.out]; exact c1, by rw [← HP2.out]; exact c2⟩)
          have hsb : bl < w4.heap.size := block_lt_of_cell q1
          obtain ⟨cn, hcn⟩ : ∃ c, c = countI (treeT P T) m2 ii := ⟨_, rfl⟩
          have HCo := Lib.hid (countHw (w := w4.drew) (H4.out.1.below ((Below.refl _ _).drew)).is (treeT_ok HCK.out) ii)
          rw [← hcn] at HCo HT
          have c3 : (p2.pc == 10) = true := by simpa using c2
          have o4 : w4.drew.ownsRow w0.heap.size 55 4 (.slice Ao L.length co) L.length (L.flatMap encE) := H4.out.2.own
          clear hcn
          go_wp2_with fail
          go_region_law (first
            | (refine step_append_lies _ rfl _ _ 52 rfl w0.heap.size 55 j0 (.agg #[.int .i64 0, .int .i64 0, .bool false, .int .i64 0]) 4 32 Tryz.underlying52 HJ.out.1 HJ.out.2.1 HJ.out.2.2.1 HJ.out.2.2.2 rfl (by decide) _ _ _ rfl (H5.out.2.own.alloc _) ⟨w5.heap.size, 0, none⟩ 1 1 [.int .i64 2, .int .i64 ii, .bool false, .int .i64 cn] rfl rfl (cells_newT _ _ _) (by simp [Value.oneCell']) (by decide) (by unfold maxLen; omega) (by omega) (by have := H5.out.1.bel.size; simp; omega) _ rfl ?_; intro g3 cap3 w7 h3 hg3 hl3 hlt3)
            | (go_simp; go_at_call 33; refine HCo.out.mono ?_; rintro en w5 ⟨rfl, b5⟩; have H5 := Lib.hid (And.intro ((H4.out.1.below ((Below.refl _ _).drew)).below b5) ((H4.out.2.below ((Below.refl _ _).drew)).below b5)); obtain ⟨r0, r1⟩ := HC.out _ H5.out.1.bel; have hsb5 : bl < w5.heap.size := block_lt_of_cell r1))
          all_goals
            have H7 := Lib.hid (H5.out.2.app (e := ⟨2, ii, false, cn⟩) H5.out.1 h3 hg3 hl3)
            have HLL := Lib.hid (show (L ++ [(⟨2, ii, false, cn⟩ : Ev)]).length ≤ k + 1 by simp; omega)
            clear h3 hg3 hl3
            go_wp2
            go_roundw
            case rel => exact ⟨k + 1, s2, m2, _, by go_num, by omega, H7.out.2, H7.out.1, HLL.out, HT.out⟩
            case measure => simp [intOf]; omega
        · have HT := Lib.hid (HA.out.2 (fun e => c2 (by rw [HP2.out]; exact e.2)))
          have c3 : (p2.pc == 10) = false := by simpa using c2
          go_wp2
          go_roundw
          case rel => exact ⟨k + 1, s2, m2, L, by go_num, by omega, H4.out.1, H4.out.2, by omega, HT.out⟩
          case measure => simp [intOf]; omega
      · have HT := Lib.hid (HA.out.2 (fun e => c1 (by rw [HP.out]; exact e.1)))
        clear HSp
        go_wp2
        go_roundw
        case rel => exact ⟨k + 1, s2, m2, L, by go_num, by omega, H3.out.1, H3.out.2, by omega, HT.out⟩
        case measure => simp [intOf]; omega
    · obtain rfl : k = ls.length := by omega
      obtain ⟨_, x1⟩ := HC0.out _ HW.out.bel
      have HTP1 := Lib.hid (HTP.out _ (HB0.out.trans (HW.out.bel.mono hw0s)))
      obtain ⟨Ao, co, rfl⟩ := own_form hRw.own
      have HTo := Lib.hid (tenureAll wo (.slice AT T.length cT) (.slice Ao L.length co) T L ((b : Int) + 1) HTP1.out (RdL.of_own encE_len rfl (by omega) hRw.own) hTn.ok (by omega) (by omega))
      clear hRw hTn
      go_wp2_with fail
      refine HTo.out.mono ?_
      rintro en w2 ⟨v', rs, rfl, hrd, hrm, b2⟩
      have H2 := Lib.hid (And.intro hrd (And.intro hrm (HW.out.bel.trans (b2.mono HW.out.bel.size))))
      have HBE2 := HBE.out
      have HLo := Lib.hid (longestT w2 v' rs H2.out.1 ((b : Int) + 1) (by omega) H2.out.2.1)
      clear hrd hrm b2 x1
      go_wp2_with fail
      refine (longestB w2 b hb3).mono ?_
      rintro en w2' ⟨rfl, rfl⟩
      clear HBE2
      go_wp2_with fail
      refine HLo.out.mono ?_
      rintro en w3 ⟨mx, rfl, hmx, b3⟩
      have H3 := Lib.hid (H2.out.2.2.trans (b3.mono H2.out.2.2.size))
      have g5 : decide (mx ≤ (b : Int) + 1) = true := decide_eq_true hmx
      clear b3 HLo
      go_wp2_with fail
      refine (awake27 _).mono ?_
      rintro en wa2 ⟨rfl, ba2⟩
      have HB2 := Lib.hid (HB0.out.trans ((H3.out.trans (ba2.mono H3.out.size)).mono hw0s))
      clear ba2
      go_wp2
      go_ret
      exact ⟨rfl, HB2.out⟩
end Go.Proofs.YtkdaiomjbkpedaaGreat
end
