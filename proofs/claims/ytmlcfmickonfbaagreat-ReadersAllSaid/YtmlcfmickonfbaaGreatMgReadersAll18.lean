/- Joined: Sm4r, Rs3, Sm5r, Sm5n, Sm6n, Sm6r. -/
import Derived.Test.YtmlcfmickonfbaaGreatMgReadersAll15
import Derived.Test.YtmlcfmickonfbaaGreatMgReadersAll16
import Derived.Test.YtmlcfmickonfbaaGreatMgReadersAll17
section
set_option linter.unusedVariables false
set_option linter.unusedSimpArgs false
/- Layer 37 (readers): New over the cohort lock, exactly. (printed by gen_sm4.py) -/
namespace Go.Proofs.YtmlcfmickonfbaaGreat
open Go.RowKit

set_option maxRecDepth 100000 in
set_option maxHeartbeats 8000000 in
theorem newS_r {w : World} {a g : Nat} {s : Ar} (h : ArIs w a g s) (hs : s.W = []) (hag : a ≠ g) (vP vT : Value) (P T : List Int) (hP : RdL w vP 1 encI P) (hT : RdL w vT 1 encI T) (hPa : ∀ i, vP.ownBlock = some i → i ≠ a ∧ i < w.heap.size) (hTa : ∀ i, vT.ownBlock = some i → i ≠ a ∧ i < w.heap.size) (hc : chkT P T = 0) (kg kl : Nat) (hG : KOk kg) (hL : KOk kl) (par : Nat) (hp : 1 ≤ par ∧ par ≤ 4) (bud : Int) (hb : 0 ≤ bud ∧ bud ≤ 3) (hr : s.room = 4096) (ho : s.ops ≤ 1000) :
    Calls Tryz.prog 12 #[.pointer (some ⟨a, 0, none⟩), .agg #[vP, vT], .agg #[.int .i64 (kg : Int), .int .i64 (kl : Int), .int .i64 par, .int .i64 bud]] w fun e w' => NewSm 59 w a g s kg kl par bud P T e w' := by
  obtain ⟨i0, hi, hz0, hz1, hz2⟩ := info_parts Tryz.infoSpF
  have hml := many_lt (chk_ok hc).1
  have ha0 := h.blk.lt
  have hg0 := h.wds.lt
  obtain ⟨hT1, hT32⟩ : 1 ≤ T.length ∧ T.length ≤ 32 := ⟨hml.2.2.1, hml.2.2.2⟩
  have hN32 : (leavesL P).length ≤ 32 := by
    have := leavesTo_len P P.length
    show (leavesTo P P.length).length ≤ 32; omega
  have hN1 : 1 ≤ (leavesL P).length := by
    obtain ⟨x, hx⟩ := getElem?_lt (show 0 < T.length by omega)
    exact List.length_pos_of_mem (thr_mem (chk_ok hc).2.2.2 hx)
  have HPD := Lib.hid (And.intro hG (And.intro hL (And.intro hp hb)))
  have H := Lib.hid (And.intro h (And.intro ha0 (And.intro hg0 hag)))
  have HRD := Lib.hid (And.intro (And.intro hP hPa) (And.intro hT hTa))
  have HN := Lib.hid (new_yesL ((w.alloc (.cells #[vP, vT] 24)).alloc (.cells #[.int .i64 (kg : Int), .int .i64 (kl : Int), .int .i64 par, .int .i64 bud] 46)) vP vT P T ((hP.alloc _).alloc _) ((hT.alloc _).alloc _) hc)
  have HCK := Lib.hid hc
  have HS := Lib.hid (And.intro hs (And.intro hr ho))
  have hlo : ((w.alloc (.cells #[vP, vT] 24)).alloc (.cells #[.int .i64 (kg : Int), .int .i64 (kl : Int), .int .i64 par, .int .i64 bud] 46)).heap.size = w.heap.size + 2 := by simp
  have B0 := Lib.hid (((Below.refl w.heap.size w).alloc (Nat.le_refl _) (.cells #[vP, vT] 24)).alloc (by simp) (.cells #[.int .i64 (kg : Int), .int .i64 (kl : Int), .int .i64 par, .int .i64 bud] 46))
  have hbx := Blk.new (w.alloc (.cells #[vP, vT] 24)) 46 #[.int .i64 (kg : Int), .int .i64 (kl : Int), .int .i64 par, .int .i64 bud]
  rw [show (w.alloc (.cells #[vP, vT] 24)).heap.size = w.heap.size + 1 by simp] at hbx
  have hbt := (Blk.new w 24 #[vP, vT]).alloc (.cells #[.int .i64 (kg : Int), .int .i64 (kl : Int), .int .i64 par, .int .i64 bud] 46)
  have BX := Lib.hid (And.intro hbx hbt)
  clear h hP hT hPa hTa hs hr ho hml ha0 hg0 hc hbx hbt hG hL hp hb hag
  go_enter Tryz.func12, Tryz.ntmps12
  go_wp2_with fail
  refine HN.out.mono ?_
  rintro en w1 ⟨b, rfl, hb, t1, b1⟩
  rw [hlo] at hb t1 b1
  have tn : Turns [] ((w.alloc (.cells #[vP, vT] 24)).alloc (.cells #[.int .i64 (kg : Int), .int .i64 (kl : Int), .int .i64 par, .int .i64 bud] 46)) w1 := ⟨b1.os, b1.tape, b1.output, b1.size, fun i hi _ => b1.block i (by omega)⟩
  have K1 := Lib.hid (And.intro (t1.q HCK.out) (And.intro (B0.out.trans (b1.mono (by omega))) (And.intro (tn.blk BX.out.1 (by simp)) (And.intro (tn.blk BX.out.2 (by simp)) hb))))
  clear t1 b1 hb HN BX B0 tn
  go_wp2_with fail
  refine (threads_any _ _ _ _ (K1.out.1.tab HCK.out)).mono ?_
  rintro en w1' ⟨rfl, rfl⟩
  go_wp2_with (refine wpList_make_full _ rfl _ _ 57 rfl w1.heap.size 38 i0 (.agg #[.int .i64 0, .int .i64 0, .int .i64 0, .int .i64 0]) 4 Tryz.underlying57 hi hz0 hz1 .i64 .i64 T.length T.length T.length rfl rfl rfl rfl ?b2 ?b3 (Nat.le_refl _) ?_)
  case b2 => rw [hz2]; omega
  case b3 => unfold maxLen; omega
  intro w4 hown hg
  have hb : SpIs w4 w1.heap.size (List.replicate T.length Sp.zero) := by
    unfold SpIs
    rw [qflat_zero]
    have := own_blk hown
    have e : (madeCells #[Value.int .i64 0, .int .i64 0, .int .i64 0, .int .i64 0] (T.length * 4)).toList = List.replicate (T.length * 4) (.int .i64 0) := qmade_const4 _ _
    rw [e] at this
    exact this
  have t4 : Turns [] w1 w4 := Turns.of_below ((Below.refl w1.heap.size w1).grown hg (Nat.le_refl _) (fun j hj => by cases hj))
  have hs4 := hb.lt
  have H4 := Lib.hid (And.intro hb (And.intro t4 hs4))
  clear hown hg hb t4 hs4
  go_upto_region 5 with fail
  obtain ⟨q, hq⟩ : ∃ x, x = w1.heap.size := ⟨_, rfl⟩
  rw [← hq] at H4 ⊢
  have HQ := Lib.hid hq
  clear hq
  obtain ⟨l, hl⟩ : ∃ x, x = w4.heap.size := ⟨_, rfl⟩
  obtain ⟨w5, hw5⟩ : ∃ x, x = w4.alloc (.cells #[.pointer (some ⟨a, 0, none⟩), .pointer (some ⟨b, 0, none⟩), .pointer none, .pointer none, .int .i64 0, .pointer none, .slice (some ⟨q, 0, none⟩) T.length T.length] 59) := ⟨_, rfl⟩
  rw [← hw5, ← hl]
  have HB5 := Lib.hid (show Blk w5 l 59 #[.pointer (some ⟨a, 0, none⟩), .pointer (some ⟨b, 0, none⟩), .pointer none, .pointer none, .int .i64 0, .pointer none, .slice (some ⟨q, 0, none⟩) T.length T.length] from by rw [hw5, hl]; exact Blk.new _ _ _)
  have H5 := Lib.hid (show Turns [] w1 w5 from by rw [hw5]; exact H4.out.2.1.alloc _)
  have HSQ := Lib.hid (show SpIs w5 q (List.replicate T.length Sp.zero) from by rw [hw5]; exact H4.out.1.turns (T := []) ((Turns.refl _ _).alloc _) (by simp))
  have HO := Lib.hid (show a < w.heap.size ∧ g < w.heap.size ∧ a ≠ g ∧ w.heap.size + 2 ≤ b ∧ b < w1.heap.size ∧ w1.heap.size = q ∧ q < l ∧ w5.heap.size = l + 1 from by
    have e1 : b < w1.heap.size := K1.out.1.low.2
    have e2 := K1.out.2.2.2.2
    have e3 := H4.out.2.2
    have e4 := H.out
    have e5 := HQ.out
    rw [hw5, hl]
    simp
    omega)
  have HPC : Hid (∀ W, Turns [l, b, a] w5 W → (W.cell? ⟨w.heap.size + 1, 0, none⟩ = some (.int .i64 (kg : Int)) ∧ W.cell? ⟨w.heap.size + 1, 1, none⟩ = some (.int .i64 (kl : Int)) ∧ W.cell? ⟨w.heap.size + 1, 2, none⟩ = some (.int .i64 par) ∧ W.cell? ⟨w.heap.size + 1, 3, none⟩ = some (.int .i64 bud)) ∧ (W.cell? ⟨w.heap.size, 0, none⟩ = some vP ∧ W.cell? ⟨w.heap.size, 1, none⟩ = some vT) ∧ RdL W vP 1 encI P ∧ RdL W vT 1 encI T) := Lib.hid fun W hW => by
    have o := HO.out
    have t : Turns [l, b, a] w1 W := (H5.out.mono (by simp)).trans hW
    have n : w.heap.size + 1 ∉ [l, b, a] := by simp; omega
    have n2 : w.heap.size ∉ [l, b, a] := by simp; omega
    have b1 := t.blk K1.out.2.2.1 n
    have b2 := t.blk K1.out.2.2.2.1 n2
    refine ⟨⟨b1.cell 0, b1.cell 1, b1.cell 2, b1.cell 3⟩, ⟨b2.cell 0, b2.cell 1⟩, ?_, ?_⟩
    · exact (HRD.out.1.1.below K1.out.2.1 (Nat.le_refl _)).turns t fun i hi hm => by
        have := HRD.out.1.2 i hi
        simp at hm
        omega
    · exact (HRD.out.2.1.below K1.out.2.1 (Nat.le_refl _)).turns t fun i hi hm => by
        have := HRD.out.2.2 i hi
        simp at hm
        omega
  obtain ⟨N, hN⟩ : ∃ N, N = (leavesL P).length := ⟨_, rfl⟩
  rw [← hN] at hN32 hN1
  have HNo0 := nodesFstQ (fun i => w.heap.size + 2 ≤ i ∧ i < w1.heap.size) w5 b P T HCK.out (K1.out.1.turns H5.out (by simp))
  rw [← hN] at HNo0
  have HNo := Lib.hid HNo0
  have HNN := Lib.hid hN
  have HA5 := Lib.hid ((H.out.1.turns (Turns.of_below (S := []) K1.out.2.1) (by simp) (by simp)).turns H5.out (by simp) (by simp))
  clear hw5 hl hN HNo0 H4
  go_wp2_with fail
  refine HNo.out.mono ?_
  rintro en w6 ⟨rfl, t6, n6⟩
  have Q6 := Lib.hid (And.intro t6.lt n6)
  have HA6 := Lib.hid (HA5.out.turns n6 (by have := HO.out; simp; omega) (by have := HO.out; simp; omega))
  clear t6 n6
  go_wp2_with fail
  refine (gaugeNew HA6.out N hN1 hN32 HS.out.1 HS.out.2.1).mono ?_
  rintro en w7 ⟨gg, rfl, hgg, hgb, hga, t7⟩
  have hnl : l ∉ [a] := by have := HO.out; simp; omega
  have bl7 : Blk w7 l 59 _ := t7.blk (Q6.out.2.blk HB5.out (by have := HO.out; simp; omega)) hnl
  have c72 : w7.cell? ⟨l, 2, none⟩ = some (.pointer none) := bl7.cell 2
  have z72 := bl7.free 2
  have H7 := Lib.hid (And.intro hgg (And.intro hgb (And.intro hga t7)))
  have HB7 := Lib.hid bl7
  clear hgg hgb hga t7 bl7
  go_upto_region 6 with fail
  obtain ⟨w8, hw8⟩ : ∃ W, W = w7.setCell ⟨l, 2, none⟩ (.pointer (some ⟨gg, 0, none⟩)) := ⟨_, rfl⟩
  rw [← hw8]
  have hl7 : l < w7.heap.size := HB7.out.lt
  have hgg6 : l < gg := by
    have e1 := Q6.out.2.size
    have e2 := H7.out.1
    have e3 := HO.out
    omega
  have t78 : Turns [l] w7 w8 := by rw [hw8]; exact (Turns.refl _ _).setCell (.inl (by simp)) _
  have HB8 := Lib.hid (show Blk w8 l 59 #[.pointer (some ⟨a, 0, none⟩), .pointer (some ⟨b, 0, none⟩), .pointer (some ⟨gg, 0, none⟩), .pointer none, .int .i64 0, .pointer none, .slice (some ⟨q, 0, none⟩) T.length T.length] from by rw [hw8]; exact HB7.out.set_ 2 _)
  have HA8 := Lib.hid (H7.out.2.2.1.turns t78 (by have := HO.out; simp; omega) (by have := HO.out; simp; omega))
  have HG8 := Lib.hid (t78.blk H7.out.2.1 (by simp; omega))
  have HT8 := Lib.hid (show Turns [l, b, a] w5 w8 from ((Q6.out.2.mono (by simp)).trans (H7.out.2.2.2.mono (by simp))).trans (t78.mono (by simp)))
  have hlen8 : (takeS s (2 * N)).W.length = 2 * N := by unfold takeS; rw [HS.out.1]; simp
  have hl8 : l < w8.heap.size := HB8.out.lt
  have H78 := Lib.hid t78
  clear hw8 c72 z72 t78
  have HTk0 := takeY HA8.out 1 (by rw [hlen8]; show 2 * N + 1 ≤ s.room; rw [HS.out.2.1]; omega)
  rw [hlen8] at HTk0
  have HTk := Lib.hid HTk0
  clear HTk0
  go_wp2_with fail
  refine HTk.out.mono ?_
  rintro en w9 ⟨rfl, k9, t9⟩
  have bl9 : Blk w9 l 59 _ := t9.blk HB8.out hnl
  have c94 : w9.cell? ⟨l, 4, none⟩ = some (.int .i64 0) := bl9.cell 4
  have z94 := bl9.free 4
  have H9 := Lib.hid (And.intro k9 (And.intro t9 bl9))
  clear k9 t9 bl9
  go_upto_region 9 with fail
  obtain ⟨fl, hfl⟩ : ∃ f : Int, f = 2 * (N : Int) + 1 := ⟨_, rfl⟩
  have hfl2 : ((2 * N : Nat) : Int) + 1 = fl := by omega
  obtain ⟨w10, hw10⟩ : ∃ W, W = w9.setCell ⟨l, 4, none⟩ (.int .i64 fl) := ⟨_, rfl⟩
  rw [← hfl, ← hw10]
  have t910 : Turns [l] w9 w10 := by rw [hw10]; exact (Turns.refl _ _).setCell (.inl (by simp)) _
  have HB10 := Lib.hid (show Blk w10 l 59 #[.pointer (some ⟨a, 0, none⟩), .pointer (some ⟨b, 0, none⟩), .pointer (some ⟨gg, 0, none⟩), .pointer none, .int .i64 fl, .pointer none, .slice (some ⟨q, 0, none⟩) T.length T.length] from by rw [hw10]; exact H9.out.2.2.set_ 4 _)
  have HT10 := Lib.hid (show Turns [l, a] w8 w10 from (H9.out.2.1.mono (by simp)).trans (t910.mono (by simp)))
  have HA10 := Lib.hid (H9.out.1.turns t910 (by have := HO.out; simp; omega) (by have := HO.out; simp; omega))
  have HPC10 := Lib.hid (HPC.out w10 (HT8.out.trans (HT10.out.mono (by simp))))
  have hlen1 : (takeS (takeS s (2 * N)) 1).W.length = 2 * N + 1 := by
    show ((takeS s (2 * N)).W ++ _).length = _
    rw [List.length_append, hlen8]; simp
  have HCo := Lib.hid (cohortNewX HA10.out vP vT P T HPC10.out.2.2.1 HPC10.out.2.2.2 HCK.out kg kl HPD.out.1 HPD.out.2.1 par HPD.out.2.2.1 bud (by have := HPD.out.2.2.2; omega) (by
    show _ ≤ s.room
    rw [hlen1, HS.out.2.1]; omega) (by rw [hlen1]; omega) (by show s.ops + 100 ≤ _; have := HS.out.2.2; omega))
  obtain ⟨⟨p0, p1, p2, p3⟩, ⟨y0, y1⟩, _⟩ := HPC10.out
  have HF := Lib.hid hfl
  clear hw10 c94 z94 t910 hfl hfl2 HTk
  go_wp2_with fail
  refine HCo.out.mono ?_
  rintro en w11 ⟨xc, BC, rfl, k11, m11, t11⟩
  have hnl2 : l ∉ [a, g] := by have := HO.out; simp; omega
  have bl11 : Blk w11 l 59 _ := t11.blk HB10.out hnl2
  have c115 : w11.cell? ⟨l, 5, none⟩ = some (.pointer none) := bl11.cell 5
  have z115 := bl11.free 5
  have H11 := Lib.hid (And.intro k11 (And.intro m11 (And.intro t11 bl11)))
  clear k11 m11 t11 bl11 p0 p1 p2 p3 y0 y1 HCo
  go_upto_region 12 with fail
  obtain ⟨w12, hw12⟩ : ∃ W, W = w11.setCell ⟨l, 5, none⟩ (.pointer (some ⟨xc.l, 0, none⟩)) := ⟨_, rfl⟩
  rw [← hw12]
  have t1112 : Turns [l] w11 w12 := by rw [hw12]; exact (Turns.refl _ _).setCell (.inl (by simp)) _
  have HB12 := Lib.hid (show Blk w12 l 59 #[.pointer (some ⟨a, 0, none⟩), .pointer (some ⟨b, 0, none⟩), .pointer (some ⟨gg, 0, none⟩), .pointer none, .int .i64 fl, .pointer (some ⟨xc.l, 0, none⟩), .slice (some ⟨q, 0, none⟩) T.length T.length] from by rw [hw12]; exact H11.out.2.2.2.set_ 5 _)
  have HT12 := Lib.hid (show Turns [l, a, g] w8 w12 from ((HT10.out.mono (by simp)).trans (H11.out.2.2.1.mono (by simp))).trans (t1112.mono (by simp)))
  have hcol : ¬ CoBlk xc BC l := fun hb => by
    have e1 := H11.out.2.1 l hb
    have e2 := HB10.out.lt
    omega
  have HC12 := Lib.hid (H11.out.1.arAway t1112 (s' := (coStN kg kl par P T (takeS (takeS s (2 * N)) 1)).s) (H11.out.1.ar.turns t1112 (by have := HO.out; simp; omega) (by have := HO.out; simp; omega)) (fun i hi => .inr (.inr (by simp at hi; rw [hi]; exact hcol))))
  have HS12 := Lib.hid (show w11.heap.size ≤ w12.heap.size from t1112.size)
  have g2 : w12.cell? ⟨l, 2, none⟩ = some (.pointer (some ⟨gg, 0, none⟩)) := HB12.out.cell 2
  have hl12 : l < w12.heap.size := HB12.out.lt
  clear hw12 c115 z115 t1112
  go_wp2_with fail
  refine (drNewX w12 gg).mono ?_
  rintro en w13 ⟨dd, rfl, b13, bd13, hdd⟩
  have bl13 : Blk w13 l 59 _ := HB12.out.below b13 hl12
  have c133 : w13.cell? ⟨l, 3, none⟩ = some (.pointer none) := bl13.cell 3
  have z133 := bl13.free 3
  have H13 := Lib.hid (And.intro b13 (And.intro bl13 (And.intro bd13 hdd)))
  clear b13 bl13 bd13 hdd g2
  go_wp2
  go_ret2
  have o := HO.out
  obtain ⟨w14, hw14⟩ : ∃ W, W = w13.setCell ⟨l, 3, none⟩ (.pointer (some ⟨dd, 0, none⟩)) := ⟨_, rfl⟩
  rw [← hw14]
  have t1214 : Turns [l] w12 w14 := by rw [hw14]; exact (Turns.of_below H13.out.1).trans ((Turns.refl _ _).setCell (.inl (by simp)) _)
  have HB14 : Blk w14 l 59 #[.pointer (some ⟨a, 0, none⟩), .pointer (some ⟨b, 0, none⟩), .pointer (some ⟨gg, 0, none⟩), .pointer (some ⟨dd, 0, none⟩), .int .i64 fl, .pointer (some ⟨xc.l, 0, none⟩), .slice (some ⟨q, 0, none⟩) T.length T.length] := by rw [hw14]; exact H13.out.2.1.set_ 3 _
  have t814 : Turns [l, a, g] w8 w14 := HT12.out.trans (t1214.mono (by simp))
  have t614 : Turns [l, a, g] w6 w14 := ((H7.out.2.2.2.mono (by simp)).trans (show Turns [l, a, g] w7 w8 from by
    refine Turns.mono ?_ (S := [l]) (by simp)
    exact H78.out)).trans t814
  have hdd := H13.out.2.2.2
  have s1011 := H11.out.2.2.1.size
  have s1112 := HS12.out
  have s8' := HT8.out.size
  have s10' := HT10.out.size
  have s67 := H7.out.2.2.2.size
  have s78 := H78.out.size
  have g7 := H7.out.2.1.lt
  have s56 := Q6.out.2.size
  have hggl := H7.out.1
  have tdd : Turns [l] w13 w14 := by rw [hw14]; exact (Turns.refl _ _).setCell (.inl (by simp)) _
  have bdd := tdd.blk H13.out.2.2.1 (by simp; omega)
  have hco14 := HC12.out.arAway t1214 (s' := (coStN kg kl par P T (takeS (takeS s (2 * N)) 1)).s) (HC12.out.ar.turns t1214 (by simp; omega) (by simp; omega)) (fun i hi => .inr (.inr (by simp at hi; rw [hi]; exact hcol)))
  have hcb : ∀ i, CoBlk xc BC i → w10.heap.size ≤ i ∧ i < w11.heap.size := H11.out.2.1
  have hcs : ∀ i ∈ CoS a g xc, i = a ∨ i = g ∨ (w10.heap.size ≤ i ∧ i < w11.heap.size) := fun i hi => by
    unfold CoS at hi
    simp only [List.mem_cons] at hi
    rcases hi with rfl | rfl | rfl | rfl | hi
    · exact .inl rfl
    · exact .inr (.inl rfl)
    · exact .inr (.inr (hcb _ (.inr (.inr (.inl rfl)))))
    · exact .inr (.inr (hcb _ (.inr (.inr (.inr (.inl (.inr (.inr rfl))))))))
    · obtain ⟨y, hy, rfl⟩ := List.mem_map.1 hi
      exact .inr (.inr (hcb _ (.inr (.inr (.inr (.inr (.inl ⟨y, hy, .inr (.inr rfl)⟩)))))))
  have hnb : ∀ q, ¬ (w10.heap.size ≤ q ∧ q < w11.heap.size) → ¬ CoBlk xc BC q := fun q hq hb => hq (hcb q hb)
  have nBq : ¬ (((w.heap.size + 2 ≤ q ∧ q < w1.heap.size) ∨ w5.heap.size ≤ q) ∧ q < w6.heap.size) := by omega
  have nBd : ¬ (((w.heap.size + 2 ≤ dd ∧ dd < w1.heap.size) ∨ w5.heap.size ≤ dd) ∧ dd < w6.heap.size) := by omega
  refine ⟨fun i => ((w.heap.size + 2 ≤ i ∧ i < w1.heap.size) ∨ w5.heap.size ≤ i) ∧ i < w6.heap.size, BC, ⟨l, q, b, gg, dd, xc⟩, rfl, ?_, fun i hi => ?_, ?_⟩
  · refine ⟨?_, ⟨?_, ?_, bdd, by show (leavesL P).length ≤ 32; rw [← HNN.out]; exact hN32, ⟨by show dd ≠ a; omega, by show dd ≠ g; omega, by show dd ≠ gg; omega⟩, ⟨by show gg ≠ a; omega, by show gg ≠ g; omega⟩⟩, ?_, ?_, ?_, by simp, fun i hi => ?_, ⟨hnb q (by omega), hnb dd (by omega)⟩, ⟨by show q ≠ l; omega, by show q ≠ gg; omega, by show q ≠ dd; omega, nBq⟩, ⟨by show dd ≠ l; omega, by show dd ≠ gg; omega, nBd⟩⟩
    · show Blk w14 l _ (smC a ⟨l, q, b, gg, dd, xc⟩ (leavesL P).length T.length)
      rw [← HNN.out]
      unfold smC
      show Blk w14 l _ #[.pointer (some ⟨a, 0, none⟩), .pointer (some ⟨b, 0, none⟩), .pointer (some ⟨gg, 0, none⟩), .pointer (some ⟨dd, 0, none⟩), .int .i64 (2 * (N : Int) + 1), .pointer (some ⟨xc.l, 0, none⟩), .slice (some ⟨q, 0, none⟩) T.length T.length]
      have FL : fl = 2 * (N : Int) + 1 := HF.out
      rw [← FL]; exact HB14
    · rw [← HNN.out]; exact hco14.ar
    · rw [← HNN.out]; exact t814.blk HG8.out (by simp; omega)
    · exact Q6.out.1.turns t614 fun i hi hB => by simp at hi; omega
    · exact ⟨[], by rw [List.append_nil]; exact (show Blk w14 q _ _ from (HSQ.out.turns (HT8.out) (by simp; omega)).turns t814 (by simp; omega))⟩
    · rw [← HNN.out]; exact hco14
    · have hq := hcs i hi
      refine ⟨?_, ?_, ?_, ?_, ?_⟩
      · show i ≠ l; omega
      · show i ≠ q; omega
      · show i ≠ gg; omega
      · show i ≠ dd; omega
      · show ¬ (_ ∧ _); omega
  · unfold SmS at hi
    simp only [List.mem_cons] at hi
    rcases hi with hi | hi | hi
    · right; right; rw [hi]; show w.heap.size ≤ q; omega
    · right; right; rw [hi]; show w.heap.size ≤ dd; omega
    · have hq := hcs i hi
      omega
  · have t05 : Turns [a, g, l, b] w w5 := (Turns.of_below (S := [a, g, l, b]) K1.out.2.1).trans (H5.out.mono (by simp))
    have t014 : Turns [a, g, l, b] w w14 := (t05.trans (HT8.out.mono (by intro i hi; simp at hi ⊢; omega))).trans (t814.mono (by intro i hi; simp at hi ⊢; omega))
    exact t014.fresh fun i hi => by simp at hi ⊢; omega
end Go.Proofs.YtmlcfmickonfbaaGreat
end
section
set_option linter.unusedVariables false
set_option linter.unusedSimpArgs false
/- Layer 37 (readers), plain: bounds and ops over acts; the new lock. No program in sight. (printed by gen_xs3.py out of XNs3) -/
namespace Go.Proofs.YtmlcfmickonfbaaGreat
open Go Go.RowKit

section
variable {c : CoC} {n N L : Nat} {ml : Nat → Nat} {x : Nu} {st : Co} {B : Int} {o : Nat}
theorem rsDoes_ok (h : CoOk c n L B o x.st) (k : CoW0 c n N L) (hB : 40 ≤ B) (hB2 : B ≤ 1000000000000) {i : Nat} (hi : i < n) (p : Sp) : CoOk c n L (B + 4) (o + 1) (rsDoes c N x i p).1 := by
  have hadd : ∀ z, CoOk c n L (B + 2) (o + 1) (onA x.st (addA x.st.s z 1)) := fun z => h.on (by omega) (h.bd.w.add1 (by omega) (by omega) z) (nearAdd _ _ _)
  have hld : ∀ z, CoOk c n L (B + 2) (o + 1) (onA x.st (loadA x.st.s z)) := fun z => h.on (by omega) ((h.bd.w.mono (by omega)).load _) (nearLoad _ _)
  have hst : ∀ z v, 0 ≤ v ∧ v ≤ 1 → CoOk c n L (B + 2) (o + 1) (onA x.st (storeA x.st.s z v)) := fun z v hv => h.on (by omega) ((h.bd.w.mono (by omega)).store z v (by omega)) (nearStore _ _ _)
  have hask : ∀ {st'}, CoOk c n L (B + 2) (o + 1) st' → CoOk c n L (B + 4) (o + 1) (coAsk c st' i) := fun {st'} q => by
    have r := q.ask k (by omega) hi
    exact ⟨r.bd.mono (by omega), r.v, r.len, by rw [coAsk_s]; exact q.ops⟩
  have hlv : ∀ {st'}, CoOk c n L (B + 2) (o + 1) st' → CoOk c n L (B + 4) (o + 1) (coLeave st' i) := fun {st'} q => by
    have r := q.leave k (by omega) hi
    exact ⟨r.bd.mono (by omega), r.v, r.len, by rw [coLeave_s]; exact q.ops⟩
  have hdr : CoOk c n L (B + 4) (o + 1) (onA x.st (drStep x.st.s x.d).1) := h.on (by omega) ((h.bd.w.mono (by omega)).same (drStep_W _ _)) (nearDr _ _)
  unfold rsDoes
  split
  · split
    · exact (hadd _).mono (by omega)
    split
    · exact (hld _).mono (by omega)
    · exact (hadd _).mono (by omega)
  split
  · exact (h.step k hB (by omega) hi).mono (by omega)
  split
  · exact hlv (hst _ _ (by omega))
  split
  · exact (h.step k hB (by omega) hi).mono (by omega)
  split
  · exact (hst _ _ (by omega)).mono (by omega)
  split
  · exact (hst _ _ (by omega)).mono (by omega)
  · exact hdr
theorem rsStep_ok (h : CoOk c n L B o x.st) (k : CoW0 c n N L) (hB : 40 ≤ B) (hB2 : B ≤ 1000000000000) {i : Nat} (hi : i < n) : CoOk c n L (B + 4) (o + 1) (rsStep c N x i).st := by
  unfold rsStep
  split
  · exact h.up (by omega) (by omega)
  · exact rsDoes_ok h k hB hB2 hi _
structure RsS (c : CoC) (n N L : Nat) (ml : Nat → Nat) (B : Int) (x : Nu) : Prop where
  i : RsI c n N ml x
  ok : CoOk c n L B x.st.s.ops x.st
  dok : x.d.busy = true → x.d.at_ < N ∧ x.d.lim = N
theorem dok_beg {d : Dr} {N : Nat} (h : 1 ≤ N) (b : Bool) : (drBeg d N b).busy = true → (drBeg d N b).at_ < N ∧ (drBeg d N b).lim = N := fun _ => ⟨h, rfl⟩
theorem dok_step {d : Dr} {N : Nat} {s : Ar} (h : d.busy = true → d.at_ < N ∧ d.lim = N) : (drStep s d).2.1.busy = true → (drStep s d).2.1.at_ < N ∧ (drStep s d).2.1.lim = N := by
  unfold drStep
  split
  · rename_i hb
    have := h hb
    split
    · show (drLast s d).1.busy = true → (drLast s d).1.at_ < N ∧ (drLast s d).1.lim = N
      unfold drLast
      split
      · split
        · intro e; simp at e
        · intro _; exact this
      · split
        · intro e; simp at e
        · intro _; simp only; omega
    · intro _; exact this
  · exact h
theorem dok_does {c : CoC} {x : Nu} (h : x.d.busy = true → x.d.at_ < N ∧ x.d.lim = N) (hN : 1 ≤ N) (i : Nat) (p : Sp) : (rsDoes c N x i p).2.1.busy = true → (rsDoes c N x i p).2.1.at_ < N ∧ (rsDoes c N x i p).2.1.lim = N := by
  unfold rsDoes
  (repeat' split) <;> first | exact h | exact dok_beg hN _ | exact dok_step h
theorem dok_st {c : CoC} {x : Nu} (h : x.d.busy = true → x.d.at_ < N ∧ x.d.lim = N) (hN : 1 ≤ N) (i : Nat) : (rsStep c N x i).d.busy = true → (rsStep c N x i).d.at_ < N ∧ (rsStep c N x i).d.lim = N := by
  unfold rsStep
  split
  · exact h
  · exact dok_does h hN _ _
theorem nuAsk_d (c : CoC) (x : Nu) (i : Nat) (r : Bool) : (nuAsk c x i r).d = x.d := by unfold nuAsk; (repeat' split) <;> rfl
theorem nuLeave_d (x : Nu) (i : Nat) : (nuLeave x i).d = x.d := by unfold nuLeave; split <;> rfl
def actRs (c : CoC) (N : Nat) (x : Nu) (kd i : Int) : Nu :=
  if okI x.U i then if kd = 0 then rsStep c N x i.toNat else if kd = 1 then nuAsk c x i.toNat false else if kd = 2 then nuLeave x i.toNat else if kd = 3 then nuAsk c x i.toNat true else x else x
theorem RsS.act (h : RsS c n N L ml B x) (k : NuK c n N L ml) (hB : 40 ≤ B) (hB2 : B ≤ 1000000000000) (kd i : Int) :
    RsS c n N L ml (B + 4) (actRs c N x kd i) ∧ (actRs c N x kd i).st.s.ops ≤ x.st.s.ops + 1 ∧ (kd ≠ 0 → (actRs c N x kd i).st.s.ops = x.st.s.ops) := by
  have same : RsS c n N L ml (B + 4) x := ⟨h.i, h.ok.mono (by omega), h.dok⟩
  unfold actRs
  split
  · rename_i hok
    have hi : i.toNat < n := by
      obtain ⟨h0, h1⟩ := hok
      have := h.i.lU
      omega
    split
    · rename_i k0
      have q := rsStep_ok h.ok k.w hB hB2 hi
      refine ⟨⟨h.i.step k.y ⟨k.tg, by rw [h.ok.len]; exact k.len⟩ h.ok.bd hB hB2 hi, ⟨q.bd, q.v, q.len, Nat.le_refl _⟩, dok_st h.dok k.N1 _⟩, q.ops, fun e => absurd k0 e⟩
    split
    · have q := nuAsk_ok h.ok k.w hB hi false
      refine ⟨⟨h.i.ask k.y hi false, by rw [q.2]; exact q.1, by rw [nuAsk_d]; exact h.dok⟩, by rw [q.2]; omega, fun _ => by rw [q.2]⟩
    split
    · have e := nuLeave_st x i.toNat
      refine ⟨⟨h.i.leave hi, by rw [e]; exact same.ok, by rw [nuLeave_d]; exact h.dok⟩, by rw [e]; omega, fun _ => by rw [e]⟩
    split
    · have q := nuAsk_ok h.ok k.w hB hi true
      refine ⟨⟨h.i.ask k.y hi true, by rw [q.2]; exact q.1, by rw [nuAsk_d]; exact h.dok⟩, by rw [q.2]; omega, fun _ => by rw [q.2]⟩
    · exact ⟨same, by omega, fun _ => rfl⟩
  · exact ⟨same, by omega, fun _ => rfl⟩
end
section
variable {kg kl par : Nat} {bud : Int} {P T : List Int} {s : Ar}
theorem rs_s (hc : chkT P T = 0) (hkg : 1 ≤ kg ∧ kg ≤ 5) (hkl : 1 ≤ kl ∧ kl ≤ 5) (hp : 1 ≤ par ∧ par ≤ 4) (hs : s.W = []) :
    RsS (coCN kg kl par bud P T (smA s (leavesL P).length)) T.length (leavesL P).length (coStN kg kl par P T (smA s (leavesL P).length)).s.W.length (mtQ P T) 40 ⟨coStN kg kl par P T (smA s (leavesL P).length), dr0, List.replicate T.length Sp.zero⟩ ∧ (coStN kg kl par P T (smA s (leavesL P).length)).s.ops ≤ s.ops + 40 := by
  have hz := smA_z hs (leavesL P).length
  have h40 : WdB 40 (smA s (leavesL P).length) := hz.1.mono (by omega)
  have hok := new_ok (kg := kg) (kl := kl) (par := par) (bud := bud) hc h40
  have hw : ∀ y : Int, y ≤ ((smA s (leavesL P).length).W.length : Int) → ldW (coStN kg kl par P T (smA s (leavesL P).length)).s.W y = 0 := fun y hy => by
    have e1 : ldW (coNewS kl par (mtQ P T) (newAr_ kg (smA s (leavesL P).length) (leavesL P).length par) (leavesL P).length).W y = _ := coNewS_pre (Nat.zero_le _) (by
      show y ≤ ((newAr_ kg (smA s (leavesL P).length) (leavesL P).length par).W.length : Int)
      rw [newAr_len]; omega)
    have e2 : ldW (newAr_ kg (smA s (leavesL P).length) (leavesL P).length par).W y = _ := newAr_pre _ _ _ _ hy
    have e3 := hz.1.ld (by omega) y
    show ldW (coNewS _ _ _ _ _).W y = 0
    rw [e1]
    show ldW (newAr_ _ _ _ _).W y = 0
    rw [e2]; omega
  have hsv : ∀ i, sv (List.replicate T.length Sp.zero) i = Sp.zero := svR _
  refine ⟨⟨⟨m_new hc hkg hkl hp h40, by simp, fun i hi => .inl ⟨?_, ?_⟩, fun a ha => ?_, fun i hi hw => ?_, fun i hi h0 h9 => ?_, fun i hi h0 h9 => ?_⟩, ⟨hok.bd, hok.v, hok.len, Nat.le_refl _⟩, fun e => by simp [dr0] at e⟩, hok.ops⟩
  · show (sv (List.replicate T.length Sp.zero) i).pc = 0
    rw [hsv]; rfl
  · show (sv (List.replicate T.length Sp.zero) i).pc = 0
    rw [hsv]; rfl
  · have hc0 : cntIR (coCN kg kl par bud P T (smA s (leavesL P).length)) T.length (List.replicate T.length Sp.zero) a = 0 := by
      unfold cntIR cntN
      refine List.countP_eq_zero.2 (fun j _ => ?_)
      rw [hsv]
      simp [rdInR, Sp.zero]
    show ldW _ _ = ldW _ _ + ((cntIR _ _ (List.replicate T.length Sp.zero) a : Nat) : Int)
    rw [hc0]
    have g1 := gaA_lt ha
    have g2 := gaW_lt ha
    unfold nuFl at g1 g2
    have hl := hz.2
    rw [hw _ (by rw [hl]; omega), hw _ (by rw [hl]; omega)]; rfl
  · have hw' : wrPR (sv (List.replicate T.length Sp.zero) i) := hw
    rw [hsv] at hw'
    unfold wrPR Sp.zero at hw'
    simp at hw'
  · have h9' : (sv (List.replicate T.length Sp.zero) i).pc = 9 := h9
    rw [hsv] at h9'
    simp [Sp.zero] at h9'
  · have h9' : (sv (List.replicate T.length Sp.zero) i).pc = 10 := h9
    rw [hsv] at h9'
    simp [Sp.zero] at h9'
end
end Go.Proofs.YtmlcfmickonfbaaGreat
end
section
set_option linter.unusedVariables false
set_option linter.unusedSimpArgs false
/- Layer 37 (readers): Threads, has, Spot, over the cohort lock. (printed by gen_sm5.py) -/
namespace Go.Proofs.YtmlcfmickonfbaaGreat
open Go.RowKit

section
variable {B BC : Nat → Prop} {w w' : World} {a g : Nat} {X : SmX} {c : CoC} {P T : List Int} {st st' : Co} {d d' : Dr} {U : List Sp} {s' : Ar}
theorem thr_r (h : SmIs 59 B BC w a g X c P T st d U) : Calls Tryz.prog 16 #[.pointer (some ⟨X.l, 0, none⟩)] w fun e w' => e = .returned (.int .i64 T.length) ∧ w = w' := by
  have c6 := h.cs.2.2.2.2.2.2
  clear h
  go_enter Tryz.func16, Tryz.ntmps16
  go_wp2
  go_ret
  exact ⟨rfl, rfl⟩
theorem has_r (h : SmIs 59 B BC w a g X c P T st d U) (i : Int) (r : Bool) (hr : r = decide (okI U i)) : Calls Tryz.prog 21 #[.pointer (some ⟨X.l, 0, none⟩), .int .i64 i] w fun e w' => e = .returned (.bool r) ∧ w = w' := by
  have HT := Lib.hid (thr_r h)
  have hsl := h.lU
  clear h
  by_cases h0 : 0 ≤ i
  · by_cases h1 : i < T.length
    · have e : r = true := by rw [hr]; exact decide_eq_true (show 0 ≤ i ∧ i < U.length from ⟨h0, by rw [hsl]; exact h1⟩)
      subst e
      clear hr
      go_enter Tryz.func21, Tryz.ntmps21
      go_wp2_with fail
      refine HT.out.mono ?_
      rintro en w1 ⟨rfl, rfl⟩
      go_wp2
      go_ret
      exact ⟨rfl, rfl⟩
    · have e : r = false := by rw [hr]; exact decide_eq_false (fun k => h1 (by have := k.2; rw [hsl] at this; exact this))
      subst e
      clear hr
      go_enter Tryz.func21, Tryz.ntmps21
      go_wp2_with fail
      refine HT.out.mono ?_
      rintro en w1 ⟨rfl, rfl⟩
      go_wp2
      go_ret
      exact ⟨congrArg (fun b => Ending.returned (Value.bool b)) (decide_eq_false (by omega)), rfl⟩
  · have e : r = false := by rw [hr]; exact decide_eq_false (fun k => h0 k.1)
    subst e
    clear hr
    go_enter Tryz.func21, Tryz.ntmps21
    go_wp2
    go_ret
    exact ⟨rfl, rfl⟩
set_option maxHeartbeats 400000 in
theorem spot_r (h : SmIs 59 B BC w a g X c P T st d U) (i : Int) :
    Calls Tryz.prog 10 #[.pointer (some ⟨X.l, 0, none⟩), .int .i64 i] w fun e w' => e = .returned (spotV (getS U i)) ∧ Below w.heap.size w w' := by
  have hb := h.below ((Below.refl _ _).alloc (Nat.le_refl _) (.cells #[.int .i64 0, .int .i64 0, .int .i64 0, .int .i64 0] 38))
  have H := Lib.hid hb
  have hs1 := h.lk.lt
  have hs2 := h.sp.lt
  have hsl := h.lU
  by_cases hok : okI U i
  · have HH := Lib.hid (has_r hb i true (decide_eq_true hok).symm)
    have hp := getS_in hok
    obtain ⟨p, hpp⟩ : ∃ p, p = getS U i := ⟨_, rfl⟩
    rw [← hpp] at hp ⊢
    have c6 := h.cs.2.2.2.2.2.2
    have a0 := h.sp.cell hp 0 _ rfl
    have a1 := h.sp.cell hp 1 _ rfl
    have a2 := h.sp.cell hp 2 _ rfl
    have a3 := h.sp.cell hp 3 _ rfl
    simp only [Nat.add_zero] at a0
    obtain ⟨h0, h1⟩ := id hok
    rw [hsl] at h1
    obtain ⟨n, rfl⟩ := Int.eq_ofNat_of_zero_le h0
    simp only [Int.toNat_natCast] at a0 a1 a2 a3
    have t2 : ¬ (n : Int) < 0 := by omega
    have t4 : n < T.length := by omega
    clear h hb hp hpp h0 h1 hok hsl
    go_enter Tryz.func10, Tryz.ntmps10
    go_wp2_with (go_at_call 21; refine HH.out.mono ?_; rintro e w' ⟨rfl, rfl⟩)
    exact bodyPost_ret (results_cell_row (by rfl) _ _ w.heap.size 38 _ (0, 0) _ (by rfl) (heap_alloc_new w _) Tryz.underlying38 rfl (by kernel_rfl)) rfl ⟨rfl, (Below.refl _ _).alloc (Nat.le_refl _) _⟩
  · have HH := Lib.hid (has_r hb i false (decide_eq_false hok).symm)
    rw [getS_out hok]
    clear h hb hok hsl
    go_enter Tryz.func10, Tryz.ntmps10
    go_wp2_with (go_at_call 21; refine HH.out.mono ?_; rintro e w' ⟨rfl, rfl⟩)
    exact bodyPost_ret (results_cell_row (by rfl) _ _ w.heap.size 38 _ (0, 0) _ (by rfl) (heap_alloc_new w _) Tryz.underlying38 rfl (by kernel_rfl)) rfl ⟨rfl, (Below.refl _ _).alloc (Nat.le_refl _) _⟩
end
end Go.Proofs.YtmlcfmickonfbaaGreat
end
section
set_option linter.unusedVariables false
set_option linter.unusedSimpArgs false
/- Layer 36 (neutral): Ask, Leave, over the cohort lock. (printed by gen_sm6.py) -/
namespace Go.Proofs.YtmlcfmickonfbaaGreat
open Go.RowKit

/-- behind an act -/
def SmAct (ty : TypeId) (B BC : Nat → Prop) (w : World) (a g : Nat) (X : SmX) (c : CoC) (P T : List Int) (x' : Nu) (e : Ending) (w' : World) : Prop :=
  ∃ r, e = .returned (.bool r) ∧ SmIs ty B BC w' a g X c P T x'.st x'.d x'.U ∧ Turns (SmS a g X) w w'
section
variable {ty : TypeId}
variable {B BC : Nat → Prop} {w w' : World} {a g : Nat} {X : SmX} {c : CoC} {P T : List Int} {st st' : Co} {d d' : Dr} {U : List Sp} {s' : Ar}
theorem SmIs.put4 (h : SmIs ty B BC w a g X c P T st d U) {n : Nat} (hn : n < T.length) (p' : Sp) : SmIs ty B BC ((((w.setCell ⟨X.q, n * 4, none⟩ (.int .i64 p'.pc)).setCell ⟨X.q, n * 4 + 1, none⟩ (.int .i64 p'.a)).setCell ⟨X.q, n * 4 + 2, none⟩ (.int .i64 p'.b)).setCell ⟨X.q, n * 4 + 3, none⟩ (.int .i64 p'.c)) a g X c P T st d (U.set n p') := by
  have hp := h.thr hn
  obtain ⟨p, e⟩ : ∃ p, p = sv U n := ⟨_, rfl⟩
  rw [← e] at hp
  have h1 := h.put0 hp (u := .int .i64 p'.pc) (p' := ⟨p'.pc, p.a, p.b, p.c⟩) rfl
  have h2 := h1.put (getS_set hp _) (j := 1) (u := .int .i64 p'.a) (p' := ⟨p'.pc, p'.a, p.b, p.c⟩) (by decide) rfl
  have h3 := h2.put (getS_set (getS_set hp _) _) (j := 2) (u := .int .i64 p'.b) (p' := ⟨p'.pc, p'.a, p'.b, p.c⟩) (by decide) rfl
  have h4 := h3.put (getS_set (getS_set (getS_set hp _) _) _) (j := 3) (u := .int .i64 p'.c) (p' := p') (by decide) rfl
  simp only [List.set_set] at h4
  exact h4
theorem smS_q4 (w : World) (n : Nat) (u0 u1 u2 u3 : Value) : Turns (SmS a g X) w ((((w.setCell ⟨X.q, n * 4, none⟩ u0).setCell ⟨X.q, n * 4 + 1, none⟩ u1).setCell ⟨X.q, n * 4 + 2, none⟩ u2).setCell ⟨X.q, n * 4 + 3, none⟩ u3) :=
  (((smS_q _ _).trans (smS_q _ _)).trans (smS_q _ _)).trans (smS_q _ _)
end
section
variable {B BC : Nat → Prop} {w w' : World} {a g : Nat} {X : SmX} {c : CoC} {P T : List Int} {st st' : Co} {d d' : Dr} {U : List Sp} {s' : Ar}
end
end Go.Proofs.YtmlcfmickonfbaaGreat
end
section
set_option linter.unusedVariables false
set_option linter.unusedSimpArgs false
/- Layer 37 (readers): Ask, Leave, over the cohort lock. (printed by gen_sm67.py) -/
namespace Go.Proofs.YtmlcfmickonfbaaGreat
open Go.RowKit

section
variable {B BC : Nat → Prop} {w w' w0 : World} {a g : Nat} {X : SmX} {c : CoC} {P T : List Int} {st st' : Co} {d d' : Dr} {U : List Sp} {s' : Ar} {BB : Int}
set_option maxRecDepth 100000 in
set_option maxHeartbeats 2000000 in
theorem ask_r (h : SmIs 59 B BC w a g X c P T st d U) (n : Nat) (hn : n < T.length) (r : Bool) : Calls Tryz.prog 14 #[.pointer (some ⟨X.l, 0, none⟩), .int .i64 n, .bool r] w (SmAct 59 B BC w a g X c P T (nuAsk c ⟨st, d, U⟩ n r)) := by
  have hok : okI U (n : Int) := ⟨by omega, by rw [h.lU]; omega⟩
  have HH := Lib.hid (has_r h n true (decide_eq_true hok).symm)
  have hp := h.thr hn
  have H := Lib.hid h
  have hx := h.nT
  have HA := Lib.hid (askCo h.co n (by rw [hx.1]; exact hn))
  obtain ⟨x', hx'⟩ : ∃ x, x = nuAsk c ⟨st, d, U⟩ n r := ⟨_, rfl⟩
  rw [← hx']
  unfold nuAsk at hx'
  obtain ⟨p, hpp⟩ : ∃ p, p = sv U n := ⟨_, rfl⟩
  simp only at hx'
  rw [← hpp] at hp hx'
  have c6 := h.cs.2.2.2.2.2.2
  have c5 := h.cs.2.2.2.2.2.1
  have a0 := h.sp.cell hp 0 _ rfl
  have a1 := h.sp.cell hp 1 _ rfl
  have a2 := h.sp.cell hp 2 _ rfl
  have a3 := h.sp.cell hp 3 _ rfl
  have f1 : ∀ j, w.frozen? ⟨X.q, j, none⟩ = false := fun j => h.sp.free j
  simp only [Nat.add_zero] at a0
  have t2 : ¬ (n : Int) < 0 := by omega
  have HX := Lib.hid hx'
  have HP := Lib.hid hp
  clear h hp hpp hok hx hx'
  by_cases hp0 : p.pc = 0
  · have y1 : (p.pc != 0) = false := by simpa using hp0
    have HP0 := Lib.hid hp0
    clear hp0
    cases r
    · go_enter Tryz.func14, Tryz.ntmps14
      go_wp2_with fail
      refine HH.out.mono ?_
      rintro en w1 ⟨rfl, rfl⟩
      go_wp2_with fail
      refine HA.out.mono ?_
      rintro en w2 ⟨rfl, k2, t2'⟩
      have H2 := Lib.hid (H.out.coT t2' k2)
      have T2 := Lib.hid (smS_co t2')
      have d6 := H2.out.cs.2.2.2.2.2.2
      have b0 := H2.out.sp.cell HP.out 0 _ rfl
      have b1 := H2.out.sp.cell HP.out 1 _ rfl
      have b2 := H2.out.sp.cell HP.out 2 _ rfl
      have b3 := H2.out.sp.cell HP.out 3 _ rfl
      have f2 : ∀ j, w2.frozen? ⟨X.q, j, none⟩ = false := fun j => H2.out.sp.free j
      simp only [Nat.add_zero] at b0
      clear k2 t2'
      go_wp2
      go_ret
      rw [HX.out, if_pos HP0.out, if_neg (by decide)]
      exact ⟨_, rfl, H2.out.put4 hn ⟨7, 0, 0, 0⟩, T2.out.trans (smS_q4 _ _ _ _ _ _)⟩
    · go_enter Tryz.func14, Tryz.ntmps14
      go_wp2_with fail
      refine HH.out.mono ?_
      rintro en w1 ⟨rfl, rfl⟩
      go_wp2
      go_ret
      rw [HX.out, if_pos HP0.out]
      exact ⟨_, rfl, H.out.put4 hn ⟨1, 1, 0, 0⟩, smS_q4 _ _ _ _ _ _⟩
  · have y1 : (p.pc != 0) = true := by simpa using hp0
    have HP0 := Lib.hid hp0
    clear hp0
    go_enter Tryz.func14, Tryz.ntmps14
    go_wp2_with fail
    refine HH.out.mono ?_
    rintro en w1 ⟨rfl, rfl⟩
    go_wp2
    go_ret
    rw [HX.out, if_neg HP0.out]
    exact ⟨_, rfl, H.out, Turns.refl _ _⟩
theorem ask_r_out (h : SmIs 59 B BC w a g X c P T st d U) (i : Int) (hok : ¬ okI U i) (r : Bool) : Calls Tryz.prog 14 #[.pointer (some ⟨X.l, 0, none⟩), .int .i64 i, .bool r] w (SmAct 59 B BC w a g X c P T ⟨st, d, U⟩) := by
  have HH := Lib.hid (has_r h i false (decide_eq_false hok).symm)
  have H := Lib.hid h
  clear h hok
  go_enter Tryz.func14, Tryz.ntmps14
  go_wp2_with fail
  refine HH.out.mono ?_
  rintro en w1 ⟨rfl, rfl⟩
  go_wp2
  go_ret
  exact ⟨_, rfl, H.out, Turns.refl _ _⟩
set_option maxRecDepth 100000 in
set_option maxHeartbeats 2000000 in
theorem leave_r (h : SmIs 59 B BC w a g X c P T st d U) (n : Nat) (hn : n < T.length) (ha : (sv U n).pc = 10 → (sv U n).a = 0 ∨ (sv U n).a = 1) : Calls Tryz.prog 9 #[.pointer (some ⟨X.l, 0, none⟩), .int .i64 n] w (SmAct 59 B BC w a g X c P T (nuLeave ⟨st, d, U⟩ n)) := by
  have hfp := field_pc
  have HS0 := spot_r h n
  have hp := h.thr hn
  have hg : getS U (n : Int) = sv U n := by
    unfold getS sv
    rw [if_pos ⟨by omega, by rw [h.lU]; omega⟩, Int.toNat_natCast]
  rw [hg] at HS0
  have H := Lib.hid h
  obtain ⟨x', hx'⟩ : ∃ x, x = nuLeave ⟨st, d, U⟩ n := ⟨_, rfl⟩
  rw [← hx']
  unfold nuLeave at hx'
  obtain ⟨p, hpp⟩ : ∃ p, p = sv U n := ⟨_, rfl⟩
  simp only at hx'
  rw [← hpp] at hp hx' HS0 ha
  have HS := Lib.hid HS0
  have HP := Lib.hid hp
  have t2 : ¬ (n : Int) < 0 := by omega
  have hn32 := h.nT.2.2.1
  clear h hp hpp hg HS0
  obtain ⟨pc, u, b, z⟩ := p
  simp only at ha hx'
  unfold spotV at HS
  by_cases hp0 : pc = 10
  · subst hp0
    have ha' := ha rfl
    rw [if_pos rfl] at hx'
    clear ha
    rcases ha' with rfl | rfl
    · have HX : Hid (x' = ⟨st, d, U.set n ⟨12, 0, b, z⟩⟩) := Lib.hid hx'
      have x1 : IntKind.i64.wrap 12 = 12 := IntWalk.i64_in _ (by omega)
      clear hx'
      go_enter Tryz.func9, Tryz.ntmps9
      go_wp2_with fail
      refine HS.out.mono ?_
      rintro en w1 ⟨rfl, b1⟩
      have K1 := Lib.hid (H.out.below b1)
      have T1 := Lib.hid (Turns.of_below (S := SmS a g X) b1)
      have e0 := K1.out.sp.cell HP.out 0 _ rfl
      have z0 := K1.out.sp.free (n * 4)
      have d6 := K1.out.cs.2.2.2.2.2.2
      have l1 := K1.out.lk.lt
      have l2 := K1.out.sp.lt
      simp only [Nat.add_zero] at e0
      clear b1
      go_wp2
      go_ret
      rw [HX.out]
      exact ⟨_, rfl, (K1.out.put0 HP.out (p' := (⟨12, 0, b, z⟩ : Sp)) rfl).below ((Below.refl _ _).alloc (Nat.le_refl _) _), (T1.out.trans (smS_q _ _)).alloc _⟩
    · have HX : Hid (x' = ⟨st, d, U.set n ⟨11, 1, b, z⟩⟩) := Lib.hid hx'
      have x1 : IntKind.i64.wrap 11 = 11 := IntWalk.i64_in _ (by omega)
      clear hx'
      go_enter Tryz.func9, Tryz.ntmps9
      go_wp2_with fail
      refine HS.out.mono ?_
      rintro en w1 ⟨rfl, b1⟩
      have K1 := Lib.hid (H.out.below b1)
      have T1 := Lib.hid (Turns.of_below (S := SmS a g X) b1)
      have e0 := K1.out.sp.cell HP.out 0 _ rfl
      have z0 := K1.out.sp.free (n * 4)
      have d6 := K1.out.cs.2.2.2.2.2.2
      have l1 := K1.out.lk.lt
      have l2 := K1.out.sp.lt
      simp only [Nat.add_zero] at e0
      clear b1
      go_wp2
      go_ret
      rw [HX.out]
      exact ⟨_, rfl, (K1.out.put0 HP.out (p' := (⟨11, 1, b, z⟩ : Sp)) rfl).below ((Below.refl _ _).alloc (Nat.le_refl _) _), (T1.out.trans (smS_q _ _)).alloc _⟩
  · have y1 : (pc != 10) = true := by simpa using hp0
    have HX := Lib.hid hx'
    have HP0 := Lib.hid hp0
    clear hp0 ha hx'
    go_enter Tryz.func9, Tryz.ntmps9
    go_wp2_with fail
    refine HS.out.mono ?_
    rintro en w1 ⟨rfl, b1⟩
    have HB := Lib.hid b1
    clear b1
    go_wp2
    go_ret
    rw [HX.out, if_neg HP0.out]
    exact ⟨_, rfl, (H.out.below HB.out).below ((Below.refl _ _).alloc (Nat.le_refl _) _), (Turns.of_below HB.out).alloc _⟩
theorem leave_r_out (h : SmIs 59 B BC w a g X c P T st d U) (i : Int) (hok : ¬ okI U i) : Calls Tryz.prog 9 #[.pointer (some ⟨X.l, 0, none⟩), .int .i64 i] w (SmAct 59 B BC w a g X c P T ⟨st, d, U⟩) := by
  have hfp := field_pc
  have HS0 := spot_r h i
  rw [getS_out hok] at HS0
  have HS := Lib.hid HS0
  have H := Lib.hid h
  clear h hok HS0
  unfold spotV Sp.zero at HS
  go_enter Tryz.func9, Tryz.ntmps9
  go_wp2_with fail
  refine HS.out.mono ?_
  rintro en w1 ⟨rfl, b1⟩
  have HB := Lib.hid b1
  clear b1
  go_wp2
  go_ret
  exact ⟨_, rfl, (H.out.below HB.out).below ((Below.refl _ _).alloc (Nat.le_refl _) _), (Turns.of_below HB.out).alloc _⟩
end
end Go.Proofs.YtmlcfmickonfbaaGreat
end
