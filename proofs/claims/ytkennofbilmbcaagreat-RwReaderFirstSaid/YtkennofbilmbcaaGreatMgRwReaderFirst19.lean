/- Joined: Sm4xr, RwLr, RwMr, Ws1, Ws2, Sm4w, Ws3. -/
import Derived.Test.YtkennofbilmbcaaGreatMgRwReaderFirst12
import Derived.Test.YtkennofbilmbcaaGreatMgRwReaderFirst15
import Derived.Test.YtkennofbilmbcaaGreatMgRwReaderFirst16
import Derived.Test.YtkennofbilmbcaaGreatMgRwReaderFirst18
section
set_option linter.unusedVariables false
set_option linter.unusedSimpArgs false
/- Layer 37 (readers): New over the cohort lock, exactly, and that it is all new. (printed by gen_sm4.py) -/
namespace Go.Proofs.YtkennofbilmbcaaGreat
open Go.RowKit

/-- a new lock, and that none of it is older but the arena -/
def NewSm2 (ty : TypeId) (w : World) (a g : Nat) (s : Ar) (kg kl par : Nat) (bud : Int) (P T : List Int) (e : Ending) (w' : World) : Prop :=
  ∃ (B BC : Nat → Prop) (X : SmX), e = .returned (.tuple #[.pointer (some ⟨X.l, 0, none⟩), .int .i64 0]) ∧ SmIs ty B BC w' a g X (coCN kg kl par bud P T (smA s (leavesL P).length)) P T (coStN kg kl par P T (smA s (leavesL P).length)) dr0 (List.replicate T.length Sp.zero) ∧ (∀ i ∈ SmS a g X, i = a ∨ i = g ∨ w.heap.size ≤ i) ∧ Turns [a, g] w w' ∧ ∀ i, i < w.heap.size ∨ w'.heap.size ≤ i → ¬ B i ∧ ¬ CoBlk X.x BC i ∧ i ≠ X.l ∧ i ≠ X.gg

set_option maxRecDepth 100000 in
set_option maxHeartbeats 8000000 in
theorem newS2_r {w : World} {a g : Nat} {s : Ar} (h : ArIs w a g s) (hs : s.W = []) (hag : a ≠ g) (vP vT : Value) (P T : List Int) (hP : RdL w vP 1 encI P) (hT : RdL w vT 1 encI T) (hPa : ∀ i, vP.ownBlock = some i → i ≠ a ∧ i < w.heap.size) (hTa : ∀ i, vT.ownBlock = some i → i ≠ a ∧ i < w.heap.size) (hc : chkT P T = 0) (kg kl : Nat) (hG : KOk kg) (hL : KOk kl) (par : Nat) (hp : 1 ≤ par ∧ par ≤ 4) (bud : Int) (hb : 0 ≤ bud ∧ bud ≤ 3) (hr : s.room = 4096) (ho : s.ops ≤ 1000) :
    Calls Tryz.prog 22 #[.pointer (some ⟨a, 0, none⟩), .agg #[vP, vT], .agg #[.int .i64 (kg : Int), .int .i64 (kl : Int), .int .i64 par, .int .i64 bud]] w fun e w' => NewSm2 89 w a g s kg kl par bud P T e w' := by
  obtain ⟨i0, hi, hz0, hz1, hz2⟩ := info_parts Tryz.infoSpF
  have hml := many_lt (chk_ok hc).1
  have ha0 := h.blk.lt
  have hg0 := h.wds.lt
  obtain ⟨hT1, hT32⟩ : 1 ≤ T.length ∧ T.length ≤ 32 := ⟨hml.2.2.1, hml.2.2.2⟩
  have hN32 : (leavesL P).length ≤ 32 := by
    have := leavesTo_len P P.length
    show (leavesTo P P.length).length ≤ 32; omega
  have hN1 : 1 ≤ (leavesL P).length := by
    obtain ⟨x, hx⟩ := getElem?_lt (show 0 < T.length by omega)
    exact List.length_pos_of_mem (thr_mem (chk_ok hc).2.2.2 hx)
  have HPD := Lib.hid (And.intro hG (And.intro hL (And.intro hp hb)))
  have H := Lib.hid (And.intro h (And.intro ha0 (And.intro hg0 hag)))
  have HRD := Lib.hid (And.intro (And.intro hP hPa) (And.intro hT hTa))
  have HN := Lib.hid (new_yesL ((w.alloc (.cells #[vP, vT] 24)).alloc (.cells #[.int .i64 (kg : Int), .int .i64 (kl : Int), .int .i64 par, .int .i64 bud] 45)) vP vT P T ((hP.alloc _).alloc _) ((hT.alloc _).alloc _) hc)
  have HCK := Lib.hid hc
  have HS := Lib.hid (And.intro hs (And.intro hr ho))
  have hlo : ((w.alloc (.cells #[vP, vT] 24)).alloc (.cells #[.int .i64 (kg : Int), .int .i64 (kl : Int), .int .i64 par, .int .i64 bud] 45)).heap.size = w.heap.size + 2 := by simp
  have B0 := Lib.hid (((Below.refl w.heap.size w).alloc (Nat.le_refl _) (.cells #[vP, vT] 24)).alloc (by simp) (.cells #[.int .i64 (kg : Int), .int .i64 (kl : Int), .int .i64 par, .int .i64 bud] 45))
  have hbx := Blk.new (w.alloc (.cells #[vP, vT] 24)) 45 #[.int .i64 (kg : Int), .int .i64 (kl : Int), .int .i64 par, .int .i64 bud]
  rw [show (w.alloc (.cells #[vP, vT] 24)).heap.size = w.heap.size + 1 by simp] at hbx
  have hbt := (Blk.new w 24 #[vP, vT]).alloc (.cells #[.int .i64 (kg : Int), .int .i64 (kl : Int), .int .i64 par, .int .i64 bud] 45)
  have BX := Lib.hid (And.intro hbx hbt)
  clear h hP hT hPa hTa hs hr ho hml ha0 hg0 hc hbx hbt hG hL hp hb hag
  go_enter Tryz.func22, Tryz.ntmps22
  go_wp2_with fail
  refine HN.out.mono ?_
  rintro en w1 ⟨b, rfl, hb, t1, b1⟩
  rw [hlo] at hb t1 b1
  have tn : Turns [] ((w.alloc (.cells #[vP, vT] 24)).alloc (.cells #[.int .i64 (kg : Int), .int .i64 (kl : Int), .int .i64 par, .int .i64 bud] 45)) w1 := ⟨b1.os, b1.tape, b1.output, b1.size, fun i hi _ => b1.block i (by omega)⟩
  have K1 := Lib.hid (And.intro (t1.q HCK.out) (And.intro (B0.out.trans (b1.mono (by omega))) (And.intro (tn.blk BX.out.1 (by simp)) (And.intro (tn.blk BX.out.2 (by simp)) hb))))
  clear t1 b1 hb HN BX B0 tn
  go_wp2_with fail
  refine (threads_any _ _ _ _ (K1.out.1.tab HCK.out)).mono ?_
  rintro en w1' ⟨rfl, rfl⟩
  go_wp2_with (refine wpList_make_full _ rfl _ _ 75 rfl w1.heap.size 35 i0 (.agg #[.int .i64 0, .int .i64 0, .int .i64 0, .int .i64 0]) 4 Tryz.underlying75 hi hz0 hz1 .i64 .i64 T.length T.length T.length rfl rfl rfl rfl ?b2 ?b3 (Nat.le_refl _) ?_)
  case b2 => rw [hz2]; omega
  case b3 => unfold maxLen; omega
  intro w4 hown hg
  have hb : SpIs w4 w1.heap.size (List.replicate T.length Sp.zero) := by
    unfold SpIs
    rw [qflat_zero]
    have := own_blk hown
    have e : (madeCells #[Value.int .i64 0, .int .i64 0, .int .i64 0, .int .i64 0] (T.length * 4)).toList = List.replicate (T.length * 4) (.int .i64 0) := qmade_const4 _ _
    rw [e] at this
    exact this
  have t4 : Turns [] w1 w4 := Turns.of_below ((Below.refl w1.heap.size w1).grown hg (Nat.le_refl _) (fun j hj => by cases hj))
  have hs4 := hb.lt
  have H4 := Lib.hid (And.intro hb (And.intro t4 hs4))
  clear hown hg hb t4 hs4
  go_upto_region 5 with fail
  obtain ⟨q, hq⟩ : ∃ x, x = w1.heap.size := ⟨_, rfl⟩
  rw [← hq] at H4 ⊢
  have HQ := Lib.hid hq
  clear hq
  obtain ⟨l, hl⟩ : ∃ x, x = w4.heap.size := ⟨_, rfl⟩
  obtain ⟨w5, hw5⟩ : ∃ x, x = w4.alloc (.cells #[.pointer (some ⟨a, 0, none⟩), .pointer (some ⟨b, 0, none⟩), .pointer none, .pointer none, .int .i64 0, .pointer none, .slice (some ⟨q, 0, none⟩) T.length T.length] 89) := ⟨_, rfl⟩
  rw [← hw5, ← hl]
  have HB5 := Lib.hid (show Blk w5 l 89 #[.pointer (some ⟨a, 0, none⟩), .pointer (some ⟨b, 0, none⟩), .pointer none, .pointer none, .int .i64 0, .pointer none, .slice (some ⟨q, 0, none⟩) T.length T.length] from by rw [hw5, hl]; exact Blk.new _ _ _)
  have H5 := Lib.hid (show Turns [] w1 w5 from by rw [hw5]; exact H4.out.2.1.alloc _)
  have HSQ := Lib.hid (show SpIs w5 q (List.replicate T.length Sp.zero) from by rw [hw5]; exact H4.out.1.turns (T := []) ((Turns.refl _ _).alloc _) (by simp))
  have HO := Lib.hid (show a < w.heap.size ∧ g < w.heap.size ∧ a ≠ g ∧ w.heap.size + 2 ≤ b ∧ b < w1.heap.size ∧ w1.heap.size = q ∧ q < l ∧ w5.heap.size = l + 1 from by
    have e1 : b < w1.heap.size := K1.out.1.low.2
    have e2 := K1.out.2.2.2.2
    have e3 := H4.out.2.2
    have e4 := H.out
    have e5 := HQ.out
    rw [hw5, hl]
    simp
    omega)
  have HPC : Hid (∀ W, Turns [l, b, a] w5 W → (W.cell? ⟨w.heap.size + 1, 0, none⟩ = some (.int .i64 (kg : Int)) ∧ W.cell? ⟨w.heap.size + 1, 1, none⟩ = some (.int .i64 (kl : Int)) ∧ W.cell? ⟨w.heap.size + 1, 2, none⟩ = some (.int .i64 par) ∧ W.cell? ⟨w.heap.size + 1, 3, none⟩ = some (.int .i64 bud)) ∧ (W.cell? ⟨w.heap.size, 0, none⟩ = some vP ∧ W.cell? ⟨w.heap.size, 1, none⟩ = some vT) ∧ RdL W vP 1 encI P ∧ RdL W vT 1 encI T) := Lib.hid fun W hW => by
    have o := HO.out
    have t : Turns [l, b, a] w1 W := (H5.out.mono (by simp)).trans hW
    have n : w.heap.size + 1 ∉ [l, b, a] := by simp; omega
    have n2 : w.heap.size ∉ [l, b, a] := by simp; omega
    have b1 := t.blk K1.out.2.2.1 n
    have b2 := t.blk K1.out.2.2.2.1 n2
    refine ⟨⟨b1.cell 0, b1.cell 1, b1.cell 2, b1.cell 3⟩, ⟨b2.cell 0, b2.cell 1⟩, ?_, ?_⟩
    · exact (HRD.out.1.1.below K1.out.2.1 (Nat.le_refl _)).turns t fun i hi hm => by
        have := HRD.out.1.2 i hi
        simp at hm
        omega
    · exact (HRD.out.2.1.below K1.out.2.1 (Nat.le_refl _)).turns t fun i hi hm => by
        have := HRD.out.2.2 i hi
        simp at hm
        omega
  obtain ⟨N, hN⟩ : ∃ N, N = (leavesL P).length := ⟨_, rfl⟩
  rw [← hN] at hN32 hN1
  have HNo0 := nodesFstQ (fun i => w.heap.size + 2 ≤ i ∧ i < w1.heap.size) w5 b P T HCK.out (K1.out.1.turns H5.out (by simp))
  rw [← hN] at HNo0
  have HNo := Lib.hid HNo0
  have HNN := Lib.hid hN
  have HA5 := Lib.hid ((H.out.1.turns (Turns.of_below (S := []) K1.out.2.1) (by simp) (by simp)).turns H5.out (by simp) (by simp))
  clear hw5 hl hN HNo0 H4
  go_wp2_with fail
  refine HNo.out.mono ?_
  rintro en w6 ⟨rfl, t6, n6⟩
  have Q6 := Lib.hid (And.intro t6.lt n6)
  have HA6 := Lib.hid (HA5.out.turns n6 (by have := HO.out; simp; omega) (by have := HO.out; simp; omega))
  clear t6 n6
  go_wp2_with fail
  refine (gaugeNew HA6.out N hN1 hN32 HS.out.1 HS.out.2.1).mono ?_
  rintro en w7 ⟨gg, rfl, hgg, hgb, hga, t7⟩
  have hnl : l ∉ [a] := by have := HO.out; simp; omega
  have bl7 : Blk w7 l 89 _ := t7.blk (Q6.out.2.blk HB5.out (by have := HO.out; simp; omega)) hnl
  have c72 : w7.cell? ⟨l, 2, none⟩ = some (.pointer none) := bl7.cell 2
  have z72 := bl7.free 2
  have H7 := Lib.hid (And.intro hgg (And.intro hgb (And.intro hga t7)))
  have HB7 := Lib.hid bl7
  clear hgg hgb hga t7 bl7
  go_upto_region 6 with fail
  obtain ⟨w8, hw8⟩ : ∃ W, W = w7.setCell ⟨l, 2, none⟩ (.pointer (some ⟨gg, 0, none⟩)) := ⟨_, rfl⟩
  rw [← hw8]
  have hl7 : l < w7.heap.size := HB7.out.lt
  have hgg6 : l < gg := by
    have e1 := Q6.out.2.size
    have e2 := H7.out.1
    have e3 := HO.out
    omega
  have t78 : Turns [l] w7 w8 := by rw [hw8]; exact (Turns.refl _ _).setCell (.inl (by simp)) _
  have HB8 := Lib.hid (show Blk w8 l 89 #[.pointer (some ⟨a, 0, none⟩), .pointer (some ⟨b, 0, none⟩), .pointer (some ⟨gg, 0, none⟩), .pointer none, .int .i64 0, .pointer none, .slice (some ⟨q, 0, none⟩) T.length T.length] from by rw [hw8]; exact HB7.out.set_ 2 _)
  have HA8 := Lib.hid (H7.out.2.2.1.turns t78 (by have := HO.out; simp; omega) (by have := HO.out; simp; omega))
  have HG8 := Lib.hid (t78.blk H7.out.2.1 (by simp; omega))
  have HT8 := Lib.hid (show Turns [l, b, a] w5 w8 from ((Q6.out.2.mono (by simp)).trans (H7.out.2.2.2.mono (by simp))).trans (t78.mono (by simp)))
  have hlen8 : (takeS s (2 * N)).W.length = 2 * N := by unfold takeS; rw [HS.out.1]; simp
  have hl8 : l < w8.heap.size := HB8.out.lt
  have H78 := Lib.hid t78
  clear hw8 c72 z72 t78
  have HTk0 := takeY HA8.out 1 (by rw [hlen8]; show 2 * N + 1 ≤ s.room; rw [HS.out.2.1]; omega)
  rw [hlen8] at HTk0
  have HTk := Lib.hid HTk0
  clear HTk0
  go_wp2_with fail
  refine HTk.out.mono ?_
  rintro en w9 ⟨rfl, k9, t9⟩
  have bl9 : Blk w9 l 89 _ := t9.blk HB8.out hnl
  have c94 : w9.cell? ⟨l, 4, none⟩ = some (.int .i64 0) := bl9.cell 4
  have z94 := bl9.free 4
  have H9 := Lib.hid (And.intro k9 (And.intro t9 bl9))
  clear k9 t9 bl9
  go_upto_region 9 with fail
  obtain ⟨fl, hfl⟩ : ∃ f : Int, f = 2 * (N : Int) + 1 := ⟨_, rfl⟩
  have hfl2 : ((2 * N : Nat) : Int) + 1 = fl := by omega
  obtain ⟨w10, hw10⟩ : ∃ W, W = w9.setCell ⟨l, 4, none⟩ (.int .i64 fl) := ⟨_, rfl⟩
  rw [← hfl, ← hw10]
  have t910 : Turns [l] w9 w10 := by rw [hw10]; exact (Turns.refl _ _).setCell (.inl (by simp)) _
  have HB10 := Lib.hid (show Blk w10 l 89 #[.pointer (some ⟨a, 0, none⟩), .pointer (some ⟨b, 0, none⟩), .pointer (some ⟨gg, 0, none⟩), .pointer none, .int .i64 fl, .pointer none, .slice (some ⟨q, 0, none⟩) T.length T.length] from by rw [hw10]; exact H9.out.2.2.set_ 4 _)
  have HT10 := Lib.hid (show Turns [l, a] w8 w10 from (H9.out.2.1.mono (by simp)).trans (t910.mono (by simp)))
  have HA10 := Lib.hid (H9.out.1.turns t910 (by have := HO.out; simp; omega) (by have := HO.out; simp; omega))
  have HPC10 := Lib.hid (HPC.out w10 (HT8.out.trans (HT10.out.mono (by simp))))
  have hlen1 : (takeS (takeS s (2 * N)) 1).W.length = 2 * N + 1 := by
    show ((takeS s (2 * N)).W ++ _).length = _
    rw [List.length_append, hlen8]; simp
  have HCo := Lib.hid (cohortNewX HA10.out vP vT P T HPC10.out.2.2.1 HPC10.out.2.2.2 HCK.out kg kl HPD.out.1 HPD.out.2.1 par HPD.out.2.2.1 bud (by have := HPD.out.2.2.2; omega) (by
    show _ ≤ s.room
    rw [hlen1, HS.out.2.1]; omega) (by rw [hlen1]; omega) (by show s.ops + 100 ≤ _; have := HS.out.2.2; omega))
  obtain ⟨⟨p0, p1, p2, p3⟩, ⟨y0, y1⟩, _⟩ := HPC10.out
  have HF := Lib.hid hfl
  clear hw10 c94 z94 t910 hfl hfl2 HTk
  go_wp2_with fail
  refine HCo.out.mono ?_
  rintro en w11 ⟨xc, BC, rfl, k11, m11, t11⟩
  have hnl2 : l ∉ [a, g] := by have := HO.out; simp; omega
  have bl11 : Blk w11 l 89 _ := t11.blk HB10.out hnl2
  have c115 : w11.cell? ⟨l, 5, none⟩ = some (.pointer none) := bl11.cell 5
  have z115 := bl11.free 5
  have H11 := Lib.hid (And.intro k11 (And.intro m11 (And.intro t11 bl11)))
  clear k11 m11 t11 bl11 p0 p1 p2 p3 y0 y1 HCo
  go_upto_region 12 with fail
  obtain ⟨w12, hw12⟩ : ∃ W, W = w11.setCell ⟨l, 5, none⟩ (.pointer (some ⟨xc.l, 0, none⟩)) := ⟨_, rfl⟩
  rw [← hw12]
  have t1112 : Turns [l] w11 w12 := by rw [hw12]; exact (Turns.refl _ _).setCell (.inl (by simp)) _
  have HB12 := Lib.hid (show Blk w12 l 89 #[.pointer (some ⟨a, 0, none⟩), .pointer (some ⟨b, 0, none⟩), .pointer (some ⟨gg, 0, none⟩), .pointer none, .int .i64 fl, .pointer (some ⟨xc.l, 0, none⟩), .slice (some ⟨q, 0, none⟩) T.length T.length] from by rw [hw12]; exact H11.out.2.2.2.set_ 5 _)
  have HT12 := Lib.hid (show Turns [l, a, g] w8 w12 from ((HT10.out.mono (by simp)).trans (H11.out.2.2.1.mono (by simp))).trans (t1112.mono (by simp)))
  have hcol : ¬ CoBlk xc BC l := fun hb => by
    have e1 := H11.out.2.1 l hb
    have e2 := HB10.out.lt
    omega
  have HC12 := Lib.hid (H11.out.1.arAway t1112 (s' := (coStN kg kl par P T (takeS (takeS s (2 * N)) 1)).s) (H11.out.1.ar.turns t1112 (by have := HO.out; simp; omega) (by have := HO.out; simp; omega)) (fun i hi => .inr (.inr (by simp at hi; rw [hi]; exact hcol))))
  have HS12 := Lib.hid (show w11.heap.size ≤ w12.heap.size from t1112.size)
  have g2 : w12.cell? ⟨l, 2, none⟩ = some (.pointer (some ⟨gg, 0, none⟩)) := HB12.out.cell 2
  have hl12 : l < w12.heap.size := HB12.out.lt
  clear hw12 c115 z115 t1112
  go_wp2_with fail
  refine (drNewX w12 gg).mono ?_
  rintro en w13 ⟨dd, rfl, b13, bd13, hdd⟩
  have bl13 : Blk w13 l 89 _ := HB12.out.below b13 hl12
  have c133 : w13.cell? ⟨l, 3, none⟩ = some (.pointer none) := bl13.cell 3
  have z133 := bl13.free 3
  have H13 := Lib.hid (And.intro b13 (And.intro bl13 (And.intro bd13 hdd)))
  clear b13 bl13 bd13 hdd g2
  go_wp2
  go_ret2
  have o := HO.out
  obtain ⟨w14, hw14⟩ : ∃ W, W = w13.setCell ⟨l, 3, none⟩ (.pointer (some ⟨dd, 0, none⟩)) := ⟨_, rfl⟩
  rw [← hw14]
  have t1214 : Turns [l] w12 w14 := by rw [hw14]; exact (Turns.of_below H13.out.1).trans ((Turns.refl _ _).setCell (.inl (by simp)) _)
  have HB14 : Blk w14 l 89 #[.pointer (some ⟨a, 0, none⟩), .pointer (some ⟨b, 0, none⟩), .pointer (some ⟨gg, 0, none⟩), .pointer (some ⟨dd, 0, none⟩), .int .i64 fl, .pointer (some ⟨xc.l, 0, none⟩), .slice (some ⟨q, 0, none⟩) T.length T.length] := by rw [hw14]; exact H13.out.2.1.set_ 3 _
  have t814 : Turns [l, a, g] w8 w14 := HT12.out.trans (t1214.mono (by simp))
  have t614 : Turns [l, a, g] w6 w14 := ((H7.out.2.2.2.mono (by simp)).trans (show Turns [l, a, g] w7 w8 from by
    refine Turns.mono ?_ (S := [l]) (by simp)
    exact H78.out)).trans t814
  have hdd := H13.out.2.2.2
  have s1011 := H11.out.2.2.1.size
  have s1112 := HS12.out
  have s8' := HT8.out.size
  have s10' := HT10.out.size
  have s67 := H7.out.2.2.2.size
  have s78 := H78.out.size
  have g7 := H7.out.2.1.lt
  have s56 := Q6.out.2.size
  have hggl := H7.out.1
  have tdd : Turns [l] w13 w14 := by rw [hw14]; exact (Turns.refl _ _).setCell (.inl (by simp)) _
  have bdd := tdd.blk H13.out.2.2.1 (by simp; omega)
  have hco14 := HC12.out.arAway t1214 (s' := (coStN kg kl par P T (takeS (takeS s (2 * N)) 1)).s) (HC12.out.ar.turns t1214 (by simp; omega) (by simp; omega)) (fun i hi => .inr (.inr (by simp at hi; rw [hi]; exact hcol)))
  have hcb : ∀ i, CoBlk xc BC i → w10.heap.size ≤ i ∧ i < w11.heap.size := H11.out.2.1
  have hcs : ∀ i ∈ CoS a g xc, i = a ∨ i = g ∨ (w10.heap.size ≤ i ∧ i < w11.heap.size) := fun i hi => by
    unfold CoS at hi
    simp only [List.mem_cons] at hi
    rcases hi with rfl | rfl | rfl | rfl | hi
    · exact .inl rfl
    · exact .inr (.inl rfl)
    · exact .inr (.inr (hcb _ (.inr (.inr (.inl rfl)))))
    · exact .inr (.inr (hcb _ (.inr (.inr (.inr (.inl (.inr (.inr rfl))))))))
    · obtain ⟨y, hy, rfl⟩ := List.mem_map.1 hi
      exact .inr (.inr (hcb _ (.inr (.inr (.inr (.inr (.inl ⟨y, hy, .inr (.inr rfl)⟩)))))))
  have hnb : ∀ q, ¬ (w10.heap.size ≤ q ∧ q < w11.heap.size) → ¬ CoBlk xc BC q := fun q hq hb => hq (hcb q hb)
  have nBq : ¬ (((w.heap.size + 2 ≤ q ∧ q < w1.heap.size) ∨ w5.heap.size ≤ q) ∧ q < w6.heap.size) := by omega
  have nBd : ¬ (((w.heap.size + 2 ≤ dd ∧ dd < w1.heap.size) ∨ w5.heap.size ≤ dd) ∧ dd < w6.heap.size) := by omega
  have s1214 := t1214.size
  have s614 := t614.size
  have s814 := t814.size
  have l14 := HB14.lt
  refine ⟨fun i => ((w.heap.size + 2 ≤ i ∧ i < w1.heap.size) ∨ w5.heap.size ≤ i) ∧ i < w6.heap.size, BC, ⟨l, q, b, gg, dd, xc⟩, rfl, ?_, fun i hi => ?_, ?_, fun i hi => ⟨by show ¬ (_ ∧ _); omega, hnb i (by omega), by show i ≠ l; omega, by show i ≠ gg; omega⟩⟩
  · refine ⟨?_, ⟨?_, ?_, bdd, by show (leavesL P).length ≤ 32; rw [← HNN.out]; exact hN32, ⟨by show dd ≠ a; omega, by show dd ≠ g; omega, by show dd ≠ gg; omega⟩, ⟨by show gg ≠ a; omega, by show gg ≠ g; omega⟩⟩, ?_, ?_, ?_, by simp, fun i hi => ?_, ⟨hnb q (by omega), hnb dd (by omega)⟩, ⟨by show q ≠ l; omega, by show q ≠ gg; omega, by show q ≠ dd; omega, nBq⟩, ⟨by show dd ≠ l; omega, by show dd ≠ gg; omega, nBd⟩⟩
    · show Blk w14 l _ (smC a ⟨l, q, b, gg, dd, xc⟩ (leavesL P).length T.length)
      rw [← HNN.out]
      unfold smC
      show Blk w14 l _ #[.pointer (some ⟨a, 0, none⟩), .pointer (some ⟨b, 0, none⟩), .pointer (some ⟨gg, 0, none⟩), .pointer (some ⟨dd, 0, none⟩), .int .i64 (2 * (N : Int) + 1), .pointer (some ⟨xc.l, 0, none⟩), .slice (some ⟨q, 0, none⟩) T.length T.length]
      have FL : fl = 2 * (N : Int) + 1 := HF.out
      rw [← FL]; exact HB14
    · rw [← HNN.out]; exact hco14.ar
    · rw [← HNN.out]; exact t814.blk HG8.out (by simp; omega)
    · exact Q6.out.1.turns t614 fun i hi hB => by simp at hi; omega
    · exact ⟨[], by rw [List.append_nil]; exact (show Blk w14 q _ _ from (HSQ.out.turns (HT8.out) (by simp; omega)).turns t814 (by simp; omega))⟩
    · rw [← HNN.out]; exact hco14
    · have hq := hcs i hi
      refine ⟨?_, ?_, ?_, ?_, ?_⟩
      · show i ≠ l; omega
      · show i ≠ q; omega
      · show i ≠ gg; omega
      · show i ≠ dd; omega
      · show ¬ (_ ∧ _); omega
  · unfold SmS at hi
    simp only [List.mem_cons] at hi
    rcases hi with hi | hi | hi
    · right; right; rw [hi]; show w.heap.size ≤ q; omega
    · right; right; rw [hi]; show w.heap.size ≤ dd; omega
    · have hq := hcs i hi
      omega
  · have t05 : Turns [a, g, l, b] w w5 := (Turns.of_below (S := [a, g, l, b]) K1.out.2.1).trans (H5.out.mono (by simp))
    have t014 : Turns [a, g, l, b] w w14 := (t05.trans (HT8.out.mono (by intro i hi; simp at hi ⊢; omega))).trans (t814.mono (by intro i hi; simp at hi ⊢; omega))
    exact t014.fresh fun i hi => by simp at hi ⊢; omega
end Go.Proofs.YtkennofbilmbcaaGreat
end
section
set_option linter.unusedVariables false
set_option linter.unusedSimpArgs false
/- Layer 39 (rw): a lock of readers and writers over readers: its methods, New, and the law's helpers. (printed by gen_rw.py) -/
namespace Go.Proofs.YtkennofbilmbcaaGreat
open Go.RowKit

section
variable {B BC : Nat → Prop} {w w' w0 : World} {a g q : Nat} {X : SmX} {c : CoC} {P T : List Int} {st st' : Co} {d d' : Dr} {U : List Sp} {L M : Nat} {BB : Int} {x : Nu}
theorem rmade_r (hb : Blk w q 55 #[.int .i64 2, .iface 59 (.pointer (some ⟨X.l, 0, none⟩))]) : Calls Tryz.prog 20 #[.pointer (some ⟨q, 0, none⟩)] w fun e w' => e = .returned (.bool true) ∧ w = w' := by
  have c0 : w.cell? ⟨q, 0, none⟩ = some (.int .i64 2) := hb.cell 0
  clear hb
  go_enter Tryz.func20, Tryz.ntmps20
  go_wp2
  go_ret
  exact ⟨rfl, rfl⟩
set_option maxHeartbeats 1000000 in
theorem rspot_r (hb0 : Blk w q 55 #[.int .i64 2, .iface 59 (.pointer (some ⟨X.l, 0, none⟩))]) (h : SmIs 89 B BC w a g X c P T st d U) (i : Int) : Calls Tryz.prog 8 #[.pointer (some ⟨q, 0, none⟩), .int .i64 i] w fun e w' => e = .returned (spotV (getS U i)) ∧ Below w.heap.size w w' := by
  have hx := hb0.lt
  have b1 := (Below.refl w.heap.size w).alloc (Nat.le_refl _) (.cells #[.int .i64 0, .int .i64 0, .int .i64 0, .int .i64 0] 35)
  have h1 := hb0.below b1 hx
  have c1 : (w.alloc (.cells #[.int .i64 0, .int .i64 0, .int .i64 0, .int .i64 0] 35)).cell? ⟨q, 1, none⟩ = some (.iface 59 (.pointer (some ⟨X.l, 0, none⟩))) := h1.cell 1
  have HM := Lib.hid (rmade_r h1)
  have HS0 := spot_r (h.below b1) i
  obtain ⟨p, hp⟩ : ∃ p, p = getS U i := ⟨_, rfl⟩
  rw [← hp] at HS0 ⊢
  have HS := Lib.hid HS0
  have HB := Lib.hid b1
  clear h h1 hb0 b1 hp HS0
  go_enter Tryz.func8, Tryz.ntmps8
  go_wp2_with fail
  refine HM.out.mono ?_
  rintro en w1 ⟨rfl, rfl⟩
  go_wp2_with fail
  refine HS.out.mono ?_
  rintro en w2 ⟨rfl, b2⟩
  have hs : w.heap.size < w2.heap.size := by have := b2.size; simp at this; omega
  have hb : Blk w2 w.heap.size 35 #[.int .i64 0, .int .i64 0, .int .i64 0, .int .i64 0] := Turns.blk (S := []) (Turns.of_below b2) (Blk.new w 35 #[.int .i64 0, .int .i64 0, .int .i64 0, .int .i64 0]) (by simp)
  have z0 := hb.cell 0
  have z1 := hb.cell 1
  have z2 := hb.cell 2
  have z3 := hb.cell 3
  have f0 := hb.free 0
  have f1 := hb.free 1
  have f2 := hb.free 2
  have f3 := hb.free 3
  have H2 := Lib.hid (And.intro b2 hb)
  clear b2 hb
  obtain ⟨pc, u, b, z⟩ := p
  unfold spotV
  go_wp2
  exact bodyPost_ret (results_cell_row (by rfl) _ _ w.heap.size 35 _ (0, 0) _ (by rfl) (by exact ((((H2.out.2.set_ 0 _).set_ 1 _).set_ 2 _).set_ 3 _)) Tryz.underlying35 rfl (by kernel_rfl)) rfl ⟨rfl, ((((HB.out.trans (H2.out.1.mono (by simp))).setCell (Nat.le_refl _) _).setCell (Nat.le_refl _) _).setCell (Nat.le_refl _) _).setCell (Nat.le_refl _) _⟩
theorem rstep_r (hb : Blk w q 55 #[.int .i64 2, .iface 59 (.pointer (some ⟨X.l, 0, none⟩))]) (i : Int) {y : Nu} (hD : Calls Tryz.prog 159 #[.pointer (some ⟨X.l, 0, none⟩), .int .i64 i] w (SmAct 89 B BC w a g X c P T y)) : Calls Tryz.prog 14 #[.pointer (some ⟨q, 0, none⟩), .int .i64 i] w (SmAct 89 B BC w a g X c P T y) := by
  have HM := Lib.hid (rmade_r hb)
  have c1 : w.cell? ⟨q, 1, none⟩ = some (.iface 59 (.pointer (some ⟨X.l, 0, none⟩))) := hb.cell 1
  have H2 := Lib.hid hD
  clear hb hD
  go_enter Tryz.func14, Tryz.ntmps14
  go_wp2_with fail
  refine HM.out.mono ?_
  rintro en w1 ⟨rfl, rfl⟩
  go_wp2_with fail
  refine H2.out.mono ?_
  rintro en w2 ⟨r, rfl, k2, t2⟩
  have H3 := Lib.hid (And.intro k2 t2)
  clear k2 t2
  go_wp2
  go_ret
  exact ⟨r, rfl, H3.out.1, H3.out.2⟩
theorem rleave_r (hb : Blk w q 55 #[.int .i64 2, .iface 59 (.pointer (some ⟨X.l, 0, none⟩))]) (i : Int) {y : Nu} (hD : Calls Tryz.prog 156 #[.pointer (some ⟨X.l, 0, none⟩), .int .i64 i] w (SmAct 89 B BC w a g X c P T y)) : Calls Tryz.prog 15 #[.pointer (some ⟨q, 0, none⟩), .int .i64 i] w (SmAct 89 B BC w a g X c P T y) := by
  have HM := Lib.hid (rmade_r hb)
  have c1 : w.cell? ⟨q, 1, none⟩ = some (.iface 59 (.pointer (some ⟨X.l, 0, none⟩))) := hb.cell 1
  have H2 := Lib.hid hD
  clear hb hD
  go_enter Tryz.func15, Tryz.ntmps15
  go_wp2_with fail
  refine HM.out.mono ?_
  rintro en w1 ⟨rfl, rfl⟩
  go_wp2_with fail
  refine H2.out.mono ?_
  rintro en w2 ⟨r, rfl, k2, t2⟩
  have H3 := Lib.hid (And.intro k2 t2)
  clear k2 t2
  go_wp2
  go_ret
  exact ⟨r, rfl, H3.out.1, H3.out.2⟩
theorem rask_r (hb : Blk w q 55 #[.int .i64 2, .iface 59 (.pointer (some ⟨X.l, 0, none⟩))]) (i : Int) (rd : Bool) {y : Nu} (hD : Calls Tryz.prog 155 #[.pointer (some ⟨X.l, 0, none⟩), .int .i64 i, .bool rd] w (SmAct 89 B BC w a g X c P T y)) : Calls Tryz.prog 13 #[.pointer (some ⟨q, 0, none⟩), .int .i64 i, .bool rd] w (SmAct 89 B BC w a g X c P T y) := by
  have HM := Lib.hid (rmade_r hb)
  have c1 : w.cell? ⟨q, 1, none⟩ = some (.iface 59 (.pointer (some ⟨X.l, 0, none⟩))) := hb.cell 1
  have H2 := Lib.hid hD
  clear hb hD
  go_enter Tryz.func13, Tryz.ntmps13
  go_wp2_with fail
  refine HM.out.mono ?_
  rintro en w1 ⟨rfl, rfl⟩
  go_wp2_with fail
  refine H2.out.mono ?_
  rintro en w2 ⟨r, rfl, k2, t2⟩
  have H3 := Lib.hid (And.intro k2 t2)
  clear k2 t2
  go_wp2
  go_ret
  exact ⟨r, rfl, H3.out.1, H3.out.2⟩
/-- a lock of a mode, and what lies around it -/
structure RwStR (w0 w : World) (B BC : Nat → Prop) (a g q : Nat) (X : SmX) (c : CoC) (P T : List Int) (L : Nat) (x : Nu) (BB : Int) (M : Nat) : Prop where
  s : SmStR w0 w B BC a g X c P T L x BB M
  b : Blk w q 55 #[.int .i64 2, .iface 59 (.pointer (some ⟨X.l, 0, none⟩))]
  ql : w0.heap.size ≤ q
  qn : q ∉ SmS a g X
theorem RwStR.below (h : RwStR w0 w B BC a g q X c P T L x BB M) (k : Below w.heap.size w w') : RwStR w0 w' B BC a g q X c P T L x BB M := ⟨h.s.below k, h.b.below k h.b.lt, h.ql, h.qn⟩
theorem RwStR.act (h : RwStR w0 w B BC a g q X c P T L x BB M) (hk : NuK c T.length (leavesL P).length L (mtQ P T)) (hB : 40 ≤ BB ∧ BB ≤ 10000000000) {kd i : Int} (k : SmIs 89 B BC w' a g X c P T (actRs c (leavesL P).length x kd i).st (actRs c (leavesL P).length x kd i).d (actRs c (leavesL P).length x kd i).U) (t : Turns (SmS a g X) w w') :
    RwStR w0 w' B BC a g q X c P T L (actRs c (leavesL P).length x kd i) (BB + 4) (M + 1) := ⟨(h.s.act hk hB k t).1, t.blk h.b h.qn, h.ql, h.qn⟩
theorem RwStR.up (h : RwStR w0 w B BC a g q X c P T L x BB M) {BB' : Int} {M' : Nat} (h1 : BB ≤ BB') (h2 : M ≤ M') : RwStR w0 w B BC a g q X c P T L x BB' M' := ⟨⟨h.s.is, ⟨h.s.s.i, h.s.s.ok.mono h1, h.s.s.dok⟩, h.s.bel, h.s.hl, by have := h.s.op; omega⟩, h.b, h.ql, h.qn⟩
set_option maxHeartbeats 1000000 in
theorem rdo_r (h : RwStR w0 w B BC a g q X c P T L x BB M) (hk : NuK c T.length (leavesL P).length L (mtQ P T)) (hB : 40 ≤ BB ∧ BB ≤ 10000000000) (ho : M + 1 ≤ 1000000000000) (kd i : Int) :
    Calls Tryz.prog 9 #[.pointer (some ⟨q, 0, none⟩), .agg #[.int .i64 kd, .int .i64 i]] w fun e w' => (∃ r, e = .returned (.bool r)) ∧ RwStR w0 w' B BC a g q X c P T L (actRs c (leavesL P).length x kd i) (BB + 4) (M + 1) ∧ Turns (SmS a g X) w w' := by
  have hd : Below w.heap.size w (w.alloc (.cells #[.int .i64 kd, .int .i64 i] 33)) := (Below.refl _ _).alloc (Nat.le_refl _) _
  have HW := Lib.hid (h.below hd)
  have HT := Lib.hid (Turns.of_below (S := SmS a g X) hd)
  have HK := Lib.hid (And.intro hk hB)
  have ho' : x.st.s.ops + 1 ≤ 1000000000000 := by have := h.s.op; omega
  clear h hd hk hB
  by_cases k0 : kd = 0
  · subst k0
    go_enter Tryz.func9, Tryz.ntmps9
    go_wp2_with fail
    refine (rstep_r HW.out.b i (stepI_r HW.out.s.is HW.out.s.s HK.out.1 HK.out.2 ho' i)).mono ?_
    rintro en w1 ⟨b, rfl, h1, h4⟩
    have H1 := Lib.hid (And.intro (HW.out.act HK.out.1 HK.out.2 h1 h4) (HT.out.trans h4))
    clear h1 h4
    go_wp2
    go_ret
    exact ⟨⟨_, rfl⟩, H1.out.1, H1.out.2⟩
  have u0 : (kd == 0) = false := by simpa using k0
  by_cases k1 : kd = 1
  · subst k1
    clear k0 u0
    go_enter Tryz.func9, Tryz.ntmps9
    go_wp2_with fail
    refine (rask_r HW.out.b i false (askFI_r HW.out.s.is HW.out.s.s HK.out.1 HK.out.2 ho' i)).mono ?_
    rintro en w1 ⟨b, rfl, h1, h4⟩
    have H1 := Lib.hid (And.intro (HW.out.act HK.out.1 HK.out.2 h1 h4) (HT.out.trans h4))
    clear h1 h4
    go_wp2
    go_ret
    exact ⟨⟨_, rfl⟩, H1.out.1, H1.out.2⟩
  have u1 : (kd == 1) = false := by simpa using k1
  by_cases k2 : kd = 2
  · subst k2
    clear k0 k1 u0 u1
    go_enter Tryz.func9, Tryz.ntmps9
    go_wp2_with fail
    refine (rleave_r HW.out.b i (leaveI_r HW.out.s.is HW.out.s.s HK.out.1 HK.out.2 ho' i)).mono ?_
    rintro en w1 ⟨b, rfl, h1, h4⟩
    have H1 := Lib.hid (And.intro (HW.out.act HK.out.1 HK.out.2 h1 h4) (HT.out.trans h4))
    clear h1 h4
    go_wp2
    go_ret
    exact ⟨⟨_, rfl⟩, H1.out.1, H1.out.2⟩
  have u2 : (kd == 2) = false := by simpa using k2
  by_cases k3 : kd = 3
  · subst k3
    clear k0 k1 k2 u0 u1 u2
    go_enter Tryz.func9, Tryz.ntmps9
    go_wp2_with fail
    refine (rask_r HW.out.b i true (askTI_r HW.out.s.is HW.out.s.s HK.out.1 HK.out.2 ho' i)).mono ?_
    rintro en w1 ⟨b, rfl, h1, h4⟩
    have H1 := Lib.hid (And.intro (HW.out.act HK.out.1 HK.out.2 h1 h4) (HT.out.trans h4))
    clear h1 h4
    go_wp2
    go_ret
    exact ⟨⟨_, rfl⟩, H1.out.1, H1.out.2⟩
  have u3 : (kd == 3) = false := by simpa using k3
  have e : actRs c (leavesL P).length x kd i = x := by
    unfold actRs
    rw [if_neg k0, if_neg k1, if_neg k2, if_neg k3]
    split <;> rfl
  rw [e]
  clear e k0 k1 k2 k3
  go_enter Tryz.func9, Tryz.ntmps9
  go_wp2
  go_ret
  exact ⟨⟨_, rfl⟩, HW.out.up (by omega) (by omega), HT.out⟩
end
/-- a store into a block that is none of the lock's -/
theorem SmIs.foreign {ty : TypeId} {B BC : Nat → Prop} {w : World} {a g q : Nat} {X : SmX} {c : CoC} {P T : List Int} {st : Co} {d : Dr} {U : List Sp} (h : SmIs ty B BC w a g X c P T st d U) (h1 : ¬ B q ∧ ¬ CoBlk X.x BC q ∧ q ≠ X.l ∧ q ≠ X.gg) (h2 : q ∉ SmS a g X) (i : Nat) (u : Value) : SmIs ty B BC (w.setCell ⟨q, i, none⟩ u) a g X c P T st d U := by
  unfold SmS CoS at h2
  simp only [List.mem_cons, not_or] at h2
  have t : Turns [q] w (w.setCell ⟨q, i, none⟩ u) := turns_q _ _ _
  have hA := h.gd.ar.turns t (by simp; exact fun e => h2.2.2.1 e.symm) (by simp; exact fun e => h2.2.2.2.1 e.symm)
  have k := h.co.arAway t (s' := st.s) hA (fun j hj => .inr (.inr (by simp at hj; rw [hj]; exact h1.2.1)))
  exact { h with lk := t.blk h.lk (by simp; exact fun e => h1.2.2.1 e.symm), gd := { h.gd with ar := hA, ga := t.blk h.gd.ga (by simp; exact fun e => h1.2.2.2 e.symm), dr := t.blk h.gd.dr (by simp; exact fun e => h2.2.1 e.symm) }, tb := h.tb.turns t (fun j hj => by simp at hj; rw [hj]; exact h1.1), sp := h.sp.turns t (by simp; exact fun e => h2.1 e.symm), co := k }
/-- a new lock of the mode -/
def RwNewR (w : World) (a g : Nat) (s : Ar) (kg kl par : Nat) (bud : Int) (P T : List Int) (e : Ending) (w' : World) : Prop :=
  ∃ (q : Nat) (B BC : Nat → Prop) (X : SmX), e = .returned (.tuple #[.pointer (some ⟨q, 0, none⟩), .int .i64 0]) ∧ SmIs 89 B BC w' a g X (coCN kg kl par bud P T (smA s (leavesL P).length)) P T (coStN kg kl par P T (smA s (leavesL P).length)) dr0 (List.replicate T.length Sp.zero) ∧ (∀ i ∈ SmS a g X, i = a ∨ i = g ∨ w.heap.size ≤ i) ∧ Turns [a, g] w w' ∧
    Blk w' q 55 #[.int .i64 2, .iface 59 (.pointer (some ⟨X.l, 0, none⟩))] ∧ w.heap.size ≤ q ∧ q ∉ SmS a g X ∧ ∀ i, w'.heap.size ≤ i → ¬ B i ∧ ¬ CoBlk X.x BC i ∧ i ≠ X.l ∧ i ≠ X.gg
set_option maxRecDepth 100000 in
set_option maxHeartbeats 4000000 in
theorem rnew_r {w : World} {a g : Nat} {s : Ar} (h : ArIs w a g s) (hs : s.W = []) (hag : a ≠ g) (vP vT : Value) (P T : List Int) (hP : RdL w vP 1 encI P) (hT : RdL w vT 1 encI T) (hPa : ∀ i, vP.ownBlock = some i → i ≠ a ∧ i < w.heap.size) (hTa : ∀ i, vT.ownBlock = some i → i ≠ a ∧ i < w.heap.size) (hc : chkT P T = 0) (kg kl : Nat) (hG : KOk kg) (hL : KOk kl) (par : Nat) (hp : 1 ≤ par ∧ par ≤ 4) (bud : Int) (hb : 0 ≤ bud ∧ bud ≤ 3) (hr : s.room = 4096) (ho : s.ops ≤ 1000) :
    Calls Tryz.prog 10 #[.pointer (some ⟨a, 0, none⟩), .int .i64 2, .agg #[vP, vT], .agg #[.int .i64 (kg : Int), .int .i64 (kl : Int), .int .i64 par, .int .i64 bud]] w (RwNewR w a g s kg kl par bud P T) := by
  have ha0 := h.blk.lt
  have hg0 := h.wds.lt
  obtain ⟨wz, hwz⟩ : ∃ W, W = ((w.alloc (.cells #[vP, vT] 24)).alloc (.cells #[.int .i64 (kg : Int), .int .i64 (kl : Int), .int .i64 par, .int .i64 bud] 45)).alloc (.cells #[.int .i64 2, .nilIface] 55) := ⟨_, rfl⟩
  have hsz : wz.heap.size = w.heap.size + 3 := by rw [hwz]; simp
  have HB := Lib.hid (show Below w.heap.size w wz from by rw [hwz]; exact (((Below.refl w.heap.size w).alloc (Nat.le_refl _) _).alloc (by simp) _).alloc (by simp; omega) _)
  have hbt : Blk wz w.heap.size 24 #[vP, vT] := by rw [hwz]; exact ((Blk.new w 24 #[vP, vT]).alloc _).alloc _
  have hbp : Blk wz (w.heap.size + 1) 45 #[.int .i64 (kg : Int), .int .i64 (kl : Int), .int .i64 par, .int .i64 bud] := by
    have h1 := Blk.new (w.alloc (.cells #[vP, vT] 24)) 45 #[.int .i64 (kg : Int), .int .i64 (kl : Int), .int .i64 par, .int .i64 bud]
    rw [show (w.alloc (.cells #[vP, vT] 24)).heap.size = w.heap.size + 1 by simp] at h1
    rw [hwz]; exact h1.alloc _
  have hbl : Blk wz (w.heap.size + 2) 55 #[.int .i64 2, .nilIface] := by
    have h1 := Blk.new ((w.alloc (.cells #[vP, vT] 24)).alloc (.cells #[.int .i64 (kg : Int), .int .i64 (kl : Int), .int .i64 par, .int .i64 bud] 45)) 55 #[.int .i64 2, .nilIface]
    rw [show ((w.alloc (.cells #[vP, vT] 24)).alloc (.cells #[.int .i64 (kg : Int), .int .i64 (kl : Int), .int .i64 par, .int .i64 bud] 45)).heap.size = w.heap.size + 2 by simp] at h1
    rw [hwz]; exact h1
  have HN := Lib.hid (newS2_r (h.turns (S := []) (Turns.of_below HB.out) (by simp) (by simp)) hs hag vP vT P T (hP.below HB.out (Nat.le_refl _)) (hT.below HB.out (Nat.le_refl _)) (fun i hi => ⟨(hPa i hi).1, by have := (hPa i hi).2; omega⟩) (fun i hi => ⟨(hTa i hi).1, by have := (hTa i hi).2; omega⟩) hc kg kl hG hL par hp bud hb hr ho)
  have HX := Lib.hid (And.intro hbt (And.intro hbp hbl))
  have HS := Lib.hid (And.intro ha0 hg0)
  clear h hs hag hP hT hPa hTa hc hG hL hp hb hr ho hbt hbp hbl
  go_enter Tryz.func10, Tryz.ntmps10
  go_upto_region 2 with fail
  rw [← hwz]
  clear hwz
  have f0 : wz.cell? ⟨w.heap.size, 0, none⟩ = some vP := HX.out.1.cell 0
  have f1 : wz.cell? ⟨w.heap.size, 1, none⟩ = some vT := HX.out.1.cell 1
  have p0 : wz.cell? ⟨w.heap.size + 1, 0, none⟩ = some (.int .i64 (kg : Int)) := HX.out.2.1.cell 0
  have p1 : wz.cell? ⟨w.heap.size + 1, 1, none⟩ = some (.int .i64 (kl : Int)) := HX.out.2.1.cell 1
  have p2 : wz.cell? ⟨w.heap.size + 1, 2, none⟩ = some (.int .i64 par) := HX.out.2.1.cell 2
  have p3 : wz.cell? ⟨w.heap.size + 1, 3, none⟩ = some (.int .i64 bud) := HX.out.2.1.cell 3
  go_wp2_with fail
  refine HN.out.mono ?_
  rintro en w3 ⟨B, BC, X, rfl, k3, hS, t3, n3⟩
  have hb3 : Blk w3 (w.heap.size + 2) 55 #[.int .i64 2, .nilIface] := t3.blk HX.out.2.2 (by have := HS.out; simp; omega)
  have qn : w.heap.size + 2 ∉ SmS a g X := fun hm => by have := hS _ hm; have := HS.out; omega
  have z1 := hb3.free 1
  have e1 := hb3.cell 1
  have HK := Lib.hid (And.intro (k3.foreign (n3 (w.heap.size + 2) (by omega)) qn 1 (.iface 59 (.pointer (some ⟨X.l, 0, none⟩)))) (And.intro hS (And.intro (hb3.set_ 1 (.iface 59 (.pointer (some ⟨X.l, 0, none⟩)))) (And.intro qn n3))))
  have HT := Lib.hid t3
  clear k3 hS t3 n3 hb3 qn HN f0 f1 p0 p1 p2 p3
  go_wp2
  go_ret2
  refine ⟨w.heap.size + 2, B, BC, X, rfl, HK.out.1, fun i hi => ?_, ?_, HK.out.2.2.1, by omega, HK.out.2.2.2.1, fun i hi => HK.out.2.2.2.2 i (.inr (by simpa using hi))⟩
  · have := HK.out.2.1 i hi
    omega
  · have t9 : Turns [a, g, w.heap.size + 2] w (w3.setCell ⟨w.heap.size + 2, 1, none⟩ (.iface 59 (.pointer (some ⟨X.l, 0, none⟩)))) := ((Turns.of_below HB.out).trans (HT.out.mono (by simp))).setCell (.inl (by simp)) _
    exact t9.fresh fun i hi => by simp at hi ⊢; omega
end Go.Proofs.YtkennofbilmbcaaGreat
end
section
set_option linter.unusedVariables false
set_option linter.unusedSimpArgs false
/- Layer 39 (rw): the lock that the law makes. (printed by gen_rw.py) -/
namespace Go.Proofs.YtkennofbilmbcaaGreat
open Go.RowKit

theorem qqa_r (x : Nat) (h0 : x < 256) : IntKind.i64.wrap (1 + IntKind.i64.wrap ((x : Int).tmod 5)) = 1 + (x : Int) % 5 := by
  rw [Int.tmod_eq_emod_of_nonneg (by omega), IntWalk.i64_in ((x : Int) % 5) (by omega), IntWalk.i64_in _ (by omega)]
theorem qqb_r (x : Nat) (h2 : x < 256) : IntKind.i64.wrap (1 + IntKind.i64.wrap ((IntKind.u8.wrap ((x : Int) / 4)).tmod 4)) = 1 + (x : Int) / 4 % 4 := by
  have e : IntKind.u8.wrap ((x : Int) / 4) = (x : Int) / 4 := by
    show ((x : Int) / 4) % 256 = _
    omega
  rw [e, Int.tmod_eq_emod_of_nonneg (by omega), IntWalk.i64_in ((x : Int) / 4 % 4) (by omega), IntWalk.i64_in _ (by omega)]
theorem qqc_r (x : Nat) (h0 : x < 256) : IntKind.i64.wrap ((x : Int).tmod 4) = (x : Int) % 4 := by
  rw [Int.tmod_eq_emod_of_nonneg (by omega), IntWalk.i64_in _ (by omega)]
set_option maxRecDepth 100000 in
theorem rmadeNo_r (w : World) (vP vT : Value) (a0 a1 a2 : Int) (hs : SmNo w vP vT 8) :
    Calls Tryz.prog 5 #[.int .i64 2, .agg #[vP, vT], .agg #[.int .u8 a0, .int .u8 a1, .int .u8 a2]] w fun e w' => e = .returned (.tuple #[.pointer none, .bool false]) ∧ Below w.heap.size w w' := by
  have HB0 := Lib.hid (((Below.refl w.heap.size w).alloc (Nat.le_refl _) (.cells #[vP, vT] 24)).alloc (by simp) (.cells #[.int .u8 a0, .int .u8 a1, .int .u8 a2] 25))
  have H := Lib.hid (hs _ HB0.out)
  clear hs
  go_enter Tryz.func5, Tryz.ntmps5
  go_wp2_with fail
  refine H.out.mono ?_
  rintro en w1 ⟨rfl, b1⟩
  have HB1 := Lib.hid (HB0.out.trans (b1.mono HB0.out.size))
  clear b1
  go_wp2
  go_ret2
  exact ⟨rfl, HB1.out⟩
set_option maxRecDepth 100000 in
set_option maxHeartbeats 2000000 in
theorem rmadeYes_r (w : World) (vP vT : Value) (P T : List Int) (hP : RdL w vP 1 encI P) (hT : RdL w vT 1 encI T) (a0 a1 a2 : Nat) (h0 : a0 < 256) (h1 : a1 < 256) (h2 : a2 < 256) (hs : smallB P T 8 = true) :
    Calls Tryz.prog 5 #[.int .i64 2, .agg #[vP, vT], .agg #[.int .u8 a0, .int .u8 a1, .int .u8 a2]] w fun e w' => ∃ (a g q : Nat) (B BC : Nat → Prop) (X : SmX) (c : CoC) (L : Nat) (x : Nu), e = .returned (.tuple #[.pointer (some ⟨q, 0, none⟩), .bool true]) ∧ NuK c T.length (leavesL P).length L (mtQ P T) ∧ RwStR w w' B BC a g q X c P T L x 40 2000 ∧ x.U = List.replicate T.length Sp.zero ∧ ∀ i, w'.heap.size ≤ i → ¬ B i ∧ ¬ CoBlk X.x BC i ∧ i ≠ X.l ∧ i ≠ X.gg := by
  have hck : chkT P T = 0 ∧ (T.length : Int) ≤ 8 := of_decide_eq_true hs
  have hml := many_lt (chk_ok hck.1).1
  have HBL := Lib.hid (And.intro (fun g' (hg' : vP.ownBlock = some g') => rd_block hP (by omega) hg') (fun g' (hg' : vT.ownBlock = some g') => rd_block hT (by omega) hg'))
  have HS := smallH ((w.alloc (.cells #[vP, vT] 24)).alloc (.cells #[.int .u8 a0, .int .u8 a1, .int .u8 a2] 25)) vP vT P T ((hP.alloc _).alloc _) ((hT.alloc _).alloc _) 8
  rw [hs] at HS
  have H := Lib.hid HS
  have HB0 := Lib.hid (((Below.refl w.heap.size w).alloc (Nat.le_refl _) (.cells #[vP, vT] 24)).alloc (by simp) (.cells #[.int .u8 a0, .int .u8 a1, .int .u8 a2] 25))
  have HRD := Lib.hid (And.intro hP hT)
  have hbt := (Blk.new w 24 #[vP, vT]).alloc (.cells #[.int .u8 a0, .int .u8 a1, .int .u8 a2] 25)
  have hbn := Blk.new (w.alloc (.cells #[vP, vT] 24)) 25 #[.int .u8 a0, .int .u8 a1, .int .u8 a2]
  rw [show (w.alloc (.cells #[vP, vT] 24)).heap.size = w.heap.size + 1 by simp] at hbn
  obtain ⟨w0, hw0⟩ : ∃ W, W = (w.alloc (.cells #[vP, vT] 24)).alloc (.cells #[.int .u8 a0, .int .u8 a1, .int .u8 a2] 25) := ⟨_, rfl⟩
  rw [← hw0] at H HB0 hbt hbn
  have HX := Lib.hid (And.intro hbt hbn)
  have HCK := Lib.hid hck
  clear HS hs hP hT hck hbt hbn hml
  go_enter Tryz.func5, Tryz.ntmps5
  go_upto_region 1 with fail
  rw [← hw0]
  clear hw0
  have f0 : w0.cell? ⟨w.heap.size, 0, none⟩ = some vP := HX.out.1.cell 0
  have f1 : w0.cell? ⟨w.heap.size, 1, none⟩ = some vT := HX.out.1.cell 1
  go_wp2_with fail
  refine H.out.mono ?_
  rintro en w1 ⟨rfl, b1⟩
  have HX1 := Lib.hid (And.intro (HX.out.1.below b1 HX.out.1.lt) (HX.out.2.below b1 HX.out.2.lt))
  have HB1 := Lib.hid (HB0.out.trans (b1.mono HB0.out.size))
  clear b1 f0 f1
  have HNN := Lib.hid (fun (w2 : World) (a g : Nat) (hA : ArIs w2 a g (newAr 4096)) (ha : w1.drew.heap.size ≤ a) (hg : w1.drew.heap.size ≤ g) (hb : Below w.heap.size w w2) (hsz : w1.drew.heap.size ≤ w2.heap.size) =>
    show Calls Tryz.prog 10 #[.pointer (some ⟨a, 0, none⟩), .int .i64 2, .agg #[vP, vT], .agg #[.int .i64 (IntKind.i64.wrap (1 + IntKind.i64.wrap ((a0 : Int).tmod 5))), .int .i64 (IntKind.i64.wrap (1 + IntKind.i64.wrap ((a1 : Int).tmod 5))), .int .i64 (IntKind.i64.wrap (1 + IntKind.i64.wrap ((IntKind.u8.wrap ((a2 : Int) / 4)).tmod 4))), .int .i64 (IntKind.i64.wrap ((a2 : Int).tmod 4))]] w2 (RwNewR w2 a g (newAr 4096) (1 + a0 % 5) (1 + a1 % 5) (1 + a2 / 4 % 4) ((a2 : Int) % 4) P T) from by
      have epar : 1 + (a2 : Int) / 4 % 4 = ((1 + a2 / 4 % 4 : Nat) : Int) := by omega
      have ekg : 1 + (a0 : Int) % 5 = ((1 + a0 % 5 : Nat) : Int) := by omega
      have ekl : 1 + (a1 : Int) % 5 = ((1 + a1 % 5 : Nat) : Int) := by omega
      have hs1 : w.heap.size ≤ w1.drew.heap.size := HB1.out.drew.size
      have HN := rnew_r hA rfl hA.ne vP vT P T (HRD.out.1.below hb (Nat.le_refl _)) (HRD.out.2.below hb (Nat.le_refl _)) (fun i hi => by have := HBL.out.1 i hi; omega) (fun i hi => by have := HBL.out.2 i hi; omega) HCK.out.1 (1 + a0 % 5) (1 + a1 % 5) (KOk.of (by omega)) (KOk.of (by omega)) (1 + a2 / 4 % 4) (by omega) ((a2 : Int) % 4) (by omega) rfl (by show 0 ≤ 1000; omega)
      rw [← epar, ← ekg, ← ekl] at HN
      rw [qqa_r a0 h0, qqa_r a1 h1, qqb_r a2 h2, qqc_r a2 h2]
      exact HN)
  have HC := Lib.hid (fun W (hW : Below w1.heap.size w1 W) => (show W.cell? ⟨w.heap.size, 0, none⟩ = some vP ∧ W.cell? ⟨w.heap.size, 1, none⟩ = some vT ∧ W.cell? ⟨w.heap.size + 1, 0, none⟩ = some (.int .u8 a0) ∧ W.cell? ⟨w.heap.size + 1, 1, none⟩ = some (.int .u8 a1) ∧ W.cell? ⟨w.heap.size + 1, 2, none⟩ = some (.int .u8 a2) from
    ⟨(HX1.out.1.below hW HX1.out.1.lt).cell 0, (HX1.out.1.below hW HX1.out.1.lt).cell 1, (HX1.out.2.below hW HX1.out.2.lt).cell 0, (HX1.out.2.below hW HX1.out.2.lt).cell 1, (HX1.out.2.below hW HX1.out.2.lt).cell 2⟩))
  have C1 := HC.out _ (Below.refl _ _).drew
  have C1h := Lib.hid C1
  have HNA := Lib.hid (newA_any w1.drew 4096)
  go_wp2_with fail
  go_region_held3 (fun W => W.cell? ⟨w.heap.size, 0, none⟩ = some vP ∧ W.cell? ⟨w.heap.size, 1, none⟩ = some vT ∧ W.cell? ⟨w.heap.size + 1, 0, none⟩ = some (.int .u8 a0) ∧ W.cell? ⟨w.heap.size + 1, 1, none⟩ = some (.int .u8 a1) ∧ W.cell? ⟨w.heap.size + 1, 2, none⟩ = some (.int .u8 a2))
    (first | with_reducible exact C1h.out | with_reducible exact C2.out | with_reducible exact C3.out)
    (first
      | (go_at_call 11; go_loud (refine HNA.out.mono ?_); rintro en w2 ⟨a, g, rfl, hA, ha, hg, hb⟩; have HA := Lib.hid (And.intro hA (And.intro ha (And.intro hg (HB1.out.trans (((Below.refl _ _).drew.trans hb).mono HB1.out.size))))); have C2 := Lib.hid (HC.out _ ((Below.refl _ _).drew.trans hb)); have HZ := Lib.hid hb.size; have HBa := Lib.hid hb; clear hA ha hg hb)
      | (go_at_call 10; go_loud (refine (HNN.out _ _ _ HA.out.1 HA.out.2.1 HA.out.2.2.1 HA.out.2.2.2 HZ.out).mono ?_); rintro en w3 ⟨q, B, BC, X, rfl, k3, hS, t3, b3, ql, qn⟩; have C3 := Lib.hid (HC.out _ ((((Below.refl _ _).drew.trans HBa.out)).trans ((t3.below (fun i hi => by have := HA.out.2.1; have := HA.out.2.2.1; simp at hi; omega) HZ.out)))); have HK := Lib.hid (And.intro k3 (And.intro hS (And.intro t3 (And.intro b3 (And.intro ql qn))))); clear k3 hS t3 b3 ql qn))
  clear C1
  go_wp2
  go_ret2
  have sd : w.heap.size ≤ w1.drew.heap.size := HB1.out.drew.size
  have s2 := HA.out.2.2.2.size
  have s6 := HA.out.2.1
  have s7 := HA.out.2.2.1
  have sb := HB1.out.size
  obtain ⟨k3, hS, t3, b3, ql, qn⟩ := HK.out
  have hml := many_lt (chk_ok HCK.out.1).1
  have hN1 : 1 ≤ (leavesL P).length := by
    obtain ⟨y, hy⟩ := getElem?_lt (show 0 < T.length by omega)
    exact List.length_pos_of_mem (thr_mem (chk_ok HCK.out.1).2.2.2 hy)
  have hK := nu_k (s := newAr 4096) (kg := 1 + a0 % 5) (kl := 1 + a1 % 5) (par := 1 + a2 / 4 % 4) (bud := (a2 : Int) % 4) HCK.out.1 (by omega) (by omega) (by omega) rfl hN1
  have hU := rs_s (s := newAr 4096) (kg := 1 + a0 % 5) (kl := 1 + a1 % 5) (par := 1 + a2 / 4 % 4) (bud := (a2 : Int) % 4) HCK.out.1 (by omega) (by omega) (by omega) rfl
  refine ⟨a, g, q, B, BC, X, _, _, _, rfl, hK, ⟨⟨k3, hU.1, ?_, fun i hi => ?_, ?_⟩, b3, by omega, qn.1⟩, rfl, qn.2⟩
  · exact HA.out.2.2.2.trans (t3.below (by simp; omega) s2)
  · have := hS i hi
    omega
  · have h2 := hU.2
    have h3 : (newAr 4096).ops = 0 := rfl
    show (coStN _ _ _ _ _ _).s.ops ≤ 2000
    omega
end Go.Proofs.YtkennofbilmbcaaGreat
end
