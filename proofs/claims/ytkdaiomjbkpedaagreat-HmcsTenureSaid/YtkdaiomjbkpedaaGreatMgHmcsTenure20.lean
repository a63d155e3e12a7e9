/- Joined: Hw16, Hw17, Tn3, Xq1. -/
import Derived.Deep.RegionLaw
import Derived.Deep.AppendLies
import Derived.Deep.RegionHeld3
import Derived.Deep.DeepCutAuto
import Derived.WalkKit
import Derived.WalkSpells
import Derived.ProofKit
import Derived.Below
import Derived.Test.YtkdaiomjbkpedaaGreatMgHmcsTenure4
import Derived.Test.YtkdaiomjbkpedaaGreatMgHmcsTenure9
import Derived.Test.YtkdaiomjbkpedaaGreatMgHmcsTenure15
import Derived.Test.YtkdaiomjbkpedaaGreatMgHmcsTenure17
import Derived.Test.YtkdaiomjbkpedaaGreatMgHmcsTenure18
import Derived.Test.YtkdaiomjbkpedaaGreatMgHmcsTenure19
section
/- Layer 27 (hmcs): a new lock. -/
namespace Go.Proofs.YtkdaiomjbkpedaaGreat
open Go.RowKit

def NewHm (w : World) (a g : Nat) (s : Ar) (bud : Int) (P T : List Int) (e : Ending) (w' : World) : Prop :=
  ∃ (B : Nat → Prop) (x : Hx) (s' : Ar), x.a = a ∧ x.g = g ∧ e = .returned (.tuple #[.pointer (some ⟨x.l, 0, none⟩), .int .i64 0]) ∧ HmIs B w' x (treeT P T) bud s' (hm0 (treeT P T)) ∧ s'.ops = s.ops ∧ (∀ i, B i → w.heap.size ≤ i) ∧ w.heap.size ≤ x.q ∧ (∀ v, v < P.length → w.heap.size ≤ x.qb v) ∧ Turns [a] w w'
set_option maxRecDepth 100000 in
set_option maxHeartbeats 8000000 in
theorem newHm {w : World} {a g : Nat} {s : Ar} (h : ArIs w a g s) (hs : s.W = []) (hag : a ≠ g) (AP : Option Addr) (cP : Nat) (vT : Value) (P T : List Int) (hP : RdL w (.slice AP P.length cP) 1 encI P) (hPa : ∀ i, (Value.slice AP P.length cP).ownBlock = some i → i ≠ a ∧ i < w.heap.size) (hT : RdL w vT 1 encI T) (hc : chkT P T = 0) (bud : Int) (hd0 : 0 ≤ bud) (hd1 : bud ≤ 1000) (hr : s.room = 4096) :
    Calls Tryz.prog 58 #[.pointer (some ⟨a, 0, none⟩), .agg #[.slice AP P.length cP, vT], .int .i64 bud] w (NewHm w a g s bud P T) := by
  obtain ⟨i0, hi, hz0, hz1, hz2⟩ := info_parts Tryz.infoSp
  obtain ⟨j0, hj, hy0, hy1, hy2⟩ := info_parts Tryz.infoHr
  have HJ := Lib.hid (And.intro hj (And.intro hy0 (And.intro hy1 hy2)))
  obtain ⟨j1, hj', hy0', hy1', hy2'⟩ := info_parts Tryz.infoHs
  have HJ1 := Lib.hid (And.intro hj' (And.intro hy0' (And.intro hy1' hy2')))
  obtain ⟨j2, hj'', hy0'', hy1'', hy2''⟩ := info_parts Tryz.infoHl
  have HJ2 := Lib.hid (And.intro hj'' (And.intro hy0'' (And.intro hy1'' hy2'')))
  clear hj hy0 hy1 hy2 hj' hy0' hy1' hy2' hj'' hy0'' hy1'' hy2''
  have hml := many_lt (chk_ok hc).1
  have ha0 := h.blk.lt
  have hg0 := h.wds.lt
  obtain ⟨hT1, hT32⟩ : 1 ≤ T.length ∧ T.length ≤ 32 := ⟨hml.2.2.1, hml.2.2.2⟩
  obtain ⟨hP1, hP32⟩ : 1 ≤ P.length ∧ P.length ≤ 32 := ⟨hml.1, hml.2.1⟩
  have H := Lib.hid (And.intro h (And.intro ha0 (And.intro hg0 hag)))
  have HN := Lib.hid (new_yesL (w.alloc (.cells #[.slice AP P.length cP, vT] 24)) (.slice AP P.length cP) vT P T (hP.alloc _) (hT.alloc _) hc)
  have HS := Lib.hid (And.intro hs hr)
  have HCK := Lib.hid hc
  have HPR := Lib.hid (And.intro hP hPa)
  have HR := Lib.hid (fun W => rightB bud W hd0 hd1)
  have hlo : (w.alloc (.cells #[.slice AP P.length cP, vT] 24)).heap.size = w.heap.size + 1 := by simp
  have B0 := Lib.hid ((Below.refl w.heap.size w).alloc (Nat.le_refl _) (.cells #[.slice AP P.length cP, vT] 24))
  have BX := Lib.hid (Blk.new w 24 #[.slice AP P.length cP, vT])
  clear h hs hP hPa hT hd0 hd1 hr hml ha0 hg0 hag hc
  go_enter Tryz.func58, Tryz.ntmps58
  go_wp2_with fail
  refine HN.out.mono ?_
  rintro en w1 ⟨b, rfl, hb, t1, b1⟩
  rw [hlo] at hb t1 b1
  have K1 := Lib.hid (And.intro (t1.q HCK.out) (And.intro (B0.out.trans (b1.mono (by omega))) (And.intro (Turns.blk (S := []) ⟨b1.os, b1.tape, b1.output, b1.size, fun i hi _ => b1.block i (by omega)⟩ BX.out (by simp)) hb)))
  clear t1 b1 hb HN
  go_wp2_with fail
  refine (HR.out _).mono ?_
  rintro en w1' ⟨rfl, rfl⟩
  go_wp2_with fail
  refine (threads_any _ _ _ _ (K1.out.1.tab HCK.out)).mono ?_
  rintro en w1' ⟨rfl, rfl⟩
  go_wp2_with (refine wpList_make_full _ rfl (.tmp 37) (.tmp 37) 71 rfl w1.heap.size 35 i0 (.agg #[.int .i64 0, .int .i64 0, .int .i64 0, .int .i64 0]) 4 Tryz.underlying71 hi hz0 hz1 .i64 .i64 T.length T.length T.length rfl rfl rfl rfl ?b2 ?b3 (Nat.le_refl _) ?_)
  case b2 => rw [hz2]; omega
  case b3 => unfold maxLen; omega
  intro w4 hown hg
  have hb : SpIs w4 w1.heap.size (List.replicate T.length Sp.zero) := by
    unfold SpIs
    rw [rflat_zero]
    have := own_blk hown
    have e : (madeCells #[Value.int .i64 0, .int .i64 0, .int .i64 0, .int .i64 0] (T.length * 4)).toList = List.replicate (T.length * 4) (.int .i64 0) := rmade_const4 _ _
    rw [e] at this
    exact this
  have t4 : Turns [] w1 w4 := Turns.of_below ((Below.refl w1.heap.size w1).grown hg (Nat.le_refl _) (fun j hj => by cases hj))
  have hs4 := hb.lt
  have H4 := Lib.hid (And.intro hb (And.intro t4 hs4))
  clear hown hg hb t4 hs4
  go_upto_region 7 with fail
  obtain ⟨q, hq⟩ : ∃ x, x = w1.heap.size := ⟨_, rfl⟩
  rw [← hq] at H4 ⊢
  have HQ := Lib.hid hq
  clear hq
  obtain ⟨l, hl⟩ : ∃ x, x = w4.heap.size := ⟨_, rfl⟩
  obtain ⟨w5, hw5⟩ : ∃ x, x = w4.alloc (.cells (hlkC bud (.slice none 0 0) (.slice none 0 0) q T.length) 96) := ⟨_, rfl⟩
  have hw5' := hw5
  unfold hlkC at hw5'
  rw [← hw5', ← hl]
  have t5 : Turns [] w4 w5 := by rw [hw5]; exact (Turns.refl _ _).alloc _
  have hs5 : w5.heap.size = l + 1 := by rw [hw5, hl]; simp
  have hb5 : Blk w5 l 96 (hlkC bud (.slice none 0 0) (.slice none 0 0) q T.length) := by rw [hw5, hl]; exact Blk.new _ _ _
  have HO := Lib.hid (show a < w.heap.size ∧ g < w.heap.size ∧ a ≠ g ∧ w.heap.size + 1 ≤ b ∧ b < w1.heap.size ∧ w1.heap.size = q ∧ q < l ∧ w5.heap.size = l + 1 ∧ w.heap.size + 1 ≤ w1.heap.size from by
    have e1 : b < w1.heap.size := K1.out.1.low.2
    have e2 := K1.out.2.2.2
    have e3 := H4.out.2.2
    have e4 := H.out
    have e5 := HQ.out
    omega)
  have T5 := Lib.hid (show Turns [] w1 w5 from H4.out.2.1.trans t5)
  have HBX : Hid (∀ W, Turns [l, b, a] w5 W → W.cell? ⟨w.heap.size, 0, none⟩ = some (.slice AP P.length cP) ∧ W.cell? ⟨w.heap.size, 1, none⟩ = some vT ∧ RdL W (.slice AP P.length cP) 1 encI P) := Lib.hid fun W hW => by
    have o := HO.out
    have k1 : Turns [l, b, a] w1 W := (T5.out.mono (by simp)).trans hW
    have bx := k1.blk K1.out.2.2.1 (by simp; omega)
    refine ⟨bx.cell 0, bx.cell 1, ?_⟩
    have k0 : RdL w1 (.slice AP P.length cP) 1 encI P := HPR.out.1.below K1.out.2.1 (Nat.le_refl _)
    exact k0.turns k1 fun g' hg' hm => by
      have := HPR.out.2 g' hg'
      simp at hm
      omega
  have HSQ := Lib.hid (H4.out.1.turns (T := []) t5 (by simp))
  have HI := Lib.hid (show NwR w5 w5 l b a g q bud P T (treeT P T) (fun i => w.heap.size + 1 ≤ i ∧ i < w1.heap.size) 0 (.slice none 0 0) (fun _ => 0) (fun _ => 0) s from by
    have o := HO.out
    refine ⟨Turns.refl _ _, hb5, World.ownsRow_nil _ _ _ _, ?_, ?_, HS.out.2, fun v hv => absurd hv (Nat.not_lt_zero _), fun v hv => absurd hv (Nat.not_lt_zero _), fun v hv => absurd hv (Nat.not_lt_zero _), fun v u hv => absurd hv (Nat.not_lt_zero _), fun v u hv => absurd hv (Nat.not_lt_zero _), .inl ⟨rfl, K1.out.1.turns T5.out (by simp)⟩⟩
    · exact (H.out.1.turns (Turns.of_below (S := []) K1.out.2.1) (by simp) (by simp)).turns T5.out (by simp) (by simp)
    · rw [HS.out.1]; rfl)
  have h0 : Hid (∀ i, (w.heap.size + 1 ≤ i ∧ i < w1.heap.size) → i ≠ l ∧ i ≠ a ∧ i < w5.heap.size) := Lib.hid fun i hi => by
    have o := HO.out
    omega
  clear hw5 hw5' t5 hs5 hb5 hl H4
  obtain ⟨f0, f1, _⟩ := HBX.out _ (Turns.refl _ _)
  go_wp2
  clear f0 f1
  go_loopw [11, 44] (fun lf i wr => ∃ (k : Nat) (vR : Value) (lb qb : Nat → Nat) (s1 : Ar), lf = .int .i64 ((leavesTo P k).length : Nat) ∧ i = .int .i64 k ∧ k ≤ P.length ∧ NwR w5 wr l b a g q bud P T (treeT P T) (fun i => w.heap.size + 1 ≤ i ∧ i < w1.heap.size) k vR lb qb s1 ∧ s1.ops = s.ops) (fun _ i _ => P.length - (intOf i).toNat)
  case atStart => exact ⟨0, _, _, _, _, rfl, rfl, by omega, HI.out, rfl⟩
  case round =>
    clear HI
    obtain ⟨k, vR, lb, qb, s1, rfl, rfl, hk, hW, hops⟩ := hrel
    obtain ⟨wo, rfl⟩ : ∃ wo : World, wo = wr := ⟨_, rfl⟩
    by_cases hlt : k < P.length
    · obtain ⟨A, cap, rfl⟩ := own_form hW.own
      have HW := Lib.hid (And.intro hW hops)
      obtain ⟨f0, f1, f2⟩ := HBX.out _ hW.tn
      have HBE := Lib.hid (belowHw wo (.slice AP P.length cP) vT P f2 (by omega) (k : Int))
      obtain ⟨n0, hn0⟩ : ∃ n, n = (chL P k).length := ⟨_, rfl⟩
      rw [← hn0] at HBE
      have HN0 := Lib.hid hn0
      have hll := leavesTo_len P k
      clear hW hops f2 hn0
      go_wp2_with fail
      refine HBE.out.mono ?_
      rintro en w2 ⟨v2, rfl, o2, b2⟩
      obtain ⟨A2, c2, rfl⟩ := own_form o2
      have hn32 : n0 ≤ 32 := by have := chTo_len P k P.length; have := HN0.out; unfold chL at this; omega
      have HW2 := Lib.hid (And.intro (HW.out.1.below b2 (by have := HO.out; omega) (by have := HO.out; omega) (by have := HO.out; omega) (by have := HO.out; omega)) HW.out.2)
      clear b2 o2 f0 f1 HW HBE
      go_upto_if 52 with fail
      go_cut [11, 13] (fun s11 s13 wx => s11 = .int .i64 ((leavesTo P (k + 1)).length : Nat) ∧ s13 = .int .i64 (nvT P T k : Nat) ∧ NwR w5 wx l b a g q bud P T (treeT P T) (fun i => w.heap.size + 1 ≤ i ∧ i < w1.heap.size) k (.slice A k cap) lb qb s1 ∧ (TBrF l a wx b P T (.slice A k cap) ∨ (leavesTo P (k + 1) = [] ∧ Tab0Q (fun i => w.heap.size + 1 ≤ i ∧ i < w1.heap.size) wx b P T)))
      case first =>
        by_cases hch : chL P k = []
        · have hlf := (leaf_iff hlt).1 hch
          have HM := Lib.hid (HW2.out.1.mates HCK.out (by have := HO.out; omega) (by have := HO.out; omega) (by have := HO.out; omega) (by have := HO.out; omega) h0.out (leaf_at hlt hlf))
          have HV := Lib.hid (show ((leavesTo P (k + 1)).length = (leavesTo P k).length + 1) ∧ nvT P T k = max 1 (T.count (k : Int)) from ⟨by rw [leavesTo_succ, if_pos hlf]; simp, by unfold nvT; rw [if_pos hch]⟩)
          have hT32' : T.count (k : Int) ≤ 32 := Nat.le_trans List.count_le_length hT32
          obtain ⟨ct, hct⟩ : ∃ ct, ct = T.count (k : Int) := ⟨_, rfl⟩
          rw [← hct] at HM HV hT32'
          have e0 : n0 = 0 := by rw [HN0.out, hch]; rfl
          subst e0
          clear hch hlf hct
          go_wp2_with fail
          refine HM.out.mono ?_
          rintro en w3 ⟨rfl, hN3, hF3, t3⟩
          have H3 := Lib.hid (And.intro hN3 hF3)
          clear hN3 hF3 t3 HM
          go_wp2
          all_goals
            go_meet
            case rel =>
              refine ⟨?_, ?_, H3.out.1, .inl H3.out.2⟩
              · rw [HV.out.1]; go_num
              · rw [HV.out.2]; exact congrArg (Value.int .i64) (by omega)
        · have hlf : ¬ leafB P k = true := fun e => hch ((leaf_iff hlt).2 e)
          have HV := Lib.hid (show leavesTo P (k + 1) = leavesTo P k ∧ nvT P T k = n0 from ⟨by rw [leavesTo_succ, if_neg hlf], by unfold nvT; rw [if_neg hch, HN0.out]⟩)
          have e0 : 0 < n0 := by rw [HN0.out]; exact List.length_pos_iff.2 hch
          have e1 : ¬ (n0 : Int) = 0 := by omega
          have e2 : ((n0 : Int) == 0) = false := by simpa using e1
          clear hch hlf
          go_wp2
          go_meet
          case rel =>
            refine ⟨by rw [HV.out.1], by rw [HV.out.2], HW2.out.1, ?_⟩
            rcases HW2.out.1.tab with ⟨q1, q2⟩ | q1
            · exact .inr ⟨by rw [HV.out.1]; exact q1, q2⟩
            · exact .inl q1
      case rest =>
        obtain ⟨rfl, rfl, hN3, hT3⟩ := hcut
        obtain ⟨w3, rfl⟩ : ∃ w3 : World, w3 = wc := ⟨_, rfl⟩
        obtain ⟨nv, hnv⟩ : ∃ n, n = nvT P T k := ⟨_, rfl⟩
        rw [← hnv]
        have HNV := Lib.hid hnv
        have hnv2 : 1 ≤ nv ∧ nv ≤ 32 := by rw [hnv]; exact nvT_le HCK.out hlt
        have HR3 := Lib.hid (rungNewH hN3.ar nv hnv2.1 hnv2.2 hN3.room (by rw [hN3.cat]; exact cat0_len HCK.out hk))
        have H3 := Lib.hid (And.intro hN3 (And.intro hT3 HW2.out.2))
        clear hN3 hT3 HW2 hnv HN0 hn32
        go_wp2_with fail
        refine HR3.out.mono ?_
        rintro en w4 ⟨l', q', rfl, hr4, hl4, hq4, t4⟩
        have o := HO.out
        have bl4 : Blk w4 l 96 (hlkC bud (.slice A k cap) (.slice none 0 0) q T.length) := t4.blk H3.out.1.blk (by simp; omega)
        have o4 : w4.ownsRow w5.heap.size 97 1 (.slice A k cap) k (ptrsTo lb k) := Turns.own H3.out.1.own t4 (fun x hx => by have := (H3.out.1.own.lt x hx).1; simp; omega)
        have c14 : w4.cell? ⟨l, 1, none⟩ = some (.slice A k cap) := bl4.cell 1
        have h5s : w5.heap.size ≤ w4.heap.size := Nat.le_trans H3.out.1.tn.size t4.size
        have hll4 : l < w4.heap.size := bl4.lt
        have hlown : (Value.slice A k cap).ownBlock ≠ some l := (fun e => by have := (H3.out.1.own.lt l e).1; omega)
        have H4 := Lib.hid (And.intro hr4 (And.intro hl4 (And.intro hq4 t4)))
        have HO4 := Lib.hid o4
        have HB4 := Lib.hid bl4
        clear hr4 hl4 hq4 t4 o4 bl4 HR3 o
        go_wp2_with (at_builtin; refine wpList_append_lies _ rfl _ _ 93 rfl w5.heap.size 97 j0 (.pointer none) 1 8 Tryz.underlying93 HJ.out.1 HJ.out.2.1 HJ.out.2.2.1 HJ.out.2.2.2 rfl (by decide) _ _ _ rfl (HO4.out.alloc _) ⟨w4.heap.size, 0, none⟩ 1 1 [.pointer (some ⟨l', 0, none⟩)] rfl rfl (cell_one_new _ _ _) (by simp [Value.oneCell']) (by decide) ?c3 ?c4 ?c5 _ rfl ?_)
        case c3 => unfold maxLen; omega
        case c4 => omega
        case c5 => simp; omega
        intro g3 cap3 w7 h3 hg3 hl3 hlt3
        have bl7 := (HB4.out.alloc (.cells #[.pointer (some ⟨l', 0, none⟩)] 97)).grown hg3 (fun e => hlown e.symm)
        have c17 : w7.cell? ⟨l, 1, none⟩ = some (.slice A k cap) := bl7.cell 1
        have z17 := bl7.free 1
        have HRR := Lib.hid (show NwR w5 (w7.setCell ⟨l, 1, none⟩ (.slice (some ⟨g3, 0, none⟩) (k + 1) cap3)) l b a g q bud P T (treeT P T) (fun i => w.heap.size + 1 ≤ i ∧ i < w1.heap.size) (k + 1) (.slice (some ⟨g3, 0, none⟩) (k + 1) cap3) (updH lb k l') (updH qb k q') { s1 with W := s1.W ++ List.replicate (2 * nv + 1) 0 } from by
          have o := HO.out
          obtain rfl := HNV.out
          exact H3.out.1.step H3.out.2.1 h0.out (by omega) (by omega) (by omega) (by omega) (by omega) rfl H4.out.1 H4.out.2.1 H4.out.2.2.1 H4.out.2.2.2 h3 hg3 (by simpa using hl3))
        have HOP := Lib.hid H3.out.2.2
        clear h3 hg3 hl3 bl7 HB4 HO4 H4 H3 HNV
        go_wp2
        go_roundw
        case rel => exact ⟨k + 1, _, _, _, _, rfl, by go_num, by omega, HRR.out, HOP.out⟩
        case measure => simp [intOf]; omega
    · obtain rfl : k = P.length := by omega
      obtain ⟨bR, cR, rfl, hbR0, hbR1⟩ := own_form1 hW.own (by omega)
      have c3 : wo.cell? ⟨l, 3, none⟩ = some (.slice (some ⟨q, 0, none⟩) T.length T.length) := hW.blk.cell 3
      have HTQ : Hid (∃ B', TabQ B' wo b P T ∧ ∀ i, B' i → i ≠ l) := Lib.hid (by
        rcases hW.tab with ⟨q1, _⟩ | ⟨B', q1, q2, _⟩
        · exfalso
          obtain ⟨x, a', _⟩ := xAt HCK.out (show 0 < T.length by omega)
          have := mem_leaves.2 a'.leaf
          unfold leavesL at this
          rw [q1] at this
          cases this
        · exact ⟨B', q1, fun i hi => (q2 i hi).1⟩)
      have HQO := Lib.hid (HSQ.out.turns hW.tn (by have := HO.out; simp; omega))
      have HL0 := Lib.hid (show NwL wo wo l q bud (treeT P T) (.slice (some ⟨bR, 0, none⟩) P.length cR) lb 0 (.slice none 0 0) (fun _ => 0) (fun _ => 0) from
        ⟨Turns.refl _ _, hW.blk, World.ownsRow_nil _ _ _ _, fun t ht => absurd ht (Nat.not_lt_zero _), fun t ht => absurd ht (Nat.not_lt_zero _)⟩)
      have h5o : w5.heap.size ≤ wo.heap.size := hW.tn.size
      have HW := Lib.hid (And.intro hW hops)
      clear hW hops
      go_wp2
      clear c3
      go_loopw [84] (fun i wl => ∃ (m : Nat) (vL : Value) (ub uk : Nat → Nat), i = .int .i64 m ∧ m ≤ T.length ∧ NwL wo wl l q bud (treeT P T) (.slice (some ⟨bR, 0, none⟩) P.length cR) lb m vL ub uk) (fun i _ => T.length - (intOf i).toNat)
      case atStart => exact ⟨0, _, _, _, rfl, by omega, HL0.out⟩
      case round =>
        clear HL0
        obtain ⟨m, vL, ub, uk, rfl, hm, hL⟩ := hrel
        obtain ⟨wl, rfl⟩ : ∃ wl : World, wl = wr := ⟨_, rfl⟩
        by_cases hmt : m < T.length
        · obtain ⟨x, ax, ex⟩ := xAt HCK.out hmt
          obtain ⟨A, cap, rfl⟩ := own_form hL.own
          have HTW : Hid (∀ W, Below wl.heap.size wl W → TabF W b P T ∧ Blk W l 96 (hlkC bud (.slice (some ⟨bR, 0, none⟩) P.length cR) (.slice A m cap) q T.length) ∧ (W.cell? ⟨w.heap.size, 0, none⟩ = some (.slice AP P.length cP) ∧ W.cell? ⟨w.heap.size, 1, none⟩ = some vT ∧ RdL W (.slice AP P.length cP) 1 encI P) ∧ ∀ v, v < P.length → W.cell? ⟨bR, v, none⟩ = some (.pointer (some ⟨lb v, 0, none⟩))) := Lib.hid fun W hW => by
            obtain ⟨B', k1, k2⟩ := HTQ.out
            have tw : Turns [l] wo W := hL.tn.trans (Turns.of_below hW)
            have o := HO.out
            refine ⟨(k1.turns tw fun i hi hB => k2 i hB (by simpa using hi)).f, (hL.below hW).blk, HBX.out _ (HW.out.1.tn.trans (tw.mono (by simp))), fun v hv => ?_⟩
            have c := HW.out.1.own.cellAt v (by omega)
            rw [ptrsTo_get _ _ _ hv] at c
            exact tw.cell c (by simp; omega)
          have hl1 : l < wl.heap.size := hL.blk.lt
          obtain ⟨D, hD⟩ : ∃ D, D = (depT P T).toNat := ⟨_, rfl⟩
          have hD1 : 1 ≤ D ∧ D ≤ 5 := by rw [hD]; exact ⟨(treeT_ok HCK.out).d1, treeT_D HCK.out⟩
          have HU0 := upF_ wl b P T m x ax.at_ (HTW.out wl (Below.refl _ _)).1
          rw [ax.len, ← hD] at HU0
          have HU := Lib.hid HU0
          have HL := Lib.hid hL
          have HX := Lib.hid (And.intro ax (And.intro ex hD))
          clear hL ax ex hD HU0
          go_wp2_with fail
          refine HU.out.mono ?_
          rintro en w7 ⟨v7, rfl, o7, b7⟩
          obtain ⟨bu, cu, rfl, hbu0, hbu1⟩ := own_form1 o7 (by omega)
          have HUC : Hid (∀ W, Below w7.heap.size w7 W → ∀ c, c < D → W.cell? ⟨bu, c, none⟩ = some (.int .i64 (plX P x c))) := Lib.hid fun W hW c hcD => by
            have e := o7.cellAt c (by omega)
            have hcu : (upL P x)[c]? = some (plX P x c) := by
              obtain ⟨u, hu⟩ := getElem?_lt (show c < (upL P x).length by rw [HX.out.1.len, ← HX.out.2.2]; exact hcD)
              rw [hu]; unfold plX; rw [getD_of hu]
            have e2 : ((upL P x).flatMap encI)[c]? = some (.int .i64 (plX P x c)) := by
              have : (upL P x).flatMap encI = (upL P x).map (Value.int .i64) := flatI_eq _
              rw [this, List.getElem?_map, hcu]; rfl
            rw [e2] at e
            exact (hW.cell (p := ⟨bu, c, none⟩) hbu1).trans e
          have H7 := Lib.hid b7
          have h7s : wl.heap.size ≤ w7.heap.size := b7.size
          clear o7 b7 HU
          go_wp2
          go_loopw [17, 92] (fun lv i wi => ∃ (c : Nat), i = .int .i64 c ∧ c ≤ D ∧ Below w7.heap.size w7 wi ∧ wi.ownsRow w7.heap.size 99 2 lv c (stepsTo lb (treeT P T) m c)) (fun _ i _ => D - (intOf i).toNat)
          case atStart => exact ⟨0, rfl, by omega, Below.refl _ _, World.ownsRow_nil _ _ _ _⟩
          case round =>
            obtain ⟨c, rfl, hcD, hbi, hoi⟩ := hrel
            obtain ⟨wi, rfl⟩ : ∃ wi : World, wi = wr := ⟨_, rfl⟩
            by_cases hclt : c < D
            · obtain ⟨v, _, hvl, hvx, _, _⟩ := HX.out.1.up c (by rw [← HX.out.2.2]; exact hclt)
              have cu0 := HUC.out wi hbi c hclt
              have HPV := Lib.hid (show (treeT P T).pl m c = v from by show (plX P (T.getD m 0) c).toNat = v; rw [HX.out.2.1, hvx, Int.toNat_natCast])
              rw [hvx] at cu0
              obtain ⟨g0, g1, ⟨g2, g3, g4⟩, g5⟩ := HTW.out wi (H7.out.trans (hbi.mono h7s))
              have HSL := Lib.hid (slotF wi b P T m hmt g0)
              obtain ⟨A3, c3, rfl⟩ := own_form hoi
              have HI := Lib.hid (And.intro hbi hoi)
              have HV := Lib.hid hvx
              clear g0 g1 g2 g3 g4 g5 hbi hoi
              go_wp2_with fail
              refine HSL.out.mono ?_
              rintro en wi' ⟨rfl, rfl⟩
              clear HSL
              go_upto_if 101 with fail
              go_cut [21] (fun s21 wx => s21 = .int .i64 ((treeT P T).sl m c : Nat) ∧ Below wi.heap.size wi wx)
              case first =>
                by_cases hc0 : c = 0
                · subst hc0
                  have HS0 := Lib.hid (slT HCK.out hmt HX.out.1 (k := 0) (by rw [← HX.out.2.2]; omega))
                  go_wp2
                  go_meet
                  case rel => exact ⟨by rw [HS0.out]; rfl, Below.refl _ _⟩
                · obtain ⟨d, rfl⟩ : ∃ d, c = d + 1 := ⟨c - 1, by omega⟩
                  obtain ⟨c, hc⟩ : ∃ c, c = d + 1 := ⟨_, rfl⟩
                  obtain ⟨v0, _, hvl0, hvx0, _, _⟩ := HX.out.1.up d (by rw [← HX.out.2.2]; omega)
                  have HS0 := Lib.hid (show (((treeT P T).sl m (d + 1) : Nat) : Int) = idxI (chL P v) v0 from by
                    rw [slT HCK.out hmt HX.out.1 (k := d + 1) (by rw [← HX.out.2.2]; exact hclt)]
                    show idxI (chL P (plX P x (d + 1))) (plX P x d) = _
                    rw [HV.out, hvx0])
                  have cd0 := HUC.out wi HI.out.1 d (by omega)
                  rw [hvx0] at cd0
                  obtain ⟨g0, g1, ⟨g2, g3, g4⟩, g5⟩ := HTW.out wi (H7.out.trans (HI.out.1.mono h7s))
                  have HBE := Lib.hid (belowHw wi.drew (.slice AP P.length cP) vT P (show RdL wi.drew (.slice AP P.length cP) 1 encI P from g4) (by omega) (v : Int))
                  have hsw : w.heap.size < wi.heap.size := by have := HO.out; have := HI.out.1.size; omega
                  have hsb : bu < wi.heap.size := by have := HI.out.1.size; omega
                  have hl32 : (chL P v).length ≤ 32 := by have := chTo_len P v P.length; unfold chL; omega
                  have x1 : IntKind.i64.wrap (((d : Nat) : Int) + 1 - 1) = (d : Int) := by rw [Int.add_sub_cancel]; exact IntWalk.i64_in _ (by omega)
                  have x2 : (d : Int) < (D : Int) := by omega
                  have x4 : IntKind.i64.wrap (d : Int) = (d : Int) := IntWalk.i64_in _ (by omega)
                  have x5 : ¬ (d : Int) < 0 := by omega
                  have x6 : ¬ (D : Int) ≤ (d : Int) := by omega
                  have x3 : d < D := by omega
                  clear g0 g1 g4 g5 hc
                  go_wp2
                  go_region_held3 (fun W => W.cell? ⟨w.heap.size, 0, none⟩ = some (.slice AP P.length cP) ∧ W.cell? ⟨w.heap.size, 1, none⟩ = some vT ∧ W.cell? ⟨bu, d, none⟩ = some (.int .i64 v0))
                    (first | exact ⟨g2, g3, cd0⟩ | exact K8.out)
                    (first
                      | (go_at_call 103; go_loud (refine HBE.out.mono ?_); rintro en w8 ⟨v8, rfl, o8, b8⟩; have B8 := Lib.hid (show Below wi.heap.size wi w8 from ⟨b8.os, b8.tape, b8.output, b8.size, b8.block⟩); have K8 := Lib.hid (And.intro ((B8.out.cell (p := ⟨w.heap.size, 0, none⟩) hsw).trans g2) (And.intro ((B8.out.cell (p := ⟨w.heap.size, 1, none⟩) hsw).trans g3) ((B8.out.cell (p := ⟨bu, d, none⟩) hsb).trans cd0))); have HIX := Lib.hid (index_any w8 v8 (chL P v) v0 (own_rdl o8 (by omega))); clear o8 b8)
                      | (go_at_call 108; go_loud (refine HIX.out.mono ?_); rintro en w9 ⟨rfl, rfl⟩))
                  all_goals
                    go_wp2
                    go_meet
                    case rel => exact ⟨by rw [HS0.out], B8.out⟩
              case rest =>
                obtain ⟨rfl, hbx⟩ := hcut
                obtain ⟨wx, rfl⟩ : ∃ wx : World, wx = wc := ⟨_, rfl⟩
                have hby : Below w7.heap.size w7 wx := HI.out.1.trans (hbx.mono HI.out.1.size)
                have hoy : wx.ownsRow w7.heap.size 99 2 (.slice A3 c c3) c (stepsTo lb (treeT P T) m c) := Turns.own HI.out.2 (Turns.of_below (S := []) hbx) (by simp)
                obtain ⟨g0, g1, _, g5⟩ := HTW.out wx (H7.out.trans (hby.mono h7s))
                have c1 : wx.cell? ⟨l, 1, none⟩ = some (.slice (some ⟨bR, 0, none⟩) P.length cR) := g1.cell 1
                have g6 := g5 v hvl
                have HY := Lib.hid (And.intro hby hoy)
                have h7x : w7.heap.size ≤ wx.heap.size := hby.size
                have hlx : l < wx.heap.size := by omega
                have hbx9 : bR < wx.heap.size := by have := block_lt_of_cell g6; exact this
                have y1 : (v : Int) < (P.length : Int) := by omega
                have y2 : ¬ (v : Int) < 0 := by omega
                clear g0 g1 g5 hby hoy hbx HI
                go_wp2_with (at_builtin; refine wpList_append_lies _ rfl _ _ 100 rfl w7.heap.size 99 j1 (.agg #[.pointer none, .int .i64 0]) 2 16 Tryz.underlying100 HJ1.out.1 HJ1.out.2.1 HJ1.out.2.2.1 HJ1.out.2.2.2 rfl (by decide) _ _ _ rfl (HY.out.2.alloc _) ⟨wx.heap.size, 0, none⟩ 1 1 [.pointer (some ⟨lb v, 0, none⟩), .int .i64 ((treeT P T).sl m c : Nat)] rfl rfl (cell_two_new _ _ _ _) (by simp [Value.oneCell']) (by decide) ?c3 ?c4 ?c5 _ rfl ?_)
                case c3 => unfold maxLen; omega
                case c4 => omega
                case c5 => first | (simp; omega) | omega
                intro g3 cap3 w9 h9 hg9 hl9 hlt9
                have H9 := Lib.hid (And.intro h9 hg9)
                clear h9 hg9 hl9
                go_wp2
                go_roundw
                case rel => exact ⟨c + 1, by go_num, by omega, (HY.out.1.alloc h7x _).grown H9.out.2 (by simp; omega) (fun j hj => (HY.out.2.lt j hj).1), by rw [stepsTo_succ, HPV.out]; exact H9.out.1⟩
                case measure => simp [intOf]; omega
            · obtain rfl : c = D := by omega
              obtain ⟨nb, cv, rfl, hnb0, hnb1⟩ := own_form1 hoi (by omega)
              have hbw : Below wl.heap.size wl wi := H7.out.trans (hbi.mono h7s)
              obtain ⟨_, g1, _, _⟩ := HTW.out wi hbw
              have c2 : wi.cell? ⟨l, 2, none⟩ = some (.slice A m cap) := g1.cell 2
              have HY := Lib.hid (And.intro hbw (And.intro (own_lower hoi h7s) (And.intro g1 (HL.out.below hbw).own)))
              have hos : wo.heap.size ≤ wi.heap.size := Nat.le_trans HL.out.tn.size hbw.size
              have hlw : l < wi.heap.size := g1.lt
              have hlown : (Value.slice A m cap).ownBlock ≠ some l := (fun e => by have := (HL.out.own.lt l e).1; have := HO.out; omega)
              clear hbi hoi g1 hbw
              go_wp2_with (at_builtin; refine wpList_append_lies _ rfl _ _ 94 rfl wo.heap.size 100 j2 (.slice none 0 0) 1 24 Tryz.underlying94 HJ2.out.1 HJ2.out.2.1 HJ2.out.2.2.1 HJ2.out.2.2.2 rfl (by decide) _ _ _ rfl (HY.out.2.2.2.alloc _) ⟨wi.heap.size, 0, none⟩ 1 1 [.slice (some ⟨nb, 0, none⟩) c cv] rfl rfl (cell_one_new _ _ _) (by simp [Value.oneCell']) (by decide) ?c3 ?c4 ?c5 _ rfl ?_)
              case c3 => unfold maxLen; omega
              case c4 => omega
              case c5 => simp; omega
              intro g9 c9 w9 h9 hg9 hl9 hlt9
              have bl9 := (HY.out.2.2.1.alloc (.cells #[.slice (some ⟨nb, 0, none⟩) c cv] 100)).grown hg9 (fun e => hlown e.symm)
              have c29 : w9.cell? ⟨l, 2, none⟩ = some (.slice A m cap) := bl9.cell 2
              have z29 := bl9.free 2
              have HLL := Lib.hid (show NwL wo (w9.setCell ⟨l, 2, none⟩ (.slice (some ⟨g9, 0, none⟩) (m + 1) c9)) l q bud (treeT P T) (.slice (some ⟨bR, 0, none⟩) P.length cR) lb (m + 1) (.slice (some ⟨g9, 0, none⟩) (m + 1) c9) (updH ub m nb) (updH uk m cv) from by
                have o := HO.out
                obtain rfl := HX.out.2.2
                exact HL.out.step (by omega) (treeT_ok HCK.out).d1 HY.out.1 HY.out.2.1 h9 hg9 (by simpa using hl9))
              clear h9 hg9 hl9 bl9 HY
              go_wp2
              go_roundw
              case rel => exact ⟨m + 1, _, _, _, by go_num, by omega, HLL.out⟩
              case measure => simp [intOf]; omega
        · obtain rfl : m = T.length := by omega
          obtain ⟨bL, cL, rfl, hbL0, hbL1⟩ := own_form1 hL.own (by omega)
          have HL := Lib.hid hL
          clear hL
          go_wp2
          go_ret2
          have o := HO.out
          obtain ⟨K, KB⟩ := nwIs (lo := w.heap.size) HW.out.1 HL.out HQO.out (treeT_ok HCK.out) (treeT_D HCK.out) hT32 hP32 (by omega) (by omega) (by omega) (by omega) (by omega)
          refine ⟨_, _, s1, rfl, rfl, rfl, K, HW.out.2, KB, by show w.heap.size ≤ q; omega, fun v hv => ?_, ?_⟩
          · have := (HW.out.1.lo v hv).2.1
            show w.heap.size ≤ qb v; omega
          · have t15 : Turns [a, l, b] w w5 := (Turns.of_below (S := [a, l, b]) K1.out.2.1).trans (T5.out.mono (by simp))
            have t59 : Turns [a, l, b] w wl := (t15.trans (HW.out.1.tn.mono (by simp))).trans (HL.out.tn.mono (by simp))
            exact t59.fresh fun i hi => by simp at hi ⊢; omega
end Go.Proofs.YtkdaiomjbkpedaaGreat
end
section
/- Layer 27 (hmcs): a lock of the law's own. -/
namespace Go.Proofs.YtkdaiomjbkpedaaGreat
open Go.RowKit

theorem madeNoH (w : World) (vP vT : Value) (n0 : Nat) (hs : SmNo w vP vT 8) :
    Calls Tryz.prog 25 #[.agg #[vP, vT], .int .u8 n0] w fun e w' => e = .returned (.tuple #[.pointer none, .pointer none, .bool false]) ∧ Below w.heap.size w w' := by
  have HB0 := Lib.hid ((Below.refl w.heap.size w).alloc (Nat.le_refl _) (.cells #[vP, vT] 24))
  have H := Lib.hid (hs _ HB0.out)
  clear hs
  go_enter Tryz.func25, Tryz.ntmps25
  go_wp2_with fail
  refine H.out.mono ?_
  rintro en w1 ⟨rfl, b1⟩
  have HB1 := Lib.hid (HB0.out.trans (b1.mono HB0.out.size))
  clear b1
  go_wp2
  go_ret3
  exact ⟨rfl, HB1.out⟩
set_option maxRecDepth 100000 in
set_option maxHeartbeats 1000000 in
theorem madeYesH (w : World) (vP vT : Value) (P T : List Int) (hP : RdL w vP 1 encI P) (hT : RdL w vT 1 encI T) (n0 : Nat) (hn0 : n0 < 256) (hs : smallB P T 8 = true) :
    Calls Tryz.prog 25 #[.agg #[vP, vT], .int .u8 n0] w fun e w' => ∃ (B : Nat → Prop) (x : Hx) (s : Ar), e = .returned (.tuple #[.pointer (some ⟨x.a, 0, none⟩), .pointer (some ⟨x.l, 0, none⟩), .bool true]) ∧ HmSt w w' B x (treeT P T) ((n0 : Int) % 4) s (hm0 (treeT P T)) 0 := by
  have hck : chkT P T = 0 ∧ (T.length : Int) ≤ 8 := of_decide_eq_true hs
  obtain ⟨AP, cP, rfl, _⟩ := id hP
  have hml := many_lt (chk_ok hck.1).1
  have HBL := Lib.hid (fun g' (hg' : (Value.slice AP P.length cP).ownBlock = some g') => rd_block hP (by omega) hg')
  have HS := smallH (w.alloc (.cells #[.slice AP P.length cP, vT] 24)) (.slice AP P.length cP) vT P T (hP.alloc _) (hT.alloc _) 8
  rw [hs] at HS
  have H := Lib.hid HS
  have HB0 := Lib.hid ((Below.refl w.heap.size w).alloc (Nat.le_refl _) (.cells #[.slice AP P.length cP, vT] 24))
  have HRD := Lib.hid (And.intro hP hT)
  have hX : (w.alloc (.cells #[.slice AP P.length cP, vT] 24)).cell? ⟨w.heap.size, 0, none⟩ = some (.slice AP P.length cP) ∧ (w.alloc (.cells #[.slice AP P.length cP, vT] 24)).cell? ⟨w.heap.size, 1, none⟩ = some vT := by simp [World.cell?_alloc_new]
  have HX := Lib.hid hX
  have hbx : w.heap.size < (w.alloc (.cells #[.slice AP P.length cP, vT] 24)).heap.size := by simp
  have hq0 : (0 : Int) ≤ (n0 : Int) % 4 ∧ (n0 : Int) % 4 < 4 := by omega
  have HCK := Lib.hid hck
  clear HS hs hP hT hX hck hml
  go_enter Tryz.func25, Tryz.ntmps25
  go_wp2_with fail
  refine H.out.mono ?_
  rintro en w1 ⟨rfl, b1⟩
  have HB1 := Lib.hid (And.intro (HB0.out.trans (b1.mono HB0.out.size)) b1)
  clear b1
  go_wp2_with fail
  refine (newA_any _ 4096).mono ?_
  rintro en w2 ⟨a, g, rfl, hA, ha, hg, hb⟩
  have f0 : w2.cell? ⟨w.heap.size, 0, none⟩ = some (.slice AP P.length cP) := (hb.cell (p := ⟨w.heap.size, 0, none⟩) (Nat.lt_of_lt_of_le hbx HB1.out.2.size)).trans ((HB1.out.2.cell (p := ⟨w.heap.size, 0, none⟩) hbx).trans HX.out.1)
  have f1 : w2.cell? ⟨w.heap.size, 1, none⟩ = some vT := (hb.cell (p := ⟨w.heap.size, 1, none⟩) (Nat.lt_of_lt_of_le hbx HB1.out.2.size)).trans ((HB1.out.2.cell (p := ⟨w.heap.size, 1, none⟩) hbx).trans HX.out.2)
  have HA := Lib.hid (And.intro hA (And.intro ha (And.intro hg (HB1.out.1.trans (hb.mono HB1.out.1.size)))))
  clear hA ha hg hb
  go_wp2_with fail
  have B2 := HA.out.2.2.2
  refine (newHm HA.out.1 rfl HA.out.1.ne AP cP vT P T (HRD.out.1.below B2 (Nat.le_refl _)) (fun i hi => by have := HBL.out i hi; have := HA.out.2.1; have := HB1.out.1.size; have := B2.size; omega) (HRD.out.2.below B2 (Nat.le_refl _)) HCK.out.1 ((n0 : Int) % 4) (by omega) (by omega) rfl).mono ?_
  rintro en w3 ⟨B, x, s', hca, hcg, rfl, k3, hop, hB, hq, hqb, t3⟩
  have HK := Lib.hid (And.intro k3 (And.intro hop (And.intro hB (And.intro hq (And.intro hqb (And.intro t3 hcg))))))
  clear B2 k3 hop hB hq hqb t3 f0 f1 hcg
  subst hca
  go_wp2
  go_ret3
  have s1 := HB1.out.1.size
  have s2 := HA.out.2.2.2.size
  have s6 := HA.out.2.1
  have s7 := HA.out.2.2.1
  obtain ⟨k3, hop, hB, hq, hqb, t3, hcg⟩ := HK.out
  refine ⟨B, x, s', rfl, k3, ⟨_, _, HInv.start _ _⟩, ?_, fun i hi => ?_, by omega, ?_⟩
  · exact HA.out.2.2.2.trans (t3.below (by simp; omega) s2)
  · unfold mvL at hi
    rcases List.mem_append.1 hi with hi | hi
    · simp at hi; omega
    · obtain ⟨v, hv, e⟩ := List.mem_map.1 hi
      have := hqb v (List.mem_range.1 hv)
      omega
  · rw [hop]; exact Nat.le_refl _
end Go.Proofs.YtkdaiomjbkpedaaGreat
end
section
/- Layer 27 (hmcs): the entries of a play, in a list; no program in sight. An act, and what it turns. -/
namespace Go.Proofs.YtkdaiomjbkpedaaGreat
open Go.RowKit

def lastEv (P T : List Int) (L : List Ev) : Option (Nat × Int) := L.getLast?.map fun e => ((treeT P T).pl e.thread.toNat 0, e.count)
structure TnS (P T : List Int) (bud : Int) (m : Hm) (L : List Ev) : Prop where
  ok : OkE T (bud + 1) L
  ten : Ten (treeT P T) m (lastEv P T L)
  thr : ∀ e ∈ L, ∃ i : Nat, e.thread = i ∧ i < T.length
section
variable {P T : List Int} {bud : Int} {m m' : Hm} {L : List Ev} {Q Q' : Nat → List Nat} {O O' : Nat → Nat → Option Nat}
theorem leaf_same (h : chkT P T = 0) {t u : Nat} (ht : t < T.length) (hu : u < T.length) (e : (treeT P T).pl t 0 = (treeT P T).pl u 0) : T.getD t 0 = T.getD u 0 := by
  obtain ⟨x, a, ex⟩ := xAt h ht
  obtain ⟨y, b, ey⟩ := xAt h hu
  have z : ∀ {i : Nat} {z : Int}, XAt P T i z → plX P z 0 = z ∧ 0 ≤ z := fun {i z} c => by
    have q := leaf_lt c.leaf
    obtain ⟨n, rfl⟩ := Int.eq_ofNat_of_zero_le q.1
    obtain ⟨p, hp⟩ := getElem?_lt (show n < P.length by omega)
    exact ⟨by unfold plX; rw [upL_step (chk_ok h).2.1 hp]; rfl, q.1⟩
  have e' : (plX P (T.getD t 0) 0).toNat = (plX P (T.getD u 0) 0).toNat := e
  rw [ex, ey, (z a).1, (z b).1] at e'
  rw [ex, ey]
  have := (z a).2
  have := (z b).2
  omega
theorem nodeOf_in {t : Nat} (h : t < T.length) : nodeOf T (t : Int) = T.getD t 0 := by
  unfold nodeOf; rw [if_neg (by omega), Int.toNat_natCast]
theorem TnS.snoc (hc : chkT P T = 0) (k : TnS P T bud m L) {i : Nat} (hi : i < T.length) {c : Int} (ht : Ten (treeT P T) m' (some ((treeT P T).pl i 0, c))) (he : EntOk bud (lastEv P T L) ((treeT P T).pl i 0) c) : TnS P T bud m' (L ++ [⟨2, i, false, c⟩]) := by
  refine ⟨fun j e hj => ?_, ?_, fun e he => ?_⟩
  · rcases Nat.lt_or_ge j L.length with hl | hl
    · rw [List.getElem?_append_left hl] at hj
      obtain ⟨a1, a2, a3, a4⟩ := k.ok j e hj
      refine ⟨a1, a2, a3, ?_⟩
      rcases a4 with a4 | ⟨j', p, b1, b2, b3⟩
      · exact .inl a4
      · exact .inr ⟨j', p, b1, by rw [List.getElem?_append_left (by omega)]; exact b2, b3⟩
    · have hj2 := (List.getElem?_eq_some_iff.1 hj).1
      simp at hj2
      obtain rfl : j = L.length := by omega
      rw [List.getElem?_append_right (Nat.le_refl _), Nat.sub_self] at hj
      injection hj with hj
      subst hj
      refine ⟨rfl, he.1, he.2.1, ?_⟩
      rcases he.2.2 with h1 | h1
      · exact .inl h1
      · unfold lastEv at h1
        cases hg : L.getLast? with
        | none => rw [hg] at h1; cases h1
        | some p =>
          rw [hg] at h1
          injection h1 with h1
          injection h1 with h2 h3
          obtain ⟨u, hu, hul⟩ := k.thr p (List.mem_of_getLast? hg)
          have hne : L ≠ [] := fun e => by rw [e] at hg; cases hg
          have hpos := List.length_pos_iff.2 hne
          rw [List.getLast?_eq_getElem?] at hg
          refine .inr ⟨L.length - 1, p, by omega, by rw [List.getElem?_append_left (by omega)]; exact hg, by show c = p.count + 1; omega, ?_⟩
          show nodeOf T (i : Int) = nodeOf T p.thread
          rw [hu, nodeOf_in hi, nodeOf_in hul]
          rw [hu, Int.toNat_natCast] at h2
          exact (leaf_same hc hul hi h2).symm
  · unfold lastEv
    rw [List.getLast?_append]
    exact ht
  · rcases List.mem_append.1 he with he | he
    · exact k.thr e he
    · simp at he
      subst he
      exact ⟨i, rfl, hi⟩
def Ents (m m' : Hm) (ii : Int) : Prop := (getS m.S ii).pc < 10 ∧ (getS m'.S ii).pc = 10
theorem TnS.act (hc : chkT P T = 0) (k : TnS P T bud m L) (h : HInv (treeT P T) bud m Q O) (hb : 0 ≤ bud) (kd ii : Int) :
    (Ents m (actHm (treeT P T) bud m kd ii) ii → TnS P T bud (actHm (treeT P T) bud m kd ii) (L ++ [⟨2, ii, false, countI (treeT P T) (actHm (treeT P T) bud m kd ii) ii⟩])) ∧ (¬ Ents m (actHm (treeT P T) bud m kd ii) ii → TnS P T bud (actHm (treeT P T) bud m kd ii) L) := by
  have hok := treeT_ok hc
  have same : (Ents m m ii → TnS P T bud m (L ++ [⟨2, ii, false, countI (treeT P T) m ii⟩])) ∧ (¬ Ents m m ii → TnS P T bud m L) := ⟨fun e => by unfold Ents at e; omega, fun _ => k⟩
  have hsl : m.S.length = T.length := (h.x 0).sl
  unfold actHm
  by_cases k0 : kd = 0
  · rw [if_pos k0]
    unfold stepI
    by_cases ho : okI m.S ii
    · rw [if_pos ho]
      obtain ⟨h0, h1⟩ := id ho
      obtain ⟨n, rfl⟩ := Int.eq_ofNat_of_zero_le h0
      rw [Int.toNat_natCast]
      have hn : n < T.length := by omega
      have f := h.stepFr hok (i := n) hn
      have s := h.stepT k.ten hok (i := n) hn
      obtain ⟨Q', O', h'⟩ := h.step hok hb (i := n) hn
      have hsl' : (stepHm (treeT P T) bud m n).S.length = T.length := (h'.x 0).sl
      have g0 : getS m.S (n : Int) = sv m.S n := getS_nat (by omega)
      have g1 : getS (stepHm (treeT P T) bud m n).S (n : Int) = sv (stepHm (treeT P T) bud m n).S n := getS_nat (by omega)
      unfold Ents
      rw [g0, g1]
      refine ⟨fun e => ?_, fun e => ⟨k.ok, k.ten.next h hok hn f s e, k.thr⟩⟩
      obtain ⟨t1, t2⟩ := k.ten.enter h h' hok hn f s e.1 e.2
      have hcn : countI (treeT P T) (stepHm (treeT P T) bud m n) (n : Int) = (lfH (treeT P T) (stepHm (treeT P T) bud m n) n).a := by
        unfold countI
        rw [if_pos ⟨⟨by omega, by omega⟩, by rw [g1]; exact e.2⟩]
        rfl
      rw [hcn]
      exact k.snoc hc hn t1 t2
    · rw [if_neg ho]; exact same
  · rw [if_neg k0]
    by_cases k1 : kd = 1
    · rw [if_pos k1]
      unfold askI
      by_cases ho : okI m.S ii
      · rw [if_pos ho]
        obtain ⟨h0, h1⟩ := id ho
        obtain ⟨n, rfl⟩ := Int.eq_ofNat_of_zero_le h0
        rw [Int.toNat_natCast]
        have hn : n < T.length := by omega
        have g0 : getS m.S (n : Int) = sv m.S n := getS_nat (by omega)
        by_cases p0 : (sv m.S n).pc = 0
        · refine ⟨fun e => ?_, fun _ => ⟨k.ok, h.askT k.ten hok hn, k.thr⟩⟩
          exfalso
          have e2 : askHm (treeT P T) m n = (askH m ((treeT P T).pl n 0) ((treeT P T).sl n 0)).thr n ⟨1, 0, 0, 0⟩ := by unfold askHm; rw [if_pos p0]
          have hl : n < (askH m ((treeT P T).pl n 0) ((treeT P T).sl n 0)).S.length := by rw [askH_S]; omega
          have e3 : sv (askHm (treeT P T) m n).S n = ⟨1, 0, 0, 0⟩ := by rw [e2]; exact sv_thr _ _ hl
          have e4 : getS (askHm (treeT P T) m n).S (n : Int) = sv (askHm (treeT P T) m n).S n := getS_nat (by
            rw [e2]
            show n < ((askH m _ _).S.set n _).length
            rw [List.length_set]; exact hl)
          have := e.2
          rw [e4, e3] at this
          exact absurd this (by decide)
        · have e2 : askHm (treeT P T) m n = m := by unfold askHm; rw [if_neg p0]
          rw [e2]; exact same
      · rw [if_neg ho]; exact same
    · rw [if_neg k1]
      by_cases k2 : kd = 2
      · rw [if_pos k2]
        unfold leaveI
        by_cases ho : okI m.S ii
        · rw [if_pos ho]
          obtain ⟨h0, h1⟩ := id ho
          obtain ⟨n, rfl⟩ := Int.eq_ofNat_of_zero_le h0
          rw [Int.toNat_natCast]
          have hn : n < T.length := by omega
          have g0 : getS m.S (n : Int) = sv m.S n := getS_nat (by omega)
          by_cases p0 : (sv m.S n).pc = 10
          · refine ⟨fun e => ?_, fun _ => ⟨k.ok, h.leaveT k.ten hok hn, k.thr⟩⟩
            have := e.1
            rw [g0] at this
            omega
          · have e2 : leaveHm (treeT P T) bud m n = m := by unfold leaveHm; rw [if_neg p0]
            rw [e2]; exact same
        · rw [if_neg ho]; exact same
      · rw [if_neg k2]; exact same
theorem TnS.start (P T : List Int) (bud : Int) : TnS P T bud (hm0 (treeT P T)) [] := ⟨fun j e h => by simp at h, Ten.start _, fun e h => by cases h⟩
end
section
variable {w0 w w' : World} {B : Nat → Prop} {x : Hx} {T : HTr} {bud : Int} {s s' : Ar} {m m' : Hm} {N M : Nat} {Q : Nat → List Nat} {O : Nat → Nat → Option Nat}
set_option maxHeartbeats 1000000 in
theorem doHmT (h : HmSt w0 w B x T bud s m N) (hT : T.Ok) (hN : N < 1000000) (k i : Int) :
    Calls Tryz.prog 27 #[.pointer (some ⟨x.l, 0, none⟩), actV2 k i] w fun e w' => ∃ r s', e = .returned (.bool r) ∧ HmSt w0 w' B x T bud s' (actHm T bud m k i) (N + 1) ∧ Turns (mvL x T) w w' ∧ s'.ops ≤ s.ops + 1 ∧ (k ≠ 0 → s'.ops = s.ops) := by
  obtain ⟨Q, O, hI⟩ := h.iv
  have hop := h.op
  have hb : 0 ≤ bud ∧ bud ≤ 1000 := by have := h.b0; omega
  have hact := hI.act hT h.b0.1 k i
  have hd : Below w.heap.size w (w.alloc (.cells #[.int .i64 k, .int .i64 i] 33)) := (Below.refl _ _).alloc (Nat.le_refl _) _
  have HW := Lib.hid (h.below hd)
  have fin : ∀ (W : World) (r : Bool) (s' : Ar), HmIs B W x T bud s' (actHm T bud m k i) → Turns (mvL x T) (w.alloc (.cells #[.int .i64 k, .int .i64 i] 33)) W → s'.ops ≤ s.ops + 1 → (k ≠ 0 → s'.ops = s.ops) → ∃ r' s', (Ending.returned (.bool r)) = .returned (.bool r') ∧ HmSt w0 W B x T bud s' (actHm T bud m k i) (N + 1) ∧ Turns (mvL x T) w W ∧ s'.ops ≤ s.ops + 1 ∧ (k ≠ 0 → s'.ops = s.ops) := fun W r s' h1 h2 h3 h4 =>
    ⟨r, s', rfl, HW.out.next h2 h1 hact (by omega), (Turns.of_below hd).trans h2, h3, h4⟩
  have HF := Lib.hid fin
  clear fin h hd
  unfold actV2
  by_cases k0 : k = 0
  · have e : actHm T bud m k i = stepI T bud m i := by unfold actHm; rw [if_pos k0]
    rw [e] at HF
    rw [e]
    clear e hact
    subst k0
    go_enter Tryz.func27, Tryz.ntmps27
    go_wp2_with fail
    refine (stepHw HW.out.is hT hI hb (by omega) i).mono ?_
    rintro en w1 ⟨b, s', rfl, h1, h2, h3⟩
    have H1 := Lib.hid (HF.out w1 b s' h1 h3 h2 (fun h => absurd rfl h))
    clear h1 h2 h3
    go_wp2
    go_ret
    exact H1.out
  · by_cases k1 : k = 1
    · have e : actHm T bud m k i = askI T m i := by unfold actHm; rw [if_neg k0, if_pos k1]
      rw [e] at HF
      rw [e]
      clear e hact k0
      subst k1
      go_enter Tryz.func27, Tryz.ntmps27
      go_wp2_with fail
      refine (askHw HW.out.is hT i).mono ?_
      rintro en w1 ⟨rfl, h1, h3⟩
      obtain ⟨b, hbb⟩ : ∃ b, b = decide (okI m.S i ∧ (getS m.S i).pc = 0) := ⟨_, rfl⟩
      rw [← hbb]
      clear hbb
      have H1 := Lib.hid (HF.out w1 b s h1 h3 (by omega) (fun _ => rfl))
      clear h1 h3
      go_wp2
      go_ret
      exact H1.out
    · by_cases k2 : k = 2
      · have e : actHm T bud m k i = leaveI T bud m i := by unfold actHm; rw [if_neg k0, if_neg k1, if_pos k2]
        rw [e] at HF
        rw [e]
        clear e hact k0 k1
        subst k2
        go_enter Tryz.func27, Tryz.ntmps27
        go_wp2_with fail
        refine (leaveHw HW.out.is hT hI hb i).mono ?_
        rintro en w1 ⟨b, rfl, h1, h3⟩
        have H1 := Lib.hid (HF.out w1 b s h1 h3 (by omega) (fun _ => rfl))
        clear h1 h3
        go_wp2
        go_ret
        exact H1.out
      · have e : actHm T bud m k i = m := by unfold actHm; rw [if_neg k0, if_neg k1, if_neg k2]
        rw [e] at HF
        rw [e]
        have u0 : (k == 0) = false := by simpa using k0
        have u1 : (k == 1) = false := by simpa using k1
        have u2 : (k == 2) = false := by simpa using k2
        clear k0 k1 k2 hact e
        go_enter Tryz.func27, Tryz.ntmps27
        go_wp2
        go_ret
        exact HF.out _ false s HW.out.is (Turns.refl _ _) (by omega) (fun _ => rfl)
end
/-- no entries, no tenures -/
theorem tenureOf0 (w : World) (vn v : Value) (h : RdL w v 4 encE []) :
    Calls Tryz.prog 34 #[vn, v] w fun e w' => ∃ v', e = .returned (.tuple #[v', .bool true]) ∧ w'.ownsRow w.heap.size 106 3 v' 0 [] ∧ Below w.heap.size w w' := by
  have HE0 := Lib.hid (entriesT w v [] h (fun e he => by cases he) (by simp))
  clear h
  go_enter Tryz.func34, Tryz.ntmps34
  go_wp2
  go_step3
  go_wp2_with fail
  refine HE0.out.mono ?_
  rintro en w1 ⟨v7, rfl, o7, b7⟩
  obtain ⟨A7, c7, rfl⟩ := own_form o7
  have H7 := Lib.hid b7
  clear o7 b7 HE0
  go_wp2
  go_step3
  go_wp2
  rw [Exit.noGoto_ret]
  go_ret2
  exact ⟨_, rfl, World.ownsRow_nil _ _ _ _, H7.out⟩
theorem tenureAll (w : World) (vn v : Value) (ns : List Int) (l : List Ev) (X : Int) (hn : RdL w vn 1 encI ns) (h : RdL w v 4 encE l) (hk : OkE ns X l) (hl : l.length ≤ 1000) (hX : X ≤ 1000) :
    Calls Tryz.prog 34 #[vn, v] w fun e w' => ∃ (v' : Value) (rs : List RunT), e = .returned (.tuple #[v', .bool true]) ∧ RdL w' v' 3 encRn rs ∧ (∀ r ∈ rs, r.many ≤ X) ∧ Below w.heap.size w w' := by
  by_cases h0 : 0 < l.length
  · refine (tenureOf w vn v ns l X hn h hk hl hX h0).mono ?_
    rintro e w' ⟨v', rs, he, ho, h1, h2, h3⟩
    exact ⟨v', rs, he, RdL.of_own encRn_len rfl (by omega) ho, h2, h3⟩
  · obtain rfl : l = [] := List.length_eq_zero_iff.1 (by omega)
    refine (tenureOf0 w vn v h).mono ?_
    rintro e w' ⟨v', he, ho, h3⟩
    exact ⟨v', [], he, RdL.of_own encRn_len rfl (by simp) ho, (fun r hr => by cases hr), h3⟩
end Go.Proofs.YtkdaiomjbkpedaaGreat
end
section
/- Running closed code: plain data that stands for values and memory, by names in the place of blocks; what it means for such data to be what a world holds. No program in sight. -/
namespace Go.Proofs.YtkdaiomjbkpedaaGreat
open Go.RowKit

/-! ### A tree of numbers -/
inductive Tr (α : Type) where
  | nil
  | nd (x : Option α) (l r : Tr α)
namespace Tr
variable {α : Type}
def get : Tr α → Nat → Option α
  | nil, _ => none
  | nd x l r, k => bif Nat.beq k 0 then x else bif Nat.beq (k % 2) 1 then l.get (k / 2) else r.get (k / 2 - 1)
def single : Nat → Nat → α → Tr α
  | 0, _, v => nd (some v) nil nil
  | f + 1, k, v => bif Nat.beq k 0 then nd (some v) nil nil else bif Nat.beq (k % 2) 1 then nd none (single f (k / 2) v) nil else nd none nil (single f (k / 2 - 1) v)
def set : Tr α → Nat → α → Tr α
  | nil, k, v => single k k v
  | nd x l r, k, v => bif Nat.beq k 0 then nd (some v) l r else bif Nat.beq (k % 2) 1 then nd x (l.set (k / 2) v) r else nd x l (r.set (k / 2 - 1) v)
def del : Tr α → Nat → Tr α
  | nil, _ => nil
  | nd x l r, k => bif Nat.beq k 0 then nd none l r else bif Nat.beq (k % 2) 1 then nd x (l.del (k / 2)) r else nd x l (r.del (k / 2 - 1))
theorem beq0 (k : Nat) : Nat.beq k 0 = decide (k = 0) := by cases k <;> rfl
theorem beqd (a b : Nat) : Nat.beq a b = decide (a = b) := by
  rw [Bool.eq_iff_iff, Nat.beq_eq]; simp
theorem get_nil (k : Nat) : (nil : Tr α).get k = none := rfl
theorem get_single (v : α) : ∀ (f k : Nat), k ≤ f → ∀ j, (single f k v).get j = if j = k then some v else none
  | 0, k, h, j => by
    obtain rfl : k = 0 := by omega
    simp only [single, get, beqd]
    by_cases hj : j = 0 <;> simp [hj]
  | f + 1, k, h, j => by
    simp only [single, beqd]
    by_cases hk : k = 0
    · subst hk
      by_cases hj : j = 0 <;> simp [get, hj, beqd]
    · by_cases ho : k % 2 = 1
      · simp only [hk, ho, decide_false, decide_true, cond_false, cond_true, get, beqd]
        rw [get_single v f (k / 2) (by omega)]
        by_cases hj : j = 0
        · have : ¬ j = k := by omega
          simp [hj]; omega
        · by_cases hjo : j % 2 = 1
          · simp only [hj, hjo, decide_false, decide_true, cond_false, cond_true]
            by_cases e : j = k
            · subst e; simp
            · rw [if_neg (by omega), if_neg e]
          · simp only [hj, hjo, decide_false, cond_false]
            rw [if_neg (by omega)]
      · simp only [hk, ho, decide_false, cond_false, get, beqd]
        rw [get_single v f (k / 2 - 1) (by omega)]
        by_cases hj : j = 0
        · simp [hj]; omega
        · by_cases hjo : j % 2 = 1
          · simp only [hj, hjo, decide_false, decide_true, cond_false, cond_true]
            rw [if_neg (by omega)]
          · simp only [hj, hjo, decide_false, cond_false]
            by_cases e : j = k
            · subst e; simp
            · rw [if_neg (by omega), if_neg e]
theorem get_set (v : α) : ∀ (t : Tr α) (k j : Nat), (t.set k v).get j = if j = k then some v else t.get j
  | nil, k, j => by
    show (single k k v).get j = _
    rw [get_single v k k (Nat.le_refl _) j]; rfl
  | nd x l r, k, j => by
    simp only [set, beqd]
    by_cases hk : k = 0
    · subst hk
      by_cases hj : j = 0 <;> simp [get, hj, beqd]
    · by_cases ho : k % 2 = 1
      · simp only [hk, ho, decide_false, decide_true, cond_false, cond_true, get, beqd]
        by_cases hj : j = 0
        · simp [hj]; omega
        · by_cases hjo : j % 2 = 1
          · simp only [hj, hjo, decide_false, decide_true, cond_false, cond_true]
            rw [get_set v l]
            by_cases e : j = k
            · subst e; simp
            · rw [if_neg (by omega), if_neg e]
          · simp only [hj, hjo, decide_false, cond_false]
            rw [if_neg (by omega)]
      · simp only [hk, ho, decide_false, cond_false, get, beqd]
        by_cases hj : j = 0
        · simp [hj]; omega
        · by_cases hjo : j % 2 = 1
          · simp only [hj, hjo, decide_false, decide_true, cond_false, cond_true]
            rw [if_neg (by omega)]
          · simp only [hj, hjo, decide_false, cond_false]
            rw [get_set v r]
            by_cases e : j = k
            · subst e; simp
            · rw [if_neg (by omega), if_neg e]
theorem get_del : ∀ (t : Tr α) (k j : Nat), (t.del k).get j = if j = k then none else t.get j
  | nil, k, j => by simp [del, get]
  | nd x l r, k, j => by
    simp only [del, beqd]
    by_cases hk : k = 0
    · subst hk
      by_cases hj : j = 0 <;> simp [get, hj, beqd]
    · by_cases ho : k % 2 = 1
      · simp only [hk, ho, decide_false, decide_true, cond_false, cond_true, get, beqd]
        by_cases hj : j = 0
        · simp [hj]; omega
        · by_cases hjo : j % 2 = 1
          · simp only [hj, hjo, decide_false, decide_true, cond_false, cond_true]
            rw [get_del l]
            by_cases e : j = k
            · subst e; simp
            · rw [if_neg (by omega), if_neg e]
          · simp only [hj, hjo, decide_false, cond_false]
            rw [if_neg (by omega)]
      · simp only [hk, ho, decide_false, cond_false, get, beqd]
        by_cases hj : j = 0
        · simp [hj]; omega
        · by_cases hjo : j % 2 = 1
          · simp only [hj, hjo, decide_false, decide_true, cond_false, cond_true]
            rw [if_neg (by omega)]
          · simp only [hj, hjo, decide_false, cond_false]
            rw [get_del r]
            by_cases e : j = k
            · subst e; simp
            · rw [if_neg (by omega), if_neg e]
end Tr

/-! ### Values by names -/
/-- a slice's capacity: known, or what its block has room for (cells an element) -/
inductive Cp where
  | k (c : Nat)
  | u (es : Nat)
/-- what one cell holds -/
inductive C where
  | b (x : Bool)
  | i (k : IntKind) (n : Int)
  | s (x : ByteArray)
  | p (x : Option (Nat × Nat))
  | l (x : Option (Nat × Nat)) (n : Nat) (c : Cp)
  | f (fn : Nat) (first cap : List (Nat × Nat))
  | nf
  | ni
  /-- an interface's value: a cell, or a struct of one cell -/
  | d (t : TypeId) (agg : Bool) (x : C)
/-- a cell, or a struct's or an array's cells -/
inductive Wv where
  | c (x : C)
  | a (cs : List C)
/-- a value of a temporary -/
inductive V where
  | w (x : Wv)
  | t (xs : List Wv)
/-- names' blocks, and how many cells these have -/
abbrev Nm := Nat → Option (Nat × Nat)
def Nm.le (r s : Nm) : Prop := ∀ k x, r k = some x → s k = some x
theorem Nm.le_refl (r : Nm) : r.le r := fun _ _ h => h
theorem Nm.le_trans {r s t : Nm} (h : r.le s) (k : s.le t) : r.le t := fun _ _ e => k _ _ (h _ _ e)
def ptrOf (b o : Nat) : Value := .pointer (some ⟨b, o, none⟩)
inductive AR (r : Nm) : List (Nat × Nat) → List Value → Prop where
  | nil : AR r [] []
  | cons {k o b sz xs vs} (h : r k = some (b, sz)) (t : AR r xs vs) : AR r ((k, o) :: xs) (ptrOf b o :: vs)
inductive CR (r : Nm) : C → Value → Prop where
  | b (x) : CR r (.b x) (.bool x)
  | i (k n) : CR r (.i k n) (.int k n)
  | s (x) : CR r (.s x) (.string x)
  | p0 : CR r (.p none) (.pointer none)
  | p {k o b sz} (h : r k = some (b, sz)) : CR r (.p (some (k, o))) (ptrOf b o)
  | l0 (n c) : CR r (.l none n (.k c)) (.slice none n c)
  | l {k o b sz} (n c) (h : r k = some (b, sz)) : CR r (.l (some (k, o)) n (.k c)) (.slice (some ⟨b, o, none⟩) n c)
  | u {k o b sz} (n c es) (h : r k = some (b, sz)) (h1 : n ≤ c) (h2 : c ≤ maxLen) (h3 : o + c * es = sz) : CR r (.l (some (k, o)) n (.u es)) (.slice (some ⟨b, o, none⟩) n c)
  | f (fn) {a c va vc} (ha : AR r a va) (hc : AR r c vc) : CR r (.f fn a c) (.func (.func fn) va.toArray vc.toArray)
  | nf : CR r .nf .nilFunc
  | ni : CR r .ni .nilIface
  | d (t) {c v} (h : CR r c v) : CR r (.d t false c) (.iface t v)
  | da (t) {c v} (h : CR r c v) : CR r (.d t true c) (.iface t (.agg #[v]))
inductive CsR (r : Nm) : List C → List Value → Prop where
  | nil : CsR r [] []
  | cons {c v cs vs} (h : CR r c v) (t : CsR r cs vs) : CsR r (c :: cs) (v :: vs)
inductive WR (r : Nm) : Wv → Value → Prop where
  | c {x v} (h : CR r x v) : WR r (.c x) v
  | a {cs vs} (h : CsR r cs vs) : WR r (.a cs) (.agg vs.toArray)
inductive WsR (r : Nm) : List Wv → List Value → Prop where
  | nil : WsR r [] []
  | cons {c v cs vs} (h : WR r c v) (t : WsR r cs vs) : WsR r (c :: cs) (v :: vs)
inductive VR (r : Nm) : V → Value → Prop where
  | w {x v} (h : WR r x v) : VR r (.w x) v
  | t {xs vs} (h : WsR r xs vs) : VR r (.t xs) (.tuple vs.toArray)
section mono
variable {r s : Nm} (h : r.le s)
include h
theorem AR.mono {x v} (k : AR r x v) : AR s x v := by
  induction k with
  | nil => exact .nil
  | cons e _ ih => exact .cons (h _ _ e) ih
theorem CR.mono {x v} (k : CR r x v) : CR s x v := by
  induction k with
  | b => exact .b _
  | i => exact .i _ _
  | s => exact .s _
  | p0 => exact .p0
  | p e => exact .p (h _ _ e)
  | l0 => exact .l0 _ _
  | l n c e => exact .l n c (h _ _ e)
  | u n c es e h1 h2 h3 => exact .u n c es (h _ _ e) h1 h2 h3
  | f fn ha hc => exact .f fn (ha.mono h) (hc.mono h)
  | nf => exact .nf
  | ni => exact .ni
  | d t _ ih => exact .d t ih
  | da t _ ih => exact .da t ih
theorem CsR.mono {x v} (k : CsR r x v) : CsR s x v := by
  induction k with
  | nil => exact .nil
  | cons e _ ih => exact .cons (e.mono h) ih
theorem WR.mono {x v} (k : WR r x v) : WR s x v := by
  cases k with
  | c e => exact .c (e.mono h)
  | a e => exact .a (e.mono h)
theorem WsR.mono {x v} (k : WsR r x v) : WsR s x v := by
  induction k with
  | nil => exact .nil
  | cons e _ ih => exact .cons (e.mono h) ih
theorem VR.mono {x v} (k : VR r x v) : VR s x v := by
  cases k with
  | w e => exact .w (e.mono h)
  | t e => exact .t (e.mono h)
end mono

/-! ### Memory by names -/
structure Bk where
  e : TypeId
  n : Nat
  /-- what a cell holds that u does not name: this pattern, again and again -/
  d : List C
  u : Tr C
def Bk.cell (b : Bk) (j : Nat) : C := match b.u.get j with
  | some c => c
  | none => b.d.getD (j % b.d.length) .ni
abbrev Hp := Tr Bk
/-- what a block holds, as far as it is known -/
structure BR (r : Nm) (w : World) (B : Bk) (b sz : Nat) : Prop where
  ex : ∃ cs, w.heap[b]? = some (.cells cs B.e (0, 0)) ∧ cs.size = sz ∧ B.n ≤ sz ∧ ∀ j, j < B.n → ∃ v, cs[j]? = some v ∧ CR r (B.cell j) v
/-- what a memory by names is in a world -/
structure RelH (r : Nm) (H : Hp) (w : World) : Prop where
  at_ : ∀ k B, H.get k = some B → ∃ b sz, r k = some (b, sz) ∧ BR r w B b sz
  inj : ∀ k j B D b s t, H.get k = some B → H.get j = some D → r k = some (b, s) → r j = some (b, t) → k = j
/-- what else a call leaves as it was -/
structure Fr (r : Nm) (H : Hp) (w w' : World) : Prop where
  os : w'.os = w.os
  tape : w'.tape = w.tape
  output : w'.output = w.output
  size : w.heap.size ≤ w'.heap.size
  block : ∀ b, b < w.heap.size → (∀ k B sz, H.get k = some B → r k ≠ some (b, sz)) → w'.heap[b]? = w.heap[b]?
theorem BR.mono {r s : Nm} {w : World} {B : Bk} {b sz : Nat} (h : r.le s) (k : BR r w B b sz) : BR s w B b sz := by
  obtain ⟨cs, h1, h2, h3, h4⟩ := k.ex
  exact ⟨cs, h1, h2, h3, fun j hj => by obtain ⟨v, a, c⟩ := h4 j hj; exact ⟨v, a, c.mono h⟩⟩
theorem BR.lt {r : Nm} {w : World} {B : Bk} {b sz : Nat} (k : BR r w B b sz) : b < w.heap.size := by
  obtain ⟨cs, h1, _⟩ := k.ex
  exact (Array.getElem?_eq_some_iff.1 h1).1
theorem BR.keep {r : Nm} {w w' : World} {B : Bk} {b sz : Nat} (k : BR r w B b sz) (h : w'.heap[b]? = w.heap[b]?) : BR r w' B b sz := by
  obtain ⟨cs, h1, h2⟩ := k.ex
  exact ⟨cs, h.trans h1, h2⟩
theorem Fr.refl (r : Nm) (H : Hp) (w : World) : Fr r H w w := ⟨rfl, rfl, rfl, Nat.le_refl _, fun _ _ _ => rfl⟩
theorem Fr.drew {r : Nm} {H : Hp} {w w' : World} (h : Fr r H w w') : Fr r H w w'.drew := ⟨h.os, h.tape, h.output, h.size, h.block⟩
end Go.Proofs.YtkdaiomjbkpedaaGreat
end
