/- Joined: Hw15, Hw16, Hw17, Top9, Pa15N, Pa16N. -/
import Derived.Deep.RegionLaw
import Derived.Deep.AppendLies
import Derived.Deep.RegionHeld3
import Derived.Deep.DeepCutAuto
import Derived.Test.YtkdaiomjbkpedaaGreatMgHmcsU7
import Derived.Test.YtkdaiomjbkpedaaGreatMgHmcsU15
import Derived.Test.YtkdaiomjbkpedaaGreatMgHmcsU16
section
/- Layer 27 (hmcs): words for New: leaves, slots, the rung of a place. -/
namespace Go.Proofs.YtkdaiomjbkpedaaGreat
open Go.RowKit

theorem leaf_iff {P : List Int} {k : Nat} (hk : k < P.length) : chL P k = [] ↔ leafB P k = true := by
  refine ⟨fun h => ?_, leaf_ch⟩
  unfold leafB
  rw [decide_eq_true_eq]
  refine ⟨by omega, by omega, fun hm => ?_⟩
  obtain ⟨n, hn⟩ := List.getElem?_of_mem hm
  have := mem_ch hn
  rw [h] at this
  cases this
theorem leaf_at {P : List Int} {k : Nat} (hk : k < P.length) (h : leafB P k = true) : (leavesL P)[(leavesTo P k).length]? = some (k : Int) := by
  have key : ∀ d, (leavesTo P (k + 1 + d))[(leavesTo P k).length]? = some (k : Int) ∧ (leavesTo P k).length < (leavesTo P (k + 1 + d)).length := by
    intro d
    induction d with
    | zero =>
      have e : leavesTo P (k + 1) = leavesTo P k ++ [(k : Int)] := by rw [leavesTo_succ, if_pos h]
      show (leavesTo P (k + 1))[_]? = _ ∧ _ < (leavesTo P (k + 1)).length
      rw [e]
      exact ⟨by simp, by simp⟩
    | succ d ih =>
      show (leavesTo P (k + 1 + d + 1))[_]? = _ ∧ _ < (leavesTo P (k + 1 + d + 1)).length
      rw [leavesTo_succ P (k + 1 + d)]
      split
      · exact ⟨by rw [List.getElem?_append_left ih.2]; exact ih.1, by simp; omega⟩
      · exact ih
  have := (key (P.length - (k + 1))).1
  rwa [show k + 1 + (P.length - (k + 1)) = P.length by omega] at this
theorem nvT_le {P T : List Int} (h : chkT P T = 0) {k : Nat} (hk : k < P.length) : 1 ≤ nvT P T k ∧ nvT P T k ≤ 32 := by
  refine ⟨?_, (treeT_ok h).nv32 k hk⟩
  unfold nvT
  split
  · omega
  · rename_i hn
    have := List.length_pos_iff.2 hn
    omega
theorem cat0_len {P T : List Int} (h : chkT P T = 0) {k : Nat} (hk : k ≤ P.length) : (catW (hm0 (treeT P T)).W k).length ≤ 2080 := by
  have hml := many_lt (chk_ok h).1
  have h1 := catW_le (W := (hm0 (treeT P T)).W) (b := 65) k fun v hv => by
    have := (nvT_le h (show v < P.length by omega)).2
    have e : ((hm0 (treeT P T)).W v).length = 2 * nvT P T v + 1 := by simp [hm0, treeT]
    omega
  omega
/-- a slot's number, as it is reckoned -/
theorem slT {P T : List Int} (h : chkT P T = 0) {t : Nat} (ht : t < T.length) {x : Int} (a : XAt P T t x) {k : Nat} (hk : k < (depT P T).toNat) : (((treeT P T).sl t k : Nat) : Int) = slX P T t x k := by
  have ex : T.getD t 0 = x := getD_of a.at_
  show (((slX P T t (T.getD t 0) k).toNat : Nat) : Int) = _
  rw [ex]
  cases k with
  | zero =>
    have : 0 ≤ slX P T t x 0 := by
      show 0 ≤ slotOf T t
      unfold slotOf; omega
    omega
  | succ k =>
    obtain ⟨v, u, j, _, _, _, _, b5, _⟩ := a.above h hk
    rw [b5]; omega
/-- a rung of New's -/
theorem rungNewH {w : World} {a g : Nat} {s : Ar} (h : ArIs w a g s) (n : Nat) (h1 : 1 ≤ n) (h2 : n ≤ 32) (hr : s.room = 4096) (hs : s.W.length ≤ 2080) :
    Calls Tryz.prog 105 #[.pointer (some ⟨a, 0, none⟩), .int .i64 n] w fun e w' => ∃ l q, e = .returned (.tuple #[.pointer (some ⟨l, 0, none⟩), .int .i64 0]) ∧ RgIs w' l a g q (s.W.length + 1) ⟨{ s with W := s.W ++ List.replicate (2 * n + 1) 0 }, List.replicate n Sp.zero⟩ ∧ w.heap.size ≤ l ∧ w.heap.size ≤ q ∧ Turns [a] w w' := by
  refine (newRg_any h n).mono ?_
  intro e w' hN
  have e0 : newRgOk s n = 0 := by unfold newRgOk; rw [hr, if_neg (by omega), if_neg (by omega)]
  unfold NewRg at hN
  rw [if_pos e0] at hN
  obtain ⟨l, q, k1, k2, k3⟩ := hN
  rw [show (2 * (n : Int) + 1).toNat = 2 * n + 1 by omega, Int.toNat_natCast] at k2
  exact ⟨l, q, k1, k2, k3⟩
theorem flatI_eq (l : List Int) : l.flatMap encI = l.map (Value.int .i64) := by
  induction l with
  | nil => rfl
  | cons a l ih => rw [List.flatMap_cons, ih]; rfl
theorem cell_two_new (w : World) (x y : Value) (t : TypeId) : ∀ j u, [x, y][j]? = some u → (w.alloc (.cells #[x, y] t)).cell? ((⟨w.heap.size, 0, none⟩ : Addr).add j) = some u := by
  intro j u hj
  match j, hj with
  | 0, hj =>
    simp at hj
    subst hj
    simp [Addr.add, World.cell?_alloc_new]
  | 1, hj =>
    simp at hj
    subst hj
    simp [Addr.add, World.cell?_alloc_new]
  | n + 2, hj => simp at hj
end Go.Proofs.YtkdaiomjbkpedaaGreat
end
section
/- Layer 27 (hmcs): a new lock. -/
namespace Go.Proofs.YtkdaiomjbkpedaaGreat
open Go.RowKit

def NewHm (w : World) (a g : Nat) (s : Ar) (bud : Int) (P T : List Int) (e : Ending) (w' : World) : Prop :=
  ∃ (B : Nat → Prop) (x : Hx) (s' : Ar), x.a = a ∧ x.g = g ∧ e = .returned (.tuple #[.pointer (some ⟨x.l, 0, none⟩), .int .i64 0]) ∧ HmIs B w' x (treeT P T) bud s' (hm0 (treeT P T)) ∧ s'.ops = s.ops ∧ (∀ i, B i → w.heap.size ≤ i) ∧ w.heap.size ≤ x.q ∧ (∀ v, v < P.length → w.heap.size ≤ x.qb v) ∧ Turns [a] w w'
set_option maxRecDepth 100000 in
set_option maxHeartbeats 8000000 in
theorem newHm {w : World} {a g : Nat} {s : Ar} (h : ArIs w a g s) (hs : s.W = []) (hag : a ≠ g) (AP : Option Addr) (cP : Nat) (vT : Value) (P T : List Int) (hP : RdL w (.slice AP P.length cP) 1 encI P) (hPa : ∀ i, (Value.slice AP P.length cP).ownBlock = some i → i ≠ a ∧ i < w.heap.size) (hT : RdL w vT 1 encI T) (hc : chkT P T = 0) (bud : Int) (hd0 : 0 ≤ bud) (hd1 : bud ≤ 1000) (hr : s.room = 4096) :
    Calls Tryz.prog 58 #[.pointer (some ⟨a, 0, none⟩), .agg #[.slice AP P.length cP, vT], .int .i64 bud] w (NewHm w a g s bud P T) := by
  obtain ⟨i0, hi, hz0, hz1, hz2⟩ := info_parts Tryz.infoSp
  obtain ⟨j0, hj, hy0, hy1, hy2⟩ := info_parts Tryz.infoHr
  have HJ := Lib.hid (And.intro hj (And.intro hy0 (And.intro hy1 hy2)))
  obtain ⟨j1, hj', hy0', hy1', hy2'⟩ := info_parts Tryz.infoHs
  have HJ1 := Lib.hid (And.intro hj' (And.intro hy0' (And.intro hy1' hy2')))
  obtain ⟨j2, hj'', hy0'', hy1'', hy2''⟩ := info_parts Tryz.infoHl
  have HJ2 := Lib.hid (And.intro hj'' (And.intro hy0'' (And.intro hy1'' hy2'')))
  clear hj hy0 hy1 hy2 hj' hy0' hy1' hy2' hj'' hy0'' hy1'' hy2''
  have hml := many_lt (chk_ok hc).1
  have ha0 := h.blk.lt
  have hg0 := h.wds.lt
  obtain ⟨hT1, hT32⟩ : 1 ≤ T.length ∧ T.length ≤ 32 := ⟨hml.2.2.1, hml.2.2.2⟩
  obtain ⟨hP1, hP32⟩ : 1 ≤ P.length ∧ P.length ≤ 32 := ⟨hml.1, hml.2.1⟩
  have H := Lib.hid (And.intro h (And.intro ha0 (And.intro hg0 hag)))
  have HN := Lib.hid (new_yesL (w.alloc (.cells #[.slice AP P.length cP, vT] 24)) (.slice AP P.length cP) vT P T (hP.alloc _) (hT.alloc _) hc)
  have HS := Lib.hid (And.intro hs hr)
  have HCK := Lib.hid hc
  have HPR := Lib.hid (And.intro hP hPa)
  have HR := Lib.hid (fun W => rightB bud W hd0 hd1)
  have hlo : (w.alloc (.cells #[.slice AP P.length cP, vT] 24)).heap.size = w.heap.size + 1 := by simp
  have B0 := Lib.hid ((Below.refl w.heap.size w).alloc (Nat.le_refl _) (.cells #[.slice AP P.length cP, vT] 24))
  have BX := Lib.hid (Blk.new w 24 #[.slice AP P.length cP, vT])
  clear h hs hP hPa hT hd0 hd1 hr hml ha0 hg0 hag hc
  go_enter Tryz.func58, Tryz.ntmps58
  go_wp2_with fail
  refine HN.out.mono ?_
  rintro en w1 ⟨b, rfl, hb, t1, b1⟩
  rw [hlo] at hb t1 b1
  have K1 := Lib.hid (And.intro (t1.q HCK.out) (And.intro (B0.out.trans (b1.mono (by omega))) (And.intro (Turns.blk (S := []) ⟨b1.os, b1.tape, b1.output, b1.size, fun i hi _ => b1.block i (by omega)⟩ BX.out (by simp)) hb)))
  clear t1 b1 hb HN
  go_wp2_with fail
  refine (HR.out _).mono ?_
  rintro en w1' ⟨rfl, rfl⟩
  go_wp2_with fail
  refine (threads_any _ _ _ _ (K1.out.1.tab HCK.out)).mono ?_
  rintro en w1' ⟨rfl, rfl⟩
  go_wp2_with (refine wpList_make_full _ rfl (.tmp 37) (.tmp 37) 71 rfl w1.heap.size 35 i0 (.agg #[.int .i64 0, .int .i64 0, .int .i64 0, .int .i64 0]) 4 Tryz.underlying71 hi hz0 hz1 .i64 .i64 T.length T.length T.length rfl rfl rfl rfl ?b2 ?b3 (Nat.le_refl _) ?_)
  case b2 => rw [hz2]; omega
  case b3 => unfold maxLen; omega
  intro w4 hown hg
  have hb : SpIs w4 w1.heap.size (List.replicate T.length Sp.zero) := by
    unfold SpIs
    rw [rflat_zero]
    have := own_blk hown
    have e : (madeCells #[Value.int .i64 0, .int .i64 0, .int .i64 0, .int .i64 0] (T.length * 4)).toList = List.replicate (T.length * 4) (.int .i64 0) := rmade_const4 _ _
    rw [e] at this
    exact this
  have t4 : Turns [] w1 w4 := Turns.of_below ((Below.refl w1.heap.size w1).grown hg (Nat.le_refl _) (fun j hj => by cases hj))
  have hs4 := hb.lt
  have H4 := Lib.hid (And.intro hb (And.intro t4 hs4))
  clear hown hg hb t4 hs4
  go_upto_region 7 with fail
  obtain ⟨q, hq⟩ : ∃ x, x = w1.heap.size := ⟨_, rfl⟩
  rw [← hq] at H4 ⊢
  have HQ := Lib.hid hq
  clear hq
  obtain ⟨l, hl⟩ : ∃ x, x = w4.heap.size := ⟨_, rfl⟩
  obtain ⟨w5, hw5⟩ : ∃ x, x = w4.alloc (.cells (hlkC bud (.slice none 0 0) (.slice none 0 0) q T.length) 96) := ⟨_, rfl⟩
  have hw5' := hw5
  unfold hlkC at hw5'
  rw [← hw5', ← hl]
  have t5 : Turns [] w4 w5 := by rw [hw5]; exact (Turns.refl _ _).alloc _
  have hs5 : w5.heap.size = l + 1 := by rw [hw5, hl]; simp
  have hb5 : Blk w5 l 96 (hlkC bud (.slice none 0 0) (.slice none 0 0) q T.length) := by rw [hw5, hl]; exact Blk.new _ _ _
  have HO := Lib.hid (show a < w.heap.size ∧ g < w.heap.size ∧ a ≠ g ∧ w.heap.size + 1 ≤ b ∧ b < w1.heap.size ∧ w1.heap.size = q ∧ q < l ∧ w5.heap.size = l + 1 ∧ w.heap.size + 1 ≤ w1.heap.size from by
    have e1 : b < w1.heap.size := K1.out.1.low.2
    have e2 := K1.out.2.2.2
    have e3 := H4.out.2.2
    have e4 := H.out
    have e5 := HQ.out
    omega)
  have T5 := Lib.hid (show Turns [] w1 w5 from H4.out.2.1.trans t5)
  have HBX : Hid (∀ W, Turns [l, b, a] w5 W → W.cell? ⟨w.heap.size, 0, none⟩ = some (.slice AP P.length cP) ∧ W.cell? ⟨w.heap.size, 1, none⟩ = some vT ∧ RdL W (.slice AP P.length cP) 1 encI P) := Lib.hid fun W hW => by
    have o := HO.out
    have k1 : Turns [l, b, a] w1 W := (T5.out.mono (by simp)).trans hW
    have bx := k1.blk K1.out.2.2.1 (by simp; omega)
    refine ⟨bx.cell 0, bx.cell 1, ?_⟩
    have k0 : RdL w1 (.slice AP P.length cP) 1 encI P := HPR.out.1.below K1.out.2.1 (Nat.le_refl _)
    exact k0.turns k1 fun g' hg' hm => by
      have := HPR.out.2 g' hg'
      simp at hm
      omega
  have HSQ := Lib.hid (H4.out.1.turns (T := []) t5 (by simp))
  have HI := Lib.hid (show NwR w5 w5 l b a g q bud P T (treeT P T) (fun i => w.heap.size + 1 ≤ i ∧ i < w1.heap.size) 0 (.slice none 0 0) (fun _ => 0) (fun _ => 0) s from by
    have o := HO.out
    refine ⟨Turns.refl _ _, hb5, World.ownsRow_nil _ _ _ _, ?_, ?_, HS.out.2, fun v hv => absurd hv (Nat.not_lt_zero _), fun v hv => absurd hv (Nat.not_lt_zero _), fun v hv => absurd hv (Nat.not_lt_zero _), fun v u hv => absurd hv (Nat.not_lt_zero _), fun v u hv => absurd hv (Nat.not_lt_zero _), .inl ⟨rfl, K1.out.1.turns T5.out (by simp)⟩⟩
    · exact (H.out.1.turns (Turns.of_below (S := []) K1.out.2.1) (by simp) (by simp)).turns T5.out (by simp) (by simp)
    · rw [HS.out.1]; rfl)
  have h0 : Hid (∀ i, (w.heap.size + 1 ≤ i ∧ i < w1.heap.size) → i ≠ l ∧ i ≠ a ∧ i < w5.heap.size) := Lib.hid fun i hi => by
    have o := HO.out
    omega
  clear hw5 hw5' t5 hs5 hb5 hl H4
  obtain ⟨f0, f1, _⟩ := HBX.out _ (Turns.refl _ _)
  go_wp2
  clear f0 f1
  go_loopw [11, 44] (fun lf i wr => ∃ (k : Nat) (vR : Value) (lb qb : Nat → Nat) (s1 : Ar), lf = .int .i64 ((leavesTo P k).length : Nat) ∧ i = .int .i64 k ∧ k ≤ P.length ∧ NwR w5 wr l b a g q bud P T (treeT P T) (fun i => w.heap.size + 1 ≤ i ∧ i < w1.heap.size) k vR lb qb s1 ∧ s1.ops = s.ops) (fun _ i _ => P.length - (intOf i).toNat)
  case atStart => exact ⟨0, _, _, _, _, rfl, rfl, by omega, HI.out, rfl⟩
  case round =>
    clear HI
    obtain ⟨k, vR, lb, qb, s1, rfl, rfl, hk, hW, hops⟩ := hrel
    obtain ⟨wo, rfl⟩ : ∃ wo : World, wo = wr := ⟨_, rfl⟩
    by_cases hlt : k < P.length
    · obtain ⟨A, cap, rfl⟩ := own_form hW.own
      have HW := Lib.hid (And.intro hW hops)
      obtain ⟨f0, f1, f2⟩ := HBX.out _ hW.tn
      have HBE := Lib.hid (belowHw wo (.slice AP P.length cP) vT P f2 (by omega) (k : Int))
      obtain ⟨n0, hn0⟩ : ∃ n, n = (chL P k).length := ⟨_, rfl⟩
      rw [← hn0] at HBE
      have HN0 := Lib.hid hn0
      have hll := leavesTo_len P k
      clear hW hops f2 hn0
      go_wp2_with fail
      refine HBE.out.mono ?_
      rintro en w2 ⟨v2, rfl, o2, b2⟩
      obtain ⟨A2, c2, rfl⟩ := own_form o2
      have hn32 : n0 ≤ 32 := by have := chTo_len P k P.length; have := HN0.out; unfold chL at this; omega
      have HW2 := Lib.hid (And.intro (HW.out.1.below b2 (by have := HO.out; omega) (by have := HO.out; omega) (by have := HO.out; omega) (by have := HO.out; omega)) HW.out.2)
      clear b2 o2 f0 f1 HW HBE
      go_upto_if 52 with fail
      go_cut [11, 13] (fun s11 s13 wx => s11 = .int .i64 ((leavesTo P (k + 1)).length : Nat) ∧ s13 = .int .i64 (nvT P T k : Nat) ∧ NwR w5 wx l b a g q bud P T (treeT P T) (fun i => w.heap.size + 1 ≤ i ∧ i < w1.heap.size) k (.slice A k cap) lb qb s1 ∧ (TBrF l a wx b P T (.slice A k cap) ∨ (leavesTo P (k + 1) = [] ∧ Tab0Q (fun i => w.heap.size + 1 ≤ i ∧ i < w1.heap.size) wx b P T)))
      case first =>
        by_cases hch : chL P k = []
        · have hlf := (leaf_iff hlt).1 hch
          have HM := Lib.hid (HW2.out.1.mates HCK.out (by have := HO.out; omega) (by have := HO.out; omega) (by have := HO.out; omega) (by have := HO.out; omega) h0.out (leaf_at hlt hlf))
          have HV := Lib.hid (show ((leavesTo P (k + 1)).length = (leavesTo P k).length + 1) ∧ nvT P T k = max 1 (T.count (k : Int)) from ⟨by rw [leavesTo_succ, if_pos hlf]; simp, by unfold nvT; rw [if_pos hch]⟩)
          have hT32' : T.count (k : Int) ≤ 32 := Nat.le_trans List.count_le_length hT32
          obtain ⟨ct, hct⟩ : ∃ ct, ct = T.count (k : Int) := ⟨_, rfl⟩
          rw [← hct] at HM HV hT32'
          have e0 : n0 = 0 := by rw [HN0.out, hch]; rfl
          subst e0
          clear hch hlf hct
          go_wp2_with fail
          refine HM.out.mono ?_
          rintro en w3 ⟨rfl, hN3, hF3, t3⟩
          have H3 := Lib.hid (And.intro hN3 hF3)
          clear hN3 hF3 t3 HM
          go_wp2
          all_goals
            go_meet
            case rel =>
              refine ⟨?_, ?_, H3.out.1, .inl H3.out.2⟩
              · rw [HV.out.1]; go_num
              · rw [HV.out.2]; exact congrArg (Value.int .i64) (by omega)
        · have hlf : ¬ leafB P k = true := fun e => hch ((leaf_iff hlt).2 e)
          have HV := Lib.hid (show leavesTo P (k + 1) = leavesTo P k ∧ nvT P T k = n0 from ⟨by rw [leavesTo_succ, if_neg hlf], by unfold nvT; rw [if_neg hch, HN0.out]⟩)
          have e0 : 0 < n0 := by rw [HN0.out]; exact List.length_pos_iff.2 hch
          have e1 : ¬ (n0 : Int) = 0 := by omega
          have e2 : ((n0 : Int) == 0) = false := by simpa using e1
          clear hch hlf
          go_wp2
          go_meet
          case rel =>
            refine ⟨by rw [HV.out.1], by rw [HV.out.2], HW2.out.1, ?_⟩
            rcases HW2.out.1.tab with ⟨q1, q2⟩ | q1
            · exact .inr ⟨by rw [HV.out.1]; exact q1, q2⟩
            · exact .inl q1
      case rest =>
        obtain ⟨rfl, rfl, hN3, hT3⟩ := hcut
        obtain ⟨w3, rfl⟩ : ∃ w3 : World, w3 = wc := ⟨_, rfl⟩
        obtain ⟨nv, hnv⟩ : ∃ n, n = nvT P T k := ⟨_, rfl⟩
        rw [← hnv]
        have HNV := Lib.hid hnv
        have hnv2 : 1 ≤ nv ∧ nv ≤ 32 := by rw [hnv]; exact nvT_le HCK.out hlt
        have HR3 := Lib.hid (rungNewH hN3.ar nv hnv2.1 hnv2.2 hN3.room (by rw [hN3.cat]; exact cat0_len HCK.out hk))
        have H3 := Lib.hid (And.intro hN3 (And.intro hT3 HW2.out.2))
        clear hN3 hT3 HW2 hnv HN0 hn32
        go_wp2_with fail
        refine HR3.out.mono ?_
        rintro en w4 ⟨l', q', rfl, hr4, hl4, hq4, t4⟩
        have o := HO.out
        have bl4 : Blk w4 l 96 (hlkC bud (.slice A k cap) (.slice none 0 0) q T.length) := t4.blk H3.out.1.blk (by simp; omega)
        have o4 : w4.ownsRow w5.heap.size 97 1 (.slice A k cap) k (ptrsTo lb k) := Turns.own H3.out.1.own t4 (fun x hx => by have := (H3.out.1.own.lt x hx).1; simp; omega)
        have c14 : w4.cell? ⟨l, 1, none⟩ = some (.slice A k cap) := bl4.cell 1
        have h5s : w5.heap.size ≤ w4.heap.size := Nat.le_trans H3.out.1.tn.size t4.size
        have hll4 : l < w4.heap.size := bl4.lt
        have hlown : (Value.slice A k cap).ownBlock ≠ some l := (fun e => by have := (H3.out.1.own.lt l e).1; omega)
        have H4 := Lib.hid (And.intro hr4 (And.intro hl4 (And.intro hq4 t4)))
        have HO4 := Lib.hid o4
        have HB4 := Lib.hid bl4
        clear hr4 hl4 hq4 t4 o4 bl4 HR3 o
        go_wp2_with (at_builtin; refine wpList_append_lies _ rfl _ _ 93 rfl w5.heap.size 97 j0 (.pointer none) 1 8 Tryz.underlying93 HJ.out.1 HJ.out.2.1 HJ.out.2.2.1 HJ.out.2.2.2 rfl (by decide) _ _ _ rfl (HO4.out.alloc _) ⟨w4.heap.size, 0, none⟩ 1 1 [.pointer (some ⟨l', 0, none⟩)] rfl rfl (cell_one_new _ _ _) (by simp [Value.oneCell']) (by decide) ?c3 ?c4 ?c5 _ rfl ?_)
        case c3 => unfold maxLen; omega
        case c4 => omega
        case c5 => simp; omega
        intro g3 cap3 w7 h3 hg3 hl3 hlt3
        have bl7 := (HB4.out.alloc (.cells #[.pointer (some ⟨l', 0, none⟩)] 97)).grown hg3 (fun e => hlown e.symm)
        have c17 : w7.cell? ⟨l, 1, none⟩ = some (.slice A k cap) := bl7.cell 1
        have z17 := bl7.free 1
        have HRR := Lib.hid (show NwR w5 (w7.setCell ⟨l, 1, none⟩ (.slice (some ⟨g3, 0, none⟩) (k + 1) cap3)) l b a g q bud P T (treeT P T) (fun i => w.heap.size + 1 ≤ i ∧ i < w1.heap.size) (k + 1) (.slice (some ⟨g3, 0, none⟩) (k + 1) cap3) (updH lb k l') (updH qb k q') { s1 with W := s1.W ++ List.replicate (2 * nv + 1) 0 } from by
          have o := HO.out
          obtain rfl := HNV.out
          exact H3.out.1.step H3.out.2.1 h0.out (by omega) (by omega) (by omega) (by omega) (by omega) rfl H4.out.1 H4.out.2.1 H4.out.2.2.1 H4.out.2.2.2 h3 hg3 (by simpa using hl3))
        have HOP := Lib.hid H3.out.2.2
        clear h3 hg3 hl3 bl7 HB4 HO4 H4 H3 HNV
        go_wp2
        go_roundw
        case rel => exact ⟨k + 1, _, _, _, _, rfl, by go_num, by omega, HRR.out, HOP.out⟩
        case measure => simp [intOf]; omega
    · obtain rfl : k = P.length := by omega
      obtain ⟨bR, cR, rfl, hbR0, hbR1⟩ := own_form1 hW.own (by omega)
      have c3 : wo.cell? ⟨l, 3, none⟩ = some (.slice (some ⟨q, 0, none⟩) T.length T.length) := hW.blk.cell 3
      have HTQ : Hid (∃ B', TabQ B' wo b P T ∧ ∀ i, B' i → i ≠ l) := Lib.hid (by
        rcases hW.tab with ⟨q1, _⟩ | ⟨B', q1, q2, _⟩
        · exfalso
          obtain ⟨x, a', _⟩ := xAt HCK.out (show 0 < T.length by omega)
          have := mem_leaves.2 a'.leaf
          unfold leavesL at this
          rw [q1] at this
          cases this
        · exact ⟨B', q1, fun i hi => (q2 i hi).1⟩)
      have HQO := Lib.hid (HSQ.out.turns hW.tn (by have := HO.out; simp; omega))
      have HL0 := Lib.hid (show NwL wo wo l q bud (treeT P T) (.slice (some ⟨bR, 0, none⟩) P.length cR) lb 0 (.slice none 0 0) (fun _ => 0) (fun _ => 0) from
        ⟨Turns.refl _ _, hW.blk, World.ownsRow_nil _ _ _ _, fun t ht => absurd ht (Nat.not_lt_zero _), fun t ht => absurd ht (Nat.not_lt_zero _)⟩)
      have h5o : w5.heap.size ≤ wo.heap.size := hW.tn.size
      have HW := Lib.hid (And.intro hW hops)
      clear hW hops
      go_wp2
      clear c3
      go_loopw [84] (fun i wl => ∃ (m : Nat) (vL : Value) (ub uk : Nat → Nat), i = .int .i64 m ∧ m ≤ T.length ∧ NwL wo wl l q bud (treeT P T) (.slice (some ⟨bR, 0, none⟩) P.length cR) lb m vL ub uk) (fun i _ => T.length - (intOf i).toNat)
      case atStart => exact ⟨0, _, _, _, rfl, by omega, HL0.out⟩
      case round =>
        clear HL0
        obtain ⟨m, vL, ub, uk, rfl, hm, hL⟩ := hrel
        obtain ⟨wl, rfl⟩ : ∃ wl : World, wl = wr := ⟨_, rfl⟩
        by_cases hmt : m < T.length
        · obtain ⟨x, ax, ex⟩ := xAt HCK.out hmt
          obtain ⟨A, cap, rfl⟩ := own_form hL.own
          have HTW : Hid (∀ W, Below wl.heap.size wl W → TabF W b P T ∧ Blk W l 96 (hlkC bud (.slice (some ⟨bR, 0, none⟩) P.length cR) (.slice A m cap) q T.length) ∧ (W.cell? ⟨w.heap.size, 0, none⟩ = some (.slice AP P.length cP) ∧ W.cell? ⟨w.heap.size, 1, none⟩ = some vT ∧ RdL W (.slice AP P.length cP) 1 encI P) ∧ ∀ v, v < P.length → W.cell? ⟨bR, v, none⟩ = some (.pointer (some ⟨lb v, 0, none⟩))) := Lib.hid fun W hW => by
            obtain ⟨B', k1, k2⟩ := HTQ.out
            have tw : Turns [l] wo W := hL.tn.trans (Turns.of_below hW)
            have o := HO.out
            refine ⟨(k1.turns tw fun i hi hB => k2 i hB (by simpa using hi)).f, (hL.below hW).blk, HBX.out _ (HW.out.1.tn.trans (tw.mono (by simp))), fun v hv => ?_⟩
            have c := HW.out.1.own.cellAt v (by omega)
            rw [ptrsTo_get _ _ _ hv] at c
            exact tw.cell c (by simp; omega)
          have hl1 : l < wl.heap.size := hL.blk.lt
          obtain ⟨D, hD⟩ : ∃ D, D = (depT P T).toNat := ⟨_, rfl⟩
          have hD1 : 1 ≤ D ∧ D ≤ 5 := by rw [hD]; exact ⟨(treeT_ok HCK.out).d1, treeT_D HCK.out⟩
          have HU0 := upF_ wl b P T m x ax.at_ (HTW.out wl (Below.refl _ _)).1
          rw [ax.len, ← hD] at HU0
          have HU := Lib.hid HU0
          have HL := Lib.hid hL
          have HX := Lib.hid (And.intro ax (And.intro ex hD))
          clear hL ax ex hD HU0
          go_wp2_with fail
          refine HU.out.mono ?_
          rintro en w7 ⟨v7, rfl, o7, b7⟩
          obtain ⟨bu, cu, rfl, hbu0, hbu1⟩ := own_form1 o7 (by omega)
          have HUC : Hid (∀ W, Below w7.heap.size w7 W → ∀ c, c < D → W.cell? ⟨bu, c, none⟩ = some (.int .i64 (plX P x c))) := Lib.hid fun W hW c hcD => by
            have e := o7.cellAt c (by omega)
            have hcu : (upL P x)[c]? = some (plX P x c) := by
              obtain ⟨u, hu⟩ := getElem?_lt (show c < (upL P x).length by rw [HX.out.1.len, ← HX.out.2.2]; exact hcD)
              rw [hu]; unfold plX; rw [getD_of hu]
            have e2 : ((upL P x).flatMap encI)[c]? = some (.int .i64 (plX P x c)) := by
              have : (upL P x).flatMap encI = (upL P x).map (Value.int .i64) := flatI_eq _
              rw [this, List.getElem?_map, hcu]; rfl
            rw [e2] at e
            exact (hW.cell (p := ⟨bu, c, none⟩) hbu1).trans e
          have H7 := Lib.hid b7
          have h7s : wl.heap.size ≤ w7.heap.size := b7.size
          clear o7 b7 HU
          go_wp2
          go_loopw [17, 92] (fun lv i wi => ∃ (c : Nat), i = .int .i64 c ∧ c ≤ D ∧ Below w7.heap.size w7 wi ∧ wi.ownsRow w7.heap.size 99 2 lv c (stepsTo lb (treeT P T) m c)) (fun _ i _ => D - (intOf i).toNat)
          case atStart => exact ⟨0, rfl, by omega, Below.refl _ _, World.ownsRow_nil _ _ _ _⟩
          case round =>
            obtain ⟨c, rfl, hcD, hbi, hoi⟩ := hrel
            obtain ⟨wi, rfl⟩ : ∃ wi : World, wi = wr := ⟨_, rfl⟩
            by_cases hclt : c < D
            · obtain ⟨v, _, hvl, hvx, _, _⟩ := HX.out.1.up c (by rw [← HX.out.2.2]; exact hclt)
              have cu0 := HUC.out wi hbi c hclt
              have HPV := Lib.hid (show (treeT P T).pl m c = v from by show (plX P (T.getD m 0) c).toNat = v; rw [HX.out.2.1, hvx, Int.toNat_natCast])
              rw [hvx] at cu0
              obtain ⟨g0, g1, ⟨g2, g3, g4⟩, g5⟩ := HTW.out wi (H7.out.trans (hbi.mono h7s))
              have HSL := Lib.hid (slotF wi b P T m hmt g0)
              obtain ⟨A3, c3, rfl⟩ := own_form hoi
              have HI := Lib.hid (And.intro hbi hoi)
              have HV := Lib.hid hvx
              clear g0 g1 g2 g3 g4 g5 hbi hoi
              go_wp2_with fail
              refine HSL.out.mono ?_
              rintro en wi' ⟨rfl, rfl⟩
              clear HSL
              go_upto_if 101 with fail
              go_cut [21] (fun s21 wx => s21 = .int .i64 ((treeT P T).sl m c : Nat) ∧ Below wi.heap.size wi wx)
              case first =>
                by_cases hc0 : c = 0
                · subst hc0
                  have HS0 := Lib.hid (slT HCK.out hmt HX.out.1 (k := 0) (by rw [← HX.out.2.2]; omega))
                  go_wp2
                  go_meet
                  case rel => exact ⟨by rw [HS0.out]; rfl, Below.refl _ _⟩
                · obtain ⟨d, rfl⟩ : ∃ d, c = d + 1 := ⟨c - 1, by omega⟩
                  obtain ⟨c, hc⟩ : ∃ c, c = d + 1 := ⟨_, rfl⟩
                  obtain ⟨v0, _, hvl0, hvx0, _, _⟩ := HX.out.1.up d (by rw [← HX.out.2.2]; omega)
                  have HS0 := Lib.hid (show (((treeT P T).sl m (d + 1) : Nat) : Int) = idxI (chL P v) v0 from by
                    rw [slT HCK.out hmt HX.out.1 (k := d + 1) (by rw [← HX.out.2.2]; exact hclt)]
                    show idxI (chL P (plX P x (d + 1))) (plX P x d) = _
                    rw [HV.out, hvx0])
                  have cd0 := HUC.out wi HI.out.1 d (by omega)
                  rw [hvx0] at cd0
                  obtain ⟨g0, g1, ⟨g2, g3, g4⟩, g5⟩ := HTW.out wi (H7.out.trans (HI.out.1.mono h7s))
                  have HBE := Lib.hid (belowHw wi.drew (.slice AP P.length cP) vT P (show RdL wi.drew (.slice AP P.length cP) 1 encI P from g4) (by omega) (v : Int))
                  have hsw : w.heap.size < wi.heap.size := by have := HO.out; have := HI.out.1.size; omega
                  have hsb : bu < wi.heap.size := by have := HI.out.1.size; omega
                  have hl32 : (chL P v).length ≤ 32 := by have := chTo_len P v P.length; unfold chL; omega
                  have x1 : IntKind.i64.wrap (((d : Nat) : Int) + 1 - 1) = (d : Int) := by rw [Int.add_sub_cancel]; exact IntWalk.i64_in _ (by omega)
                  have x2 : (d : Int) < (D : Int) := by omega
                  have x4 : IntKind.i64.wrap (d : Int) = (d : Int) := IntWalk.i64_in _ (by omega)
                  have x5 : ¬ (d : Int) < 0 := by omega
                  have x6 : ¬ (D : Int) ≤ (d : Int) := by omega
                  have x3 : d < D := by omega
                  clear g0 g1 g4 g5 hc
                  go_wp2
                  go_region_held3 (fun W => W.cell? ⟨w.heap.size, 0, none⟩ = some (.slice AP P.length cP) ∧ W.cell? ⟨w.heap.size, 1, none⟩ = some vT ∧ W.cell? ⟨bu, d, none⟩ = some (.int .i64 v0))
                    (first | exact ⟨g2, g3, cd0⟩ | exact K8.out)
                    (first
                      | (go_at_call 103; go_loud (refine HBE.out.mono ?_); rintro en w8 ⟨v8, rfl, o8, b8⟩; have B8 := Lib.hid (show Below wi.heap.size wi w8 from ⟨b8.os, b8.tape, b8.output, b8.size, b8.block⟩); have K8 := Lib.hid (And.intro ((B8.out.cell (p := ⟨w.heap.size, 0, none⟩) hsw).trans g2) (And.intro ((B8.out.cell (p := ⟨w.heap.size, 1, none⟩) hsw).trans g3) ((B8.out.cell (p := ⟨bu, d, none⟩) hsb).trans cd0))); have HIX := Lib.hid (index_any w8 v8 (chL P v) v0 (own_rdl o8 (by omega))); clear o8 b8)
                      | (go_at_call 108; go_loud (refine HIX.out.mono ?_); rintro en w9 ⟨rfl, rfl⟩))
                  all_goals
                    go_wp2
                    go_meet
                    case rel => exact ⟨by rw [HS0.out], B8.out⟩
              case rest =>
                obtain ⟨rfl, hbx⟩ := hcut
                obtain ⟨wx, rfl⟩ : ∃ wx : World, wx = wc := ⟨_, rfl⟩
                have hby : Below w7.heap.size w7 wx := HI.out.1.trans (hbx.mono HI.out.1.size)
                have hoy : wx.ownsRow w7.heap.size 99 2 (.slice A3 c c3) c (stepsTo lb (treeT P T) m c) := Turns.own HI.out.2 (Turns.of_below (S := []) hbx) (by simp)
                obtain ⟨g0, g1, _, g5⟩ := HTW.out wx (H7.out.trans (hby.mono h7s))
                have c1 : wx.cell? ⟨l, 1, none⟩ = some (.slice (some ⟨bR, 0, none⟩) P.length cR) := g1.cell 1
                have g6 := g5 v hvl
                have HY := Lib.hid (And.intro hby hoy)
                have h7x : w7.heap.size ≤ wx.heap.size := hby.size
                have hlx : l < wx.heap.size := by omega
                have hbx9 : bR < wx.heap.size := by have := block_lt_of_cell g6; exact this
                have y1 : (v : Int) < (P.length : Int) := by omega
                have y2 : ¬ (v : Int) < 0 := by omega
                clear g0 g1 g5 hby hoy hbx HI
                go_wp2_with (at_builtin; refine wpList_append_lies _ rfl _ _ 100 rfl w7.heap.size 99 j1 (.agg #[.pointer none, .int .i64 0]) 2 16 Tryz.underlying100 HJ1.out.1 HJ1.out.2.1 HJ1.out.2.2.1 HJ1.out.2.2.2 rfl (by decide) _ _ _ rfl (HY.out.2.alloc _) ⟨wx.heap.size, 0, none⟩ 1 1 [.pointer (some ⟨lb v, 0, none⟩), .int .i64 ((treeT P T).sl m c : Nat)] rfl rfl (cell_two_new _ _ _ _) (by simp [Value.oneCell']) (by decide) ?c3 ?c4 ?c5 _ rfl ?_)
                case c3 => unfold maxLen; omega
                case c4 => omega
                case c5 => first | (simp; omega) | omega
                intro g3 cap3 w9 h9 hg9 hl9 hlt9
                have H9 := Lib.hid (And.intro h9 hg9)
                clear h9 hg9 hl9
                go_wp2
                go_roundw
                case rel => exact ⟨c + 1, by go_num, by omega, (HY.out.1.alloc h7x _).grown H9.out.2 (by simp; omega) (fun j hj => (HY.out.2.lt j hj).1), by rw [stepsTo_succ, HPV.out]; exact H9.out.1⟩
                case measure => simp [intOf]; omega
            · obtain rfl : c = D := by omega
              obtain ⟨nb, cv, rfl, hnb0, hnb1⟩ := own_form1 hoi (by omega)
              have hbw : Below wl.heap.size wl wi := H7.out.trans (hbi.mono h7s)
              obtain ⟨_, g1, _, _⟩ := HTW.out wi hbw
              have c2 : wi.cell? ⟨l, 2, none⟩ = some (.slice A m cap) := g1.cell 2
              have HY := Lib.hid (And.intro hbw (And.intro (own_lower hoi h7s) (And.intro g1 (HL.out.below hbw).own)))
              have hos : wo.heap.size ≤ wi.heap.size := Nat.le_trans HL.out.tn.size hbw.size
              have hlw : l < wi.heap.size := g1.lt
              have hlown : (Value.slice A m cap).ownBlock ≠ some l := (fun e => by have := (HL.out.own.lt l e).1; have := HO.out; omega)
              clear hbi hoi g1 hbw
              go_wp2_with (at_builtin; refine wpList_append_lies _ rfl _ _ 94 rfl wo.heap.size 100 j2 (.slice none 0 0) 1 24 Tryz.underlying94 HJ2.out.1 HJ2.out.2.1 HJ2.out.2.2.1 HJ2.out.2.2.2 rfl (by decide) _ _ _ rfl (HY.out.2.2.2.alloc _) ⟨wi.heap.size, 0, none⟩ 1 1 [.slice (some ⟨nb, 0, none⟩) c cv] rfl rfl (cell_one_new _ _ _) (by simp [Value.oneCell']) (by decide) ?c3 ?c4 ?c5 _ rfl ?_)
              case c3 => unfold maxLen; omega
              case c4 => omega
              case c5 => simp; omega
              intro g9 c9 w9 h9 hg9 hl9 hlt9
              have bl9 := (HY.out.2.2.1.alloc (.cells #[.slice (some ⟨nb, 0, none⟩) c cv] 100)).grown hg9 (fun e => hlown e.symm)
              have c29 : w9.cell? ⟨l, 2, none⟩ = some (.slice A m cap) := bl9.cell 2
              have z29 := bl9.free 2
              have HLL := Lib.hid (show NwL wo (w9.setCell ⟨l, 2, none⟩ (.slice (some ⟨g9, 0, none⟩) (m + 1) c9)) l q bud (treeT P T) (.slice (some ⟨bR, 0, none⟩) P.length cR) lb (m + 1) (.slice (some ⟨g9, 0, none⟩) (m + 1) c9) (updH ub m nb) (updH uk m cv) from by
                have o := HO.out
                obtain rfl := HX.out.2.2
                exact HL.out.step (by omega) (treeT_ok HCK.out).d1 HY.out.1 HY.out.2.1 h9 hg9 (by simpa using hl9))
              clear h9 hg9 hl9 bl9 HY
              go_wp2
              go_roundw
              case rel => exact ⟨m + 1, _, _, _, by go_num, by omega, HLL.out⟩
              case measure => simp [intOf]; omega
        · obtain rfl : m = T.length := by omega
          obtain ⟨bL, cL, rfl, hbL0, hbL1⟩ := own_form1 hL.own (by omega)
          have HL := Lib.hid hL
          clear hL
          go_wp2
          go_ret2
          have o := HO.out
          obtain ⟨K, KB⟩ := nwIs (lo := w.heap.size) HW.out.1 HL.out HQO.out (treeT_ok HCK.out) (treeT_D HCK.out) hT32 hP32 (by omega) (by omega) (by omega) (by omega) (by omega)
          refine ⟨_, _, s1, rfl, rfl, rfl, K, HW.out.2, KB, by show w.heap.size ≤ q; omega, fun v hv => ?_, ?_⟩
          · have := (HW.out.1.lo v hv).2.1
            show w.heap.size ≤ qb v; omega
          · have t15 : Turns [a, l, b] w w5 := (Turns.of_below (S := [a, l, b]) K1.out.2.1).trans (T5.out.mono (by simp))
            have t59 : Turns [a, l, b] w wl := (t15.trans (HW.out.1.tn.mono (by simp))).trans (HL.out.tn.mono (by simp))
            exact t59.fresh fun i hi => by simp at hi ⊢; omega
end Go.Proofs.YtkdaiomjbkpedaaGreat
end
section
/- Layer 27 (hmcs): a lock of the law's own. -/
namespace Go.Proofs.YtkdaiomjbkpedaaGreat
open Go.RowKit

theorem madeNoH (w : World) (vP vT : Value) (n0 : Nat) (hs : SmNo w vP vT 8) :
    Calls Tryz.prog 25 #[.agg #[vP, vT], .int .u8 n0] w fun e w' => e = .returned (.tuple #[.pointer none, .pointer none, .bool false]) ∧ Below w.heap.size w w' := by
  have HB0 := Lib.hid ((Below.refl w.heap.size w).alloc (Nat.le_refl _) (.cells #[vP, vT] 24))
  have H := Lib.hid (hs _ HB0.out)
  clear hs
  go_enter Tryz.func25, Tryz.ntmps25
  go_wp2_with fail
  refine H.out.mono ?_
  rintro en w1 ⟨rfl, b1⟩
  have HB1 := Lib.hid (HB0.out.trans (b1.mono HB0.out.size))
  clear b1
  go_wp2
  go_ret3
  exact ⟨rfl, HB1.out⟩
set_option maxRecDepth 100000 in
set_option maxHeartbeats 1000000 in
theorem madeYesH (w : World) (vP vT : Value) (P T : List Int) (hP : RdL w vP 1 encI P) (hT : RdL w vT 1 encI T) (n0 : Nat) (hn0 : n0 < 256) (hs : smallB P T 8 = true) :
    Calls Tryz.prog 25 #[.agg #[vP, vT], .int .u8 n0] w fun e w' => ∃ (B : Nat → Prop) (x : Hx) (s : Ar), e = .returned (.tuple #[.pointer (some ⟨x.a, 0, none⟩), .pointer (some ⟨x.l, 0, none⟩), .bool true]) ∧ HmSt w w' B x (treeT P T) ((n0 : Int) % 4) s (hm0 (treeT P T)) 0 := by
  have hck : chkT P T = 0 ∧ (T.length : Int) ≤ 8 := of_decide_eq_true hs
  obtain ⟨AP, cP, rfl, _⟩ := id hP
  have hml := many_lt (chk_ok hck.1).1
  have HBL := Lib.hid (fun g' (hg' : (Value.slice AP P.length cP).ownBlock = some g') => rd_block hP (by omega) hg')
  have HS := smallH (w.alloc (.cells #[.slice AP P.length cP, vT] 24)) (.slice AP P.length cP) vT P T (hP.alloc _) (hT.alloc _) 8
  rw [hs] at HS
  have H := Lib.hid HS
  have HB0 := Lib.hid ((Below.refl w.heap.size w).alloc (Nat.le_refl _) (.cells #[.slice AP P.length cP, vT] 24))
  have HRD := Lib.hid (And.intro hP hT)
  have hX : (w.alloc (.cells #[.slice AP P.length cP, vT] 24)).cell? ⟨w.heap.size, 0, none⟩ = some (.slice AP P.length cP) ∧ (w.alloc (.cells #[.slice AP P.length cP, vT] 24)).cell? ⟨w.heap.size, 1, none⟩ = some vT := by simp [World.cell?_alloc_new]
  have HX := Lib.hid hX
  have hbx : w.heap.size < (w.alloc (.cells #[.slice AP P.length cP, vT] 24)).heap.size := by simp
  have hq0 : (0 : Int) ≤ (n0 : Int) % 4 ∧ (n0 : Int) % 4 < 4 := by omega
  have HCK := Lib.hid hck
  clear HS hs hP hT hX hck hml
  go_enter Tryz.func25, Tryz.ntmps25
  go_wp2_with fail
  refine H.out.mono ?_
  rintro en w1 ⟨rfl, b1⟩
  have HB1 := Lib.hid (And.intro (HB0.out.trans (b1.mono HB0.out.size)) b1)
  clear b1
  go_wp2_with fail
  refine (newA_any _ 4096).mono ?_
  rintro en w2 ⟨a, g, rfl, hA, ha, hg, hb⟩
  have f0 : w2.cell? ⟨w.heap.size, 0, none⟩ = some (.slice AP P.length cP) := (hb.cell (p := ⟨w.heap.size, 0, none⟩) (Nat.lt_of_lt_of_le hbx HB1.out.2.size)).trans ((HB1.out.2.cell (p := ⟨w.heap.size, 0, none⟩) hbx).trans HX.out.1)
  have f1 : w2.cell? ⟨w.heap.size, 1, none⟩ = some vT := (hb.cell (p := ⟨w.heap.size, 1, none⟩) (Nat.lt_of_lt_of_le hbx HB1.out.2.size)).trans ((HB1.out.2.cell (p := ⟨w.heap.size, 1, none⟩) hbx).trans HX.out.2)
  have HA := Lib.hid (And.intro hA (And.intro ha (And.intro hg (HB1.out.1.trans (hb.mono HB1.out.1.size)))))
  clear hA ha hg hb
  go_wp2_with fail
  have B2 := HA.out.2.2.2
  refine (newHm HA.out.1 rfl HA.out.1.ne AP cP vT P T (HRD.out.1.below B2 (Nat.le_refl _)) (fun i hi => by have := HBL.out i hi; have := HA.out.2.1; have := HB1.out.1.size; have := B2.size; omega) (HRD.out.2.below B2 (Nat.le_refl _)) HCK.out.1 ((n0 : Int) % 4) (by omega) (by omega) rfl).mono ?_
  rintro en w3 ⟨B, x, s', hca, hcg, rfl, k3, hop, hB, hq, hqb, t3⟩
  have HK := Lib.hid (And.intro k3 (And.intro hop (And.intro hB (And.intro hq (And.intro hqb (And.intro t3 hcg))))))
  clear B2 k3 hop hB hq hqb t3 f0 f1 hcg
  subst hca
  go_wp2
  go_ret3
  have s1 := HB1.out.1.size
  have s2 := HA.out.2.2.2.size
  have s6 := HA.out.2.1
  have s7 := HA.out.2.2.1
  obtain ⟨k3, hop, hB, hq, hqb, t3, hcg⟩ := HK.out
  refine ⟨B, x, s', rfl, k3, ⟨_, _, HInv.start _ _⟩, ?_, fun i hi => ?_, by omega, ?_⟩
  · exact HA.out.2.2.2.trans (t3.below (by simp; omega) s2)
  · unfold mvL at hi
    rcases List.mem_append.1 hi with hi | hi
    · simp at hi; omega
    · obtain ⟨v, hv, e⟩ := List.mem_map.1 hi
      have := hqb v (List.mem_range.1 hv)
      omega
  · rw [hop]; exact Nat.le_refl _
end Go.Proofs.YtkdaiomjbkpedaaGreat
end
section
/- Layer 6: the document's Leaves. -/
namespace Go.Proofs.YtkdaiomjbkpedaaGreat
open Go.RowKit

set_option maxRecDepth 100000 in
set_option maxHeartbeats 2000000 in
theorem rleaves_any (w : World) (vP vT : Value) (P T : List Int) (hP : RdL w vP 1 encI P) (hT : RdL w vT 1 encI T) :
    Calls Tryz.prog 47 #[.agg #[vP, vT]] w fun e w' => ∃ v, e = .returned v ∧ w'.ownsRow w.heap.size 3 1 v (lvsT P T).length ((lvsT P T).flatMap encI) ∧ Below w.heap.size w w' := by
  obtain ⟨i0, hi, hz0, hz1, hz2⟩ := info_parts Tryz.infoIn
  have HI := Lib.hid (And.intro hi (And.intro hz0 (And.intro hz1 hz2)))
  have hb0 : Below w.heap.size w (w.alloc (.cells #[vP, vT] 24)) := (Below.refl _ _).alloc (Nat.le_refl _) _
  have HC := Lib.hid (rcheck_any (w.alloc (.cells #[vP, vT] 24)) vP vT P T (hP.alloc _) (hT.alloc _))
  have HP := Lib.hid hP
  have HB0 := Lib.hid hb0
  obtain ⟨AP, cP, rfl, lP1, lP2⟩ := rdl_form hP
  obtain ⟨AT, cT, rfl, lT1, lT2⟩ := rdl_form hT
  clear hP hT hb0 hi hz0 hz1 hz2
  have hbx : w.heap.size < (w.alloc (.cells #[.slice AP P.length cP, .slice AT T.length cT] 24)).heap.size := by simp
  have HX := Lib.hid (show (w.alloc (.cells #[.slice AP P.length cP, .slice AT T.length cT] 24)).cell? ⟨w.heap.size, 0, none⟩ = some (.slice AP P.length cP) by simp [World.cell?_alloc_new])
  go_enter Tryz.func47, Tryz.ntmps47
  by_cases hc : chkT P T = 0
  · have HL := Lib.hid (show lvsT P T = leavesL P from by unfold lvsT; rw [if_pos hc])
    obtain ⟨hm, _, _, _⟩ := chk_ok hc
    have hml := many_lt hm
    rw [hc] at HC
    clear hc hm
    go_wp2_with fail
    refine HC.out.mono ?_
    rintro en w1 ⟨rfl, b1⟩
    have x0 := (b1.cell (p := ⟨w.heap.size, 0, none⟩) hbx).trans HX.out
    have hs1 := b1.size
    simp at hs1
    have HB1 := Lib.hid (HB0.out.trans (b1.mono HB0.out.size))
    have HP1 := Lib.hid (HP.out.below HB1.out (Nat.le_refl _))
    clear b1
    go_wp2
    go_loopw [3, 4] (fun o i wr => ∃ k : Nat, i = .int .i64 k ∧ k ≤ P.length ∧ wr.ownsRow w1.heap.size 3 1 o (leavesTo P k).length ((leavesTo P k).flatMap encI) ∧ Below w1.heap.size w1 wr) (fun _ i _ => P.length - (intOf i).toNat)
    case atStart => exact ⟨0, rfl, by omega, World.ownsRow_nil _ _ _ _, Below.refl _ _⟩
    case round =>
      obtain ⟨k, rfl, hk, hown, hbel⟩ := hrel
      obtain ⟨wq, rfl⟩ : ∃ wq : World, wq = wr := ⟨_, rfl⟩
      have y0 := (hbel.cell (p := ⟨w.heap.size, 0, none⟩) (show w.heap.size < w1.heap.size by omega)).trans x0
      have hll := leavesTo_len P k
      have hsz := hbel.size
      have HPr := Lib.hid (HP1.out.below hbel (Nat.le_refl _))
      have HO := Lib.hid (And.intro hown hbel)
      have HS := Lib.hid (leavesTo_succ P k)
      clear x0 hbel
      by_cases hlt : k < P.length
      · have HL := Lib.hid (rleaf_any wq _ P k HPr.out)
        obtain ⟨A9, c9, rfl⟩ := own_form hown
        cases hlf : leafB P k
        · rw [hlf] at HL
          have HM := Lib.hid hlf
          clear hlf hown
          go_wp2_with (go_at_call 84; refine HL.out.mono ?_; rintro e w' ⟨rfl, rfl⟩)
          go_roundw
          case rel => exact ⟨k + 1, by go_num, by omega, by rw [HS.out, HM.out]; exact HO.out.1, HO.out.2⟩
          case measure => simp [intOf]; omega
        · rw [hlf] at HL
          have HM := Lib.hid hlf
          clear hlf
          go_wp2_with (first
            | (go_at_call 84; refine HL.out.mono ?_; rintro e w' ⟨rfl, rfl⟩)
            | (at_builtin; refine wpList_append_own _ rfl _ _ 22 rfl w1.heap.size 3 i0 (.int .i64 0) 1 8 Tryz.underlying22 HI.out.1 HI.out.2.1 HI.out.2.2.1 HI.out.2.2.2 rfl (by decide) _ _ _ rfl (hown.alloc _) ⟨wq.heap.size, 0, none⟩ 1 1 (encI k) rfl rfl (cell_one_new _ _ _) (one_enc _) ?c3 ?c4 ?c5 ?_))
          case c3 => unfold maxLen; omega
          case c4 => omega
          case c5 => simp; omega
          intro v' w' hown' hgrow hnil
          have HN := Lib.hid (And.intro hown' hgrow)
          clear hown' hgrow hnil hown
          go_wp2
          go_roundw
          case rel => exact ⟨k + 1, by go_num, by omega, by rw [HS.out, HM.out]; simp only [if_true]; rw [flat_snoc, List.length_append]; exact HN.out.1, (HO.out.2.alloc hsz _).grown HN.out.2 (by simp; omega) (fun j hj => (HO.out.1.lt j hj).1)⟩
          case measure => simp [intOf]; omega
      · obtain rfl : k = P.length := by omega
        clear hown
        go_wp2
        go_ret
        exact ⟨_, rfl, by rw [HL.out]; exact own_lower HO.out.1 (by omega), HB1.out.trans (HO.out.2.mono (by omega))⟩
  · have HL := Lib.hid (show lvsT P T = [] from by unfold lvsT; rw [if_neg hc])
    obtain ⟨z, hz⟩ : ∃ z, z = chkT P T := ⟨_, rfl⟩
    rw [← hz] at HC hc
    have hz0 : (z != 0) = true := by simpa using hc
    clear hc hz
    go_wp2_with fail
    refine HC.out.mono ?_
    rintro en w1 ⟨rfl, b1⟩
    have HB1 := Lib.hid (HB0.out.trans (b1.mono HB0.out.size))
    clear b1
    go_wp2
    go_ret
    exact ⟨_, rfl, by rw [HL.out]; exact World.ownsRow_nil _ _ _ _, HB1.out⟩
end Go.Proofs.YtkdaiomjbkpedaaGreat
end
section
/- Layer 7, the document's: Has, Node. -/
namespace Go.Proofs.YtkdaiomjbkpedaaGreat
open Go.RowKit

/-- a topology's two lists -/
structure TopoAt (w : World) (vP vT : Value) (P T : List Int) : Prop where
  p : RdL w vP 1 encI P
  t : RdL w vT 1 encI T
  ok : chkT P T = 0
theorem TopoAt.below {w w' : World} {vP vT : Value} {P T : List Int} {B : Nat} (h : TopoAt w vP vT P T) (k : Below B w w') (hB : w.heap.size ≤ B) : TopoAt w' vP vT P T := ⟨h.p.below k hB, h.t.below k hB, h.ok⟩
theorem rhas_any (w : World) (vP vT : Value) (P T : List Int) (i : Int) (r : Bool) (hr : hasB T i = r) (h : TopoAt w vP vT P T) :
    Calls Tryz.prog 46 #[.agg #[vP, vT], .int .i64 i] w fun e w' => e = .returned (.bool r) ∧ Below w.heap.size w w' := by
  obtain ⟨AP, cP, rfl, lP1, lP2⟩ := rdl_form h.p
  obtain ⟨AT, cT, rfl, lT1, lT2⟩ := rdl_form h.t
  have HR := Lib.hid hr
  clear h hr
  by_cases h0 : 0 ≤ i
  · obtain ⟨k, rfl⟩ := Int.eq_ofNat_of_zero_le h0
    cases hk : decide (k < T.length)
    · have hE : Hid (false = r) := Lib.hid (by rw [← HR.out]; unfold hasB; symm; apply decide_eq_false; have := of_decide_eq_false hk; omega)
      have hk2 : decide ((k : Int) < (T.length : Int)) = false := by rw [← hk]; simp
      go_enter Tryz.func46, Tryz.ntmps46
      go_wp2
      go_ret
      exact ⟨ret_bool hE.out, (Below.refl _ _).alloc (Nat.le_refl _) _⟩
    · have hE : Hid (true = r) := Lib.hid (by rw [← HR.out]; unfold hasB; symm; apply decide_eq_true; have := of_decide_eq_true hk; omega)
      have hk2 : decide ((k : Int) < (T.length : Int)) = true := by rw [← hk]; simp
      go_enter Tryz.func46, Tryz.ntmps46
      go_wp2
      go_ret
      exact ⟨ret_bool hE.out, (Below.refl _ _).alloc (Nat.le_refl _) _⟩
  · have hE : Hid (false = r) := Lib.hid (by rw [← HR.out]; unfold hasB; symm; apply decide_eq_false; omega)
    go_enter Tryz.func46, Tryz.ntmps46
    go_wp2
    go_ret
    exact ⟨ret_bool hE.out, (Below.refl _ _).alloc (Nat.le_refl _) _⟩
theorem lvs_ok {P T : List Int} (h : chkT P T = 0) : lvsT P T = leavesL P := by unfold lvsT; rw [if_pos h]
set_option maxRecDepth 100000 in
set_option maxHeartbeats 1000000 in
theorem rnode_any (w : World) (vP vT : Value) (P T : List Int) (i : Int) (h : TopoAt w vP vT P T) :
    Calls Tryz.prog 16 #[.agg #[vP, vT], .int .i64 i] w fun e w' => e = .returned (.int .i64 (nodeI P T i)) ∧ Below w.heap.size w w' := by
  have hm := many_lt (chk_ok h.ok).1
  have hb0 : Below w.heap.size w (w.alloc (.cells #[vP, vT] 24)) := (Below.refl _ _).alloc (Nat.le_refl _) _
  have HB0 := Lib.hid hb0
  have hbx : w.heap.size < (w.alloc (.cells #[vP, vT] 24)).heap.size := by simp
  cases hh : hasB T i
  · have HH := Lib.hid (rhas_any (w.alloc (.cells #[vP, vT] 24)) vP vT P T i false hh (h.below hb0 (Nat.le_refl _)))
    have HE : Hid (nodeI P T i = -1) := Lib.hid (by unfold nodeI; rw [hh]; rfl)
    obtain ⟨AP, cP, rfl, lP1, lP2⟩ := rdl_form h.p
    obtain ⟨AT, cT, rfl, lT1, lT2⟩ := rdl_form h.t
    clear h hh hb0
    go_enter Tryz.func16, Tryz.ntmps16
    go_wp2_with fail
    refine HH.out.mono ?_
    rintro en w1 ⟨rfl, b1⟩
    have H1 := Lib.hid (HB0.out.trans (b1.mono HB0.out.size))
    clear b1
    go_wp2
    go_ret
    exact ⟨ret_int HE.out.symm, H1.out⟩
  · obtain ⟨ki, rfl, hki⟩ := has_nat hh
    obtain ⟨x, hx⟩ := getElem?_lt hki
    have HE : Hid (nodeI P T ki = idxI (leavesL P) x) := Lib.hid (by unfold nodeI; rw [hh]; simp [hx])
    have HM := Lib.hid (thr_mem (chk_ok h.ok).2.2.2 hx)
    have HH := Lib.hid (rhas_any (w.alloc (.cells #[vP, vT] 24)) vP vT P T ki true hh (h.below hb0 (Nat.le_refl _)))
    have HL := Lib.hid (fun W (k : Below w.heap.size w W) => rleaves_any W vP vT P T (h.p.below k (Nat.le_refl _)) (h.t.below k (Nat.le_refl _)))
    rw [lvs_ok h.ok] at HL
    have hll : (leavesL P).length ≤ 32 := by have := leavesTo_len P P.length; show (leavesTo P P.length).length ≤ _; omega
    have HT := Lib.hid h.t
    have HX := Lib.hid hx
    obtain ⟨AP, cP, rfl, lP1, lP2⟩ := rdl_form h.p
    obtain ⟨AT, cT, rfl, lT1, lT2⟩ := rdl_form h.t
    have HC := Lib.hid (show (w.alloc (.cells #[.slice AP P.length cP, .slice AT T.length cT] 24)).cell? ⟨w.heap.size, 0, none⟩ = some (.slice AP P.length cP) ∧ (w.alloc (.cells #[.slice AP P.length cP, .slice AT T.length cT] 24)).cell? ⟨w.heap.size, 1, none⟩ = some (.slice AT T.length cT) by simp [World.cell?_alloc_new])
    clear h hh hb0 hx
    go_enter Tryz.func16, Tryz.ntmps16
    go_wp2_with fail
    refine HH.out.mono ?_
    rintro en w1 ⟨rfl, b1⟩
    have H1 := Lib.hid (HB0.out.trans (b1.mono HB0.out.size))
    have HK1 := Lib.hid b1
    have x0 := (b1.cell (p := ⟨w.heap.size, 0, none⟩) hbx).trans HC.out.1
    have x1 := (b1.cell (p := ⟨w.heap.size, 1, none⟩) hbx).trans HC.out.2
    clear b1
    go_wp2_with fail
    refine (HL.out _ H1.out).mono ?_
    rintro en w2 ⟨v2, rfl, ho, b2⟩
    have H2 := Lib.hid (H1.out.trans (b2.mono H1.out.size))
    have hs1 := HK1.out.size
    simp at hs1
    have y1 := (b2.cell (p := ⟨w.heap.size, 1, none⟩) (show w.heap.size < w1.heap.size by omega)).trans x1
    have HR2 := Lib.hid (own_rdl ho (by omega))
    obtain ⟨A2, c2, rfl⟩ := own_form ho
    obtain ⟨bT, oT, hAT, _, hcT⟩ := rdl_int (HT.out.below H2.out (Nat.le_refl _)) (by omega)
    have z1 := hcT ki x HX.out
    subst hAT
    clear x0 x1 b2 ho hcT
    go_wp2
    go_loopw [6] (fun s wr => ∃ k n : Nat, s = .int .i64 k ∧ k ≤ (leavesL P).length ∧ wr = w2.drewN n ∧ x ∉ (leavesL P).take k) (fun s _ => (leavesL P).length - (intOf s).toNat)
    case atStart => exact ⟨0, 0, rfl, by omega, rfl, by simp⟩
    case round =>
      obtain ⟨k, n, rfl, hk, rfl, hn⟩ := hrel
      have HN := Lib.hid hn
      clear hn
      by_cases hlt : k < (leavesL P).length
      · obtain ⟨y, hy⟩ := getElem?_lt hlt
        obtain ⟨b3, o3, rfl, _, hc3⟩ := rdl_int HR2.out (by omega)
        have c0 := hc3 k y hy
        have HY := Lib.hid hy
        clear hc3 hy
        cases hxy : (y == x)
        · have hne : Hid (x ∉ (leavesL P).take (k + 1)) := Lib.hid (by
            rw [mem_take HY.out]
            rintro (h | h)
            · exact HN.out h
            · rw [h] at hxy; simp at hxy)
          go_wp2
          go_quiet (fail)
          go_wp2
          go_roundw
          case rel => exact ⟨k + 1, n + nq, by go_num, by omega, by first | rfl | rw [World.drewN_drewN], hne.out⟩
          case measure => simp [intOf]; omega
        · have hid : Hid (idxI (leavesL P) x = k) := Lib.hid (by
            have e := beq_iff_eq.1 hxy
            exact idx_hit (by rw [← e]; exact HY.out) HN.out)
          go_wp2
          go_quiet (fail)
          go_wp2
          go_ret
          exact ⟨ret_int (by rw [HE.out, hid.out]), by first | exact below_drewN H2.out _ | exact below_drewN (below_drewN H2.out _) _⟩
      · obtain rfl : k = (leavesL P).length := by omega
        have hF : False := HN.out (by rw [List.take_length]; exact HM.out)
        exact hF.elim
end Go.Proofs.YtkdaiomjbkpedaaGreat
end
section
/- Layer 7, the document's: Up, Far, Meet. -/
namespace Go.Proofs.YtkdaiomjbkpedaaGreat
open Go.RowKit

set_option maxRecDepth 100000 in
set_option maxHeartbeats 2000000 in
theorem rup_any (w : World) (vP vT : Value) (P T : List Int) (i : Int) (h : TopoAt w vP vT P T) :
    Calls Tryz.prog 32 #[.agg #[vP, vT], .int .i64 i] w fun e w' => ∃ v, e = .returned v ∧ w'.ownsRow w.heap.size 3 1 v (upI P T i).length ((upI P T i).flatMap encI) ∧ Below w.heap.size w w' := by
  obtain ⟨i0, hi0, hz0, hz1, hz2⟩ := info_parts Tryz.infoIn
  have HI := Lib.hid (And.intro hi0 (And.intro hz0 (And.intro hz1 hz2)))
  clear hi0 hz0 hz1 hz2
  have hm := many_lt (chk_ok h.ok).1
  have hb0 : Below w.heap.size w (w.alloc (.cells #[vP, vT] 24)) := (Below.refl _ _).alloc (Nat.le_refl _) _
  have HB0 := Lib.hid hb0
  have hbx : w.heap.size < (w.alloc (.cells #[vP, vT] 24)).heap.size := by simp
  cases hh : hasB T i
  · have HH := Lib.hid (rhas_any (w.alloc (.cells #[vP, vT] 24)) vP vT P T i false hh (h.below hb0 (Nat.le_refl _)))
    have HE : Hid (upI P T i = []) := Lib.hid (by unfold upI; rw [hh]; rfl)
    obtain ⟨AP, cP, rfl, lP1, lP2⟩ := rdl_form h.p
    obtain ⟨AT, cT, rfl, lT1, lT2⟩ := rdl_form h.t
    clear h hh hb0
    go_enter Tryz.func32, Tryz.ntmps32
    go_wp2_with fail
    refine HH.out.mono ?_
    rintro en w1 ⟨rfl, b1⟩
    have H1 := Lib.hid (HB0.out.trans (b1.mono HB0.out.size))
    clear b1
    go_wp2
    go_ret
    exact ⟨_, rfl, by rw [HE.out]; exact World.ownsRow_nil _ _ _ _, H1.out⟩
  · obtain ⟨ki, rfl, hki⟩ := has_nat hh
    obtain ⟨x, hx⟩ := getElem?_lt hki
    have HE : Hid (upI P T ki = upL P x) := Lib.hid (by unfold upI; rw [hh]; simp [hx])
    have HTR := Lib.hid (chk_ok h.ok).2.1
    have hxl := leaf_lt (mem_leaves.1 (thr_mem (chk_ok h.ok).2.2.2 hx))
    obtain ⟨m, rfl⟩ := Int.eq_ofNat_of_zero_le hxl.1
    have hml : m < P.length := by omega
    have HH := Lib.hid (rhas_any (w.alloc (.cells #[vP, vT] 24)) vP vT P T ki true hh (h.below hb0 (Nat.le_refl _)))
    have HT := Lib.hid (And.intro h.p h.t)
    have HX := Lib.hid hx
    obtain ⟨AP, cP, rfl, lP1, lP2⟩ := rdl_form h.p
    obtain ⟨AT, cT, rfl, lT1, lT2⟩ := rdl_form h.t
    have HC := Lib.hid (show (w.alloc (.cells #[.slice AP P.length cP, .slice AT T.length cT] 24)).cell? ⟨w.heap.size, 0, none⟩ = some (.slice AP P.length cP) ∧ (w.alloc (.cells #[.slice AP P.length cP, .slice AT T.length cT] 24)).cell? ⟨w.heap.size, 1, none⟩ = some (.slice AT T.length cT) by simp [World.cell?_alloc_new])
    clear h hh hb0 hx hxl
    go_enter Tryz.func32, Tryz.ntmps32
    go_wp2_with fail
    refine HH.out.mono ?_
    rintro en w1 ⟨rfl, b1⟩
    have H1 := Lib.hid (HB0.out.trans (b1.mono HB0.out.size))
    have hs1 := b1.size
    simp at hs1
    have x0 := (b1.cell (p := ⟨w.heap.size, 0, none⟩) hbx).trans HC.out.1
    have x1 := (b1.cell (p := ⟨w.heap.size, 1, none⟩) hbx).trans HC.out.2
    obtain ⟨bT, oT, hAT, _, hcT⟩ := rdl_int (HT.out.2.below H1.out (Nat.le_refl _)) (by omega)
    have z1 := hcT ki _ HX.out
    subst hAT
    have HRP := Lib.hid (HT.out.1.below H1.out (Nat.le_refl _))
    have X0 := Lib.hid x0
    clear b1 hcT
    go_wp2
    go_loopw [5, 6, 7] (fun o y s wr => ∃ (k : Nat) (z : Int) (dn : List Int), s = .int .i64 k ∧ y = .int .i64 z ∧ k ≤ P.length ∧ z < P.length ∧ dn.length = k ∧ upL P m = dn ++ upL P z ∧ (k : Int) + z ≤ m ∧ -1 ≤ z ∧ wr.ownsRow w1.heap.size 3 1 o k (dn.flatMap encI) ∧ Below w1.heap.size w1 wr) (fun _ _ s _ => P.length - (intOf s).toNat)
    case atStart => exact ⟨0, m, [], rfl, rfl, by omega, by omega, rfl, rfl, by omega, by omega, World.ownsRow_nil _ _ _ _, Below.refl _ _⟩
    case round =>
      obtain ⟨k, z, dn, rfl, rfl, hk, hz, hdl, hup, hle, hz1, ho, hb⟩ := hrel
      obtain ⟨wq, rfl⟩ : ∃ wq : World, wq = wr := ⟨_, rfl⟩
      have y0 := (hb.cell (p := ⟨w.heap.size, 0, none⟩) (show w.heap.size < w1.heap.size by omega)).trans x0
      have HO := Lib.hid (And.intro ho hb)
      have HUP := Lib.hid (And.intro hup hdl)
      have hsz := hb.size
      have HRQ := Lib.hid (HRP.out.below hb (Nat.le_refl _))
      clear hup hdl x0 hb
      by_cases h0 : 0 ≤ z
      · obtain ⟨n, rfl⟩ := Int.eq_ofNat_of_zero_le h0
        have hlt : k < P.length := by omega
        obtain ⟨q, hq⟩ := getElem?_lt (show n < P.length by omega)
        have hql := tree_lt HTR.out hq
        have HQ := Lib.hid (And.intro (upL_step HTR.out hq) hq)
        obtain ⟨A6, c6, rfl⟩ := own_form ho
        clear hq
        go_wp2_with (at_builtin; refine wpList_append_own _ rfl _ _ 22 rfl w1.heap.size 3 i0 (.int .i64 0) 1 8 Tryz.underlying22 HI.out.1 HI.out.2.1 HI.out.2.2.1 HI.out.2.2.2 rfl (by decide) _ _ _ rfl (ho.alloc _) ⟨wq.heap.size, 0, none⟩ 1 1 (encI n) rfl rfl (cell_one_new _ _ _) (one_enc _) ?c3 ?c4 ?c5 ?_)
        case c3 => unfold maxLen; omega
        case c4 => omega
        case c5 => simp; omega
        intro v' w' hown' hgrow hnil
        have HN := Lib.hid (And.intro hown' hgrow)
        have hb2 : Below w1.heap.size w1 w' := (HO.out.2.alloc hsz _).grown hgrow (by simp; omega) (fun j hj => (HO.out.1.lt j hj).1)
        have HW := Lib.hid hb2
        obtain ⟨bP, oP, hAP, _, hcP⟩ := rdl_int (HRP.out.below hb2 (Nat.le_refl _)) (by omega)
        have c0 := hcP n q HQ.out.2
        have y1 := (hb2.cell (p := ⟨w.heap.size, 0, none⟩) (show w.heap.size < w1.heap.size by omega)).trans X0.out
        subst hAP
        clear hown' hgrow hnil hb2 hcP ho
        go_wp2
        go_roundw
        case rel => exact ⟨k + 1, q, dn ++ [(n : Int)], by go_num, rfl, by omega, by omega, by simp [HUP.out.2], by rw [HUP.out.1, HQ.out.1]; simp, by omega, by omega, by rw [flat_snoc]; exact HN.out.1, HW.out⟩
        case measure => simp [intOf]; omega
      · have hF : Hid (upL P m = dn) := Lib.hid (by have h := HUP.out.1; rw [upL_neg (P := P) (p := z) (by omega), List.append_nil] at h; exact h)
        by_cases hlt : k < P.length
        all_goals
          go_wp2
          go_ret
          exact ⟨_, rfl, by rw [HE.out, hF.out, HUP.out.2]; exact own_lower HO.out.1 H1.out.size, H1.out.trans (HO.out.2.mono H1.out.size)⟩
end Go.Proofs.YtkdaiomjbkpedaaGreat
end
