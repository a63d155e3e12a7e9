/- Joined: Fn3, Fn2, Fk2, Top1, Top2, Top3, Top4. -/
import Derived.Test.YtmlcfmickonfbaaGreatRows
import Derived.RegionCalls
import Derived.Laws.OwnMore
import Derived.OwnWalk
import Derived.Maps.AppendAt
import Derived.Test.YtmlcfmickonfbaaGreatMgReadersAll1
import Derived.Test.YtmlcfmickonfbaaGreatMgReadersAll6
import Derived.Test.YtmlcfmickonfbaaGreatMgReadersAll8
section
set_option linter.unusedVariables false
set_option linter.unusedSimpArgs false
/- Layers 17 and 19: a new flat lock (parted, clh), exactly. (printed by gen_fn3.py out of XFk1) -/
namespace Go.Proofs.YtmlcfmickonfbaaGreat
open Go.RowKit

/-- a slice's block, whatever its room -/
theorem own_blkZ {w : World} {base : Nat} {e : TypeId} {sz n : Nat} {v : Value} {xs : List Value} (h : w.ownsRow base e sz v n xs) (hn : 1 ≤ n) : ∃ q cap, v = .slice (some ⟨q, 0, none⟩) n cap ∧ n ≤ cap ∧ base ≤ q ∧ ∃ Z : List Value, Blk w q e (xs ++ Z).toArray := by
  rcases h.2 with ⟨_, h0⟩ | ⟨q, cap, cur, rfl, hb, hq, hnc, hcm, hcs, ht⟩
  · omega
  · refine ⟨q, cap, rfl, hnc, hb, cur.toList.drop (n * sz), ?_⟩
    rw [← ht, List.take_append_drop, Array.toArray_toList]
    exact hq
theorem newSp5_len (k : Nat) : (newSpK 5 k).length = k := by
  unfold newSpK
  simp
theorem clh_snoc (k : Nat) : (newSpK 5 (k + 1)).flatMap encP4 = (newSpK 5 k).flatMap encP4 ++ [.int .i64 0, .int .i64 ((k : Int) + 1), .int .i64 0, .int .i64 0] := by
  unfold newSpK
  rw [if_pos rfl, if_pos rfl, List.range_succ, List.map_append, List.flatMap_append]
  rfl
set_option maxRecDepth 100000 in
set_option maxHeartbeats 1000000 in
theorem partedNewX {w : World} {a g : Nat} {s : Ar} (h : ArIs w a g s) (n : Nat) (h1 : 1 ≤ n) (h2 : n ≤ 32) (m : Nat) (hm1 : 1 ≤ m) (hm2 : m ≤ 4) (hr : s.W.length + (1 + m) ≤ s.room) (ho : s.ops + 1 ≤ 1000000000000) :
    Calls Tryz.prog 74 #[.pointer (some ⟨a, 0, none⟩), .int .i64 n, .int .i64 m] w (NewX w a g 3 s n m) := by
  obtain ⟨i0, hi, hz0, hz1, hz2⟩ := info_parts Tryz.infoSpF
  have HT := Lib.hid (takeY h (1 + m) hr)
  have x1 : IntKind.i64.wrap (1 + (m : Int)) = ((1 + m : Nat) : Int) := by rw [IntWalk.i64_in _ (by omega)]; omega
  have hlen : s.W.length ≤ 4096 := by have := h.le; have := h.room; omega
  have ha0 := h.blk.lt
  have hg0 := h.wds.lt
  have HO := Lib.hid ho
  clear h hr ho
  go_enter Tryz.func74, Tryz.ntmps74
  go_wp2_with fail
  refine (mayF _ n h1 h2).mono ?_
  rintro en w0 ⟨rfl, rfl⟩
  go_wp2_with fail
  refine (mayF _ m hm1 (by omega)).mono ?_
  rintro en w0 ⟨rfl, rfl⟩
  go_wp2_with fail
  refine HT.out.mono ?_
  rintro en w1 ⟨rfl, k1, t1'⟩
  have H1 := Lib.hid (And.intro k1 t1')
  clear k1 t1' HT
  go_wp2_with (refine wpList_make_full _ rfl _ _ 57 rfl w1.heap.size 38 i0 (.agg #[.int .i64 0, .int .i64 0, .int .i64 0, .int .i64 0]) 4 Tryz.underlying57 hi hz0 hz1 .i64 .i64 n n n rfl rfl rfl rfl ?b2 ?b3 (Nat.le_refl _) ?_)
  case b2 => rw [hz2]; omega
  case b3 => unfold maxLen; omega
  intro w2 hown hg
  have t2' : Turns [] w1 w2 := Turns.of_below ((Below.refl w1.heap.size w1).grown hg (Nat.le_refl _) (fun j hj => by cases hj))
  have H2 := Lib.hid t2'
  have HSP := Lib.hid (spr_made hown)
  clear hown hg t2'
  go_upto_region 7 with fail
  obtain ⟨l, hl⟩ : ∃ l, l = w2.heap.size := ⟨_, rfl⟩
  obtain ⟨nx, hnx⟩ : ∃ x : Nat, x = s.W.length + 1 := ⟨_, rfl⟩
  have hnx2 : ((s.W.length : Int) + 1) = (nx : Int) := by omega
  obtain ⟨w3, hw3⟩ : ∃ W, W = w2.alloc (.cells #[.pointer (some ⟨a, 0, none⟩), .int .i64 nx, .int .i64 m, .slice (some ⟨w1.heap.size, 0, none⟩) n n] 160) := ⟨_, rfl⟩
  rw [hnx2, ← hw3, ← hl]
  have HB := Lib.hid (show Blk w3 l 160 #[.pointer (some ⟨a, 0, none⟩), .int .i64 nx, .int .i64 m, .slice (some ⟨w1.heap.size, 0, none⟩) n n] from by rw [hw3, hl]; exact Blk.new _ _ _)
  have HT3 := Lib.hid (show Turns [a] w w3 from by rw [hw3]; exact (H1.out.2.trans (H2.out.mono (by simp))).alloc _)
  have HA3 := Lib.hid (show ArIs w3 a g (takeS s (1 + m)) from by rw [hw3]; exact (H1.out.1.turns H2.out (by simp) (by simp)).turns (S := []) ((Turns.refl _ _).alloc _) (by simp) (by simp))
  have HSP3 := Lib.hid (show SpR w3 w1.heap.size (List.replicate n Sp.zero) from by rw [hw3]; exact HSP.out.turns ((Turns.refl [] _).alloc _) (by simp))
  have HL := Lib.hid (show w.heap.size ≤ l ∧ nx = s.W.length + 1 ∧ w1.heap.size < l ∧ w.heap.size ≤ w1.heap.size from by have := H1.out.2.size; have := H2.out.size; have := HSP.out.lt; omega)
  clear hl hw3 hnx hnx2
  go_wp2_with fail
  refine (placeF nx m hm1 (by have := HL.out.2.1; omega) HB.out).mono ?_
  rintro en w4 ⟨rfl, b4⟩
  have HA4 := Lib.hid (And.intro (HA3.out.turns (Turns.of_below (S := []) b4) (by simp) (by simp)) b4)
  clear b4
  go_wp2_with fail
  refine (store_any HA4.out.1 ((nx : Int) + 1) 1 (by show s.ops + 1 ≤ _; have := HO.out; omega)).mono ?_
  rintro en w5 ⟨rfl, k5, t5⟩
  have H5 := Lib.hid (And.intro k5 t5)
  clear k5 t5
  go_wp2
  go_ret2
  have s3 := HT3.out.size
  have s4 := HA4.out.2.size
  have s5 := H5.out.2.size
  have hb := HB.out.lt
  have hL := HL.out
  have e3 : ((nx : Int) + 1) = (s.W.length : Int) + 2 := by omega
  have tt : Turns [a, g] w3 w5 := (Turns.of_below HA4.out.2).trans H5.out.2
  have ka := H5.out.1
  rw [e3] at ka
  refine ⟨⟨0, l, w1.heap.size, 3, nx, m, n, n⟩, rfl, ?_, ⟨by show w.heap.size ≤ l; omega, by show w.heap.size ≤ w1.heap.size; omega, rfl, rfl, hL.2.1, rfl⟩, (HT3.out.mono (by simp)).trans tt⟩
  exact ⟨ka, tt.blk HB.out (by simp; omega), HSP3.out.turns tt (by simp; omega), by show (List.replicate n Sp.zero).length = n; simp, by show l ≠ a; omega, by show l ≠ g; omega, by show l ≠ w1.heap.size; omega, by show w1.heap.size ≠ a; omega, by show w1.heap.size ≠ g; omega, h2, by show 1 ≤ nx; omega, by show nx ≤ 5000; omega, hm1, hm2, Nat.le_refl _⟩
set_option maxRecDepth 100000 in
set_option maxHeartbeats 2000000 in
theorem clhNewX {w : World} {a g : Nat} {s : Ar} (h : ArIs w a g s) (n : Nat) (h1 : 1 ≤ n) (h2 : n ≤ 32) (m : Nat) (hm1 : 1 ≤ m) (hm2 : m ≤ 4) (hr : s.W.length + (n + 2) ≤ s.room) (ho : s.ops + 1 ≤ 1000000000000) :
    Calls Tryz.prog 76 #[.pointer (some ⟨a, 0, none⟩), .int .i64 n] w (NewX w a g 5 s n m) := by
  obtain ⟨i0, hi, hz0, hz1, hz2⟩ := info_parts Tryz.infoSpF
  have HI := Lib.hid (And.intro hi (And.intro hz0 (And.intro hz1 hz2)))
  have HT := Lib.hid (takeY h (n + 2) hr)
  have t1 : ¬ (n : Int) < 1 := by omega
  have t2 : ¬ 32 < (n : Int) := by omega
  have x1 : IntKind.i64.wrap ((n : Int) + 2) = ((n + 2 : Nat) : Int) := by rw [IntWalk.i64_in _ (by omega)]; omega
  have x2 : IntKind.i64.wrap ((n : Int) + 1) = ((n + 1 : Nat) : Int) := by rw [IntWalk.i64_in _ (by omega)]; omega
  have hlen : s.W.length ≤ 4096 := by have := h.le; have := h.room; omega
  have HG := Lib.hid (And.intro h.blk.lt h.wds.lt)
  have HO := Lib.hid ho
  clear h hr ho hi hz0 hz1 hz2
  go_enter Tryz.func76, Tryz.ntmps76
  go_wp2_with fail
  refine HT.out.mono ?_
  rintro en w1 ⟨rfl, k1, t1'⟩
  have H1 := Lib.hid (And.intro k1 t1')
  clear k1 t1' HT
  go_upto_region 7 with fail
  obtain ⟨l, hl⟩ : ∃ l, l = w1.heap.size := ⟨_, rfl⟩
  obtain ⟨nx, hnx⟩ : ∃ x : Nat, x = s.W.length + 1 := ⟨_, rfl⟩
  have hnx2 : ((s.W.length : Int) + 1) = (nx : Int) := by omega
  obtain ⟨w3, hw3⟩ : ∃ W, W = w1.alloc (.cells #[.pointer (some ⟨a, 0, none⟩), .int .i64 nx, .slice none 0 0] 164) := ⟨_, rfl⟩
  rw [hnx2, ← hw3, ← hl]
  have HB := Lib.hid (show Blk w3 l 164 #[.pointer (some ⟨a, 0, none⟩), .int .i64 nx, .slice none 0 0] from by rw [hw3, hl]; exact Blk.new _ _ _)
  have HT3 := Lib.hid (show Turns [a] w w3 from by rw [hw3]; exact H1.out.2.alloc _)
  have HA3 := Lib.hid (show ArIs w3 a g (takeS s (n + 2)) from by rw [hw3]; exact H1.out.1.turns (S := []) ((Turns.refl _ _).alloc _) (by simp) (by simp))
  have HL := Lib.hid (show w.heap.size ≤ l ∧ nx = s.W.length + 1 ∧ w3.heap.size = l + 1 from by have := H1.out.2.size; rw [hw3]; simp; omega)
  clear hl hw3 hnx hnx2
  go_wp2
  go_loopw [31] (fun i wr => ∃ (k : Nat) (v : Value), i = .int .i64 k ∧ k ≤ n ∧ Blk wr l 164 #[.pointer (some ⟨a, 0, none⟩), .int .i64 nx, v] ∧ wr.ownsRow w3.heap.size 38 4 v k ((newSpK 5 k).flatMap encP4) ∧ Turns [l] w3 wr) (fun i _ => n - (intOf i).toNat)
  case atStart => exact ⟨0, _, rfl, by omega, HB.out, World.ownsRow_nil _ _ _ _, Turns.refl _ _⟩
  case round =>
    obtain ⟨k, v, rfl, hk, hb, hown, ht⟩ := hrel
    have HXS := Lib.hid (clh_snoc k)
    obtain ⟨xs, hxs⟩ : ∃ l, l = (newSpK 5 k).flatMap encP4 := ⟨_, rfl⟩
    rw [← hxs] at hown HXS
    have HXE := Lib.hid hxs
    clear hxs
    obtain ⟨wo, rfl⟩ : ∃ wo : World, wo = wr := ⟨_, rfl⟩
    by_cases hlt : k < n
    · obtain ⟨A, cap, rfl⟩ := own_form hown
      have c2 : wo.cell? ⟨l, 2, none⟩ = some (.slice A k cap) := hb.cell 2
      have hll := hb.lt
      have hs3 := ht.size
      have H := Lib.hid (And.intro hb (And.intro hown ht))
      have hlow : (Value.slice A k cap).ownBlock ≠ some l := fun e => by have := (hown.lt l e).1; have := HL.out.2.2; omega
      clear hb hown ht
      go_wp2_with (at_builtin; refine wpList_append_lies _ rfl _ _ 57 rfl w3.heap.size 38 i0 (.agg #[.int .i64 0, .int .i64 0, .int .i64 0, .int .i64 0]) 4 32 Tryz.underlying57 HI.out.1 HI.out.2.1 HI.out.2.2.1 HI.out.2.2.2 rfl (by decide) _ _ _ rfl (H.out.2.1.alloc _) ⟨wo.heap.size, 0, none⟩ 1 1 [.int .i64 0, .int .i64 ((k : Int) + 1), .int .i64 0, .int .i64 0] rfl rfl (cells_newF _ _ _) (by simp [Value.oneCell']) (by decide) ?c3 ?c4 ?c5 _ rfl ?_)
      case c3 => unfold maxLen; omega
      case c4 => omega
      case c5 => simp; omega
      intro g3 cap3 w7 h3 hg3 hl3 hlt3
      have bl7 := (H.out.1.alloc (.cells #[.int .i64 0, .int .i64 ((k : Int) + 1), .int .i64 0, .int .i64 0] 38)).grown hg3 (fun e => hlow e.symm)
      have c27 : w7.cell? ⟨l, 2, none⟩ = some (.slice A k cap) := bl7.cell 2
      have z27 := bl7.free 2
      have ts : Turns [l] w7 (w7.setCell ⟨l, 2, none⟩ (.slice (some ⟨g3, 0, none⟩) (k + 1) cap3)) := (Turns.refl _ _).setCell (.inl (by simp)) _
      have HRR := Lib.hid (show Blk (w7.setCell ⟨l, 2, none⟩ (.slice (some ⟨g3, 0, none⟩) (k + 1) cap3)) l 164 #[.pointer (some ⟨a, 0, none⟩), .int .i64 nx, .slice (some ⟨g3, 0, none⟩) (k + 1) cap3] ∧ (w7.setCell ⟨l, 2, none⟩ (.slice (some ⟨g3, 0, none⟩) (k + 1) cap3)).ownsRow w3.heap.size 38 4 (.slice (some ⟨g3, 0, none⟩) (k + 1) cap3) (k + 1) (xs ++ [.int .i64 0, .int .i64 ((k : Int) + 1), .int .i64 0, .int .i64 0]) ∧ Turns [l] w3 (w7.setCell ⟨l, 2, none⟩ (.slice (some ⟨g3, 0, none⟩) (k + 1) cap3)) from by
        have hg35 := (h3.lt g3 rfl).1
        have hl3' := HL.out.2.2
        refine ⟨bl7.set_ 2 _, Turns.own h3 ts (fun x hx => by injection hx with hx; subst hx; simp; omega), ?_⟩
        have t37 : Turns [l] w3 w7 := ⟨hg3.os.trans H.out.2.2.os, hg3.tape.trans H.out.2.2.tape, hg3.output.trans H.out.2.2.output, by have := hg3.size; simp at this; omega, fun i hi hn => by
          have h9 := hg3.block i (by simp; omega) (fun e => by have := (H.out.2.1.lt i e.symm).1; omega)
          rw [h9]
          have h8 := ((Turns.refl [l] wo).alloc (.cells #[.int .i64 0, .int .i64 ((k : Int) + 1), .int .i64 0, .int .i64 0] 38)).block i (by omega) hn
          rw [h8]
          exact H.out.2.2.block i hi hn⟩
        exact t37.trans ts)
      clear h3 hg3 hl3 bl7 H
      go_wp2
      go_roundw
      case rel => exact ⟨k + 1, _, by go_num, by omega, HRR.out.1, by rw [HXS.out]; exact HRR.out.2.1, HRR.out.2.2⟩
      case measure => simp [intOf]; omega
    · obtain rfl : k = n := by omega
      obtain ⟨q, cap, rfl, hcap, hql, Z, hZ⟩ := own_blkZ hown h1
      have H := Lib.hid (And.intro hb ht)
      have HZ := Lib.hid (show SpR wo q (newSpK 5 k) from ⟨Z, by rw [← HXE.out]; exact hZ⟩)
      clear hb hown ht hZ
      have HA4 := Lib.hid (HA3.out.turns H.out.2 (by have := HG.out; have := HL.out; simp; omega) (by have := HG.out; have := HL.out; simp; omega))
      go_wp2_with fail
      refine (store_any HA4.out (nx : Int) ((k + 1 : Nat) : Int) (by show s.ops + 1 ≤ _; have := HO.out; omega)).mono ?_
      rintro en w5 ⟨rfl, k5, t5⟩
      have H5 := Lib.hid (And.intro k5 t5)
      clear k5 t5
      go_wp2
      go_ret2
      have s3 := HT3.out.size
      have s5 := H5.out.2.size
      have hb := H.out.1.lt
      have s6 := H.out.2.size
      have hL := HL.out
      have hG := HG.out
      have e3 : (nx : Int) = (s.W.length : Int) + 1 := by omega
      have ka := H5.out.1
      rw [e3, show (((k + 1 : Nat) : Nat) : Int) = (k : Int) + 1 by omega] at ka
      have t9 : Turns [a, g, l] w w5 := ((HT3.out.mono (by simp)).trans (H.out.2.mono (by simp))).trans (H5.out.2.mono (by simp))
      refine ⟨⟨0, l, q, 5, nx, m, k, cap⟩, rfl, ?_, ⟨by show w.heap.size ≤ l; omega, by show w.heap.size ≤ q; omega, rfl, rfl, hL.2.1, rfl⟩, t9.fresh fun i hi => by simp at hi ⊢; omega⟩
      exact ⟨ka, H5.out.2.blk H.out.1 (by simp; omega), HZ.out.turns H5.out.2 (by simp; omega), newSp5_len k, by show l ≠ a; omega, by show l ≠ g; omega, by show l ≠ q; omega, by show q ≠ a; omega, by show q ≠ g; omega, h2, by show 1 ≤ nx; omega, by show nx ≤ 5000; omega, hm1, hm2, hcap⟩
end Go.Proofs.YtmlcfmickonfbaaGreat
end
section
set_option linter.unusedVariables false
set_option linter.unusedSimpArgs false
/- Layer 20 (flat): a new flat lock, exactly. (printed by gen_fn2.py) -/
namespace Go.Proofs.YtmlcfmickonfbaaGreat
open Go.RowKit

/-- a new flat lock, exactly -/
def NewFl (w : World) (a g k : Nat) (s : Ar) (n m : Nat) (e : Ending) (w' : World) : Prop :=
  ∃ x : Fx, e = .returned (.tuple #[.pointer (some ⟨x.p, 0, none⟩), .int .i64 0]) ∧ FlIs w' a g k x (newAr_ k s n m) (newSpK k n) ∧ (w.heap.size ≤ x.p ∧ w.heap.size ≤ x.l ∧ w.heap.size ≤ x.q ∧ x.n = n ∧ x.m = m ∧ x.t = s.W.length + 1) ∧ Turns [a, g] w w'
set_option maxRecDepth 100000 in
set_option maxHeartbeats 4000000 in
theorem flNew_1 {w : World} {a g : Nat} {s : Ar} (h : ArIs w a g s) (n : Nat) (h1 : 1 ≤ n) (h2 : n ≤ 32) (m : Nat) (hm1 : 1 ≤ m) (hm2 : m ≤ 4) (hr : s.W.length + szK 1 n m ≤ s.room) (ho : s.ops + 1 ≤ 1000000000000) :
    Calls Tryz.prog 45 #[.pointer (some ⟨a, 0, none⟩), .int .i64 1, .int .i64 n, .int .i64 m] w (NewFl w a g 1 s n m) := by
  have H2 := Lib.hid (tasNewX h n h1 h2 m hm1 hm2 (show s.W.length + (1) ≤ s.room from hr))
  have HG := Lib.hid (And.intro h.blk.lt h.wds.lt)
  clear h hr ho
  go_enter Tryz.func45, Tryz.ntmps45
  go_wp2_with fail
  refine H2.out.mono ?_
  rintro en w1 ⟨x, rfl, e1, e2, e3⟩
  have HE := Lib.hid (And.intro e1 (And.intro e2 e3))
  clear e1 e2 e3
  go_wp2
  go_ret2
  obtain ⟨e1, e2, e3⟩ := HE.out
  have hq := e1.sp.lt
  have hs := e3.size
  have hg := HG.out
  have tA : Turns [] w1 (w1.alloc (.cells #[.int .i64 ((1 : Nat) : Int), ifV 1 x.l] 139)) := (Turns.refl _ _).alloc _
  exact ⟨{ x with p := w1.heap.size }, rfl, ⟨Blk.new w1 139 #[.int .i64 ((1 : Nat) : Int), ifV 1 x.l], ⟨e1.ar.turns tA (by simp) (by simp), tA.blk e1.lk (by simp), e1.sp.turns tA (by simp), e1.n, e1.la, e1.lg, e1.lq, e1.qa, e1.qg, e1.n32, e1.t0, e1.t1, e1.m0, e1.m1, e1.cap⟩, by show w1.heap.size ≠ a; omega, by show w1.heap.size ≠ g; omega, by show w1.heap.size ≠ x.q; omega⟩, ⟨by show w.heap.size ≤ w1.heap.size; omega, e2.1, e2.2.1, e2.2.2.1, e2.2.2.2.1, e2.2.2.2.2.1⟩, e3.alloc _⟩
set_option maxRecDepth 100000 in
set_option maxHeartbeats 4000000 in
theorem flNew_2 {w : World} {a g : Nat} {s : Ar} (h : ArIs w a g s) (n : Nat) (h1 : 1 ≤ n) (h2 : n ≤ 32) (m : Nat) (hm1 : 1 ≤ m) (hm2 : m ≤ 4) (hr : s.W.length + szK 2 n m ≤ s.room) (ho : s.ops + 1 ≤ 1000000000000) :
    Calls Tryz.prog 45 #[.pointer (some ⟨a, 0, none⟩), .int .i64 2, .int .i64 n, .int .i64 m] w (NewFl w a g 2 s n m) := by
  have H2 := Lib.hid (ticketNewX h n h1 h2 m hm1 hm2 (show s.W.length + (2) ≤ s.room from hr))
  have HG := Lib.hid (And.intro h.blk.lt h.wds.lt)
  clear h hr ho
  go_enter Tryz.func45, Tryz.ntmps45
  go_wp2_with fail
  refine H2.out.mono ?_
  rintro en w1 ⟨x, rfl, e1, e2, e3⟩
  have HE := Lib.hid (And.intro e1 (And.intro e2 e3))
  clear e1 e2 e3
  go_wp2
  go_ret2
  obtain ⟨e1, e2, e3⟩ := HE.out
  have hq := e1.sp.lt
  have hs := e3.size
  have hg := HG.out
  have tA : Turns [] w1 (w1.alloc (.cells #[.int .i64 ((2 : Nat) : Int), ifV 2 x.l] 139)) := (Turns.refl _ _).alloc _
  exact ⟨{ x with p := w1.heap.size }, rfl, ⟨Blk.new w1 139 #[.int .i64 ((2 : Nat) : Int), ifV 2 x.l], ⟨e1.ar.turns tA (by simp) (by simp), tA.blk e1.lk (by simp), e1.sp.turns tA (by simp), e1.n, e1.la, e1.lg, e1.lq, e1.qa, e1.qg, e1.n32, e1.t0, e1.t1, e1.m0, e1.m1, e1.cap⟩, by show w1.heap.size ≠ a; omega, by show w1.heap.size ≠ g; omega, by show w1.heap.size ≠ x.q; omega⟩, ⟨by show w.heap.size ≤ w1.heap.size; omega, e2.1, e2.2.1, e2.2.2.1, e2.2.2.2.1, e2.2.2.2.2.1⟩, e3.alloc _⟩
set_option maxRecDepth 100000 in
set_option maxHeartbeats 4000000 in
theorem flNew_3 {w : World} {a g : Nat} {s : Ar} (h : ArIs w a g s) (n : Nat) (h1 : 1 ≤ n) (h2 : n ≤ 32) (m : Nat) (hm1 : 1 ≤ m) (hm2 : m ≤ 4) (hr : s.W.length + szK 3 n m ≤ s.room) (ho : s.ops + 1 ≤ 1000000000000) :
    Calls Tryz.prog 45 #[.pointer (some ⟨a, 0, none⟩), .int .i64 3, .int .i64 n, .int .i64 m] w (NewFl w a g 3 s n m) := by
  have H2 := Lib.hid (partedNewX h n h1 h2 m hm1 hm2 (show s.W.length + (1 + m) ≤ s.room from hr) ho)
  have HG := Lib.hid (And.intro h.blk.lt h.wds.lt)
  clear h hr ho
  go_enter Tryz.func45, Tryz.ntmps45
  go_wp2_with fail
  refine H2.out.mono ?_
  rintro en w1 ⟨x, rfl, e1, e2, e3⟩
  have HE := Lib.hid (And.intro e1 (And.intro e2 e3))
  clear e1 e2 e3
  go_wp2
  go_ret2
  obtain ⟨e1, e2, e3⟩ := HE.out
  have hq := e1.sp.lt
  have hs := e3.size
  have hg := HG.out
  have tA : Turns [] w1 (w1.alloc (.cells #[.int .i64 ((3 : Nat) : Int), ifV 3 x.l] 139)) := (Turns.refl _ _).alloc _
  exact ⟨{ x with p := w1.heap.size }, rfl, ⟨Blk.new w1 139 #[.int .i64 ((3 : Nat) : Int), ifV 3 x.l], ⟨e1.ar.turns tA (by simp) (by simp), tA.blk e1.lk (by simp), e1.sp.turns tA (by simp), e1.n, e1.la, e1.lg, e1.lq, e1.qa, e1.qg, e1.n32, e1.t0, e1.t1, e1.m0, e1.m1, e1.cap⟩, by show w1.heap.size ≠ a; omega, by show w1.heap.size ≠ g; omega, by show w1.heap.size ≠ x.q; omega⟩, ⟨by show w.heap.size ≤ w1.heap.size; omega, e2.1, e2.2.1, e2.2.2.1, e2.2.2.2.1, e2.2.2.2.2.1⟩, e3.alloc _⟩
set_option maxRecDepth 100000 in
set_option maxHeartbeats 4000000 in
theorem flNew_4 {w : World} {a g : Nat} {s : Ar} (h : ArIs w a g s) (n : Nat) (h1 : 1 ≤ n) (h2 : n ≤ 32) (m : Nat) (hm1 : 1 ≤ m) (hm2 : m ≤ 4) (hr : s.W.length + szK 4 n m ≤ s.room) (ho : s.ops + 1 ≤ 1000000000000) :
    Calls Tryz.prog 45 #[.pointer (some ⟨a, 0, none⟩), .int .i64 4, .int .i64 n, .int .i64 m] w (NewFl w a g 4 s n m) := by
  have H2 := Lib.hid (mcsNewX h n h1 h2 m hm1 hm2 (show s.W.length + (1 + 2 * n) ≤ s.room from hr))
  have HG := Lib.hid (And.intro h.blk.lt h.wds.lt)
  clear h hr ho
  go_enter Tryz.func45, Tryz.ntmps45
  go_wp2_with fail
  refine H2.out.mono ?_
  rintro en w1 ⟨x, rfl, e1, e2, e3⟩
  have HE := Lib.hid (And.intro e1 (And.intro e2 e3))
  clear e1 e2 e3
  go_wp2
  go_ret2
  obtain ⟨e1, e2, e3⟩ := HE.out
  have hq := e1.sp.lt
  have hs := e3.size
  have hg := HG.out
  have tA : Turns [] w1 (w1.alloc (.cells #[.int .i64 ((4 : Nat) : Int), ifV 4 x.l] 139)) := (Turns.refl _ _).alloc _
  exact ⟨{ x with p := w1.heap.size }, rfl, ⟨Blk.new w1 139 #[.int .i64 ((4 : Nat) : Int), ifV 4 x.l], ⟨e1.ar.turns tA (by simp) (by simp), tA.blk e1.lk (by simp), e1.sp.turns tA (by simp), e1.n, e1.la, e1.lg, e1.lq, e1.qa, e1.qg, e1.n32, e1.t0, e1.t1, e1.m0, e1.m1, e1.cap⟩, by show w1.heap.size ≠ a; omega, by show w1.heap.size ≠ g; omega, by show w1.heap.size ≠ x.q; omega⟩, ⟨by show w.heap.size ≤ w1.heap.size; omega, e2.1, e2.2.1, e2.2.2.1, e2.2.2.2.1, e2.2.2.2.2.1⟩, e3.alloc _⟩
set_option maxRecDepth 100000 in
set_option maxHeartbeats 4000000 in
theorem flNew_5 {w : World} {a g : Nat} {s : Ar} (h : ArIs w a g s) (n : Nat) (h1 : 1 ≤ n) (h2 : n ≤ 32) (m : Nat) (hm1 : 1 ≤ m) (hm2 : m ≤ 4) (hr : s.W.length + szK 5 n m ≤ s.room) (ho : s.ops + 1 ≤ 1000000000000) :
    Calls Tryz.prog 45 #[.pointer (some ⟨a, 0, none⟩), .int .i64 5, .int .i64 n, .int .i64 m] w (NewFl w a g 5 s n m) := by
  have H2 := Lib.hid (clhNewX h n h1 h2 m hm1 hm2 (show s.W.length + (n + 2) ≤ s.room from hr) ho)
  have HG := Lib.hid (And.intro h.blk.lt h.wds.lt)
  clear h hr ho
  go_enter Tryz.func45, Tryz.ntmps45
  go_wp2_with fail
  refine H2.out.mono ?_
  rintro en w1 ⟨x, rfl, e1, e2, e3⟩
  have HE := Lib.hid (And.intro e1 (And.intro e2 e3))
  clear e1 e2 e3
  go_wp2
  go_ret2
  obtain ⟨e1, e2, e3⟩ := HE.out
  have hq := e1.sp.lt
  have hs := e3.size
  have hg := HG.out
  have tA : Turns [] w1 (w1.alloc (.cells #[.int .i64 ((5 : Nat) : Int), ifV 5 x.l] 139)) := (Turns.refl _ _).alloc _
  exact ⟨{ x with p := w1.heap.size }, rfl, ⟨Blk.new w1 139 #[.int .i64 ((5 : Nat) : Int), ifV 5 x.l], ⟨e1.ar.turns tA (by simp) (by simp), tA.blk e1.lk (by simp), e1.sp.turns tA (by simp), e1.n, e1.la, e1.lg, e1.lq, e1.qa, e1.qg, e1.n32, e1.t0, e1.t1, e1.m0, e1.m1, e1.cap⟩, by show w1.heap.size ≠ a; omega, by show w1.heap.size ≠ g; omega, by show w1.heap.size ≠ x.q; omega⟩, ⟨by show w.heap.size ≤ w1.heap.size; omega, e2.1, e2.2.1, e2.2.2.1, e2.2.2.2.1, e2.2.2.2.2.1⟩, e3.alloc _⟩
theorem flNew {w : World} {a g : Nat} {s : Ar} (h : ArIs w a g s) (k : Nat) (hk : KOk k) (n : Nat) (h1 : 1 ≤ n) (h2 : n ≤ 32) (m : Nat) (hm1 : 1 ≤ m) (hm2 : m ≤ 4) (hr : s.W.length + szK k n m ≤ s.room) (ho : s.ops + 1 ≤ 1000000000000) :
    Calls Tryz.prog 45 #[.pointer (some ⟨a, 0, none⟩), .int .i64 (k : Int), .int .i64 n, .int .i64 m] w (NewFl w a g k s n m) := by
  rcases hk with rfl | rfl | rfl | rfl | rfl
  · exact flNew_1 h n h1 h2 m hm1 hm2 hr ho
  · exact flNew_2 h n h1 h2 m hm1 hm2 hr ho
  · exact flNew_3 h n h1 h2 m hm1 hm2 hr ho
  · exact flNew_4 h n h1 h2 m hm1 hm2 hr ho
  · exact flNew_5 h n h1 h2 m hm1 hm2 hr ho
end Go.Proofs.YtmlcfmickonfbaaGreat
end
section
set_option linter.unusedVariables false
set_option linter.unusedSimpArgs false
/- Layer 6: trees of places as lists of parents; plain data, no program in sight. -/
namespace Go.Proofs.YtmlcfmickonfbaaGreat
open Go.RowKit

def okP (P : List Int) (v : Nat) : Bool := decide ((v = 0 → P.getD v 0 = -1) ∧ (0 < v → 0 ≤ P.getD v 0 ∧ P.getD v 0 < v))
def treeB (P : List Int) : Bool := (List.range P.length).all (okP P)
def leafB (P : List Int) (v : Int) : Bool := decide (0 ≤ v ∧ v < P.length ∧ v ∉ P)
def leavesTo (P : List Int) (k : Nat) : List Int := ((List.range k).map Int.ofNat).filter (leafB P)
def leavesL (P : List Int) : List Int := leavesTo P P.length
def dep (P : List Int) : Nat → Int → Nat
  | 0, _ => 0
  | f + 1, v => if 0 ≤ v ∧ v < P.length then dep P f (P.getD v.toNat 0) + 1 else 0
def depL (P : List Int) (v : Int) : Nat := dep P P.length v
def evenB (P : List Int) : Bool := (leavesL P).all fun v => decide (depL P v = depL P ((leavesL P).headD 0) ∧ depL P v ≤ 5)
def thrB (P T : List Int) : Bool := T.all (leafB P)
def manyB (P T : List Int) : Bool := decide (P.length < 1 ∨ 32 < P.length ∨ T.length < 1 ∨ 32 < T.length)
def chkT (P T : List Int) : Int := if manyB P T then 8 else if treeB P = false then 9 else if evenB P = false then 9 else if thrB P T = false then 4 else 0

theorem getD_of {P : List Int} {k : Nat} {p : Int} (h : P[k]? = some p) : P.getD k 0 = p := by rw [List.getD_eq_getElem?_getD, h]; rfl
theorem range_all_succ (f : Nat → Bool) (k : Nat) : (List.range (k + 1)).all f = ((List.range k).all f && f k) := by rw [List.range_succ, List.all_append]; simp
theorem tree_at {P : List Int} (h : treeB P = true) {k : Nat} {p : Int} (hk : P[k]? = some p) : (k = 0 → p = -1) ∧ (0 < k → 0 ≤ p ∧ p < k) := by
  have hlt := (List.getElem?_eq_some_iff.1 hk).1
  unfold treeB at h
  rw [List.all_eq_true] at h
  have := h k (List.mem_range.2 hlt)
  simp only [okP, decide_eq_true_eq, getD_of hk] at this
  exact this
theorem tree_lt {P : List Int} (h : treeB P = true) {k : Nat} {p : Int} (hk : P[k]? = some p) : -1 ≤ p ∧ p < k := by
  have := tree_at h hk
  rcases Nat.eq_zero_or_pos k with h0 | h0
  · have := this.1 h0; omega
  · have := this.2 h0; omega
/-- enough fuel is enough -/
theorem dep_fuel {P : List Int} (h : treeB P = true) : ∀ (f : Nat) (v : Int), v < f → ∀ g : Nat, v < g → dep P f v = dep P g v
  | 0, v, hv, g, hg => by
    cases g with
    | zero => rfl
    | succ g => unfold dep; rw [if_neg (by omega)]
  | f + 1, v, hv, g, hg => by
    cases g with
    | zero => unfold dep; rw [if_neg (by omega)]
    | succ g =>
      unfold dep
      split
      · rename_i hb
        obtain ⟨p, hp⟩ := getElem?_lt (show v.toNat < P.length by omega)
        have := tree_lt h hp
        rw [getD_of hp, dep_fuel h f p (by omega) g (by omega)]
      · rfl
theorem depL_step {P : List Int} (h : treeB P = true) {k : Nat} {p : Int} (hk : P[k]? = some p) : depL P k = if 0 ≤ p then depL P p + 1 else 1 := by
  have hlt := (List.getElem?_eq_some_iff.1 hk).1
  have hp := tree_lt h hk
  unfold depL
  rw [dep_fuel h P.length k (by omega) (k + 1) (by omega)]
  show (if 0 ≤ (k : Int) ∧ (k : Int) < P.length then dep P k (P.getD (k : Int).toNat 0) + 1 else 0) = _
  rw [if_pos (by omega), Int.toNat_natCast, getD_of hk]
  split
  · rw [dep_fuel h k p (by omega) P.length (by omega)]
  · have : dep P k p = 0 := by
      cases k with
      | zero => rfl
      | succ k => unfold dep; rw [if_neg (by omega)]
    omega
theorem dep_le (P : List Int) : ∀ (f : Nat) (v : Int), dep P f v ≤ f
  | 0, _ => Nat.le_refl _
  | f + 1, v => by
    unfold dep
    split
    · have := dep_le P f (P.getD v.toNat 0); omega
    · omega
theorem depL_le (P : List Int) (v : Int) : depL P v ≤ P.length := dep_le P _ _

theorem leavesTo_succ (P : List Int) (k : Nat) : leavesTo P (k + 1) = if leafB P k then leavesTo P k ++ [(k : Int)] else leavesTo P k := by
  unfold leavesTo
  rw [List.range_succ, List.map_append, List.filter_append]
  show _ ++ List.filter (leafB P) [(k : Int)] = _
  by_cases h : leafB P k = true
  · simp [h]
  · simp [h]
theorem leavesTo_len (P : List Int) : ∀ k, (leavesTo P k).length ≤ k := fun k => by
  unfold leavesTo
  have := List.length_filter_le (leafB P) ((List.range k).map Int.ofNat)
  simpa using this
theorem mem_leaves {P : List Int} {v : Int} : v ∈ leavesL P ↔ leafB P v = true := by
  unfold leavesL leavesTo
  rw [List.mem_filter]
  constructor
  · exact fun h => h.2
  · intro h
    refine ⟨?_, h⟩
    simp only [leafB, decide_eq_true_eq] at h
    rw [List.mem_map]
    exact ⟨v.toNat, List.mem_range.2 (by omega), by show ((v.toNat : Nat) : Int) = v; omega⟩
theorem mem_take {P : List Int} {k : Nat} {p : Int} (hk : P[k]? = some p) (x : Int) : x ∈ P.take (k + 1) ↔ x ∈ P.take k ∨ x = p := by
  rw [take_succ_of hk]; simp
/-- a list over a range, one place written -/
theorem range_set {α : Type} (n i : Nat) (f g : Nat → α) (u : α) (hi : g i = u) (ho : ∀ j, j ≠ i → g j = f j) : ((List.range n).map f).set i u = (List.range n).map g := by
  refine List.ext_getElem? fun j => ?_
  rw [List.getElem?_set]
  by_cases hji : i = j
  · subst hji
    rw [if_pos rfl]
    by_cases hin : i < n
    · simp [hin, hi]
    · simp [hin]
  · rw [if_neg hji]
    by_cases hjn : j < n
    · simp [hjn, ho j (fun h => hji h.symm)]
    · simp [hjn]
theorem range_get {α : Type} (n i : Nat) (f : Nat → α) (h : i < n) : ((List.range n).map f)[i]? = some (f i) := by simp [h]
end Go.Proofs.YtmlcfmickonfbaaGreat
end
section
set_option linter.unusedVariables false
set_option linter.unusedSimpArgs false
/- slices.Index, Contains, IndexFunc (at two closures) and ContainsFunc over ints (written by wip/gen_top2.py). -/
namespace Go.Proofs.YtmlcfmickonfbaaGreat
open Go.RowKit

def idxI (l : List Int) (x : Int) : Int := if x ∈ l then ((l.idxOf x : Nat) : Int) else -1
theorem idx_hit {l : List Int} {k : Nat} {x : Int} (h : l[k]? = some x) (hn : x ∉ l.take k) : idxI l x = k := by
  unfold idxI
  have hm : x ∈ l := List.mem_of_getElem? h
  obtain ⟨hk, he⟩ := List.getElem?_eq_some_iff.1 h
  rw [if_pos hm]
  have hl : l = l.take k ++ (x :: l.drop (k + 1)) := by
    conv => lhs; rw [← List.take_append_drop k l, List.drop_eq_getElem_cons hk, he]
  have : l.idxOf x = k := by
    rw [hl, List.idxOf_append]
    rw [if_neg hn, List.idxOf_cons_self]
    simp; omega
  rw [this]
theorem idx_none {l : List Int} {x : Int} (hn : x ∉ l) : idxI l x = -1 := by unfold idxI; rw [if_neg hn]
theorem idx_nonneg (l : List Int) (x : Int) : (0 ≤ idxI l x ↔ x ∈ l) ∧ idxI l x < l.length ∧ -1 ≤ idxI l x := by
  unfold idxI
  split
  · rename_i h
    have := List.idxOf_lt_length_of_mem h
    exact ⟨by simp [h], by omega, by omega⟩
  · rename_i h
    exact ⟨by simp [h], by omega, by omega⟩
def fidx (p : Int → Bool) (l : List Int) : Int := match l.findIdx? p with | some i => (i : Int) | none => -1
theorem fidx_hit {p : Int → Bool} {l : List Int} {k : Nat} {x : Int} (h : l[k]? = some x) (hp : p x = true) (hn : ∀ y ∈ l.take k, p y = false) : fidx p l = k := by
  obtain ⟨hk, he⟩ := List.getElem?_eq_some_iff.1 h
  have : l.findIdx? p = some k := by
    rw [List.findIdx?_eq_some_iff_getElem]
    refine ⟨hk, by rw [he]; exact hp, fun j hj => ?_⟩
    have := hn l[j] (List.mem_take_iff_getElem.2 ⟨j, by omega, rfl⟩)
    simp [this]
  unfold fidx
  rw [this]
theorem fidx_none {p : Int → Bool} {l : List Int} (hn : ∀ y ∈ l, p y = false) : fidx p l = -1 := by
  have : l.findIdx? p = none := by rw [List.findIdx?_eq_none_iff]; exact hn
  unfold fidx
  rw [this]
theorem fidx_nonneg (p : Int → Bool) (l : List Int) : (decide (0 ≤ fidx p l) = l.any p) ∧ fidx p l < l.length ∧ -1 ≤ fidx p l := by
  unfold fidx
  cases h : l.findIdx? p with
  | none =>
    rw [List.findIdx?_eq_none_iff] at h
    refine ⟨?_, by show (-1 : Int) < _; omega, by show (-1 : Int) ≤ -1; omega⟩
    symm
    show _ = decide ((0 : Int) ≤ -1)
    rw [show decide ((0 : Int) ≤ -1) = false from rfl, List.any_eq_false]
    intro x hx hp
    rw [h x hx] at hp; cases hp
  | some i =>
    rw [List.findIdx?_eq_some_iff_getElem] at h
    obtain ⟨hi, hp, _⟩ := h
    refine ⟨?_, by show (i : Int) < _; omega, by show (-1 : Int) ≤ (i : Int); omega⟩
    rw [decide_eq_true (show (0 : Int) ≤ (i : Int) by omega)]
    symm
    rw [List.any_eq_true]
    exact ⟨l[i], List.getElem_mem hi, hp⟩

set_option maxHeartbeats 1000000 in
theorem index_any (w : World) (v : Value) (l : List Int) (x : Int) (h : RdL w v 1 encI l) :
    Calls Tryz.prog 86 #[v, .int .i64 x] w fun e w' => e = .returned (.int .i64 (idxI l x)) ∧ w = w' := by
  obtain ⟨A, cap, rfl, l1, l2, hr⟩ := h
  have HR := Lib.hid hr
  clear hr
  go_enter Tryz.func86, Tryz.ntmps86
  go_wp2
  go_loop [8] (fun i => ∃ k : Nat, i = .int .i64 k ∧ k ≤ l.length ∧ x ∉ l.take k) (fun i => l.length - (intOf i).toNat)
  case atStart => exact ⟨0, rfl, by omega, by simp⟩
  case round =>
    obtain ⟨k, rfl, hk, hn⟩ := hrel
    by_cases hlt : k < l.length
    · obtain ⟨bl, off, rfl, hbl, hc⟩ := HR.out (by omega)
      obtain ⟨y, hy⟩ := getElem?_lt hlt
      have c0 := hc k y hy 0 _ rfl
      simp only [Nat.add_zero, Nat.mul_one] at c0
      have HY := Lib.hid (And.intro hy hn)
      clear hc hy hn
      cases hxy : (x == y)
      · have hne : Hid (x ∉ l.take (k + 1)) := Lib.hid (by
          rw [mem_take HY.out.1]
          rintro (h | h)
          · exact HY.out.2 h
          · rw [h] at hxy; simp at hxy)
        go_wp2
        go_round
        case rel => exact ⟨k + 1, by go_num, by omega, hne.out⟩
        case measure => simp [intOf]; omega
      · have hid : Hid (idxI l x = k) := Lib.hid (idx_hit (by rw [beq_iff_eq.1 hxy]; exact HY.out.1) HY.out.2)
        go_wp2
        go_ret
        exact ⟨ret_int hid.out.symm, rfl⟩
    · obtain rfl : k = l.length := by omega
      rw [List.take_length] at hn
      have hid : Hid (idxI l x = -1) := Lib.hid (idx_none hn)
      clear hn
      go_wp2
      go_ret
      exact ⟨ret_int hid.out.symm, rfl⟩
theorem contains_any (w : World) (v : Value) (l : List Int) (x : Int) (h : RdL w v 1 encI l) :
    Calls Tryz.prog 70 #[v, .int .i64 x] w fun e w' => e = .returned (.bool (decide (x ∈ l))) ∧ w = w' := by
  have HI := Lib.hid (index_any w v l x h)
  have hb : decide (x ∈ l) = decide (0 ≤ idxI l x) := decide_eq_decide.2 (idx_nonneg l x).1.symm
  have HB := Lib.hid hb
  clear h hb
  go_enter Tryz.func70, Tryz.ntmps70
  go_wp2_with (go_at_call 86; refine HI.out.mono ?_; rintro e w' ⟨rfl, rfl⟩)
  go_ret
  exact ⟨ret_bool HB.out.symm, rfl⟩

theorem chkC_any (w : World) (b : Nat) (v : Value) (l : List Int) (x : Int) (hc : w.cell? ⟨b, 0, none⟩ = some v) (h : RdL w v 1 encI l) :
    Calls Tryz.prog 69 #[.int .i64 x, .pointer (some ⟨b, 0, none⟩)] w fun e w' => e = .returned (.bool (!decide (x ∈ l))) ∧ w = w' := by
  have HI := Lib.hid (contains_any w v l x h)
  clear h
  go_enter Tryz.func69, Tryz.ntmps69
  go_wp2_with (go_at_call 70; refine HI.out.mono ?_; rintro e w' ⟨rfl, rfl⟩)
  go_ret
  exact ⟨ret_bool (by simp), rfl⟩
set_option maxHeartbeats 1000000 in
theorem chkF_any (w : World) (b : Nat) (ve v : Value) (en l : List Int) (hcell : w.cell? ⟨b, 0, none⟩ = some ve) (hen : RdL w ve 1 encI en) (h : RdL w v 1 encI l) :
    Calls Tryz.prog 97 #[v, .func (.func 69) #[] #[.pointer (some ⟨b, 0, none⟩)]] w fun e w' => e = .returned (.int .i64 (fidx (fun x => !decide (x ∈ en)) l)) ∧ w = w' := by
  obtain ⟨A, cap, rfl, l1, l2, hr⟩ := h
  have HR := Lib.hid hr
  have HE := Lib.hid (And.intro hcell hen)
  clear hr hcell hen
  go_enter Tryz.func97, Tryz.ntmps97
  go_wp2
  go_loop [8] (fun i => ∃ k : Nat, i = .int .i64 k ∧ k ≤ l.length ∧ ∀ x ∈ l.take k, (!decide (x ∈ en)) = false) (fun i => l.length - (intOf i).toNat)
  case atStart => exact ⟨0, rfl, by omega, by simp⟩
  case round =>
    obtain ⟨k, rfl, hk, hn⟩ := hrel
    by_cases hlt : k < l.length
    · obtain ⟨bl, off, rfl, hbl, hc⟩ := HR.out (by omega)
      obtain ⟨y, hy⟩ := getElem?_lt hlt
      have c0 := hc k y hy 0 _ rfl
      simp only [Nat.add_zero, Nat.mul_one] at c0
      have HY := Lib.hid (And.intro hy hn)
      clear hc hy hn
      have HC := Lib.hid (chkC_any w b ve en y HE.out.1 HE.out.2)
      cases hp : (!decide (y ∈ en))
      · have hne : Hid (∀ x ∈ l.take (k + 1), (!decide (x ∈ en)) = false) := Lib.hid (by
          intro x hx
          rcases (mem_take HY.out.1 x).1 hx with h | h
          · exact HY.out.2 x h
          · rw [h]; exact hp)
        rw [hp] at HC
        clear hp
        go_wp2_with (go_at_call 69; refine HC.out.mono ?_; rintro e w' ⟨rfl, rfl⟩)
        go_round
        case rel => exact ⟨k + 1, by go_num, by omega, hne.out⟩
        case measure => simp [intOf]; omega
      · have hid : Hid (fidx (fun x => !decide (x ∈ en)) l = k) := Lib.hid (fidx_hit HY.out.1 hp HY.out.2)
        rw [hp] at HC
        clear hp
        go_wp2_with (go_at_call 69; refine HC.out.mono ?_; rintro e w' ⟨rfl, rfl⟩)
        go_ret
        exact ⟨ret_int hid.out.symm, rfl⟩
    · obtain rfl : k = l.length := by omega
      rw [List.take_length] at hn
      have hid : Hid (fidx (fun x => !decide (x ∈ en)) l = -1) := Lib.hid (fidx_none hn)
      clear hn
      go_wp2
      go_ret
      exact ⟨ret_int hid.out.symm, rfl⟩

theorem containsFunc_any (w : World) (b : Nat) (ve v : Value) (en l : List Int) (hcell : w.cell? ⟨b, 0, none⟩ = some ve) (hen : RdL w ve 1 encI en) (h : RdL w v 1 encI l) :
    Calls Tryz.prog 68 #[v, .func (.func 69) #[] #[.pointer (some ⟨b, 0, none⟩)]] w fun e w' => e = .returned (.bool (l.any fun x => !decide (x ∈ en))) ∧ w = w' := by
  have HI := Lib.hid (chkF_any w b ve v en l hcell hen h)
  have HB := Lib.hid (fidx_nonneg (fun x => !decide (x ∈ en)) l).1
  clear h hcell hen
  go_enter Tryz.func68, Tryz.ntmps68
  go_wp2_with (go_at_call 97; refine HI.out.mono ?_; rintro e w' ⟨rfl, rfl⟩)
  go_ret
  exact ⟨ret_bool HB.out, rfl⟩
end Go.Proofs.YtmlcfmickonfbaaGreat
end
section
set_option linter.unusedVariables false
set_option linter.unusedSimpArgs false
/- Layer 6: topo.tree, inner, leaves, levels. -/
namespace Go.Proofs.YtmlcfmickonfbaaGreat
open Go.RowKit

theorem all_false {f : Nat → Bool} {n k : Nat} (hk : k < n) (h : f k = false) : (List.range n).all f = false := by
  rw [List.all_eq_false]
  exact ⟨k, List.mem_range.2 hk, by simp [h]⟩
set_option maxRecDepth 100000 in
set_option maxHeartbeats 1000000 in
theorem tree_any (w : World) (v : Value) (P : List Int) (h : RdL w v 1 encI P) :
    Calls Tryz.prog 65 #[v] w fun e w' => e = .returned (.bool (treeB P)) ∧ w = w' := by
  obtain ⟨A, cap, rfl, l1, l2, hr⟩ := h
  have HR := Lib.hid hr
  clear hr
  go_enter Tryz.func65, Tryz.ntmps65
  go_wp2
  go_loop [7] (fun i => ∃ k : Nat, i = .int .i64 k ∧ k ≤ P.length ∧ (List.range k).all (okP P) = true) (fun i => P.length - (intOf i).toNat)
  case atStart => exact ⟨0, rfl, by omega, rfl⟩
  case round =>
    obtain ⟨k, rfl, hk, ha⟩ := hrel
    by_cases hlt : k < P.length
    · obtain ⟨bl, off, rfl, hbl, hc⟩ := HR.out (by omega)
      obtain ⟨p, hp⟩ := getElem?_lt hlt
      have c0 := hc k p hp 0 _ rfl
      simp only [Nat.add_zero, Nat.mul_one] at c0
      have HP := Lib.hid (And.intro (getD_of hp) ha)
      clear hc hp ha
      by_cases hok : (k = 0 → p = -1) ∧ (0 < k → 0 ≤ p ∧ p < k)
      · have HF : Hid ((List.range (k + 1)).all (okP P) = true) := Lib.hid (by
          rw [range_all_succ, HP.out.2]
          simp only [Bool.true_and]
          exact decide_eq_true (by rw [HP.out.1]; exact hok))
        by_cases h0 : k = 0
        · have e1 := hok.1 h0
          subst h0
          subst e1
          simp only [Nat.add_zero] at c0
          go_wp2
          go_round
          case rel => exact ⟨1, by rfl, by omega, HF.out⟩
          case measure => simp [intOf]; omega
        · obtain ⟨e1, e2⟩ := hok.2 (by omega)
          have t0 : ((k : Int) == 0) = false := by rw [beq_eq_false_iff_ne]; omega
          have t1 : decide (0 < k) = true := decide_eq_true (by omega)
          have t2 : decide (p < 0) = false := decide_eq_false (by omega)
          have t3 : decide ((k : Int) ≤ p) = false := decide_eq_false (by omega)
          clear hok h0
          go_wp2
          go_round
          case rel => exact ⟨k + 1, by go_num, by omega, HF.out⟩
          case measure => simp [intOf]; omega
      · have HF : Hid (treeB P = false) := Lib.hid (all_false hlt (decide_eq_false (by rw [HP.out.1]; exact hok)))
        by_cases h0 : k = 0
        · subst h0
          simp only [Nat.add_zero] at c0
          have t1 : (p != -1) = true := by rw [bne_iff_ne]; intro h; exact hok ⟨fun _ => h, by omega⟩
          clear hok
          go_wp2
          go_ret
          exact ⟨ret_bool HF.out.symm, rfl⟩
        · have t0 : ((k : Int) == 0) = false := by rw [beq_eq_false_iff_ne]; omega
          have t1 : decide (0 < k) = true := decide_eq_true (by omega)
          by_cases hp0 : p < 0
          · clear hok h0
            go_wp2
            go_ret
            exact ⟨ret_bool HF.out.symm, rfl⟩
          · have t3 : decide ((k : Int) ≤ p) = true := decide_eq_true (by omega)
            have t2 : decide (p < 0) = false := decide_eq_false (by omega)
            clear hok h0
            go_wp2
            go_ret
            exact ⟨ret_bool HF.out.symm, rfl⟩
    · obtain rfl : k = P.length := by omega
      have HF : Hid (treeB P = true) := Lib.hid ha
      clear ha
      go_wp2
      go_ret
      exact ⟨ret_bool HF.out.symm, rfl⟩

def encB (b : Bool) : List Value := [.bool b]
theorem encB_len (b : Bool) : (encB b).length = 1 := rfl
theorem Tryz.infoBool : (Tryz.prog.info? 4).map (fun i => (i.zero, i.size, i.bytes)) = some (some (.bool false), 1, 1) := by kernel_rfl
theorem Tryz.infoIn : (Tryz.prog.info? 3).map (fun i => (i.zero, i.size, i.bytes)) = some (some (.int .i64 0), 1, 8) := by kernel_rfl
theorem made_const (u : Value) (n : Nat) : (madeCells #[u] n).toList = (List.range n).map fun _ => u := by
  unfold madeCells
  rw [Array.toList_map, Array.toList_range]
  refine List.map_congr_left fun i _ => ?_
  simp [Nat.mod_one]
theorem map_flat {α : Type} (enc : α → Value) (l : List α) : l.map enc = l.flatMap (fun x => [enc x]) := by
  induction l with
  | nil => rfl
  | cons a l ih => rw [List.map_cons, List.flatMap_cons, ih]; rfl
/-- of each place: is it somebody's parent, of the first k? -/
def innTo (P : List Int) (k : Nat) : List Bool := (List.range P.length).map fun (u : Nat) => decide ((u : Int) ∈ P.take k)
theorem innTo_enc (P : List Int) (k : Nat) : (innTo P k).flatMap encB = (List.range P.length).map fun (u : Nat) => Value.bool (decide ((u : Int) ∈ P.take k)) := by
  unfold innTo
  show List.flatMap (fun x => [Value.bool x]) _ = _
  rw [← map_flat Value.bool, List.map_map]; rfl
theorem innTo_len (P : List Int) (k : Nat) : (innTo P k).length = P.length := by simp [innTo]
set_option maxRecDepth 100000 in
set_option maxHeartbeats 1000000 in
theorem inner_any (w : World) (v : Value) (P : List Int) (h : RdL w v 1 encI P) (ht : treeB P = true) (h32 : P.length ≤ 1000) :
    Calls Tryz.prog 96 #[v] w fun e w' => ∃ v', e = .returned v' ∧ RdL w' v' 1 encB (innTo P P.length) ∧ Below w.heap.size w w' := by
  obtain ⟨i0, hi, hz0, hz1, hz2⟩ := info_parts Tryz.infoBool
  obtain ⟨A, cap, rfl, l1, l2, hr⟩ := h
  have HR := Lib.hid hr
  have HT := Lib.hid ht
  clear hr ht
  go_enter Tryz.func96, Tryz.ntmps96
  go_wp2_with (refine wpList_make_full _ rfl (.tmp 7) (.tmp 7) 150 rfl w.heap.size 4 i0 (.bool false) 1 Tryz.underlying150 hi hz0 hz1 .i64 .i64 P.length P.length P.length rfl rfl rfl rfl ?b2 ?b3 (Nat.le_refl _) ?_)
  case b2 => rw [hz2]; omega
  case b3 => unfold maxLen; omega
  intro w1 hown hg
  have hown1 : w1.ownsRow w.heap.size 4 1 (.slice (some ⟨w.heap.size, 0, none⟩) P.length P.length) P.length ((innTo P 0).flatMap encB) := by
    rw [innTo_enc]
    have e : (madeCells #[Value.bool false] P.length).toList = (List.range P.length).map fun (u : Nat) => Value.bool (decide ((u : Int) ∈ P.take 0)) := by
      rw [made_const]
      refine List.map_congr_left fun i _ => by simp
    rw [e] at hown; exact hown
  have hb1 : Below w.heap.size w w1 := (Below.refl w.heap.size w).grown hg (Nat.le_refl _) (fun j hj => by cases hj)
  clear hown hg
  go_wp2
  go_loopw [11] (fun i wr => ∃ k : Nat, i = .int .i64 k ∧ k ≤ P.length ∧ wr.ownsRow w.heap.size 4 1 (.slice (some ⟨w.heap.size, 0, none⟩) P.length P.length) P.length ((innTo P k).flatMap encB) ∧ Below w.heap.size w wr) (fun i _ => P.length - (intOf i).toNat)
  case atStart => exact ⟨0, rfl, by omega, hown1, hb1⟩
  case round =>
    clear hown1 hb1
    obtain ⟨k, rfl, hk, hown, hbel⟩ := hrel
    by_cases hlt : k < P.length
    · obtain ⟨bl, off, rfl, hbl, hc⟩ := HR.out (by omega)
      obtain ⟨p, hp⟩ := getElem?_lt hlt
      have c0 := (hbel.cell (p := ⟨bl, off + k * 1 + 0, none⟩) hbl).trans (hc k p hp 0 _ rfl)
      simp only [Nat.add_zero, Nat.mul_one] at c0
      have hpl := tree_lt HT.out hp
      have HP := Lib.hid hp
      clear hc hp
      by_cases h0 : 0 ≤ p
      · have f0 := hown.frozenAt p.toNat
        have g0 := hown.cellAt p.toNat (by omega)
        have hgl := (hown.lt _ rfl).2
        have hst := hown.stored p.toNat (.bool true)
        have HN : Hid (∀ W : World, W.ownsRow w.heap.size 4 1 (.slice (some ⟨w.heap.size, 0, none⟩) P.length P.length) P.length (((innTo P k).flatMap encB).set p.toNat (.bool true)) → W.ownsRow w.heap.size 4 1 (.slice (some ⟨w.heap.size, 0, none⟩) P.length P.length) P.length ((innTo P (k + 1)).flatMap encB)) := Lib.hid fun W hW => by
          rw [innTo_enc] at hW ⊢
          rw [range_set P.length p.toNat _ (fun (u : Nat) => Value.bool (decide ((u : Int) ∈ P.take (k + 1)))) (.bool true) (by
            show Value.bool (decide (((p.toNat : Nat) : Int) ∈ P.take (k + 1))) = _
            rw [decide_eq_true ((mem_take HP.out _).2 (.inr (by omega)))]) (fun j hj => by
            show Value.bool (decide ((j : Int) ∈ P.take (k + 1))) = Value.bool (decide ((j : Int) ∈ P.take k))
            congr 1
            refine decide_eq_decide.2 ?_
            rw [mem_take HP.out]
            exact ⟨fun h => h.elim id (fun h => by omega), .inl⟩)] at hW
          exact hW
        obtain ⟨u, hu⟩ : ∃ u, ((innTo P k).flatMap encB)[p.toNat]? = some u := by
          rw [innTo_enc, range_get _ _ _ (by omega)]; exact ⟨_, rfl⟩
        rw [hu] at g0
        obtain ⟨m, rfl⟩ := Int.eq_ofNat_of_zero_le h0
        simp only [Int.toNat_natCast] at f0 g0 hst HN
        have HB := Lib.hid (And.intro hst hbel)
        clear hu hst hbel hown
        go_wp2
        go_roundw
        case rel => exact ⟨k + 1, by go_num, by omega, HN.out _ HB.out.1.1, HB.out.2.setCell (Nat.le_refl _) _⟩
        case measure => simp [intOf]; omega
      · have HN : Hid (innTo P (k + 1) = innTo P k) := Lib.hid (by
          unfold innTo
          refine List.map_congr_left fun u _ => decide_eq_decide.2 ?_
          rw [mem_take HP.out]
          exact ⟨fun h => h.elim id (fun h => by omega), .inl⟩)
        have HB := Lib.hid (And.intro hown hbel)
        clear hown hbel
        go_wp2
        go_roundw
        case rel => exact ⟨k + 1, by go_num, by omega, by rw [HN.out]; exact HB.out.1, HB.out.2⟩
        case measure => simp [intOf]; omega
    · obtain rfl : k = P.length := by omega
      have HB := Lib.hid (And.intro hown hbel)
      clear hown hbel
      go_wp2
      go_ret
      exact ⟨_, rfl, RdL.of_own encB_len (innTo_len P _).symm (by rw [innTo_len]; omega) HB.out.1, HB.out.2⟩
end Go.Proofs.YtmlcfmickonfbaaGreat
end
section
set_option linter.unusedVariables false
set_option linter.unusedSimpArgs false
/- Layer 6: topo.leaves, levels. -/
namespace Go.Proofs.YtmlcfmickonfbaaGreat
open Go.RowKit

theorem own_lower {w : World} {b b' : Nat} {e : TypeId} {sz : Nat} {v : Value} {n : Nat} {xs : List Value} (h : w.ownsRow b e sz v n xs) (hb : b' ≤ b) : w.ownsRow b' e sz v n xs := by
  rcases h.2 with h0 | ⟨g, cap, cur, q1, q2, q⟩
  · exact ⟨h.1, .inl h0⟩
  · exact ⟨h.1, .inr ⟨g, cap, cur, q1, Nat.le_trans hb q2, q⟩⟩
theorem own_rdl {w : World} {b : Nat} {v : Value} {l : List Int} (h : w.ownsRow b 3 1 v l.length (l.flatMap encI)) (hl : l.length ≤ 140737488355328) : RdL w v 1 encI l := RdL.of_own encI_len rfl hl h
theorem one_enc (x : Int) : ∀ u ∈ encI x, u.oneCell' = true := by simp [encI, Value.oneCell']
theorem inn_at {P : List Int} {k : Nat} (hk : k < P.length) : (innTo P P.length)[k]? = some (decide ((k : Int) ∈ P)) := by
  unfold innTo
  rw [range_get _ _ _ hk, List.take_length]
theorem leaf_nat {P : List Int} {k : Nat} (hk : k < P.length) : leafB P k = !decide ((k : Int) ∈ P) := by
  unfold leafB
  by_cases h : (k : Int) ∈ P
  · simp [h]
  · simp [h, hk]
theorem flat_snoc (l : List Int) (x : Int) : (l ++ [x]).flatMap encI = l.flatMap encI ++ encI x := by simp
set_option maxRecDepth 100000 in
set_option maxHeartbeats 1000000 in
theorem leaves_any (w : World) (v : Value) (P : List Int) (h : RdL w v 1 encI P) (ht : treeB P = true) (h32 : P.length ≤ 1000) :
    Calls Tryz.prog 66 #[v] w fun e w' => ∃ v', e = .returned v' ∧ w'.ownsRow w.heap.size 3 1 v' (leavesL P).length ((leavesL P).flatMap encI) ∧ Below w.heap.size w w' := by
  obtain ⟨i0, hi, hz0, hz1, hz2⟩ := info_parts Tryz.infoIn
  have HI := Lib.hid (And.intro hi (And.intro hz0 (And.intro hz1 hz2)))
  have HC := Lib.hid (inner_any w v P h ht h32)
  clear hi hz0 hz1 hz2 h ht
  go_enter Tryz.func66, Tryz.ntmps66
  go_wp2_with fail
  refine HC.out.mono ?_
  rintro en w1 ⟨v', rfl, hR, hb⟩
  have HB := Lib.hid hb
  have hs1 := hb.size
  clear hb
  obtain ⟨A, cap, rfl, l1, l2, hr⟩ := hR
  have HR := Lib.hid hr
  clear hr
  have hln : (innTo P P.length).length = P.length := innTo_len _ _
  rw [hln] at *
  clear hln
  go_wp2
  go_loopw [3, 9] (fun o i wr => ∃ k : Nat, i = .int .i64 k ∧ k ≤ P.length ∧ wr.ownsRow w1.heap.size 3 1 o (leavesTo P k).length ((leavesTo P k).flatMap encI) ∧ Below w1.heap.size w1 wr) (fun _ i _ => P.length - (intOf i).toNat)
  case atStart => exact ⟨0, rfl, by omega, World.ownsRow_nil _ _ _ _, Below.refl _ _⟩
  case round =>
    obtain ⟨k, rfl, hk, hown, hbel⟩ := hrel
    by_cases hlt : k < P.length
    · obtain ⟨bl, off, rfl, hbl, hc⟩ := HR.out (by rw [innTo_len]; omega)
      have c0 := (hbel.cell (p := ⟨bl, off + k * 1 + 0, none⟩) hbl).trans (hc k _ (inn_at hlt) 0 _ rfl)
      simp only [Nat.add_zero, Nat.mul_one] at c0
      have hll := leavesTo_len P k
      have hsz := hbel.size
      have HS := Lib.hid (leavesTo_succ P k)
      have HL := Lib.hid (leaf_nat hlt)
      have HO := Lib.hid (And.intro hown hbel)
      obtain ⟨A9, c9, rfl⟩ := own_form hown
      clear hc hbel
      cases hm : decide ((k : Int) ∈ P)
      · rw [hm] at c0
        have HM := Lib.hid hm
        clear hm
        go_wp2_with (at_builtin; refine wpList_append_own _ rfl _ _ 22 rfl w1.heap.size 3 i0 (.int .i64 0) 1 8 Tryz.underlying22 HI.out.1 HI.out.2.1 HI.out.2.2.1 HI.out.2.2.2 rfl (by decide) _ _ _ rfl (hown.alloc _) ⟨wr.heap.size, 0, none⟩ 1 1 (encI k) rfl rfl (cell_one_new _ _ _) (one_enc _) ?c3 ?c4 ?c5 ?_)
        case c3 => unfold maxLen; omega
        case c4 => omega
        case c5 => simp; omega
        intro v' w' hown' hgrow hnil
        have HN := Lib.hid (And.intro hown' hgrow)
        clear hown' hgrow hnil hown
        go_wp2
        go_roundw
        case rel => exact ⟨k + 1, by go_num, by omega, by rw [HS.out, HL.out, HM.out]; simp only [Bool.not_false, if_true]; rw [flat_snoc, List.length_append]; exact HN.out.1, (HO.out.2.alloc hsz _).grown HN.out.2 (by simp; omega) (fun j hj => (HO.out.1.lt j hj).1)⟩
        case measure => simp [intOf]; omega
      · rw [hm] at c0
        have HM := Lib.hid hm
        clear hm hown
        go_wp2
        go_roundw
        case rel => exact ⟨k + 1, by go_num, by omega, by rw [HS.out, HL.out, HM.out]; exact HO.out.1, HO.out.2⟩
        case measure => simp [intOf]; omega
    · obtain rfl : k = P.length := by omega
      have hll := leavesTo_len P P.length
      have HO := Lib.hid (And.intro hown hbel)
      clear hown hbel
      go_wp2
      go_ret
      exact ⟨_, rfl, own_lower HO.out.1 hs1, HB.out.trans (HO.out.2.mono hs1)⟩

/-- how deep each place is, as far as the first k are reckoned -/
def levTo (P : List Int) (k : Nat) : List Int := (List.range P.length).map fun (u : Nat) => if u < k then ((depL P u : Nat) : Int) else 0
def levL (P : List Int) : List Int := (List.range P.length).map fun (u : Nat) => ((depL P u : Nat) : Int)
theorem levTo_len (P : List Int) (k : Nat) : (levTo P k).length = P.length := by simp [levTo]
theorem levTo_all (P : List Int) : levTo P P.length = levL P := by
  unfold levTo levL
  exact List.map_congr_left fun u hu => if_pos (List.mem_range.1 hu)
theorem flatI (l : List Int) : l.flatMap encI = l.map (Value.int .i64) := (map_flat _ _).symm
theorem levTo_set (P : List Int) (k : Nat) (x : Int) (hx : x = ((depL P k : Nat) : Int)) : ((levTo P k).flatMap encI).set k (.int .i64 x) = (levTo P (k + 1)).flatMap encI := by
  rw [flatI, flatI]
  unfold levTo
  rw [List.map_map, List.map_map]
  refine range_set P.length k _ _ _ ?_ fun j hj => ?_
  · show Value.int .i64 (if k < k + 1 then _ else _) = _
    rw [if_pos (by omega), hx]
  · show Value.int .i64 (if j < k + 1 then _ else _) = Value.int .i64 (if j < k then _ else _)
    by_cases h : j < k
    · rw [if_pos h, if_pos (by omega)]
    · rw [if_neg h, if_neg (by omega)]
theorem levTo_get (P : List Int) (k m : Nat) (hm : m < k) (hk : k ≤ P.length) : ((levTo P k).flatMap encI)[m]? = some (.int .i64 ((depL P m : Nat) : Int)) := by
  rw [flatI]
  unfold levTo
  rw [List.map_map, range_get _ _ _ (by omega)]
  show some (Value.int .i64 (if m < k then _ else _)) = _
  rw [if_pos hm]
set_option maxRecDepth 100000 in
set_option maxHeartbeats 1000000 in
theorem levels_any (w : World) (v : Value) (P : List Int) (h : RdL w v 1 encI P) (ht : treeB P = true) (h32 : P.length ≤ 1000) :
    Calls Tryz.prog 67 #[v] w fun e w' => ∃ v', e = .returned v' ∧ w'.ownsRow w.heap.size 3 1 v' (levL P).length ((levL P).flatMap encI) ∧ Below w.heap.size w w' := by
  obtain ⟨i0, hi, hz0, hz1, hz2⟩ := info_parts Tryz.infoIn
  obtain ⟨A, cap, rfl, l1, l2, hr⟩ := h
  have HR := Lib.hid hr
  have HT := Lib.hid ht
  clear hr ht
  go_enter Tryz.func67, Tryz.ntmps67
  go_wp2_with (refine wpList_make_full _ rfl (.tmp 7) (.tmp 7) 22 rfl w.heap.size 3 i0 (.int .i64 0) 1 Tryz.underlying22 hi hz0 hz1 .i64 .i64 P.length P.length P.length rfl rfl rfl rfl ?b2 ?b3 (Nat.le_refl _) ?_)
  case b2 => rw [hz2]; omega
  case b3 => unfold maxLen; omega
  intro w1 hown hg
  have hown1 : w1.ownsRow w.heap.size 3 1 (.slice (some ⟨w.heap.size, 0, none⟩) P.length P.length) P.length ((levTo P 0).flatMap encI) := by
    have e : (madeCells #[Value.int .i64 0] P.length).toList = (levTo P 0).flatMap encI := by
      rw [made_const, flatI]
      unfold levTo
      rw [List.map_map]
      exact List.map_congr_left fun i _ => rfl
    rw [e] at hown; exact hown
  have hb1 : Below w.heap.size w w1 := (Below.refl w.heap.size w).grown hg (Nat.le_refl _) (fun j hj => by cases hj)
  clear hown hg hi hz0 hz1 hz2
  go_wp2
  go_loopw [11] (fun i wr => ∃ k : Nat, i = .int .i64 k ∧ k ≤ P.length ∧ wr.ownsRow w.heap.size 3 1 (.slice (some ⟨w.heap.size, 0, none⟩) P.length P.length) P.length ((levTo P k).flatMap encI) ∧ Below w.heap.size w wr) (fun i _ => P.length - (intOf i).toNat)
  case atStart => exact ⟨0, rfl, by omega, hown1, hb1⟩
  case round =>
    clear hown1 hb1
    obtain ⟨k, rfl, hk, hown, hbel⟩ := hrel
    by_cases hlt : k < P.length
    · obtain ⟨bl, off, rfl, hbl, hc⟩ := HR.out (by omega)
      obtain ⟨p, hp⟩ := getElem?_lt hlt
      have c0 := (hbel.cell (p := ⟨bl, off + k * 1 + 0, none⟩) hbl).trans (hc k p hp 0 _ rfl)
      simp only [Nat.add_zero, Nat.mul_one] at c0
      have hpl := tree_lt HT.out hp
      have hds := depL_step HT.out hp
      have hdb := depL_le P p
      have HP := Lib.hid hp
      clear hc hp
      have f0 := hown.frozenAt k
      have g0 := hown.cellAt k (by omega)
      have hgl := (hown.lt _ rfl).2
      obtain ⟨u, hu⟩ : ∃ u, ((levTo P k).flatMap encI)[k]? = some u := by
        rw [flatI]
        unfold levTo
        rw [List.map_map, range_get _ _ _ (by omega)]; exact ⟨_, rfl⟩
      rw [hu] at g0
      clear hu
      have hne : bl ≠ w.heap.size := by omega
      by_cases h0 : 0 ≤ p
      · rw [if_pos h0] at hds
        obtain ⟨m, rfl⟩ := Int.eq_ofNat_of_zero_le h0
        have g1 := hown.cellAt m (by omega)
        rw [levTo_get P k m (by omega) hk] at g1
        have hst := (hown.stored k (.int .i64 1)).1.stored k (.int .i64 (((depL P m : Nat) : Int) + 1))
        have HN := Lib.hid (levTo_set P k (((depL P m : Nat) : Int) + 1) (by rw [hds]; omega))
        have HB := Lib.hid (And.intro hst hbel)
        clear hst hbel hown hds
        go_wp2
        go_roundw
        case rel => exact ⟨k + 1, by go_num, by omega, by have := HB.out.1.1; rw [List.set_set, HN.out] at this; exact this, (HB.out.2.setCell (Nat.le_refl _) _).setCell (Nat.le_refl _) _⟩
        case measure => simp [intOf]; omega
      · rw [if_neg h0] at hds
        have hst := hown.stored k (.int .i64 1)
        have HN := Lib.hid (levTo_set P k 1 (by rw [hds]; rfl))
        have HB := Lib.hid (And.intro hst hbel)
        clear hst hbel hown hds
        go_wp2
        go_roundw
        case rel => exact ⟨k + 1, by go_num, by omega, by have := HB.out.1.1; rw [HN.out] at this; exact this, HB.out.2.setCell (Nat.le_refl _) _⟩
        case measure => simp [intOf]; omega
    · obtain rfl : k = P.length := by omega
      have HB := Lib.hid (And.intro hown hbel)
      clear hown hbel
      go_wp2
      go_ret
      exact ⟨_, rfl, by rw [← levTo_all, levTo_len]; exact HB.out.1, HB.out.2⟩
end Go.Proofs.YtmlcfmickonfbaaGreat
end
