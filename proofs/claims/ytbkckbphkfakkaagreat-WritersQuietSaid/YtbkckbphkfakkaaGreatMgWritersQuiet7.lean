/- Joined: Qu2, Qw4, Qw5, Qw6. -/
import Derived.Test.YtbkckbphkfakkaaGreatMgWritersQuiet2
import Derived.Test.YtbkckbphkfakkaaGreatMgWritersQuiet6
section
/- Layers 34, 35, 1 (gauge, drain, arena): a new gauge, its words, Enter and Exit; a new drain; the last op. -/
namespace Go.Proofs.YtbkckbphkfakkaaGreat
open Go.RowKit

def gaC (a N : Nat) : Array Value := #[.pointer (some ⟨a, 0, none⟩), .int .i64 1, .int .i64 N]
theorem gaugeNew {w : World} {a g : Nat} {s : Ar} (h : ArIs w a g s) (N : Nat) (h1 : 1 ≤ N) (h2 : N ≤ 32) (hs : s.W = []) (hr : s.room = 4096) :
    Calls Tryz.prog 62 #[.pointer (some ⟨a, 0, none⟩), .int .i64 N] w fun e w' => ∃ gg, e = .returned (.tuple #[.pointer (some ⟨gg, 0, none⟩), .int .i64 0]) ∧ w.heap.size ≤ gg ∧ Blk w' gg 102 (gaC a N) ∧ ArIs w' a g (takeS s (2 * N)) ∧ Turns [a] w w' := by
  have HT0 := takeY h (2 * N) (by rw [hs, hr]; simp; omega)
  rw [hs] at HT0
  have HT := Lib.hid HT0
  have x1 : IntKind.i64.wrap (2 * (N : Int)) = ((2 * N : Nat) : Int) := by rw [IntWalk.i64_in _ (by omega)]; omega
  have t1 : ¬ (N : Int) < 1 := by omega
  have t2 : ¬ 32 < (N : Int) := by omega
  clear h hs hr HT0
  go_enter Tryz.func62, Tryz.ntmps62
  go_wp2_with fail
  refine HT.out.mono ?_
  rintro en w1 ⟨rfl, k1, t1'⟩
  have H1 := Lib.hid (And.intro k1 t1')
  clear k1 t1' HT
  go_wp2
  go_ret2
  have s1 := H1.out.2.size
  refine ⟨w1.heap.size, by simp, s1, ?_, H1.out.1.turns (S := []) ((Turns.refl _ _).alloc _) (by simp) (by simp), H1.out.2.alloc _⟩
  have := Blk.new w1 102 (gaC a N)
  simpa [gaC] using this
section
variable {w : World} {gg a g N : Nat} {s : Ar}
theorem ganodes (h : Blk w gg 102 (gaC a N)) : Calls Tryz.prog 69 #[.pointer (some ⟨gg, 0, none⟩)] w fun e w' => e = .returned (.int .i64 N) ∧ w = w' := by
  have c2 : w.cell? ⟨gg, 2, none⟩ = some (.int .i64 N) := h.cell 2
  clear h
  go_enter Tryz.func69, Tryz.ntmps69
  go_wp2
  go_ret
  exact ⟨rfl, rfl⟩
theorem gaWord (h : Blk w gg 102 (gaC a N)) (nd : Nat) (hn : nd < N) (hN : N ≤ 32) : Calls Tryz.prog 40 #[.pointer (some ⟨gg, 0, none⟩), .int .i64 nd] w fun e w' => e = .returned (.int .i64 (2 * (nd : Int) + 1)) ∧ w = w' := by
  have c1 : w.cell? ⟨gg, 1, none⟩ = some (.int .i64 1) := h.cell 1
  have HN := Lib.hid (ganodes h)
  have t1 : ¬ (nd : Int) < 0 := by omega
  have t2 : ¬ (N : Int) ≤ (nd : Int) := by omega
  have x1 : IntKind.i64.wrap (2 * (nd : Int)) = 2 * (nd : Int) := IntWalk.i64_in _ (by omega)
  have x2 : IntKind.i64.wrap (1 + 2 * (nd : Int)) = 2 * (nd : Int) + 1 := by rw [IntWalk.i64_in _ (by omega)]; omega
  clear h
  go_enter Tryz.func40, Tryz.ntmps40
  go_wp2_with fail
  refine HN.out.mono ?_
  rintro en w' ⟨rfl, rfl⟩
  go_wp2
  go_ret
  exact ⟨rfl, rfl⟩
theorem gaAdd (h : Blk w gg 102 (gaC a N)) (hA : ArIs w a g s) (nd : Nat) (hn : nd < N) (hN : N ≤ 32) (k : Nat) (hk : k ≤ 1) (ho : s.ops + 1 ≤ 1000000000000) : Calls Tryz.prog 103 #[.pointer (some ⟨gg, 0, none⟩), .int .i64 nd, .int .i64 k] w fun e w' => e = .returned (.tuple #[]) ∧ ArIs w' a g (addA s (2 * (nd : Int) + 1 + k) 1) ∧ Turns [a, g] w w' := by
  have c0 : w.cell? ⟨gg, 0, none⟩ = some (.pointer (some ⟨a, 0, none⟩)) := h.cell 0
  have HW := Lib.hid (gaWord h nd hn hN)
  have t1 : (0 : Int) < 2 * (nd : Int) + 1 := by omega
  have x1 : IntKind.i64.wrap (2 * (nd : Int) + 1 + (k : Int)) = 2 * (nd : Int) + 1 + (k : Int) := IntWalk.i64_in _ (by omega)
  obtain ⟨o, hoo⟩ : ∃ o : Int, o = 2 * (nd : Int) + 1 := ⟨_, rfl⟩
  rw [← hoo] at HW t1 x1 ⊢
  have HA := Lib.hid (add_any hA (o + (k : Int)) 1 ho)
  clear h hA hoo
  go_enter Tryz.func103, Tryz.ntmps103
  go_wp2_with fail
  refine HW.out.mono ?_
  rintro en w' ⟨rfl, rfl⟩
  go_wp2_with fail
  refine HA.out.mono ?_
  rintro en w1 ⟨rfl, k1, t1'⟩
  have H1 := Lib.hid (And.intro k1 t1')
  clear k1 t1' HA
  go_wp2
  all_goals
    go_end0
    exact ⟨rfl, H1.out.1, H1.out.2⟩
theorem gaEnter (h : Blk w gg 102 (gaC a N)) (hA : ArIs w a g s) (nd : Nat) (hn : nd < N) (hN : N ≤ 32) (ho : s.ops + 1 ≤ 1000000000000) : Calls Tryz.prog 80 #[.pointer (some ⟨gg, 0, none⟩), .int .i64 nd] w fun e w' => e = .returned (.tuple #[]) ∧ ArIs w' a g (addA s (2 * (nd : Int) + 1) 1) ∧ Turns [a, g] w w' := by
  have HA0 := gaAdd h hA nd hn hN 0 (by omega) ho
  rw [show 2 * (nd : Int) + 1 + ((0 : Nat) : Int) = 2 * (nd : Int) + 1 by omega] at HA0
  have HA := Lib.hid HA0
  clear h hA HA0
  go_enter Tryz.func80, Tryz.ntmps80
  go_wp2_with fail
  refine HA.out.mono ?_
  rintro en w1 ⟨rfl, k1, t1'⟩
  have H1 := Lib.hid (And.intro k1 t1')
  clear k1 t1' HA
  go_wp2
  go_end0
  exact ⟨rfl, H1.out.1, H1.out.2⟩
theorem gaExit (h : Blk w gg 102 (gaC a N)) (hA : ArIs w a g s) (nd : Nat) (hn : nd < N) (hN : N ≤ 32) (ho : s.ops + 1 ≤ 1000000000000) : Calls Tryz.prog 81 #[.pointer (some ⟨gg, 0, none⟩), .int .i64 nd] w fun e w' => e = .returned (.tuple #[]) ∧ ArIs w' a g (addA s (2 * (nd : Int) + 1 + 1) 1) ∧ Turns [a, g] w w' := by
  have HA0 := gaAdd h hA nd hn hN 1 (by omega) ho
  rw [show 2 * (nd : Int) + 1 + ((1 : Nat) : Int) = 2 * (nd : Int) + 1 + 1 by omega] at HA0
  have HA := Lib.hid HA0
  clear h hA HA0
  go_enter Tryz.func81, Tryz.ntmps81
  go_wp2_with fail
  refine HA.out.mono ?_
  rintro en w1 ⟨rfl, k1, t1'⟩
  have H1 := Lib.hid (And.intro k1 t1')
  clear k1 t1' HA
  go_wp2
  go_end0
  exact ⟨rfl, H1.out.1, H1.out.2⟩
theorem drainNew (w : World) (gg : Nat) : Calls Tryz.prog 66 #[.pointer (some ⟨gg, 0, none⟩)] w fun e w' => ∃ d, e = .returned (.pointer (some ⟨d, 0, none⟩)) ∧ Below w.heap.size w w' := by
  go_enter Tryz.func66, Tryz.ntmps66
  go_wp2
  go_ret
  exact ⟨_, rfl, (Below.refl _ _).alloc (Nat.le_refl _) _⟩
theorem lastA (h : ArIs w a g s) : Calls Tryz.prog 12 #[.pointer (some ⟨a, 0, none⟩)] w fun e w' => e = .returned (.agg #[.int .i64 s.k, .int .i64 s.at_, .bool s.wr]) ∧ Below w.heap.size w w' := by
  have c3 := h.c3
  have c4 := h.c4
  have c5 := h.c5
  have hal := h.blk.lt
  clear h
  go_enter Tryz.func12, Tryz.ntmps12
  go_wp2
  exact bodyPost_ret (results_cell_row (by rfl) _ _ w.heap.size 39 _ (0, 0) _ (by rfl) (heap_alloc_new w _) Tryz.underlying39 rfl (by kernel_rfl)) rfl ⟨rfl, (Below.refl _ _).alloc (Nat.le_refl _) _⟩
end
end Go.Proofs.YtbkckbphkfakkaaGreat
end
section
/- Layer 38 (writers): the lock in memory; a new one. (written by wip/gen_qu.py) -/
namespace Go.Proofs.YtbkckbphkfakkaaGreat
open Go.RowKit

/-- where the lock lies -/
structure QWx where
  l : Nat
  a : Nat
  g : Nat
  q : Nat
  b : Nat
  gg : Nat
  vd : Value
  vk : Value
structure QWIs (B : Nat → Prop) (w : World) (x : QWx) (P T : List Int) (s : Ar) (S : List Sp) : Prop where
  lk : Blk w x.l 88 #[.pointer (some ⟨x.a, 0, none⟩), .pointer (some ⟨x.b, 0, none⟩), .pointer (some ⟨x.gg, 0, none⟩), x.vd, .int .i64 (2 * ((leavesL P).length : Int) + 1), x.vk, .slice (some ⟨x.q, 0, none⟩) T.length T.length]
  ga : Blk w x.gg 102 (gaC x.a (leavesL P).length)
  tb : TabQ B w x.b P T
  ar : ArIs w x.a x.g s
  wq : WQ (leavesL P).length s
  sp : SpIs w x.q S
  sl : S.length = T.length
  ok : ∀ j, j < T.length → RdOk true (sv S j)
  nl : x.l ∉ [x.a, x.g, x.q]
  ng : x.gg ∉ [x.a, x.g, x.q]
  nb : ∀ i ∈ [x.a, x.g, x.q], ¬ B i
  qa : x.q ≠ x.a
  qg : x.q ≠ x.g
section
variable {B : Nat → Prop} {w w' : World} {x : QWx} {P T : List Int} {s s' : Ar} {S S' : List Sp}
theorem QWIs.below (h : QWIs B w x P T s S) (k : Below w.heap.size w w') : QWIs B w' x P T s S :=
  have t : Turns [] w w' := Turns.of_below k
  ⟨t.blk h.lk (by simp), t.blk h.ga (by simp), h.tb.turns t (by simp), h.ar.turns t (by simp) (by simp), h.wq, h.sp.turns t (by simp), h.sl, h.ok, h.nl, h.ng, h.nb, h.qa, h.qg⟩
theorem QWIs.arT (h : QWIs B w x P T s S) (hA : ArIs w' x.a x.g s') (t : Turns [x.a, x.g] w w') (hq : WQ (leavesL P).length s') : QWIs B w' x P T s' S :=
  have m : ∀ i ∈ [x.a, x.g], i ∈ [x.a, x.g, x.q] := by simp; 
  ⟨t.blk h.lk (fun e => h.nl (m _ e)), t.blk h.ga (fun e => h.ng (m _ e)), h.tb.turns t (fun i hi => h.nb i (m _ hi)), hA, hq, h.sp.turns t (by have := h.qa; have := h.qg; simp; omega), h.sl, h.ok, h.nl, h.ng, h.nb, h.qa, h.qg⟩
theorem QWIs.spT (h : QWIs B w x P T s S) {j : Nat} {p : Sp} (hs : SpIs w' x.q (S.set j p)) (t : Turns [x.q] w w') (hp : RdOk true p) : QWIs B w' x P T s (S.set j p) :=
  have m : ∀ i ∈ [x.q], i ∈ [x.a, x.g, x.q] := by simp
  ⟨t.blk h.lk (fun e => h.nl (m _ e)), t.blk h.ga (fun e => h.ng (m _ e)), h.tb.turns t (fun i hi => h.nb i (m _ hi)), h.ar.turns t (by have := h.qa; simp; omega) (by have := h.qg; simp; omega), h.wq, hs, by rw [List.length_set]; exact h.sl, fun i hi => by
    rw [sv_set]
    split
    · exact hp
    · exact h.ok i hi, h.nl, h.ng, h.nb, h.qa, h.qg⟩
end
set_option maxRecDepth 100000 in
set_option maxHeartbeats 8000000 in
theorem newWQ {w : World} {a g : Nat} {s : Ar} (h : ArIs w a g s) (hs : s.W = []) (hag : a ≠ g) (vP vT : Value) (P T : List Int) (hP : RdL w vP 1 encI P) (hT : RdL w vT 1 encI T) (hPa : ∀ i, vP.ownBlock = some i → i ≠ a ∧ i < w.heap.size) (hTa : ∀ i, vT.ownBlock = some i → i ≠ a ∧ i < w.heap.size) (hc : chkT P T = 0) (G L : Int) (hG : 1 ≤ G ∧ G ≤ 5) (hL : 1 ≤ L ∧ L ≤ 5) (par : Nat) (hp : 1 ≤ par ∧ par ≤ 4) (bud : Int) (hb : 0 ≤ bud ∧ bud ≤ 3) (hr : s.room = 4096) (ho : s.ops ≤ 1000) :
    Calls Tryz.prog 53 #[.pointer (some ⟨a, 0, none⟩), .agg #[vP, vT], .agg #[.int .i64 G, .int .i64 L, .int .i64 par, .int .i64 bud]] w fun e w' => ∃ (B : Nat → Prop) (x : QWx) (s' : Ar), x.a = a ∧ x.g = g ∧ e = .returned (.tuple #[.pointer (some ⟨x.l, 0, none⟩), .int .i64 0]) ∧ QWIs B w' x P T s' (List.replicate T.length Sp.zero) ∧ s'.ops ≤ 10000 ∧ w.heap.size ≤ x.q ∧ Turns [a, g] w w' := by
  obtain ⟨i0, hi, hz0, hz1, hz2⟩ := info_parts Tryz.infoSpF
  have hml := many_lt (chk_ok hc).1
  have ha0 := h.blk.lt
  have hg0 := h.wds.lt
  obtain ⟨hT1, hT32⟩ : 1 ≤ T.length ∧ T.length ≤ 32 := ⟨hml.2.2.1, hml.2.2.2⟩
  have hN32 : (leavesL P).length ≤ 32 := by
    have := leavesTo_len P P.length
    show (leavesTo P P.length).length ≤ 32; omega
  have hN1 : 1 ≤ (leavesL P).length := by
    obtain ⟨x, hx⟩ := getElem?_lt (show 0 < T.length by omega)
    exact List.length_pos_of_mem (thr_mem (chk_ok hc).2.2.2 hx)
  have HPD := Lib.hid (And.intro hG (And.intro hL (And.intro hp hb)))
  have H := Lib.hid (And.intro h (And.intro ha0 (And.intro hg0 hag)))
  have HRD := Lib.hid (And.intro (And.intro hP hPa) (And.intro hT hTa))
  have HN := Lib.hid (new_yesL ((w.alloc (.cells #[vP, vT] 24)).alloc (.cells #[.int .i64 G, .int .i64 L, .int .i64 par, .int .i64 bud] 64)) vP vT P T ((hP.alloc _).alloc _) ((hT.alloc _).alloc _) hc)
  have HCK := Lib.hid hc
  have HS := Lib.hid (And.intro hs (And.intro hr ho))
  have hlo : ((w.alloc (.cells #[vP, vT] 24)).alloc (.cells #[.int .i64 G, .int .i64 L, .int .i64 par, .int .i64 bud] 64)).heap.size = w.heap.size + 2 := by simp
  have B0 := Lib.hid (((Below.refl w.heap.size w).alloc (Nat.le_refl _) (.cells #[vP, vT] 24)).alloc (by simp) (.cells #[.int .i64 G, .int .i64 L, .int .i64 par, .int .i64 bud] 64))
  have hbx := Blk.new (w.alloc (.cells #[vP, vT] 24)) 64 #[.int .i64 G, .int .i64 L, .int .i64 par, .int .i64 bud]
  rw [show (w.alloc (.cells #[vP, vT] 24)).heap.size = w.heap.size + 1 by simp] at hbx
  have hbt := (Blk.new w 24 #[vP, vT]).alloc (.cells #[.int .i64 G, .int .i64 L, .int .i64 par, .int .i64 bud] 64)
  have BX := Lib.hid (And.intro hbx hbt)
  clear h hP hT hPa hTa hs hr ho hml ha0 hg0 hc hbx hbt hG hL hp hb hag
  go_enter Tryz.func53, Tryz.ntmps53
  go_wp2_with fail
  refine HN.out.mono ?_
  rintro en w1 ⟨b, rfl, hb, t1, b1⟩
  rw [hlo] at hb t1 b1
  have tn : Turns [] ((w.alloc (.cells #[vP, vT] 24)).alloc (.cells #[.int .i64 G, .int .i64 L, .int .i64 par, .int .i64 bud] 64)) w1 := ⟨b1.os, b1.tape, b1.output, b1.size, fun i hi _ => b1.block i (by omega)⟩
  have K1 := Lib.hid (And.intro (t1.q HCK.out) (And.intro (B0.out.trans (b1.mono (by omega))) (And.intro (tn.blk BX.out.1 (by simp)) (And.intro (tn.blk BX.out.2 (by simp)) hb))))
  clear t1 b1 hb HN BX B0 tn
  go_wp2_with fail
  refine (threads_any _ _ _ _ (K1.out.1.tab HCK.out)).mono ?_
  rintro en w1' ⟨rfl, rfl⟩
  go_wp2_with (refine wpList_make_full _ rfl _ _ 74 rfl w1.heap.size 44 i0 (.agg #[.int .i64 0, .int .i64 0, .int .i64 0, .int .i64 0]) 4 Tryz.underlying74 hi hz0 hz1 .i64 .i64 T.length T.length T.length rfl rfl rfl rfl ?b2 ?b3 (Nat.le_refl _) ?_)
  case b2 => rw [hz2]; omega
  case b3 => unfold maxLen; omega
  intro w4 hown hg
  have hb : SpIs w4 w1.heap.size (List.replicate T.length Sp.zero) := by
    unfold SpIs
    rw [qflat_zero]
    have := own_blk hown
    have e : (madeCells #[Value.int .i64 0, .int .i64 0, .int .i64 0, .int .i64 0] (T.length * 4)).toList = List.replicate (T.length * 4) (.int .i64 0) := qmade_const4 _ _
    rw [e] at this
    exact this
  have t4 : Turns [] w1 w4 := Turns.of_below ((Below.refl w1.heap.size w1).grown hg (Nat.le_refl _) (fun j hj => by cases hj))
  have hs4 := hb.lt
  have H4 := Lib.hid (And.intro hb (And.intro t4 hs4))
  clear hown hg hb t4 hs4
  go_upto_region 5 with fail
  obtain ⟨q, hq⟩ : ∃ x, x = w1.heap.size := ⟨_, rfl⟩
  rw [← hq] at H4 ⊢
  have HQ := Lib.hid hq
  clear hq
  obtain ⟨l, hl⟩ : ∃ x, x = w4.heap.size := ⟨_, rfl⟩
  obtain ⟨w5, hw5⟩ : ∃ x, x = w4.alloc (.cells #[.pointer (some ⟨a, 0, none⟩), .pointer (some ⟨b, 0, none⟩), .pointer none, .pointer none, .int .i64 0, .pointer none, .slice (some ⟨q, 0, none⟩) T.length T.length] 88) := ⟨_, rfl⟩
  rw [← hw5, ← hl]
  have HB5 := Lib.hid (show Blk w5 l 88 #[.pointer (some ⟨a, 0, none⟩), .pointer (some ⟨b, 0, none⟩), .pointer none, .pointer none, .int .i64 0, .pointer none, .slice (some ⟨q, 0, none⟩) T.length T.length] from by rw [hw5, hl]; exact Blk.new _ _ _)
  have H5 := Lib.hid (show Turns [] w1 w5 from by rw [hw5]; exact H4.out.2.1.alloc _)
  have HSQ := Lib.hid (show SpIs w5 q (List.replicate T.length Sp.zero) from by rw [hw5]; exact H4.out.1.turns (T := []) ((Turns.refl _ _).alloc _) (by simp))
  have HO := Lib.hid (show a < w.heap.size ∧ g < w.heap.size ∧ a ≠ g ∧ w.heap.size + 2 ≤ b ∧ b < w1.heap.size ∧ w1.heap.size = q ∧ q < l ∧ w5.heap.size = l + 1 from by
    have e1 : b < w1.heap.size := K1.out.1.low.2
    have e2 := K1.out.2.2.2.2
    have e3 := H4.out.2.2
    have e4 := H.out
    have e5 := HQ.out
    rw [hw5, hl]
    simp
    omega)
  have HPC : Hid (∀ W, Turns [l, b, a] w5 W → (W.cell? ⟨w.heap.size + 1, 0, none⟩ = some (.int .i64 G) ∧ W.cell? ⟨w.heap.size + 1, 1, none⟩ = some (.int .i64 L) ∧ W.cell? ⟨w.heap.size + 1, 2, none⟩ = some (.int .i64 par) ∧ W.cell? ⟨w.heap.size + 1, 3, none⟩ = some (.int .i64 bud)) ∧ (W.cell? ⟨w.heap.size, 0, none⟩ = some vP ∧ W.cell? ⟨w.heap.size, 1, none⟩ = some vT) ∧ RdL W vP 1 encI P ∧ RdL W vT 1 encI T) := Lib.hid fun W hW => by
    have o := HO.out
    have t : Turns [l, b, a] w1 W := (H5.out.mono (by simp)).trans hW
    have n : w.heap.size + 1 ∉ [l, b, a] := by simp; omega
    have n2 : w.heap.size ∉ [l, b, a] := by simp; omega
    have b1 := t.blk K1.out.2.2.1 n
    have b2 := t.blk K1.out.2.2.2.1 n2
    refine ⟨⟨b1.cell 0, b1.cell 1, b1.cell 2, b1.cell 3⟩, ⟨b2.cell 0, b2.cell 1⟩, ?_, ?_⟩
    · exact (HRD.out.1.1.below K1.out.2.1 (Nat.le_refl _)).turns t fun i hi hm => by
        have := HRD.out.1.2 i hi
        simp at hm
        omega
    · exact (HRD.out.2.1.below K1.out.2.1 (Nat.le_refl _)).turns t fun i hi hm => by
        have := HRD.out.2.2 i hi
        simp at hm
        omega
  obtain ⟨N, hN⟩ : ∃ N, N = (leavesL P).length := ⟨_, rfl⟩
  rw [← hN] at hN32 hN1
  have HNo0 := nodesFstQ (fun i => w.heap.size + 2 ≤ i ∧ i < w1.heap.size) w5 b P T HCK.out (K1.out.1.turns H5.out (by simp))
  rw [← hN] at HNo0
  have HNo := Lib.hid HNo0
  have HNN := Lib.hid hN
  have HA5 := Lib.hid ((H.out.1.turns (Turns.of_below (S := []) K1.out.2.1) (by simp) (by simp)).turns H5.out (by simp) (by simp))
  clear hw5 hl hN HNo0 H4
  go_wp2_with fail
  refine HNo.out.mono ?_
  rintro en w6 ⟨rfl, t6, n6⟩
  have Q6 := Lib.hid (And.intro t6.lt n6)
  have HA6 := Lib.hid (HA5.out.turns n6 (by have := HO.out; simp; omega) (by have := HO.out; simp; omega))
  clear t6 n6
  go_wp2_with fail
  refine (gaugeNew HA6.out N hN1 hN32 HS.out.1 HS.out.2.1).mono ?_
  rintro en w7 ⟨gg, rfl, hgg, hgb, hga, t7⟩
  have hnl : l ∉ [a] := by have := HO.out; simp; omega
  have bl7 : Blk w7 l 88 _ := t7.blk (Q6.out.2.blk HB5.out (by have := HO.out; simp; omega)) hnl
  have c72 : w7.cell? ⟨l, 2, none⟩ = some (.pointer none) := bl7.cell 2
  have z72 := bl7.free 2
  have H7 := Lib.hid (And.intro hgg (And.intro hgb (And.intro hga t7)))
  have HB7 := Lib.hid bl7
  clear hgg hgb hga t7 bl7
  go_upto_region 6 with fail
  obtain ⟨w8, hw8⟩ : ∃ W, W = w7.setCell ⟨l, 2, none⟩ (.pointer (some ⟨gg, 0, none⟩)) := ⟨_, rfl⟩
  rw [← hw8]
  have hl7 : l < w7.heap.size := HB7.out.lt
  have hgg6 : l < gg := by
    have e1 := Q6.out.2.size
    have e2 := H7.out.1
    have e3 := HO.out
    omega
  have t78 : Turns [l] w7 w8 := by rw [hw8]; exact (Turns.refl _ _).setCell (.inl (by simp)) _
  have HB8 := Lib.hid (show Blk w8 l 88 #[.pointer (some ⟨a, 0, none⟩), .pointer (some ⟨b, 0, none⟩), .pointer (some ⟨gg, 0, none⟩), .pointer none, .int .i64 0, .pointer none, .slice (some ⟨q, 0, none⟩) T.length T.length] from by rw [hw8]; exact HB7.out.set_ 2 _)
  have HA8 := Lib.hid (H7.out.2.2.1.turns t78 (by have := HO.out; simp; omega) (by have := HO.out; simp; omega))
  have HG8 := Lib.hid (t78.blk H7.out.2.1 (by simp; omega))
  have HT8 := Lib.hid (show Turns [l, b, a] w5 w8 from ((Q6.out.2.mono (by simp)).trans (H7.out.2.2.2.mono (by simp))).trans (t78.mono (by simp)))
  have hlen8 : (takeS s (2 * N)).W.length = 2 * N := by unfold takeS; rw [HS.out.1]; simp
  have hl8 : l < w8.heap.size := HB8.out.lt
  have H78 := Lib.hid t78
  clear hw8 c72 z72 t78
  have HTk0 := takeY HA8.out 1 (by rw [hlen8]; show 2 * N + 1 ≤ s.room; rw [HS.out.2.1]; omega)
  rw [hlen8] at HTk0
  have HTk := Lib.hid HTk0
  clear HTk0
  go_wp2_with fail
  refine HTk.out.mono ?_
  rintro en w9 ⟨rfl, k9, t9⟩
  have bl9 : Blk w9 l 88 _ := t9.blk HB8.out hnl
  have c94 : w9.cell? ⟨l, 4, none⟩ = some (.int .i64 0) := bl9.cell 4
  have z94 := bl9.free 4
  have H9 := Lib.hid (And.intro k9 (And.intro t9 bl9))
  clear k9 t9 bl9
  go_upto_region 9 with fail
  obtain ⟨fl, hfl⟩ : ∃ f : Int, f = 2 * (N : Int) + 1 := ⟨_, rfl⟩
  have hfl2 : ((2 * N : Nat) : Int) + 1 = fl := by omega
  obtain ⟨w10, hw10⟩ : ∃ W, W = w9.setCell ⟨l, 4, none⟩ (.int .i64 fl) := ⟨_, rfl⟩
  rw [← hfl, ← hw10]
  have t910 : Turns [l] w9 w10 := by rw [hw10]; exact (Turns.refl _ _).setCell (.inl (by simp)) _
  have HB10 := Lib.hid (show Blk w10 l 88 #[.pointer (some ⟨a, 0, none⟩), .pointer (some ⟨b, 0, none⟩), .pointer (some ⟨gg, 0, none⟩), .pointer none, .int .i64 fl, .pointer none, .slice (some ⟨q, 0, none⟩) T.length T.length] from by rw [hw10]; exact H9.out.2.2.set_ 4 _)
  have HT10 := Lib.hid (show Turns [l, a] w8 w10 from (H9.out.2.1.mono (by simp)).trans (t910.mono (by simp)))
  have HA10 := Lib.hid (H9.out.1.turns t910 (by have := HO.out; simp; omega) (by have := HO.out; simp; omega))
  have HPC10 := Lib.hid (HPC.out w10 (HT8.out.trans (HT10.out.mono (by simp))))
  have HCo := Lib.hid (cohortNew HA10.out vP vT P T HPC10.out.2.2.1 HPC10.out.2.2.2 HCK.out G L HPD.out.1 HPD.out.2.1 par HPD.out.2.2.1 bud HPD.out.2.2.2 (by
    have e : (takeS (takeS s (2 * N)) 1).W.length = 2 * N + 1 := by
      show ((takeS s (2 * N)).W ++ _).length = _
      rw [List.length_append, hlen8]; simp
    show _ ≤ s.room
    rw [e, HS.out.2.1]; omega) (by show s.ops + 3000 ≤ _; have := HS.out.2.2; omega))
  obtain ⟨⟨p0, p1, p2, p3⟩, ⟨y0, y1⟩, _⟩ := HPC10.out
  have HF := Lib.hid hfl
  clear hw10 c94 z94 t910 hfl hfl2 HTk
  go_wp2_with fail
  refine HCo.out.mono ?_
  rintro en w11 ⟨ck, s11, rfl, _, _, k11, m11, t11⟩
  have hnl2 : l ∉ [a, g] := by have := HO.out; simp; omega
  have bl11 : Blk w11 l 88 _ := t11.blk HB10.out hnl2
  have c115 : w11.cell? ⟨l, 5, none⟩ = some (.pointer none) := bl11.cell 5
  have z115 := bl11.free 5
  have H11 := Lib.hid (And.intro k11 (And.intro m11 (And.intro t11 bl11)))
  clear k11 m11 t11 bl11 p0 p1 p2 p3 y0 y1 HCo
  go_upto_region 12 with fail
  obtain ⟨w12, hw12⟩ : ∃ W, W = w11.setCell ⟨l, 5, none⟩ (.pointer (some ⟨ck, 0, none⟩)) := ⟨_, rfl⟩
  rw [← hw12]
  have t1112 : Turns [l] w11 w12 := by rw [hw12]; exact (Turns.refl _ _).setCell (.inl (by simp)) _
  have HB12 := Lib.hid (show Blk w12 l 88 #[.pointer (some ⟨a, 0, none⟩), .pointer (some ⟨b, 0, none⟩), .pointer (some ⟨gg, 0, none⟩), .pointer none, .int .i64 fl, .pointer (some ⟨ck, 0, none⟩), .slice (some ⟨q, 0, none⟩) T.length T.length] from by rw [hw12]; exact H11.out.2.2.2.set_ 5 _)
  have HT12 := Lib.hid (show Turns [l, a, g] w8 w12 from ((HT10.out.mono (by simp)).trans (H11.out.2.2.1.mono (by simp))).trans (t1112.mono (by simp)))
  have HA12 := Lib.hid (H11.out.1.turns t1112 (by have := HO.out; simp; omega) (by have := HO.out; simp; omega))
  have g2 : w12.cell? ⟨l, 2, none⟩ = some (.pointer (some ⟨gg, 0, none⟩)) := HB12.out.cell 2
  have hl12 : l < w12.heap.size := HB12.out.lt
  clear hw12 c115 z115 t1112
  go_wp2_with fail
  refine (drainNew w12 gg).mono ?_
  rintro en w13 ⟨dd, rfl, b13⟩
  have bl13 : Blk w13 l 88 _ := HB12.out.below b13 hl12
  have c133 : w13.cell? ⟨l, 3, none⟩ = some (.pointer none) := bl13.cell 3
  have z133 := bl13.free 3
  have H13 := Lib.hid (And.intro b13 bl13)
  clear b13 bl13 g2
  go_wp2
  go_ret2
  have o := HO.out
  obtain ⟨w14, hw14⟩ : ∃ W, W = w13.setCell ⟨l, 3, none⟩ (.pointer (some ⟨dd, 0, none⟩)) := ⟨_, rfl⟩
  rw [← hw14]
  have t1214 : Turns [l] w12 w14 := by rw [hw14]; exact (Turns.of_below H13.out.1).trans ((Turns.refl _ _).setCell (.inl (by simp)) _)
  have HB14 : Blk w14 l 88 #[.pointer (some ⟨a, 0, none⟩), .pointer (some ⟨b, 0, none⟩), .pointer (some ⟨gg, 0, none⟩), .pointer (some ⟨dd, 0, none⟩), .int .i64 fl, .pointer (some ⟨ck, 0, none⟩), .slice (some ⟨q, 0, none⟩) T.length T.length] := by rw [hw14]; exact H13.out.2.set_ 3 _
  have t814 : Turns [l, a, g] w8 w14 := HT12.out.trans (t1214.mono (by simp))
  have t614 : Turns [l, a, g] w6 w14 := ((H7.out.2.2.2.mono (by simp)).trans (show Turns [l, a, g] w7 w8 from by
    refine Turns.mono ?_ (S := [l]) (by simp)
    exact H78.out)).trans t814
  obtain ⟨X, hX1, hX2⟩ := H11.out.2.1.W
  have hWW : (takeS (takeS s (2 * N)) 1).W = List.replicate (2 * N + 1) 0 := by
    show (s.W ++ List.replicate (2 * N) 0) ++ List.replicate 1 0 = _
    rw [HS.out.1, List.nil_append, List.replicate_append_replicate]
  rw [hWW] at hX1
  refine ⟨fun i => ((w.heap.size + 2 ≤ i ∧ i < w1.heap.size) ∨ w5.heap.size ≤ i) ∧ i < w6.heap.size, ⟨l, a, g, q, b, gg, .pointer (some ⟨dd, 0, none⟩), .pointer (some ⟨ck, 0, none⟩)⟩, s11, rfl, rfl, rfl, ⟨?_, ?_, ?_, ?_, ⟨?_, ?_⟩, ?_, by simp, fun j _ => ?_, ?_, ?_, ?_, ?_, ?_⟩, ?_, ?_, ?_⟩
  · rw [← HNN.out, ← HF.out]; exact HB14
  · rw [← HNN.out]; exact t814.blk HG8.out (by simp; omega)
  · exact Q6.out.1.turns t614 fun i hi hB => by simp at hi; omega
  · exact HA12.out.turns t1214 (by simp; omega) (by simp; omega)
  · rw [← HNN.out, hX1]; simp
  · rw [← HNN.out]
    unfold ldW
    rw [hX1]
    split
    · rw [List.getD_eq_getElem?_getD, List.getElem?_append_left (by simp; omega), List.getElem?_replicate]
      split <;> rfl
    · rfl
  · exact (HSQ.out.turns (HT8.out) (by simp; omega)).turns t814 (by simp; omega)
  · have e : sv (List.replicate T.length Sp.zero) j = Sp.zero := by
      unfold sv; rw [List.getD_eq_getElem?_getD, List.getElem?_replicate]; split <;> rfl
    rw [e]
    exact ⟨.inl rfl, fun h => absurd rfl h⟩
  · show l ∉ [a, g, q]; simp; omega
  · show gg ∉ [a, g, q]; simp; omega
  · show ∀ i ∈ [a, g, q], _
    intro i hi hB
    simp at hi
    omega
  · show q ≠ a; omega
  · show q ≠ g; omega
  · have h1 := H11.out.2.1.ops
    have h2 : (takeS (takeS s (2 * N)) 1).ops = s.ops := rfl
    have h3 := HS.out.2.2
    omega
  · show w.heap.size ≤ q; omega
  · have t05 : Turns [a, g, l, b] w w5 := (Turns.of_below (S := [a, g, l, b]) K1.out.2.1).trans (H5.out.mono (by simp))
    have t014 : Turns [a, g, l, b] w w14 := (t05.trans (HT8.out.mono (by intro i hi; simp at hi ⊢; omega))).trans (t814.mono (by intro i hi; simp at hi ⊢; omega))
    exact t014.fresh fun i hi => by simp at hi ⊢; omega
end Go.Proofs.YtbkckbphkfakkaaGreat
end
section
/- Layer 38 (writers): Threads, has, Spot, Own, Ask, Leave. (written by wip/gen_qu.py) -/
namespace Go.Proofs.YtbkckbphkfakkaaGreat
open Go.RowKit

section
variable {B : Nat → Prop} {w w' : World} {x : QWx} {P T : List Int} {s s' : Ar} {S S' : List Sp}
theorem QWIs.n32 (h : QWIs B w x P T s S) : T.length ≤ 32 ∧ (leavesL P).length ≤ 32 := by
  have h1 := many_lt (chk_ok h.tb.ok).1
  have := leavesTo_len P P.length
  exact ⟨h1.2.2.2, by show (leavesTo P P.length).length ≤ 32; omega⟩
theorem QWIs.put (h : QWIs B w x P T s S) {n : Nat} (hn : n < T.length) {j : Nat} {u : Value} {p' : Sp} (hj : j < 4) (he : (encP4 (sv S n)).set j u = encP4 p') (hp : RdOk true p') : QWIs B (w.setCell ⟨x.q, n * 4 + j, none⟩ u) x P T s (S.set n p') := by
  have hs : S[n]? = some (sv S n) := by
    have hl : n < S.length := by rw [h.sl]; exact hn
    unfold sv
    rw [List.getD_eq_getElem?_getD, List.getElem?_eq_getElem hl]; rfl
  exact h.spT (h.sp.put hs hj he) ((Turns.refl _ w).setCell (.inl (by simp)) _) hp
theorem threadsWQ (h : QWIs B w x P T s S) : Calls Tryz.prog 56 #[.pointer (some ⟨x.l, 0, none⟩)] w fun e w' => e = .returned (.int .i64 T.length) ∧ w = w' := by
  have c6 : w.cell? ⟨x.l, 6, none⟩ = some (.slice (some ⟨x.q, 0, none⟩) T.length T.length) := h.lk.cell 6
  clear h
  go_enter Tryz.func56, Tryz.ntmps56
  go_wp2
  go_ret
  exact ⟨rfl, rfl⟩
theorem hasWQ (h : QWIs B w x P T s S) (i : Int) (r : Bool) (hr : r = decide (okI S i)) : Calls Tryz.prog 57 #[.pointer (some ⟨x.l, 0, none⟩), .int .i64 i] w fun e w' => e = .returned (.bool r) ∧ w = w' := by
  have HT := Lib.hid (threadsWQ h)
  have hsl := h.sl
  clear h
  by_cases h0 : 0 ≤ i
  · by_cases h1 : i < T.length
    · have e : r = true := by rw [hr]; exact decide_eq_true (show 0 ≤ i ∧ i < S.length from ⟨h0, by rw [hsl]; exact h1⟩)
      subst e
      clear hr
      go_enter Tryz.func57, Tryz.ntmps57
      go_wp2_with fail
      refine HT.out.mono ?_
      rintro en w1 ⟨rfl, rfl⟩
      go_wp2
      go_ret
      exact ⟨rfl, rfl⟩
    · have e : r = false := by rw [hr]; exact decide_eq_false (fun k => h1 (by have := k.2; rw [hsl] at this; exact this))
      subst e
      clear hr
      go_enter Tryz.func57, Tryz.ntmps57
      go_wp2_with fail
      refine HT.out.mono ?_
      rintro en w1 ⟨rfl, rfl⟩
      go_wp2
      go_ret
      exact ⟨congrArg (fun b => Ending.returned (Value.bool b)) (decide_eq_false (by omega)), rfl⟩
  · have e : r = false := by rw [hr]; exact decide_eq_false (fun k => h0 k.1)
    subst e
    clear hr
    go_enter Tryz.func57, Tryz.ntmps57
    go_wp2
    go_ret
    exact ⟨rfl, rfl⟩
set_option maxHeartbeats 400000 in
theorem spotWQ (h : QWIs B w x P T s S) (i : Int) :
    Calls Tryz.prog 31 #[.pointer (some ⟨x.l, 0, none⟩), .int .i64 i] w fun e w' => e = .returned (spotV (getS S i)) ∧ Below w.heap.size w w' := by
  have hn32 := h.n32
  have hsl := h.sl
  have H : Hid (QWIs B (w.alloc (.cells #[.int .i64 0, .int .i64 0, .int .i64 0, .int .i64 0] 44)) x P T s S) := Lib.hid (h.below ((Below.refl _ _).alloc (Nat.le_refl _) _))
  by_cases hok : okI S i
  · have hp := getS_in hok
    obtain ⟨p, hpp⟩ : ∃ p, p = getS S i := ⟨_, rfl⟩
    rw [← hpp] at hp ⊢
    have c6 : w.cell? ⟨x.l, 6, none⟩ = some (.slice (some ⟨x.q, 0, none⟩) T.length T.length) := h.lk.cell 6
    have a0 := h.sp.cell hp 0 _ rfl
    have a1 := h.sp.cell hp 1 _ rfl
    have a2 := h.sp.cell hp 2 _ rfl
    have a3 := h.sp.cell hp 3 _ rfl
    simp only [Nat.add_zero] at a0
    have HH := Lib.hid (hasWQ H.out i true (decide_eq_true hok).symm)
    obtain ⟨h0, h1⟩ := hok
    rw [hsl] at h1
    obtain ⟨n, rfl⟩ := Int.eq_ofNat_of_zero_le h0
    simp only [Int.toNat_natCast] at a0 a1 a2 a3
    have hs1 := h.lk.lt
    have hs2 := h.sp.lt
    have t2 : ¬ (n : Int) < 0 := by omega
    have t4 : n < T.length := by omega
    clear h hp hpp h0 h1 hsl
    go_enter Tryz.func31, Tryz.ntmps31
    go_wp2_with (go_at_call 57; refine HH.out.mono ?_; rintro e w' ⟨rfl, rfl⟩)
    exact bodyPost_ret (results_cell_row (by rfl) _ _ w.heap.size 44 _ (0, 0) _ (by rfl) (heap_alloc_new w _) Tryz.underlying44 rfl (by kernel_rfl)) rfl ⟨rfl, (Below.refl _ _).alloc (Nat.le_refl _) _⟩
  · have HH := Lib.hid (hasWQ H.out i false (decide_eq_false hok).symm)
    rw [getS_out hok]
    clear h hok hsl
    go_enter Tryz.func31, Tryz.ntmps31
    go_wp2_with (go_at_call 57; refine HH.out.mono ?_; rintro e w' ⟨rfl, rfl⟩)
    exact bodyPost_ret (results_cell_row (by rfl) _ _ w.heap.size 44 _ (0, 0) _ (by rfl) (heap_alloc_new w _) Tryz.underlying44 rfl (by kernel_rfl)) rfl ⟨rfl, (Below.refl _ _).alloc (Nat.le_refl _) _⟩
/-- a thread's node -/
theorem nodeWQ (h : QWIs B w x P T s S) {n : Nat} (hn : n < T.length) : ∃ nd : Nat, nd < (leavesL P).length ∧ (nodesTo P T T.length)[n]? = some (nd : Int) ∧ nodeQ P T n = nd := by
  obtain ⟨y, hy⟩ := getElem?_lt hn
  have hm := thr_mem (chk_ok h.tb.ok).2.2.2 hy
  obtain ⟨k, hk⟩ := Int.eq_ofNat_of_zero_le ((idx_nonneg (leavesL P) y).1.2 hm)
  have hg := idx_get hm hk
  refine ⟨k, (List.getElem?_eq_some_iff.1 hg).1, ?_, ?_⟩
  · unfold nodesTo
    rw [List.take_length, List.getElem?_map, hy]
    show some (idxI (leavesL P) y) = _
    rw [hk]
  · unfold nodeQ
    rw [getD_of hy, hk]; rfl
set_option maxHeartbeats 400000 in
theorem ownWQ (h : QWIs B w x P T s S) (i : Int) :
    Calls Tryz.prog 28 #[.pointer (some ⟨x.l, 0, none⟩), .int .i64 i] w fun e w' => e = .returned (.int .i64 (ownQ P T i)) ∧ Below w.heap.size w w' := by
  by_cases hok : okI S i
  · have HH := Lib.hid (hasWQ h i true (decide_eq_true hok).symm)
    obtain ⟨h0, h1⟩ := hok
    rw [h.sl] at h1
    obtain ⟨n, rfl⟩ := Int.eq_ofNat_of_zero_le h0
    have hn : n < T.length := by omega
    obtain ⟨nd, hd, hx, hq⟩ := nodeWQ h hn
    have HO : Hid (ownQ P T n = 2 * (nd : Int) + 1) := Lib.hid (by unfold ownQ; rw [if_pos ⟨by omega, h1⟩, Int.toNat_natCast, hq])
    have c1 : w.cell? ⟨x.l, 1, none⟩ = some (.pointer (some ⟨x.b, 0, none⟩)) := h.lk.cell 1
    have c2 : w.cell? ⟨x.l, 2, none⟩ = some (.pointer (some ⟨x.gg, 0, none⟩)) := h.lk.cell 2
    have HNd := Lib.hid (nodeF w.drew x.b P T n hn (h.below ((Below.refl _ _).drew)).tb.f nd hx)
    have HW := Lib.hid (gaWord (h.below ((Below.refl _ _).drew)).ga nd hd h.n32.2)
    clear h h0 h1 hx hq
    go_enter Tryz.func28, Tryz.ntmps28
    go_wp2_with fail
    refine HH.out.mono ?_
    rintro en w1 ⟨rfl, rfl⟩
    go_wp2_with fail
    go_region_held3 (fun W => W.cell? ⟨x.l, 1, none⟩ = some (.pointer (some ⟨x.b, 0, none⟩)) ∧ W.cell? ⟨x.l, 2, none⟩ = some (.pointer (some ⟨x.gg, 0, none⟩)))
      (first | exact ⟨c1, c2⟩)
      (first
        | (go_at_call 41; go_loud (refine HNd.out.mono ?_); rintro en w2 ⟨rfl, rfl⟩)
        | (go_at_call 40; go_loud (refine HW.out.mono ?_); rintro en w3 ⟨rfl, rfl⟩))
    all_goals
      go_wp2
      go_ret
      rw [HO.out]
      exact ⟨rfl, (Below.refl _ _).drew⟩
  · have HH := Lib.hid (hasWQ h i false (decide_eq_false hok).symm)
    have HO : Hid (ownQ P T i = 0) := Lib.hid (by unfold ownQ; unfold okI at hok; rw [h.sl] at hok; rw [if_neg hok])
    clear h hok
    go_enter Tryz.func28, Tryz.ntmps28
    go_wp2_with fail
    refine HH.out.mono ?_
    rintro en w1 ⟨rfl, rfl⟩
    go_wp2
    go_ret
    rw [HO.out]
    exact ⟨rfl, Below.refl _ _⟩
end
end Go.Proofs.YtbkckbphkfakkaaGreat
end
section
/- Layer 38 (writers): Ask as a reader, Leave. (written by wip/gen_qu.py) -/
namespace Go.Proofs.YtbkckbphkfakkaaGreat
open Go.RowKit

section
variable {B : Nat → Prop} {w w' : World} {x : QWx} {P T : List Int} {s s' : Ar} {S S' : List Sp}
/-- an act upon the spots alone -/
def SpDW (B : Nat → Prop) (w : World) (x : QWx) (P T : List Int) (s : Ar) (S' : List Sp) (e : Ending) (w' : World) : Prop := ∃ r, e = .returned (.bool r) ∧ QWIs B w' x P T s S' ∧ Turns [x.a, x.g, x.q] w w'
theorem QWIs.put4 (h : QWIs B w x P T s S) {n : Nat} (hn : n < T.length) (p' : Sp) (hp' : RdOk true p') : QWIs B ((((w.setCell ⟨x.q, n * 4, none⟩ (.int .i64 p'.pc)).setCell ⟨x.q, n * 4 + 1, none⟩ (.int .i64 p'.a)).setCell ⟨x.q, n * 4 + 2, none⟩ (.int .i64 p'.b)).setCell ⟨x.q, n * 4 + 3, none⟩ (.int .i64 p'.c)) x P T s (S.set n p') := by
  have hl : n < S.length := by rw [h.sl]; exact hn
  have hp : S[n]? = some (sv S n) := by unfold sv; rw [List.getD_eq_getElem?_getD, List.getElem?_eq_getElem hl]; rfl
  obtain ⟨p, e⟩ : ∃ p, p = sv S n := ⟨_, rfl⟩
  rw [← e] at hp
  have g : ∀ (S : List Sp) (y : Sp), n < S.length → (S.set n y)[n]? = some y := fun S y h => by simp [h]
  have h1 := h.sp.put hp (j := 0) (u := .int .i64 p'.pc) (p' := ⟨p'.pc, p.a, p.b, p.c⟩) (by decide) rfl
  have h2 := h1.put (g _ _ hl) (j := 1) (u := .int .i64 p'.a) (p' := ⟨p'.pc, p'.a, p.b, p.c⟩) (by decide) rfl
  have h3 := h2.put (g _ _ (by simpa using hl)) (j := 2) (u := .int .i64 p'.b) (p' := ⟨p'.pc, p'.a, p'.b, p.c⟩) (by decide) rfl
  have h4 := h3.put (g _ _ (by simpa using hl)) (j := 3) (u := .int .i64 p'.c) (p' := p') (by decide) rfl
  simp only [List.set_set, Nat.add_zero] at h4
  have t : Turns [x.q] w ((((w.setCell ⟨x.q, n * 4, none⟩ (.int .i64 p'.pc)).setCell ⟨x.q, n * 4 + 1, none⟩ (.int .i64 p'.a)).setCell ⟨x.q, n * 4 + 2, none⟩ (.int .i64 p'.b)).setCell ⟨x.q, n * 4 + 3, none⟩ (.int .i64 p'.c)) :=
    ((((Turns.refl _ w).setCell (.inl (by simp)) _).setCell (.inl (by simp)) _).setCell (.inl (by simp)) _).setCell (.inl (by simp)) _
  exact h.spT h4 t hp'
theorem sp4W {w : World} {q : Nat} {S : List Sp} (hs : SpIs w q S) {n : Nat} (hl : n < S.length) (p' : Sp) : SpIs ((((w.setCell ⟨q, n * 4, none⟩ (.int .i64 p'.pc)).setCell ⟨q, n * 4 + 1, none⟩ (.int .i64 p'.a)).setCell ⟨q, n * 4 + 2, none⟩ (.int .i64 p'.b)).setCell ⟨q, n * 4 + 3, none⟩ (.int .i64 p'.c)) q (S.set n p') := by
  have hp : S[n]? = some (sv S n) := by unfold sv; rw [List.getD_eq_getElem?_getD, List.getElem?_eq_getElem hl]; rfl
  obtain ⟨p, e⟩ : ∃ p, p = sv S n := ⟨_, rfl⟩
  rw [← e] at hp
  have g : ∀ (S : List Sp) (y : Sp), n < S.length → (S.set n y)[n]? = some y := fun S y h => by simp [h]
  have h1 := hs.put hp (j := 0) (u := .int .i64 p'.pc) (p' := ⟨p'.pc, p.a, p.b, p.c⟩) (by decide) rfl
  have h2 := h1.put (g _ _ hl) (j := 1) (u := .int .i64 p'.a) (p' := ⟨p'.pc, p'.a, p.b, p.c⟩) (by decide) rfl
  have h3 := h2.put (g _ _ (by simpa using hl)) (j := 2) (u := .int .i64 p'.b) (p' := ⟨p'.pc, p'.a, p'.b, p.c⟩) (by decide) rfl
  have h4 := h3.put (g _ _ (by simpa using hl)) (j := 3) (u := .int .i64 p'.c) (p' := p') (by decide) rfl
  simp only [List.set_set, Nat.add_zero] at h4
  exact h4
theorem QWIs.put8 (h : QWIs B w x P T s S) {n : Nat} (hn : n < T.length) (p1 p' : Sp) (hp' : RdOk true p') : QWIs B ((((((((w.setCell ⟨x.q, n * 4, none⟩ (.int .i64 p1.pc)).setCell ⟨x.q, n * 4 + 1, none⟩ (.int .i64 p1.a)).setCell ⟨x.q, n * 4 + 2, none⟩ (.int .i64 p1.b)).setCell ⟨x.q, n * 4 + 3, none⟩ (.int .i64 p1.c)).setCell ⟨x.q, n * 4, none⟩ (.int .i64 p'.pc)).setCell ⟨x.q, n * 4 + 1, none⟩ (.int .i64 p'.a)).setCell ⟨x.q, n * 4 + 2, none⟩ (.int .i64 p'.b)).setCell ⟨x.q, n * 4 + 3, none⟩ (.int .i64 p'.c)) x P T s (S.set n p') := by
  have hl : n < S.length := by rw [h.sl]; exact hn
  have h1 := sp4W h.sp hl p1
  have h2 := sp4W h1 (by rw [List.length_set]; exact hl) p'
  rw [List.set_set] at h2
  have q4' : ∀ (w : World) (u0 u1 u2 u3 : Value), Turns [x.q] w ((((w.setCell ⟨x.q, n * 4, none⟩ u0).setCell ⟨x.q, n * 4 + 1, none⟩ u1).setCell ⟨x.q, n * 4 + 2, none⟩ u2).setCell ⟨x.q, n * 4 + 3, none⟩ u3) := fun w u0 u1 u2 u3 =>
    ((((Turns.refl _ w).setCell (.inl (by simp)) _).setCell (.inl (by simp)) _).setCell (.inl (by simp)) _).setCell (.inl (by simp)) _
  exact h.spT h2 ((q4' _ _ _ _ _).trans (q4' _ _ _ _ _)) hp'
theorem q4W (w : World) (x : QWx) (n : Nat) (u0 u1 u2 u3 : Value) : Turns [x.a, x.g, x.q] w ((((w.setCell ⟨x.q, n * 4, none⟩ u0).setCell ⟨x.q, n * 4 + 1, none⟩ u1).setCell ⟨x.q, n * 4 + 2, none⟩ u2).setCell ⟨x.q, n * 4 + 3, none⟩ u3) :=
  ((((Turns.refl _ w).setCell (.inl (by simp)) _).setCell (.inl (by simp)) _).setCell (.inl (by simp)) _).setCell (.inl (by simp)) _
set_option maxHeartbeats 1000000 in
theorem askWQ (h : QWIs B w x P T s S) (i : Int) : Calls Tryz.prog 29 #[.pointer (some ⟨x.l, 0, none⟩), .int .i64 i, .bool true] w (SpDW B w x P T s (askS S i)) := by
  have H := Lib.hid h
  have hn32 := h.n32
  have hsl := h.sl
  by_cases hok : okI S i
  · have HH := Lib.hid (hasWQ h i true (decide_eq_true hok).symm)
    have hp := getS_in hok
    obtain ⟨p, hpp⟩ : ∃ p, p = getS S i := ⟨_, rfl⟩
    rw [← hpp] at hp
    have c6 : w.cell? ⟨x.l, 6, none⟩ = some (.slice (some ⟨x.q, 0, none⟩) T.length T.length) := h.lk.cell 6
    have a0 := h.sp.cell hp 0 _ rfl
    have a1 := h.sp.cell hp 1 _ rfl
    have a2 := h.sp.cell hp 2 _ rfl
    have a3 := h.sp.cell hp 3 _ rfl
    have f1 : ∀ j, w.frozen? ⟨x.q, j, none⟩ = false := fun j => h.sp.free j
    simp only [Nat.add_zero] at a0
    obtain ⟨h0, h1⟩ := id hok
    rw [hsl] at h1
    obtain ⟨n, rfl⟩ := Int.eq_ofNat_of_zero_le h0
    simp only [Int.toNat_natCast] at a0 a1 a2 a3
    have t2 : ¬ (n : Int) < 0 := by omega
    have t4 : n < T.length := by omega
    by_cases hp0 : p.pc = 0
    · have y1 : (p.pc != 0) = false := by simpa using hp0
      have hlq : ¬ x.l = x.q := fun e => H.out.nl (by simp [e])
      have hql : ¬ x.q = x.l := fun e => hlq e.symm
      have HA : Hid (askS S n = S.set n ⟨1, 1, 0, 0⟩) := Lib.hid (by unfold askS; rw [if_pos ⟨hok, by rw [← hpp]; exact hp0⟩, Int.toNat_natCast])
      clear h hp hpp h0 h1 hok hsl
      go_enter Tryz.func29, Tryz.ntmps29
      go_wp2_with fail
      refine HH.out.mono ?_
      rintro en w1 ⟨rfl, rfl⟩
      go_wp2
      go_ret
      unfold SpDW
      rw [HA.out]
      exact ⟨_, rfl, H.out.put8 t4 ⟨5, 0, 0, 0⟩ ⟨1, 1, 0, 0⟩ ⟨.inr (.inl rfl), fun _ => rfl⟩, (q4W _ _ _ _ _ _ _).trans (q4W _ _ _ _ _ _ _)⟩
    · have y1 : (p.pc != 0) = true := by simpa using hp0
      have HA : Hid (askS S n = S) := Lib.hid (by unfold askS; rw [if_neg (fun k => hp0 (by rw [hpp]; exact k.2))])
      clear h hp hpp h0 h1 hok hsl
      go_enter Tryz.func29, Tryz.ntmps29
      go_wp2_with fail
      refine HH.out.mono ?_
      rintro en w1 ⟨rfl, rfl⟩
      go_wp2
      go_ret
      unfold SpDW
      rw [HA.out]
      exact ⟨_, rfl, H.out, Turns.refl _ _⟩
  · have HH := Lib.hid (hasWQ h i false (decide_eq_false hok).symm)
    have HA : Hid (askS S i = S) := Lib.hid (by unfold askS; rw [if_neg (fun k => hok k.1)])
    clear h hok hsl
    go_enter Tryz.func29, Tryz.ntmps29
    go_wp2_with fail
    refine HH.out.mono ?_
    rintro en w1 ⟨rfl, rfl⟩
    go_wp2
    go_ret
    unfold SpDW
    rw [HA.out]
    exact ⟨_, rfl, H.out, Turns.refl _ _⟩
set_option maxHeartbeats 1000000 in
theorem leaveWQ (h : QWIs B w x P T s S) (i : Int) : Calls Tryz.prog 55 #[.pointer (some ⟨x.l, 0, none⟩), .int .i64 i] w (SpDW B w x P T s (lvS S i)) := by
  have H := Lib.hid h
  have hfp := field_pc
  have hn32 := h.n32
  have hsl := h.sl
  have HS := Lib.hid (spotWQ h i)
  by_cases h10 : (getS S i).pc = 10
  · have hok : okI S i := by
      apply Classical.byContradiction
      intro hn
      rw [getS_out hn] at h10
      exact absurd h10 (by decide)
    obtain ⟨h0, h1⟩ := id hok
    rw [hsl] at h1
    obtain ⟨n, rfl⟩ := Int.eq_ofNat_of_zero_le h0
    have t4 : n < T.length := by omega
    have hg : getS S (n : Int) = sv S n := getQ_nat (by omega)
    have hrd := h.ok n t4
    rw [hg] at h10
    have HA : Hid (lvS S n = S.set n { sv S n with pc := 11 }) := Lib.hid (by unfold lvS; rw [hg, if_pos ⟨hok, h10⟩, Int.toNat_natCast])
    have ha1 := hrd.2 (by omega)
    have t2 : ¬ (n : Int) < 0 := by omega
    rw [hg] at HS
    have HSn : Hid (∀ W, QWIs B W x P T s S → W.cell? ⟨x.l, 6, none⟩ = some (.slice (some ⟨x.q, 0, none⟩) T.length T.length) ∧ W.cell? ⟨x.q, n * 4, none⟩ = some (.int .i64 10) ∧ W.cell? ⟨x.q, n * 4 + 1, none⟩ = some (.int .i64 1) ∧ W.frozen? ⟨x.q, n * 4, none⟩ = false) := Lib.hid fun W hW => by
      have hp : S[n]? = some (sv S n) := by
        have hl : n < S.length := by omega
        unfold sv; rw [List.getD_eq_getElem?_getD, List.getElem?_eq_getElem hl]; rfl
      have a0 := hW.sp.cell hp 0 _ rfl
      have a1 := hW.sp.cell hp 1 _ rfl
      rw [h10] at a0
      rw [ha1] at a1
      exact ⟨hW.lk.cell 6, a0, a1, hW.sp.free _⟩
    obtain ⟨q, hq⟩ : ∃ q, q = sv S n := ⟨_, rfl⟩
    rw [← hq] at HS
    have hq10 : q.pc = 10 := by rw [hq]; exact h10
    have HQA := Lib.hid (show q.a = 1 from by rw [hq]; exact ha1)
    have HR := Lib.hid (show RdOk true { sv S n with pc := 11 } from ⟨.inr (.inr (.inr (.inr (.inr rfl)))), fun _ => ha1⟩)
    clear h h0 h1 hok hsl hg hrd h10 ha1 hq
    go_enter Tryz.func55, Tryz.ntmps55
    go_wp2_with fail
    refine HS.out.mono ?_
    rintro en w1 ⟨rfl, b1⟩
    unfold spotV
    have H1 := Lib.hid (And.intro (H.out.below b1) b1)
    obtain ⟨g6, g0, g1, gz⟩ := HSn.out _ H1.out.1
    clear b1
    obtain ⟨sb, hsb⟩ : ∃ y, y = w1.heap.size := ⟨_, rfl⟩
    obtain ⟨wa, hwa⟩ : ∃ W, W = w1.alloc (.cells #[.int .i64 10, .int .i64 1, .int .i64 q.b, .int .i64 q.c] 44) := ⟨_, rfl⟩
    have hqa : q.a = 1 := HQA.out
    go_upto_region 2 with fail
    try rw [hq10, hqa]
    rw [← hwa, ← hsb]
    have HA1 := Lib.hid (show QWIs B wa x P T s S ∧ Below w1.heap.size w1 wa ∧ Blk wa sb 44 #[.int .i64 10, .int .i64 1, .int .i64 q.b, .int .i64 q.c] ∧ sb ≠ x.q from ⟨by rw [hwa]; exact H1.out.1.below ((Below.refl _ _).alloc (Nat.le_refl _) _), by rw [hwa]; exact (Below.refl _ _).alloc (Nat.le_refl _) _, by rw [hwa, hsb]; exact Blk.new _ _ _, by have q1 := H1.out.1.sp.lt; omega⟩)
    clear hwa hsb g6 g0 g1 gz
    obtain ⟨g6, g0, g1, gz⟩ := HSn.out _ HA1.out.1
    have v0 : wa.cell? ⟨sb, 0, none⟩ = some (.int .i64 10) := HA1.out.2.2.1.cell 0
    have v1 : wa.cell? ⟨sb, 1, none⟩ = some (.int .i64 1) := HA1.out.2.2.1.cell 1
    have hlq : x.l ≠ x.q := fun e => H.out.nl (by simp [e])
    have HX := Lib.hid (fun u : Value => show (wa.setCell ⟨x.q, n * 4, none⟩ u).cell? ⟨x.l, 6, none⟩ = some (.slice (some ⟨x.q, 0, none⟩) T.length T.length) ∧ (wa.setCell ⟨x.q, n * 4, none⟩ u).cell? ⟨sb, 1, none⟩ = some (.int .i64 1) from
      ⟨((Turns.refl [x.q] wa).setCell (p := ⟨x.q, n * 4, none⟩) (.inl (by simp)) u).cellQ g6 (by simpa using hlq), ((Turns.refl [x.q] wa).setCell (p := ⟨x.q, n * 4, none⟩) (.inl (by simp)) u).cellQ v1 (by simpa using HA1.out.2.2.2)⟩)
    go_wp2_with fail
    go_region_held3 (fun W => W.cell? ⟨x.l, 6, none⟩ = some (.slice (some ⟨x.q, 0, none⟩) T.length T.length) ∧ W.cell? ⟨sb, 1, none⟩ = some (.int .i64 1))
      (first | exact ⟨g6, v1⟩ | exact HX.out _)
      (first | fail)
    go_wp2
    go_ret
    unfold SpDW
    rw [HA.out]
    exact ⟨_, rfl, (HA1.out.1.below ((Below.refl _ _).drew)).put t4 (j := 0) (p' := { sv S n with pc := 11 }) (by decide) rfl HR.out, ((Turns.of_below H1.out.2).trans (Turns.of_below HA1.out.2.1)).trans (((Turns.refl [x.a, x.g, x.q] _).drew).setCell (p := ⟨x.q, n * 4, none⟩) (.inl (by simp)) _)⟩
  · have HA : Hid (lvS S i = S) := Lib.hid (by unfold lvS; rw [if_neg (fun k => h10 k.2)])
    obtain ⟨q, hq⟩ : ∃ q, q = getS S i := ⟨_, rfl⟩
    rw [← hq] at HS h10
    have y1 : (q.pc != 10) = true := by simpa using h10
    clear h hsl hq h10
    go_enter Tryz.func55, Tryz.ntmps55
    go_wp2_with fail
    refine HS.out.mono ?_
    rintro en w1 ⟨rfl, b1⟩
    unfold spotV
    have H1 := Lib.hid (And.intro (H.out.below b1) b1)
    clear b1
    go_wp2
    go_ret
    unfold SpDW
    rw [HA.out]
    exact ⟨_, rfl, H1.out.1.below ((Below.refl _ _).alloc (Nat.le_refl _) _), (Turns.of_below H1.out.2).alloc _⟩
end
end Go.Proofs.YtbkckbphkfakkaaGreat
end
