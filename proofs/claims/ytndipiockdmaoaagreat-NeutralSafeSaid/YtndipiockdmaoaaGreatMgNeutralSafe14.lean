/- Joined: Qu3, Co2, Co3. -/
import Derived.Deep.RegionLaw
import Derived.Test.YtndipiockdmaoaaGreatMgNeutralSafe2
import Derived.Test.YtndipiockdmaoaaGreatMgNeutralSafe7
import Derived.Test.YtndipiockdmaoaaGreatMgNeutralSafe9
import Derived.Test.YtndipiockdmaoaaGreatMgNeutralSafe13
section
set_option linter.unusedVariables false
set_option linter.unusedSimpArgs false
/- Layer 24 (cohort): a new lock: it comes to be, and the arena has some words more. -/
namespace Go.Proofs.YtndipiockdmaoaaGreat
open Go.RowKit

def nodeQ (P T : List Int) (n : Nat) : Nat := (idxI (leavesL P) (T.getD n 0)).toNat
/-- the number of the first word of a thread's node's gauge -/
def ownQ (P T : List Int) (i : Int) : Int := if 0 ≤ i ∧ i < T.length then 2 * (nodeQ P T i.toNat : Int) + 1 else 0
theorem Turns.cellQ {S : List Nat} {w w' : World} (k : Turns S w w') {p : Addr} {u : Value} (h : w.cell? p = some u) (hS : p.block ∉ S) : w'.cell? p = some u := by
  rw [World.cell?_of_block (w := w) (w' := w') (a := p) (k.block p.block (block_lt_of_cell h) hS)]
  exact h
theorem Turns.grownByQ {w w' : World} {row : Option Nat} (h : w.grownBy w' row) : Turns row.toList w w' :=
  ⟨h.os, h.tape, h.output, h.size, fun i hi hn => h.block i hi (by intro e; rw [← e] at hn; simp at hn)⟩
theorem qmade_const4 (u : Value) (n : Nat) : (madeCells #[u, u, u, u] n).toList = List.replicate n u := by
  unfold madeCells
  rw [Array.toList_map, Array.toList_range]
  refine List.ext_getElem? fun i => ?_
  rw [List.getElem?_map, List.getElem?_replicate]
  by_cases h : i < n
  · rw [List.getElem?_range h, if_pos h]
    have : i % 4 = 0 ∨ i % 4 = 1 ∨ i % 4 = 2 ∨ i % 4 = 3 := by omega
    rcases this with e | e | e | e <;> simp [e]
  · rw [if_neg h]; simp; omega
theorem qflat_zero (n : Nat) : (List.replicate n Sp.zero).flatMap encP4 = List.replicate (n * 4) (.int .i64 0) := by
  induction n with
  | zero => rfl
  | succ n ih => rw [List.replicate_succ, List.flatMap_cons, ih, show (n + 1) * 4 = 4 + n * 4 by omega, ← List.replicate_append_replicate]; rfl
theorem Tryz.infoNd : (Tryz.prog.info? 88).map (fun i => (i.zero, i.size, i.bytes)) = some (some (.agg #[.pointer none, .int .i64 0]), 2, 16) := by kernel_rfl
theorem nodesFstQ (B : Nat → Prop) (w : World) (b : Nat) (P T : List Int) (hc : chkT P T = 0) (h : Tab0Q B w b P T) :
    Calls Tryz.prog 51 #[.pointer (some ⟨b, 0, none⟩)] w fun e w' => e = .returned (.int .i64 ((leavesL P).length : Nat)) ∧ TabQ (fun i => B i ∨ w.heap.size ≤ i) w' b P T ∧ Turns [b] w w' :=
  nodesR w b P T (fun w' => TabQ (fun i => B i ∨ w.heap.size ≤ i) w' b P T ∧ Turns [b] w w') (fun _ h => h.1.f) (found_firstQ B w b P T hc h)
theorem nodesFQ (w : World) (b : Nat) (P T : List Int) (h : TabF w b P T) :
    Calls Tryz.prog 51 #[.pointer (some ⟨b, 0, none⟩)] w fun e w' => e = .returned (.int .i64 ((leavesL P).length : Nat)) ∧ w = w' :=
  nodesR w b P T (fun w' => w = w') (fun _ e => e ▸ h) (found_again w b P T h)
def coC (a b : Nat) (G L par bud : Int) (gp nd sp : Value) : Array Value := #[.pointer (some ⟨a, 0, none⟩), .pointer (some ⟨b, 0, none⟩), .int .i64 G, .int .i64 L, .int .i64 par, .int .i64 bud, gp, nd, sp]
set_option maxRecDepth 100000 in
set_option maxHeartbeats 8000000 in
theorem cohortNew {w : World} {a g : Nat} {s : Ar} (h : ArIs w a g s) (vP vT : Value) (P T : List Int) (hP : RdL w vP 1 encI P) (hT : RdL w vT 1 encI T) (hc : chkT P T = 0) (G L : Int) (hG : 1 ≤ G ∧ G ≤ 5) (hL : 1 ≤ L ∧ L ≤ 5) (par : Nat) (hp : 1 ≤ par ∧ par ≤ 4) (bud : Int) (hb : 0 ≤ bud ∧ bud ≤ 3) (hr : s.W.length + 2500 ≤ s.room) (ho : s.ops + 3000 ≤ 1000000000) :
    Calls Tryz.prog 12 #[.pointer (some ⟨a, 0, none⟩), .agg #[vP, vT], .agg #[.int .i64 G, .int .i64 L, .int .i64 par, .int .i64 bud]] w (NewK w a g s 2500) := by
  obtain ⟨i0, hi, hz0, hz1, hz2⟩ := info_parts Tryz.infoSpF
  obtain ⟨j0, hj, hy0, hy1, hy2⟩ := info_parts Tryz.infoNd
  have HJ := Lib.hid (And.intro hj (And.intro hy0 (And.intro hy1 hy2)))
  clear hj hy0 hy1 hy2
  have hml := many_lt (chk_ok hc).1
  have ha0 := h.blk.lt
  have hg0 := h.wds.lt
  obtain ⟨hT1, hT32⟩ : 1 ≤ T.length ∧ T.length ≤ 32 := ⟨hml.2.2.1, hml.2.2.2⟩
  have hN32 : (leavesL P).length ≤ 32 := by
    have := leavesTo_len P P.length
    show (leavesTo P P.length).length ≤ 32; omega
  have hN1 : 1 ≤ (leavesL P).length := by
    obtain ⟨x, hx⟩ := getElem?_lt (show 0 < T.length by omega)
    exact List.length_pos_of_mem (thr_mem (chk_ok hc).2.2.2 hx)
  have HPD := Lib.hid (And.intro hG (And.intro hL (And.intro hp hb)))
  have H := Lib.hid (And.intro h (And.intro ha0 hg0))
  have HN := Lib.hid (new_yesL ((w.alloc (.cells #[vP, vT] 29)).alloc (.cells #[.int .i64 G, .int .i64 L, .int .i64 par, .int .i64 bud] 31)) vP vT P T ((hP.alloc _).alloc _) ((hT.alloc _).alloc _) hc)
  have HCK := Lib.hid hc
  have HS := Lib.hid (And.intro hr ho)
  have HR := Lib.hid (fun W => rightB bud W hb.1 (by omega))
  have hlo : ((w.alloc (.cells #[vP, vT] 29)).alloc (.cells #[.int .i64 G, .int .i64 L, .int .i64 par, .int .i64 bud] 31)).heap.size = w.heap.size + 2 := by simp
  have B0 := Lib.hid (((Below.refl w.heap.size w).alloc (Nat.le_refl _) (.cells #[vP, vT] 29)).alloc (by simp) (.cells #[.int .i64 G, .int .i64 L, .int .i64 par, .int .i64 bud] 31))
  have hbx := Blk.new (w.alloc (.cells #[vP, vT] 29)) 31 #[.int .i64 G, .int .i64 L, .int .i64 par, .int .i64 bud]
  rw [show (w.alloc (.cells #[vP, vT] 29)).heap.size = w.heap.size + 1 by simp] at hbx
  have BX := Lib.hid hbx
  clear h hP hT hr ho hml ha0 hg0 hc hbx hG hL hp hb
  go_enter Tryz.func12, Tryz.ntmps12
  go_wp2_with fail
  refine HN.out.mono ?_
  rintro en w1 ⟨b, rfl, hb, t1, b1⟩
  rw [hlo] at hb t1 b1
  have K1 := Lib.hid (And.intro (t1.q HCK.out) (And.intro (B0.out.trans (b1.mono (by omega))) (And.intro (Turns.blk (S := []) ⟨b1.os, b1.tape, b1.output, b1.size, fun i hi _ => b1.block i (by omega)⟩ BX.out (by simp)) hb)))
  clear t1 b1 hb HN BX B0
  have p3 : w1.cell? ⟨w.heap.size + 1, 3, none⟩ = some (.int .i64 bud) := K1.out.2.2.1.cell 3
  go_wp2_with fail
  refine (HR.out _).mono ?_
  rintro en w1' ⟨rfl, rfl⟩
  have p0 : w1.cell? ⟨w.heap.size + 1, 0, none⟩ = some (.int .i64 G) := K1.out.2.2.1.cell 0
  have p1 : w1.cell? ⟨w.heap.size + 1, 1, none⟩ = some (.int .i64 L) := K1.out.2.2.1.cell 1
  have p2 : w1.cell? ⟨w.heap.size + 1, 2, none⟩ = some (.int .i64 par) := K1.out.2.2.1.cell 2
  have hpl : w.heap.size + 1 < w1.heap.size := K1.out.2.2.1.lt
  have HTh := Lib.hid (threads_any w1.drew b P T ((K1.out.1.turns ((Turns.refl (S := []) _).drew) (by simp)).tab HCK.out))
  obtain ⟨w4, hrun, hown, hg⟩ := run_makeSlice_full (P := Tryz.prog) w1.drew w1.heap.size 78 46 i0 (.agg #[.int .i64 0, .int .i64 0, .int .i64 0, .int .i64 0]) 4 Tryz.underlying78 hi hz0 hz1 .i64 .i64 T.length (by omega) (by rw [hz2]; omega) (by unfold maxLen; omega) (Nat.le_refl _)
  have H4 := Lib.hid (show Turns [] w1 w4 from ((Turns.refl _ _).drew).trans (Turns.of_below ((Below.refl _ _).grown hg (Nat.le_refl _) (fun j hj => by cases hj))))
  have q0 := H4.out.cellQ p0 (by simp)
  have q1 := H4.out.cellQ p1 (by simp)
  have q2 := H4.out.cellQ p2 (by simp)
  have q3 := H4.out.cellQ p3 (by simp)
  have hw14 : w1.heap.size ≤ w4.heap.size := H4.out.size
  clear hown hg
  go_wp2_with fail
  have HQA := Lib.hid (fun o : Obj => show (w4.alloc o).cell? ⟨w.heap.size + 1, 0, none⟩ = some (.int .i64 G) ∧ (w4.alloc o).cell? ⟨w.heap.size + 1, 1, none⟩ = some (.int .i64 L) ∧ (w4.alloc o).cell? ⟨w.heap.size + 1, 2, none⟩ = some (.int .i64 par) ∧ (w4.alloc o).cell? ⟨w.heap.size + 1, 3, none⟩ = some (.int .i64 bud) from by
    have t : Turns [] w4 (w4.alloc o) := (Turns.refl _ _).alloc o
    exact ⟨t.cellQ q0 (by simp), t.cellQ q1 (by simp), t.cellQ q2 (by simp), t.cellQ q3 (by simp)⟩)
  go_region_held3 (fun W => W.cell? ⟨w.heap.size + 1, 0, none⟩ = some (.int .i64 G) ∧ W.cell? ⟨w.heap.size + 1, 1, none⟩ = some (.int .i64 L) ∧ W.cell? ⟨w.heap.size + 1, 2, none⟩ = some (.int .i64 par) ∧ W.cell? ⟨w.heap.size + 1, 3, none⟩ = some (.int .i64 bud))
    (first | exact ⟨p0, p1, p2, p3⟩ | exact ⟨q0, q1, q2, q3⟩ | exact HQA.out _)
    (first | (go_at_call 49; go_loud (refine HTh.out.mono ?_); rintro en w3 ⟨rfl, rfl⟩))
  obtain ⟨l, hl⟩ : ∃ l, l = w4.heap.size := ⟨_, rfl⟩
  obtain ⟨w5, hw5⟩ : ∃ W, W = w4.alloc (.cells (coC a b G L par bud (.pointer none) (.slice none 0 0) (.slice (some ⟨w1.heap.size, 0, none⟩) T.length T.length)) 82) := ⟨_, rfl⟩
  have hw5' := hw5
  unfold coC at hw5'
  rw [← hw5', ← hl]
  have HB5 := Lib.hid (show Blk w5 l 82 (coC a b G L par bud (.pointer none) (.slice none 0 0) (.slice (some ⟨w1.heap.size, 0, none⟩) T.length T.length)) from by rw [hw5, hl]; exact Blk.new _ _ _)
  have H5 := Lib.hid (show Turns [] w1 w5 from by rw [hw5]; exact H4.out.alloc _)
  have HO := Lib.hid (show a < w.heap.size ∧ g < w.heap.size ∧ w.heap.size + 2 ≤ b ∧ b < w1.heap.size ∧ w1.heap.size ≤ l ∧ w5.heap.size = l + 1 from by
    have e1 : b < w1.heap.size := K1.out.1.low.2
    have e2 := K1.out.2.2.2
    have e4 := H.out
    rw [hw5, hl]
    simp
    omega)
  have HPC : Hid (∀ W, Turns [l, b, a, g] w5 W → W.cell? ⟨w.heap.size + 1, 0, none⟩ = some (.int .i64 G) ∧ W.cell? ⟨w.heap.size + 1, 1, none⟩ = some (.int .i64 L) ∧ W.cell? ⟨w.heap.size + 1, 2, none⟩ = some (.int .i64 par) ∧ W.cell? ⟨w.heap.size + 1, 3, none⟩ = some (.int .i64 bud)) := Lib.hid fun W hW => by
    have o := HO.out
    have t : Turns [l, b, a, g] w1 W := (H5.out.mono (by simp)).trans hW
    have n : w.heap.size + 1 ∉ [l, b, a, g] := by simp; omega
    exact ⟨t.cellQ p0 n, t.cellQ p1 n, t.cellQ p2 n, t.cellQ p3 n⟩
  obtain ⟨N, hN⟩ : ∃ N, N = (leavesL P).length := ⟨_, rfl⟩
  rw [← hN] at hN32 hN1
  have HNo0 := nodesFstQ (fun i => w.heap.size + 2 ≤ i ∧ i < w1.heap.size) w5.drew b P T HCK.out ((K1.out.1.turns H5.out (by simp)).turns ((Turns.refl (S := []) _).drew) (by simp))
  rw [← hN] at HNo0
  have HNo := Lib.hid HNo0
  have HNN := Lib.hid hN
  have HA5 := Lib.hid ((H.out.1.turns (Turns.of_below (S := []) K1.out.2.1) (by simp) (by simp)).turns H5.out (by simp) (by simp))
  have HFl := Lib.hid (fun W (hA : ArIs W a g s) => flatNew hA G HPD.out.1.1 HPD.out.1.2 N hN1 hN32 par HPD.out.2.2.1.1 HPD.out.2.2.1.2 (by have := HS.out; omega) (by have := HS.out; omega))
  have k50 := HPC.out w5 (Turns.refl _ _)
  have hl5 : l < w5.heap.size := HB5.out.lt
  clear hw5 hw5' hl hN HNo0 p0 p1 p2 p3 q0 q1 q2 q3 hrun HQA HTh H4 hw14
  go_wp2_with fail
  go_region_held3 (fun W => W.cell? ⟨w.heap.size + 1, 0, none⟩ = some (.int .i64 G) ∧ W.cell? ⟨w.heap.size + 1, 1, none⟩ = some (.int .i64 L) ∧ W.cell? ⟨w.heap.size + 1, 2, none⟩ = some (.int .i64 par) ∧ W.cell? ⟨w.heap.size + 1, 3, none⟩ = some (.int .i64 bud))
    (first | exact k50 | exact HPC.out _ T6.out | exact HPC.out _ T7.out | exact HPC.out _ T8.out)
    (first
      | (go_at_call 51; go_loud (refine HNo.out.mono ?_); rintro en w6 ⟨rfl, t6, n6⟩; have T6 := Lib.hid (show Turns [l, b, a, g] w5 w6 from ((Turns.refl _ _).drew).trans (n6.mono (by simp))); have Q6 := Lib.hid t6.lt; have A6 := Lib.hid (HA5.out.turns (show Turns [b] w5 w6 from ((Turns.refl _ _).drew).trans n6) (by have := HO.out; simp; omega) (by have := HO.out; simp; omega)); have B6 := Lib.hid (show Blk w6 l _ _ from (show Turns [b] w5 w6 from ((Turns.refl _ _).drew).trans n6).blk HB5.out (by have := HO.out; simp; omega)); clear t6 n6)
      | (go_at_call 50; go_loud (refine (HFl.out w6 A6.out).mono ?_); rintro en w7 ⟨gp, s7, rfl, e1, e2, e3, e4, e5⟩; have T7 := Lib.hid (T6.out.trans (e5.mono (by simp))); have B7 := Lib.hid (e5.blk B6.out (by have := HO.out; simp; omega)); have c6 : w7.cell? ⟨l, 6, none⟩ = some (.pointer none) := B7.out.cell 6; have z6 := B7.out.free 6; have T8 := Lib.hid (T7.out.trans ((Turns.refl [l, b, a, g] w7).setCell (p := ⟨l, 6, none⟩) (.inl (by simp)) (.pointer (some ⟨gp, 0, none⟩)))); have H7 := Lib.hid (And.intro e1 (And.intro e2 (And.intro e3 (And.intro e4 e5)))); clear e1 e2 e3 e4 e5))
  obtain ⟨w8, hw8⟩ : ∃ W, W = w7.setCell ⟨l, 6, none⟩ (.pointer (some ⟨gp, 0, none⟩)) := ⟨_, rfl⟩
  rw [← hw8] at T8 ⊢
  have t78 : Turns [l] w7 w8 := by rw [hw8]; exact (Turns.refl _ _).setCell (.inl (by simp)) _
  have HB8 := Lib.hid (show Blk w8 l 82 (coC a b G L par bud (.pointer (some ⟨gp, 0, none⟩)) (.slice none 0 0) (.slice (some ⟨w1.heap.size, 0, none⟩) T.length T.length)) from by rw [hw8]; exact B7.out.set_ 6 _)
  have HA8 := Lib.hid (H7.out.2.2.1.turns t78 (by have := HO.out; simp; omega) (by have := HO.out; simp; omega))
  have HQ8 := Lib.hid (show TabQ (fun i => ((w.heap.size + 2 ≤ i ∧ i < w1.heap.size) ∨ w5.drew.heap.size ≤ i) ∧ i < w6.heap.size) w8 b P T from by
    have o := HO.out
    refine (Q6.out.turns H7.out.2.2.2.2 (fun i hi hB => ?_)).turns t78 (fun i hi hB => ?_)
    · have e : w5.drew.heap.size = w5.heap.size := rfl
      simp at hi
      omega
    · have e : w5.drew.heap.size = w5.heap.size := rfl
      simp at hi
      omega)
  have hs8 : w5.heap.size ≤ w8.heap.size := T8.out.size
  have hl8 : l < w8.heap.size := by omega
  have HM0 := Lib.hid H7.out.2.2.2.1
  clear hw8 c6 z6 t78 B7 B6 H7 k50
  have HNq0 := nodesFQ w8 b P T HQ8.out.f
  rw [← HNN.out] at HNq0
  have HNq := Lib.hid HNq0
  clear HNq0
  go_wp2_with fail
  refine HNq.out.mono ?_
  rintro en w8' ⟨rfl, rfl⟩
  go_wp2
  go_loopw [56] (fun i wr => ∃ (k : Nat) (v : Value) (xs : List Value) (s' : Ar), i = .int .i64 k ∧ k ≤ N ∧ Blk wr l 82 (coC a b G L par bud (.pointer (some ⟨gp, 0, none⟩)) v (.slice (some ⟨w1.heap.size, 0, none⟩) T.length T.length)) ∧ wr.ownsRow w8.heap.size 88 2 v k xs ∧ ArIs wr a g s' ∧ ArMore s s' (66 + 67 * k) ∧ Turns [l, a, g] w8 wr) (fun i _ => N - (intOf i).toNat)
  case atStart => exact ⟨0, _, [], s7, rfl, by omega, HB8.out, World.ownsRow_nil _ _ _ _, HA8.out, HM0.out, Turns.refl _ _⟩
  case round =>
    obtain ⟨k, v, xs, s', rfl, hk, hb, hown, hA, hM, ht⟩ := hrel
    obtain ⟨wo, rfl⟩ : ∃ wo : World, wo = wr := ⟨_, rfl⟩
    have H := Lib.hid (And.intro hb (And.intro hown (And.intro hA (And.intro hM ht))))
    have h8o := ht.size
    by_cases hlt : k < N
    · obtain ⟨A, cap, rfl⟩ := own_form hown
      have HQo := Lib.hid (show TabQ (fun i => ((w.heap.size + 2 ≤ i ∧ i < w1.heap.size) ∨ w5.drew.heap.size ≤ i) ∧ i < w6.heap.size) wo.drew b P T from by
        have o := HO.out
        have e : w5.drew.heap.size = w5.heap.size := rfl
        exact (HQ8.out.turns ht (fun i hi hB => by simp at hi; omega)).turns ((Turns.refl (S := []) _).drew) (by simp))
      obtain ⟨x, hx⟩ := getElem?_lt (show k < (leavesL P).length by rw [← HNN.out]; exact hlt)
      have HMt := Lib.hid (matesF wo.drew b P T HQo.out.f hx)
      have hct : T.count x ≤ 32 := Nat.le_trans List.count_le_length hT32
      obtain ⟨ct, hcte⟩ : ∃ ct, ct = T.count x := ⟨_, rfl⟩
      rw [← hcte] at HMt hct
      have ho8 : Turns [l, b, a, g] w5 wo := T8.out.trans (ht.mono (by simp))
      have HPo := Lib.hid (HPC.out wo ho8)
      obtain ⟨p0, p1, p2, p3⟩ := HPC.out wo ho8
      have hlen : s'.W.length + 100 ≤ s'.room ∧ s'.ops + 100 ≤ 1000000000 := by
        have h1 := hM.len
        have h2 := hM.room
        have h3 := hM.ops
        have h4 := HS.out
        omega
      have HFL := Lib.hid (fun n (h1 : 1 ≤ n) (h2 : n ≤ 32) => flatNew (w := wo.drew) (hA.turns ((Turns.refl (S := []) _).drew) (by simp) (by simp)) L HPD.out.2.1.1 HPD.out.2.1.2 n h1 h2 par HPD.out.2.2.1.1 HPD.out.2.2.1.2 (by omega) (by omega))
      have hllo := hb.lt
      have ho8 := Lib.hid ho8
      clear hb hown hA hM ht hx hcte
      obtain ⟨z, hz⟩ : ∃ z : Int, z = (ct : Int) := ⟨_, rfl⟩
      rw [← hz] at HMt
      obtain ⟨n, hn⟩ : ∃ n : Nat, n = max 1 ct := ⟨_, rfl⟩
      have hif : (if 1 < z then z else 1) = (n : Int) := by split <;> omega
      have HF1 := Lib.hid (HFL.out n (by omega) (by omega))
      clear hn
      clear hz hct
      go_wp2_with fail
      go_region_held3 (fun W => W.cell? ⟨w.heap.size + 1, 0, none⟩ = some (.int .i64 G) ∧ W.cell? ⟨w.heap.size + 1, 1, none⟩ = some (.int .i64 L) ∧ W.cell? ⟨w.heap.size + 1, 2, none⟩ = some (.int .i64 par) ∧ W.cell? ⟨w.heap.size + 1, 3, none⟩ = some (.int .i64 bud))
        (first | exact HPo.out | exact HP7.out)
        (first
          | (go_at_call 52; go_loud (refine HMt.out.mono ?_); rintro en w6' ⟨rfl, rfl⟩)
          | (go_at_call 50; go_loud (refine HF1.out.mono ?_); rintro en w7' ⟨gq, s2, rfl, e1, e2, e3, e4, e5⟩; have T7' := Lib.hid (show Turns [a, g] wo w7' from ((Turns.refl _ _).drew).trans e5); have HP7 := Lib.hid (HPC.out w7' (ho8.out.trans (T7'.out.mono (by simp)))); have H7' := Lib.hid (And.intro e3 e4); clear e1 e2 e3 e4 e5))
      all_goals
        have hlen2 : s2.W.length + 1 ≤ s2.room := by
          have h1 := H7'.out.2.len
          have h2 := H7'.out.2.room
          have h3 := hlen.1
          omega
        go_wp2_with fail
        refine (takeY H7'.out.1 1 hlen2).mono ?_
        rintro en w9 ⟨rfl, k9, t9⟩
        have T9 := Lib.hid (T7'.out.trans (t9.mono (by simp)))
        have H9 := Lib.hid k9
        have hna : l ∉ [a, g] := by have := HO.out; simp; omega
        have bl9 : Blk w9 l 82 (coC a b G L par bud (.pointer (some ⟨gp, 0, none⟩)) (.slice A k cap) (.slice (some ⟨w1.heap.size, 0, none⟩) T.length T.length)) := T9.out.blk H.out.1 hna
        have o9 : w9.ownsRow w8.heap.size 88 2 (.slice A k cap) k xs := Turns.own H.out.2.1 T9.out (fun x hx => by have := (H.out.2.1.lt x hx).1; have := HO.out; simp; omega)
        have c7 : w9.cell? ⟨l, 7, none⟩ = some (.slice A k cap) := bl9.cell 7
        have hs9 : wo.heap.size ≤ w9.heap.size := T9.out.size
        have hll9 := bl9.lt
        have hlow : (Value.slice A k cap).ownBlock ≠ some l := fun e => by have := (H.out.2.1.lt l e).1; omega
        have HB9 := Lib.hid bl9
        have HO9 := Lib.hid o9
        clear k9 t9 bl9 o9 hna
        go_wp2_with (at_builtin; refine wpList_append_lies _ rfl _ _ 80 rfl w8.heap.size 88 j0 (.agg #[.pointer none, .int .i64 0]) 2 16 Tryz.underlying80 HJ.out.1 HJ.out.2.1 HJ.out.2.2.1 HJ.out.2.2.2 rfl (by decide) _ _ _ rfl (HO9.out.alloc _) ⟨w9.heap.size, 0, none⟩ 1 1 [.pointer (some ⟨gq, 0, none⟩), .int .i64 ((s2.W.length : Int) + 1)] rfl rfl (cells_newF _ _ _) (by simp [Value.oneCell']) (by decide) ?c3 ?c4 ?c5 _ rfl ?_)
        case c3 => unfold maxLen; omega
        case c4 => omega
        case c5 => simp; omega
        intro g3 cap3 w10 h3 hg3 hl3 hlt3
        have bl10 := (HB9.out.alloc (.cells #[.pointer (some ⟨gq, 0, none⟩), .int .i64 ((s2.W.length : Int) + 1)] 88)).grown hg3 (fun e => hlow e.symm)
        have c10 : w10.cell? ⟨l, 7, none⟩ = some (.slice A k cap) := bl10.cell 7
        have z10 := bl10.free 7
        obtain ⟨w11, hw11⟩ : ∃ W, W = w10.setCell ⟨l, 7, none⟩ (.slice (some ⟨g3, 0, none⟩) (k + 1) cap3) := ⟨_, rfl⟩
        have tr : Turns (l :: (Value.slice A k cap).ownBlock.toList) w9 w11 := by
          rw [hw11]
          exact (((Turns.refl _ _).alloc _).trans ((Turns.grownByQ hg3).mono fun i hi => List.mem_cons_of_mem _ hi)).trans ((Turns.refl _ _).setCell (.inl (by simp)) _)
        have HR1 := Lib.hid (show Blk w11 l 82 (coC a b G L par bud (.pointer (some ⟨gp, 0, none⟩)) (.slice (some ⟨g3, 0, none⟩) (k + 1) cap3) (.slice (some ⟨w1.heap.size, 0, none⟩) T.length T.length)) from by rw [hw11]; exact bl10.set_ 7 _)
        have HR2 := Lib.hid (show w11.ownsRow w8.heap.size 88 2 (.slice (some ⟨g3, 0, none⟩) (k + 1) cap3) (k + 1) (xs ++ [.pointer (some ⟨gq, 0, none⟩), .int .i64 ((s2.W.length : Int) + 1)]) from by
          rw [hw11]
          have hg3b := (h3.lt g3 rfl).1
          exact Turns.own h3 ((Turns.refl [l] _).setCell (.inl (by simp)) _) (fun x hx => by injection hx with hx; subst hx; simp; omega))
        have hlowA : ∀ x, (Value.slice A k cap).ownBlock = some x → w8.heap.size ≤ x := fun x hx => (H.out.2.1.lt x hx).1
        have HR3 := Lib.hid (show ArIs w11 a g (takeS s2 1) from H9.out.turns tr (fun hm => by
          have := HO.out
          rcases List.mem_cons.1 hm with e | e
          · omega
          · have := hlowA a (by simpa using e); omega) (fun hm => by
          have := HO.out
          rcases List.mem_cons.1 hm with e | e
          · omega
          · have := hlowA g (by simpa using e); omega))
        have HR4 := Lib.hid (show ArMore s (takeS s2 1) (66 + 67 * (k + 1)) from ((H.out.2.2.2.1.trans H7'.out.2).trans (takeS_more s2 1)).le (by omega))
        have HR5 := Lib.hid (show Turns [l, a, g] w8 w11 from by
          have t1 : Turns ([l, a, g] ++ (Value.slice A k cap).ownBlock.toList) w8 w11 := ((H.out.2.2.2.2.mono fun i hi => List.mem_append_left _ hi).trans (T9.out.mono fun i hi => List.mem_append_left _ (by simp at hi ⊢; omega))).trans (tr.mono fun i hi => by
            rcases List.mem_cons.1 hi with e | e
            · exact List.mem_append_left _ (by simp [e])
            · exact List.mem_append_right _ e)
          refine t1.fresh fun i hi => ?_
          rcases List.mem_append.1 hi with hi | hi
          · exact .inl hi
          · exact .inr (hlowA i (by simpa using hi)))
        rw [hw11] at HR1 HR2 HR3 HR5
        clear h3 hg3 hl3 bl10 HB9 HO9 H9 tr hw11 hlowA
        go_wp2
        go_roundw
        case rel => exact ⟨k + 1, _, _, _, by go_num, by omega, HR1.out, HR2.out, HR3.out, HR4.out, HR5.out⟩
        case measure => simp [intOf]; omega
    · obtain rfl : k = N := by omega
      clear hb hown hA hM ht
      go_wp2
      go_ret2
      have o := HO.out
      have s8 := T8.out.size
      have s1 := K1.out.2.1.size
      have s15 := H5.out.size
      refine ⟨l, s', rfl, by omega, by have := H.out.1.lt; omega, H.out.2.2.1, H.out.2.2.2.1.le (by omega), ?_⟩
      have t : Turns [l, b, a, g] w wo := (((Turns.of_below (S := [l, b, a, g]) K1.out.2.1).trans (H5.out.mono (by simp))).trans T8.out).trans (H.out.2.2.2.2.mono (by simp))
      exact t.fresh fun i hi => by simp at hi ⊢; omega
end Go.Proofs.YtndipiockdmaoaaGreat
end
section
set_option linter.unusedVariables false
set_option linter.unusedSimpArgs false
/- Layer 24 (cohort): how a lock lies in memory; has, Threads, Spot, of. -/
namespace Go.Proofs.YtndipiockdmaoaaGreat
open Go.RowKit

/-- where a cohort lock lies: its own block, the table's, the nodes', the spots'; threads, nodes, the nodes' room; the global lock, the local ones, the counts' words; whose a block is -/
structure Cox where
  l : Nat
  b : Nat
  qn : Nat
  qs : Nat
  n : Nat
  N : Nat
  capn : Nat
  par : Nat
  g : Fx
  X : List Fx
  W : List Nat
  o : Nat → Nat
def ndE (y : Fx × Nat) : List Value := [.pointer (some ⟨y.1.p, 0, none⟩), .int .i64 y.2]
theorem ndE_len (y : Fx × Nat) : (ndE y).length = 2 := rfl
/-- what does not change -/
structure CoFx (B : Nat → Prop) (a g : Nat) (x : Cox) (c : CoC) (P T : List Int) : Prop where
  ck : chkT P T = 0
  nT : x.n = T.length
  nN : x.N = (leavesL P).length
  lX : x.X.length = x.N
  lW : x.W.length = x.N
  cap : x.N ≤ x.capn
  cn : ∀ i, i < x.n → c.node i = nodeQ P T i ∧ (c.slot i : Int) = slotOf T i
  tg : c.tg = x.g.t
  tl : ∀ (n : Nat) (y : Fx), x.X[n]? = some y → c.tl n = y.t ∧ (y.m : Int) = c.m
  gm : (x.g.m : Int) = c.m
  pm : (x.par : Int) = c.m
  cc : ∀ (n v : Nat), x.W[n]? = some v → c.cw n = v ∧ v ≤ 5000
  kg : KOk c.kg
  kl : KOk c.kl
  bud : 0 ≤ c.bud ∧ c.bud ≤ 1000
  par : 1 ≤ x.par ∧ x.par ≤ 4
  ol : x.o x.l = 1
  on : x.o x.qn = 1
  os : x.o x.qs = 2
  oa : x.o a = 3
  og : x.o g = 3
  oG : x.o x.g.p = 4 ∧ x.o x.g.l = 4 ∧ x.o x.g.q = 4
  oL : ∀ (n : Nat) (y : Fx), x.X[n]? = some y → x.o y.p = 5 + n ∧ x.o y.l = 5 + n ∧ x.o y.q = 5 + n
  oB : ∀ i, B i → x.o i = 0
/-- a cohort lock in memory -/
structure CoIs (B : Nat → Prop) (w : World) (a g : Nat) (x : Cox) (c : CoC) (P T : List Int) (st : Co) : Prop where
  fx : CoFx B a g x c P T
  ar : ArIs w a g st.s
  lk : Blk w x.l 82 (coC a x.b c.kg c.kl x.par c.bud (.pointer (some ⟨x.g.p, 0, none⟩)) (.slice (some ⟨x.qn, 0, none⟩) x.N x.capn) (.slice (some ⟨x.qs, 0, none⟩) x.n x.n))
  tb : TabQ B w x.b P T
  nd : ∃ Z : List Value, Blk w x.qn 88 ((x.X.zip x.W).flatMap ndE ++ Z).toArray
  sp : SpR w x.qs st.T
  gl : FlIs w a g c.kg x.g st.s st.G
  lo : ∀ (n : Nat) (y : Fx) (S : List Sp), x.X[n]? = some y → st.L[n]? = some S → FlIs w a g c.kl y st.s S
  lL : st.L.length = x.N
  lG : st.G.length = x.N
  lS : st.T.length = x.n
  sl : ∀ (i : Nat) (S : List Sp), i < x.n → st.L[c.node i]? = some S → c.slot i < S.length
section
variable {B : Nat → Prop} {w w' : World} {a g : Nat} {x : Cox} {c : CoC} {P T : List Int} {st : Co} {s' : Ar}
theorem CoFx.n32 (h : CoFx B a g x c P T) : x.n ≤ 32 ∧ x.N ≤ 32 := by
  have h1 := many_lt (chk_ok h.ck).1
  have := leavesTo_len P P.length
  have e1 := h.nT
  have e2 := h.nN
  have : (leavesL P).length ≤ 32 := by show (leavesTo P P.length).length ≤ 32; omega
  omega
theorem CoFx.node (h : CoFx B a g x c P T) {i : Nat} (hi : i < x.n) : c.node i < x.N ∧ (nodesTo P T T.length)[i]? = some (c.node i : Int) := by
  have hn : i < T.length := by rw [← h.nT]; exact hi
  obtain ⟨y, hy⟩ := getElem?_lt hn
  have hm := thr_mem (chk_ok h.ck).2.2.2 hy
  obtain ⟨k, hk⟩ := Int.eq_ofNat_of_zero_le ((idx_nonneg (leavesL P) y).1.2 hm)
  have hg := idx_get hm hk
  have e : c.node i = k := by
    rw [(h.cn i hi).1]
    unfold nodeQ
    rw [getD_of hy, hk]; rfl
  rw [e, h.nN]
  refine ⟨(List.getElem?_eq_some_iff.1 hg).1, ?_⟩
  unfold nodesTo
  rw [List.take_length, List.getElem?_map, hy]
  show some (idxI (leavesL P) y) = _
  rw [hk]
theorem CoIs.loc (h : CoIs B w a g x c P T st) {i : Nat} (hi : i < x.n) : ∃ (y : Fx) (v : Nat) (S : List Sp), x.X[c.node i]? = some y ∧ x.W[c.node i]? = some v ∧ st.L[c.node i]? = some S ∧ c.slot i < S.length ∧ S[c.slot i]? = some (lsp st.L (c.node i) (c.slot i)) := by
  have hn := (h.fx.node hi).1
  obtain ⟨y, hy⟩ := getElem?_lt (show c.node i < x.X.length by rw [h.fx.lX]; exact hn)
  obtain ⟨v, hv⟩ := getElem?_lt (show c.node i < x.W.length by rw [h.fx.lW]; exact hn)
  obtain ⟨S, hS⟩ := getElem?_lt (show c.node i < st.L.length by rw [h.lL]; exact hn)
  have hs := h.sl i S hi hS
  refine ⟨y, v, S, hy, hv, hS, hs, ?_⟩
  unfold lsp
  have e : st.L.getD (c.node i) [] = S := by rw [List.getD_eq_getElem?_getD, hS]; rfl
  rw [e, List.getD_eq_getElem?_getD, List.getElem?_eq_getElem hs]; rfl
theorem CoIs.glo (h : CoIs B w a g x c P T st) {i : Nat} (hi : i < x.n) : st.G[c.node i]? = some (sv st.G (c.node i)) := by
  have hn := (h.fx.node hi).1
  have : c.node i < st.G.length := by rw [h.lG]; exact hn
  unfold sv
  rw [List.getD_eq_getElem?_getD, List.getElem?_eq_getElem this]; rfl
theorem CoIs.thr (h : CoIs B w a g x c P T st) {i : Nat} (hi : i < x.n) : st.T[i]? = some (sv st.T i) := by
  have : i < st.T.length := by rw [h.lS]; exact hi
  unfold sv
  rw [List.getD_eq_getElem?_getD, List.getElem?_eq_getElem this]; rfl
theorem ne_own {o : Nat → Nat} {i j u v : Nat} (hi : o i = u) (hj : o j = v) (h : u ≠ v) : i ≠ j := fun e => h (by rw [← hi, ← hj, e])
theorem CoIs.turns0 (h : CoIs B w a g x c P T st) (t : Turns [] w w') : CoIs B w' a g x c P T st :=
  { h with ar := h.ar.turns t (by simp) (by simp), lk := t.blk h.lk (by simp), tb := h.tb.turns t (by simp), nd := by obtain ⟨Z, z⟩ := h.nd; exact ⟨Z, t.blk z (by simp)⟩,
           sp := h.sp.turns t (by simp), gl := h.gl.turns t (by simp) (by simp) (by simp) (by simp) (by simp), lo := fun n y S hy hS => (h.lo n y S hy hS).turns t (by simp) (by simp) (by simp) (by simp) (by simp) }
theorem CoIs.below (h : CoIs B w a g x c P T st) (t : Below w.heap.size w w') : CoIs B w' a g x c P T st := h.turns0 (Turns.of_below t)
/-- all but spots and locks, where blocks of whom turned that are none of them -/
theorem CoIs.rest (h : CoIs B w a g x c P T st) {S : List Nat} (t : Turns S w w') (hS : ∀ i ∈ S, 2 ≤ x.o i) :
    Blk w' x.l 82 (coC a x.b c.kg c.kl x.par c.bud (.pointer (some ⟨x.g.p, 0, none⟩)) (.slice (some ⟨x.qn, 0, none⟩) x.N x.capn) (.slice (some ⟨x.qs, 0, none⟩) x.n x.n)) ∧
    TabQ B w' x.b P T ∧ ∃ Z : List Value, Blk w' x.qn 88 ((x.X.zip x.W).flatMap ndE ++ Z).toArray := by
  obtain ⟨Z, z⟩ := h.nd
  exact ⟨t.blk h.lk (fun k => by have := hS _ k; rw [h.fx.ol] at this; omega), h.tb.turns t (fun i hi hb => by have := hS i hi; rw [h.fx.oB i hb] at this; omega), Z, t.blk z (fun k => by have := hS _ k; rw [h.fx.on] at this; omega)⟩
/-- an op on a count's word -/
theorem CoIs.cnt (h : CoIs B w a g x c P T st) (t : Turns [a, g] w w') (ha : ArIs w' a g s') : CoIs B w' a g x c P T { st with s := s' } := by
  obtain ⟨h1, h2, h3⟩ := h.rest t (by intro i hi; simp at hi; rcases hi with rfl | rfl <;> first | (rw [h.fx.oa]; omega) | (rw [h.fx.og]; omega))
  have n2 : ∀ r u, x.o r = u → u ≠ 3 → r ∉ [a, g] := fun r u e hu => by
    simp only [List.mem_cons, List.not_mem_nil, or_false, not_or]
    exact ⟨ne_own e h.fx.oa hu, ne_own e h.fx.og hu⟩
  exact ⟨h.fx, ha, h1, h2, h3, h.sp.turns t (n2 _ _ h.fx.os (by decide)), h.gl.oth t ha (n2 _ _ h.fx.oG.1 (by decide)) (n2 _ _ h.fx.oG.2.1 (by decide)) (n2 _ _ h.fx.oG.2.2 (by decide)),
    fun n y S hy hS => (h.lo n y S hy hS).oth t ha (n2 _ _ (h.fx.oL n y hy).1 (by omega)) (n2 _ _ (h.fx.oL n y hy).2.1 (by omega)) (n2 _ _ (h.fx.oL n y hy).2.2 (by omega)), h.lL, h.lG, h.lS, h.sl⟩
theorem nin3 {o : Nat → Nat} {a g q r u v : Nat} (ha : o a = 3) (hg : o g = 3) (hq : o q = v) (e : o r = u) (h3 : u ≠ 3) (hv : u ≠ v) : r ∉ [a, g, q] := by
  simp only [List.mem_cons, List.not_mem_nil, or_false, not_or]
  exact ⟨ne_own e ha h3, ne_own e hg h3, ne_own e hq hv⟩
/-- an op of a thread's local lock -/
theorem CoIs.locOp (h : CoIs B w a g x c P T st) {i : Nat} (hi : i < x.n) {y : Fx} (hy : x.X[c.node i]? = some y) {p' : Sp} (t : Turns [a, g, y.q] w w')
    (hf : FlIs w' a g c.kl y s' ((st.L.getD (c.node i) []).set (c.slot i) p')) : CoIs B w' a g x c P T { st with s := s', L := lset st.L (c.node i) (c.slot i) p' } := by
  have hq := (h.fx.oL _ y hy).2.2
  obtain ⟨h1, h2, h3⟩ := h.rest t (by intro i hi; simp at hi; rcases hi with rfl | rfl | rfl <;> first | (rw [h.fx.oa]; omega) | (rw [h.fx.og]; omega) | (rw [hq]; omega))
  have n3 : ∀ r u, x.o r = u → u ≠ 3 → u ≠ 5 + c.node i → r ∉ [a, g, y.q] := fun r u e hu hv => nin3 h.fx.oa h.fx.og hq e hu hv
  refine ⟨h.fx, hf.ki.ar, h1, h2, h3, h.sp.turns t (n3 _ _ h.fx.os (by decide) (by omega)), h.gl.oth t hf.ki.ar (n3 _ _ h.fx.oG.1 (by decide) (by omega)) (n3 _ _ h.fx.oG.2.1 (by decide) (by omega)) (n3 _ _ h.fx.oG.2.2 (by decide) (by omega)),
    fun n z S hz hS => ?_, ?_, h.lG, h.lS, fun j S hj hS => ?_⟩
  · unfold lset at hS
    simp only at hS
    rw [List.getElem?_set] at hS
    split at hS
    · rename_i e
      split at hS
      · simp only [Option.some.injEq] at hS
        subst e
        rw [hy] at hz
        injection hz with hz
        subst hz; subst hS
        exact hf
      · cases hS
    · rename_i e
      have hne : ∀ u, u = 5 + n → u ≠ 5 + c.node i := by omega
      exact (h.lo n z S hz hS).oth t hf.ki.ar (n3 _ _ (h.fx.oL n z hz).1 (by omega) (hne _ rfl)) (n3 _ _ (h.fx.oL n z hz).2.1 (by omega) (hne _ rfl)) (n3 _ _ (h.fx.oL n z hz).2.2 (by omega) (hne _ rfl))
  · show (lset _ _ _ _).length = _
    unfold lset; rw [List.length_set]; exact h.lL
  · unfold lset at hS
    simp only at hS
    rw [List.getElem?_set] at hS
    split at hS
    · rename_i e
      split at hS
      · simp only [Option.some.injEq] at hS
        subst hS
        rw [List.length_set]
        rename_i hl
        have := h.sl j (st.L.getD (c.node i) []) hj (by rw [← e, List.getD_eq_getElem?_getD, List.getElem?_eq_getElem hl]; rfl)
        exact this
      · cases hS
    · exact h.sl j S hj hS
/-- an op of the global lock -/
theorem CoIs.gloOp (h : CoIs B w a g x c P T st) {n : Nat} {p' : Sp} (t : Turns [a, g, x.g.q] w w')
    (hf : FlIs w' a g c.kg x.g s' (st.G.set n p')) : CoIs B w' a g x c P T { st with s := s', G := st.G.set n p' } := by
  have hq := h.fx.oG.2.2
  obtain ⟨h1, h2, h3⟩ := h.rest t (by intro i hi; simp at hi; rcases hi with rfl | rfl | rfl <;> first | (rw [h.fx.oa]; omega) | (rw [h.fx.og]; omega) | (rw [hq]; omega))
  have n3 : ∀ r u, x.o r = u → u ≠ 3 → u ≠ 4 → r ∉ [a, g, x.g.q] := fun r u e hu hv => nin3 h.fx.oa h.fx.og hq e hu hv
  exact ⟨h.fx, hf.ki.ar, h1, h2, h3, h.sp.turns t (n3 _ _ h.fx.os (by decide) (by omega)), hf,
    fun n z S hz hS => (h.lo n z S hz hS).oth t hf.ki.ar (n3 _ _ (h.fx.oL n z hz).1 (by omega) (by omega)) (n3 _ _ (h.fx.oL n z hz).2.1 (by omega) (by omega)) (n3 _ _ (h.fx.oL n z hz).2.2 (by omega) (by omega)), h.lL, by show (st.G.set n p').length = _; rw [List.length_set]; exact h.lG, h.lS, h.sl⟩
/-- a store into a thread's spot -/
theorem CoIs.put (h : CoIs B w a g x c P T st) {i : Nat} {p p' : Sp} (hp : st.T[i]? = some p) {j : Nat} {u : Value} (hj : j < 4) (he : (encP4 p).set j u = encP4 p') :
    CoIs B (w.setCell ⟨x.qs, i * 4 + j, none⟩ u) a g x c P T { st with T := st.T.set i p' } := by
  have t : Turns [x.qs] w (w.setCell ⟨x.qs, i * 4 + j, none⟩ u) := turns_q _ _ _
  obtain ⟨h1, h2, h3⟩ := h.rest t (by intro i hi; simp at hi; subst hi; rw [h.fx.os]; omega)
  have n1 : ∀ r v, x.o r = v → v ≠ 2 → r ∉ [x.qs] := fun r v e hv => by simpa using ne_own e h.fx.os hv
  have na := n1 _ _ h.fx.oa (by decide)
  have ng := n1 _ _ h.fx.og (by decide)
  exact ⟨h.fx, h.ar.turns t na ng, h1, h2, h3, h.sp.put hp hj he, h.gl.turns t (n1 _ _ h.fx.oG.1 (by decide)) (n1 _ _ h.fx.oG.2.1 (by decide)) na ng (n1 _ _ h.fx.oG.2.2 (by decide)),
    fun n z S hz hS => (h.lo n z S hz hS).turns t (n1 _ _ (h.fx.oL n z hz).1 (by omega)) (n1 _ _ (h.fx.oL n z hz).2.1 (by omega)) na ng (n1 _ _ (h.fx.oL n z hz).2.2 (by omega)), h.lL, h.lG, by show (st.T.set i p').length = _; rw [List.length_set]; exact h.lS, h.sl⟩
theorem CoIs.put0 (h : CoIs B w a g x c P T st) {i : Nat} {p p' : Sp} (hp : st.T[i]? = some p) {u : Value} (he : (encP4 p).set 0 u = encP4 p') :
    CoIs B (w.setCell ⟨x.qs, i * 4, none⟩ u) a g x c P T { st with T := st.T.set i p' } := h.put hp (j := 0) (by decide) he
/-- a node's row -/
theorem CoIs.row (h : CoIs B w a g x c P T st) {n : Nat} {y : Fx} {v : Nat} (hy : x.X[n]? = some y) (hv : x.W[n]? = some v) :
    w.cell? ⟨x.qn, n * 2, none⟩ = some (.pointer (some ⟨y.p, 0, none⟩)) ∧ w.cell? ⟨x.qn, n * 2 + 1, none⟩ = some (.int .i64 v) := by
  obtain ⟨Z, z⟩ := h.nd
  have hz : (x.X.zip x.W)[n]? = some (y, v) := by rw [List.getElem?_zip_eq_some]; exact ⟨hy, hv⟩
  have c0 := getElem?_flatMap ndE 2 ndE_len _ n _ 0 (.pointer (some ⟨y.p, 0, none⟩)) hz rfl
  have c1 := getElem?_flatMap ndE 2 ndE_len _ n _ 1 (.int .i64 v) hz rfl
  have l0 := (List.getElem?_eq_some_iff.1 c0).1
  have l1 := (List.getElem?_eq_some_iff.1 c1).1
  have e0 := z.cell (n * 2)
  have e1 := z.cell (n * 2 + 1)
  simp only [List.getElem?_toArray] at e0 e1
  rw [List.getElem?_append_left (by simpa using l0), show n * 2 = n * 2 + 0 from rfl, c0] at e0
  rw [List.getElem?_append_left l1, c1] at e1
  exact ⟨e0, e1⟩
theorem results_cell_row3 {P : Program} {fn : Func} {p u v : Tmp} {ty : TypeId} (h : fn.results = #[.cell p ty, .tmp u, .tmp v]) (tmps : Array Value) (w : World) (g : Nat) (t : TypeId) (cs : Array Value) (fr : Nat × Nat) (d : TypeDesc)
    (hp : tmps.getD p undef = .pointer (some ⟨g, 0, none⟩)) (hg : w.heap[g]? = some (.cells cs t fr))
    (hu : P.underlying ty = some d) (hd : (match d with | .struct _ | .array _ _ => true | _ => false) = true) (hi : (P.info? ty).map (·.size) = some cs.size) :
    (results fn tmps).run P w = .ok (.tuple #[.agg cs, tmps.getD u undef, tmps.getD v undef]) w := by
  have hp' : tmps[p]?.getD undef = .pointer (some ⟨g, 0, none⟩) := by simpa using hp
  simp [results, h, hp', asAddr, run_loadVar_row w g t ty cs fr d hg hu hd hi]
theorem threadsCo (h : CoIs B w a g x c P T st) : Calls Tryz.prog 97 #[.pointer (some ⟨x.l, 0, none⟩)] w fun e w' => e = .returned (.int .i64 x.n) ∧ w = w' := by
  have c8 : w.cell? ⟨x.l, 8, none⟩ = some (.slice (some ⟨x.qs, 0, none⟩) x.n x.n) := h.lk.cell 8
  clear h
  go_enter Tryz.func97, Tryz.ntmps97
  go_wp2
  go_ret
  exact ⟨rfl, rfl⟩
theorem hasCo (h : CoIs B w a g x c P T st) (i : Nat) (hi : i < x.n) : Calls Tryz.prog 54 #[.pointer (some ⟨x.l, 0, none⟩), .int .i64 i] w fun e w' => e = .returned (.bool true) ∧ w = w' := by
  have HT := Lib.hid (threadsCo h)
  have hn := h.fx.n32
  have t1 : (0 : Int) ≤ i := by omega
  have t2 : (i : Int) < x.n := by omega
  clear h
  go_enter Tryz.func54, Tryz.ntmps54
  go_wp2_with fail
  refine HT.out.mono ?_
  rintro en w1 ⟨rfl, rfl⟩
  go_wp2
  go_ret
  exact ⟨rfl, rfl⟩
set_option maxHeartbeats 400000 in
theorem spotCo (h : CoIs B w a g x c P T st) (i : Nat) (hi : i < x.n) :
    Calls Tryz.prog 19 #[.pointer (some ⟨x.l, 0, none⟩), .int .i64 i] w fun e w' => e = .returned (spotV (sv st.T i)) ∧ Below w.heap.size w w' := by
  have H : Hid (CoIs B (w.alloc (.cells #[.int .i64 0, .int .i64 0, .int .i64 0, .int .i64 0] 46)) a g x c P T st) := Lib.hid (h.below ((Below.refl _ _).alloc (Nat.le_refl _) _))
  have hp := h.thr hi
  obtain ⟨p, hpp⟩ : ∃ p, p = sv st.T i := ⟨_, rfl⟩
  rw [← hpp] at hp ⊢
  have c8 : w.cell? ⟨x.l, 8, none⟩ = some (.slice (some ⟨x.qs, 0, none⟩) x.n x.n) := h.lk.cell 8
  have a0 := h.sp.cell hp 0 _ rfl
  have a1 := h.sp.cell hp 1 _ rfl
  have a2 := h.sp.cell hp 2 _ rfl
  have a3 := h.sp.cell hp 3 _ rfl
  simp only [Nat.add_zero] at a0
  have HH := Lib.hid (hasCo H.out i hi)
  have hs1 := h.lk.lt
  have hs2 := h.sp.lt
  have t2 : ¬ (i : Int) < 0 := by omega
  clear h hp hpp
  go_enter Tryz.func19, Tryz.ntmps19
  go_wp2_with (go_at_call 54; refine HH.out.mono ?_; rintro e w' ⟨rfl, rfl⟩)
  exact bodyPost_ret (results_cell_row (by rfl) _ _ w.heap.size 46 _ (0, 0) _ (by rfl) (heap_alloc_new w _) Tryz.underlying46 rfl (by kernel_rfl)) rfl ⟨rfl, (Below.refl _ _).alloc (Nat.le_refl _) _⟩
set_option maxRecDepth 100000 in
set_option maxHeartbeats 2000000 in
theorem ofCo (h : CoIs B w a g x c P T st) (i : Nat) (hi : i < x.n) {y : Fx} {v : Nat} (hy : x.X[c.node i]? = some y) (hv : x.W[c.node i]? = some v) :
    Calls Tryz.prog 55 #[.pointer (some ⟨x.l, 0, none⟩), .int .i64 i] w fun e w' => e = .returned (.tuple #[.agg #[.pointer (some ⟨y.p, 0, none⟩), .int .i64 v], .int .i64 (c.node i : Int), .int .i64 (c.slot i : Int)]) ∧ Below w.heap.size w w' := by
  have hn := h.fx.n32
  obtain ⟨hN, hnd⟩ := h.fx.node hi
  have hT : i < T.length := by rw [← h.fx.nT]; exact hi
  have hsl := (h.fx.cn i hi).2
  obtain ⟨r0, r1⟩ := h.row hy hv
  have b1 := (Below.refl w.heap.size w).alloc (Nat.le_refl _) (.cells #[.pointer none, .int .i64 0] 88)
  have h1 := h.below b1
  have c1 : w.cell? ⟨x.l, 1, none⟩ = some (.pointer (some ⟨x.b, 0, none⟩)) := h.lk.cell 1
  have c7 : w.cell? ⟨x.l, 7, none⟩ = some (.slice (some ⟨x.qn, 0, none⟩) x.N x.capn) := h.lk.cell 7
  have HN := Lib.hid (nodeF (w.alloc (.cells #[.pointer none, .int .i64 0] 88)) x.b P T i hT h1.tb.f _ hnd)
  have hsf := slotF (w.alloc (.cells #[.pointer none, .int .i64 0] 88)).drew x.b P T i hT (h1.below (Below.drew (Below.refl _ _))).tb.f
  rw [← hsl] at hsf
  have HS := Lib.hid hsf
  have hl1 := h.lk.lt
  obtain ⟨nd, he⟩ : ∃ nd, nd = c.node i := ⟨_, rfl⟩
  rw [← he] at hN r0 r1 HN ⊢
  obtain ⟨sl, hs⟩ : ∃ s, s = c.slot i := ⟨_, rfl⟩
  rw [← hs] at HS ⊢
  have t1 : (0 : Int) ≤ (nd : Int) := by omega
  have t2 : (nd : Int) < x.N := by omega
  have t3 : (nd : Int) ≤ x.N := by omega
  have HB := Lib.hid b1
  have HK : Hid (∀ o : Obj, (w.alloc o).drew.cell? ⟨x.l, 1, none⟩ = some (.pointer (some ⟨x.b, 0, none⟩)) ∧ (w.alloc o).drew.cell? ⟨x.l, 7, none⟩ = some (.slice (some ⟨x.qn, 0, none⟩) x.N x.capn) ∧ (w.alloc o).drew.cell? ⟨x.qn, nd * 2, none⟩ = some (.pointer (some ⟨y.p, 0, none⟩)) ∧ (w.alloc o).drew.cell? ⟨x.qn, nd * 2 + 1, none⟩ = some (.int .i64 v)) := Lib.hid fun o => by
    have ho := h.below (((Below.refl w.heap.size w).alloc (Nat.le_refl _) o).drew)
    exact ⟨ho.lk.cell 1, ho.lk.cell 7, (ho.row (he ▸ hy) (he ▸ hv)).1, (ho.row (he ▸ hy) (he ▸ hv)).2⟩
  clear h h1 b1 hsf hy hv hnd hsl he hs r0 r1
  go_enter Tryz.func55, Tryz.ntmps55
  go_wp2_with fail
  refine HN.out.mono ?_
  rintro en w1 ⟨rfl, rfl⟩
  go_wp2_with fail
  go_region_held3 (fun W => W.cell? ⟨x.l, 1, none⟩ = some (.pointer (some ⟨x.b, 0, none⟩)) ∧ W.cell? ⟨x.l, 7, none⟩ = some (.slice (some ⟨x.qn, 0, none⟩) x.N x.capn) ∧ W.cell? ⟨x.qn, nd * 2, none⟩ = some (.pointer (some ⟨y.p, 0, none⟩)) ∧ W.cell? ⟨x.qn, nd * 2 + 1, none⟩ = some (.int .i64 v))
    (first | exact HK.out _)
    (first | (go_at_call 98; go_loud (refine HS.out.mono ?_); rintro en w3 ⟨rfl, rfl⟩))
  all_goals
    go_wp2
    exact bodyPost_ret (results_cell_row3 (by rfl) _ _ w.heap.size 88 _ (0, 0) _ (by rfl) (heap_alloc_new w _) Tryz.underlying88 rfl (by kernel_rfl)) rfl ⟨rfl, ((Below.refl _ _).alloc (Nat.le_refl _) _).drew⟩
end
end Go.Proofs.YtndipiockdmaoaaGreat
end
section
set_option linter.unusedVariables false
set_option linter.unusedSimpArgs false
/- Layer 24 (cohort): what the locks' methods do to a lock of nodes, in its own words. -/
namespace Go.Proofs.YtndipiockdmaoaaGreat
open Go.RowKit

/-- the blocks that turn -/
def CoS (a g : Nat) (x : Cox) : List Nat := a :: g :: x.qs :: x.g.q :: x.X.map Fx.q
/-- what a step asks of what is -/
structure CoPre (BB : Int) (x : Cox) (c : CoC) (st : Co) : Prop where
  ops : st.s.ops + 1 ≤ 1000000000000
  bd : CoB c BB st
  B0 : 1 ≤ BB
  B1 : BB ≤ 10000000000
  ig : inR st.s.W x.g.t = true
  il : ∀ (n : Nat) (y : Fx), x.X[n]? = some y → inR st.s.W y.t = true
  v : CoV c x.n st
section
variable {B : Nat → Prop} {w w' : World} {a g : Nat} {x : Cox} {c : CoC} {P T : List Int} {st st' : Co} {s' : Ar} {BB : Int}
theorem CoIs.lts (h : CoIs B w a g x c P T st) : ∀ r ∈ CoS a g x, r < w.heap.size := by
  intro r hr
  unfold CoS at hr
  simp only [List.mem_cons] at hr
  rcases hr with rfl | rfl | rfl | rfl | hr
  · exact h.ar.blk.lt
  · exact h.ar.wds.lt
  · exact h.sp.lt
  · exact h.gl.ki.sp.lt
  · obtain ⟨y, hy, rfl⟩ := List.mem_map.1 hr
    obtain ⟨n, hn, e⟩ := List.getElem_of_mem hy
    have hl : n < st.L.length := by rw [h.lL, ← h.fx.lX]; exact hn
    exact (h.lo n y _ (by rw [List.getElem?_eq_getElem hn, e]) (List.getElem?_eq_getElem hl)).ki.sp.lt
theorem tS_agy {y : Fx} {n : Nat} (hy : x.X[n]? = some y) (t : Turns [a, g, y.q] w w') : Turns (CoS a g x) w w' := by
  refine t.mono ?_
  intro i hi
  have hm : y.q ∈ x.X.map Fx.q := List.mem_map.2 ⟨y, List.mem_of_getElem? hy, rfl⟩
  unfold CoS
  simp only [List.mem_cons, List.not_mem_nil, or_false] at hi ⊢
  rcases hi with rfl | rfl | rfl
  · exact .inl rfl
  · exact .inr (.inl rfl)
  · exact .inr (.inr (.inr (.inr hm)))
theorem tS_agG (t : Turns [a, g, x.g.q] w w') : Turns (CoS a g x) w w' := by
  refine t.mono ?_
  intro i hi
  unfold CoS
  simp only [List.mem_cons, List.not_mem_nil, or_false] at hi ⊢
  rcases hi with rfl | rfl | rfl <;> simp
theorem tS_ag (t : Turns [a, g] w w') : Turns (CoS a g x) w w' := by
  refine t.mono ?_
  intro i hi
  unfold CoS
  simp only [List.mem_cons, List.not_mem_nil, or_false] at hi ⊢
  rcases hi with rfl | rfl <;> simp
theorem tS_qs (i : Nat) (u : Value) : Turns (CoS a g x) w (w.setCell ⟨x.qs, i, none⟩ u) := (Turns.refl _ _).setCell (.inl (by unfold CoS; simp)) _
theorem preL (h : CoIs B w a g x c P T st) (C : CoPre BB x c st) {n : Nat} {y : Fx} {S : List Sp} (hy : x.X[n]? = some y) (hS : st.L[n]? = some S) : PreK c.kl y st.s S BB :=
  ⟨C.ops, C.bd.w, C.bd.l S (List.mem_of_getElem? hS), C.B0, C.B1, C.il n y hy⟩
theorem preG (C : CoPre BB x c st) : PreK c.kg x.g st.s st.G BB := ⟨C.ops, C.bd.w, C.bd.g, C.B0, C.B1, C.ig⟩
theorem getD_some' {α : Type} {l : List α} {n : Nat} {z d : α} (h : l[n]? = some z) : l.getD n d = z := by rw [List.getD_eq_getElem?_getD, h]; rfl
theorem co_stepL (h : CoIs B w a g x c P T st) (C : CoPre BB x c st) (i : Nat) (hi : i < x.n) {y : Fx} (hy : x.X[c.node i]? = some y) :
    Calls Tryz.prog 100 #[.pointer (some ⟨y.p, 0, none⟩), .int .i64 (c.slot i)] w fun e w' => e = .returned (.bool (camL c st i)) ∧ CoIs B w' a g x c P T { st with s := (stL c st i).1, L := setL c st i (stL c st i).2 } ∧ Turns (CoS a g x) w w' := by
  obtain ⟨y', v, S, hy', hv, hS, hs, hsp⟩ := h.loc hi
  rw [hy] at hy'
  injection hy' with e
  subst e
  have e1 := (h.fx.tl _ _ hy).1
  have e2 := (h.fx.tl _ _ hy).2
  have eS : st.L.getD (c.node i) [] = S := getD_some' hS
  refine (fl_step (h.lo _ _ _ hy hS) h.fx.kl (c.slot i) _ hsp (preL h C hy hS) (C.v.lpc hi)).mono ?_
  rintro e w' ⟨rfl, hf, t⟩
  rw [← e1, e2] at hf
  rw [← e1, e2]
  refine ⟨rfl, ?_, tS_agy hy t⟩
  refine h.locOp hi hy t ?_
  rw [eS]
  exact hf
theorem co_stepG (h : CoIs B w a g x c P T st) (C : CoPre BB x c st) (i : Nat) (hi : i < x.n) :
    Calls Tryz.prog 100 #[.pointer (some ⟨x.g.p, 0, none⟩), .int .i64 (c.node i)] w fun e w' => e = .returned (.bool (camG c st i)) ∧ CoIs B w' a g x c P T { st with s := (stG c st i).1, G := st.G.set (c.node i) (stG c st i).2 } ∧ Turns (CoS a g x) w w' := by
  have e1 := h.fx.tg
  have e2 := h.fx.gm
  refine (fl_step h.gl h.fx.kg (c.node i) _ (h.glo hi) (preG C) (C.v.gpc hi)).mono ?_
  rintro e w' ⟨rfl, hf, t⟩
  rw [← e1, e2] at hf
  rw [← e1, e2]
  exact ⟨rfl, h.gloOp t hf, tS_agG t⟩
theorem co_leaveL (h : CoIs B w a g x c P T st) (i : Nat) (hi : i < x.n) {y : Fx} (hy : x.X[c.node i]? = some y) :
    Calls Tryz.prog 104 #[.pointer (some ⟨y.p, 0, none⟩), .int .i64 (c.slot i)] w fun e w' => (∃ b, e = .returned (.bool b)) ∧ CoIs B w' a g x c P T { st with L := setL c st i (leaveK (lsp st.L (c.node i) (c.slot i))) } ∧ Turns (CoS a g x) w w' := by
  obtain ⟨y', v, S, hy', hv, hS, hs, hsp⟩ := h.loc hi
  rw [hy] at hy'
  injection hy' with e
  subst e
  have eS : st.L.getD (c.node i) [] = S := getD_some' hS
  refine (fl_leave (h.lo _ _ _ hy hS) h.fx.kl (c.slot i) _ hsp).mono ?_
  rintro e w' ⟨rfl, hf, t⟩
  have t' : Turns [a, g, y.q] w w' := turns_qag t
  refine ⟨⟨_, rfl⟩, ?_, tS_agy hy t'⟩
  refine h.locOp hi hy t' ?_
  rw [eS]
  exact hf
theorem co_leaveG (h : CoIs B w a g x c P T st) (i : Nat) (hi : i < x.n) :
    Calls Tryz.prog 104 #[.pointer (some ⟨x.g.p, 0, none⟩), .int .i64 (c.node i)] w fun e w' => (∃ b, e = .returned (.bool b)) ∧ CoIs B w' a g x c P T { st with G := st.G.set (c.node i) (leaveK (sv st.G (c.node i))) } ∧ Turns (CoS a g x) w w' := by
  refine (fl_leave h.gl h.fx.kg (c.node i) _ (h.glo hi)).mono ?_
  rintro e w' ⟨rfl, hf, t⟩
  exact ⟨⟨_, rfl⟩, h.gloOp (turns_qag t) hf, tS_agG (turns_qag t)⟩
theorem co_askL (h : CoIs B w a g x c P T st) (i : Nat) (hi : i < x.n) {y : Fx} (hy : x.X[c.node i]? = some y) :
    Calls Tryz.prog 56 #[.pointer (some ⟨y.p, 0, none⟩), .int .i64 (c.slot i)] w fun e w' => (∃ b, e = .returned (.bool b)) ∧ CoIs B w' a g x c P T { st with L := setL c st i (askK c.kl (lsp st.L (c.node i) (c.slot i))) } ∧ Turns (CoS a g x) w w' := by
  obtain ⟨y', v, S, hy', hv, hS, hs, hsp⟩ := h.loc hi
  rw [hy] at hy'
  injection hy' with e
  subst e
  have eS : st.L.getD (c.node i) [] = S := getD_some' hS
  refine (fl_ask (h.lo _ _ _ hy hS) h.fx.kl (c.slot i) _ hsp).mono ?_
  rintro e w' ⟨rfl, hf, t⟩
  have t' : Turns [a, g, y.q] w w' := turns_qag t
  refine ⟨⟨_, rfl⟩, ?_, tS_agy hy t'⟩
  refine h.locOp hi hy t' ?_
  rw [eS]
  exact hf
theorem co_askG (h : CoIs B w a g x c P T st) (i : Nat) (hi : i < x.n) :
    Calls Tryz.prog 56 #[.pointer (some ⟨x.g.p, 0, none⟩), .int .i64 (c.node i)] w fun e w' => (∃ b, e = .returned (.bool b)) ∧ CoIs B w' a g x c P T { st with G := st.G.set (c.node i) (askK c.kg (sv st.G (c.node i))) } ∧ Turns (CoS a g x) w w' := by
  refine (fl_ask h.gl h.fx.kg (c.node i) _ (h.glo hi)).mono ?_
  rintro e w' ⟨rfl, hf, t⟩
  exact ⟨⟨_, rfl⟩, h.gloOp (turns_qag t) hf, tS_agG (turns_qag t)⟩
def aloneC (c : CoC) (st : Co) (i : Nat) : Ar × Bool := aloneK c.kl (c.tl (c.node i)) st.s (c.slot i) (lsp st.L (c.node i) (c.slot i))
theorem co_alone (h : CoIs B w a g x c P T st) (C : CoPre BB x c st) (i : Nat) (hi : i < x.n) {y : Fx} (hy : x.X[c.node i]? = some y) (h10 : (lsp st.L (c.node i) (c.slot i)).pc = 10) :
    Calls Tryz.prog 103 #[.pointer (some ⟨y.p, 0, none⟩), .int .i64 (c.slot i)] w fun e w' => e = .returned (.bool (aloneC c st i).2) ∧ CoIs B w' a g x c P T { st with s := (aloneC c st i).1 } ∧ Turns (CoS a g x) w w' := by
  obtain ⟨y', v, S, hy', hv, hS, hs, hsp⟩ := h.loc hi
  rw [hy] at hy'
  injection hy' with e
  subst e
  have e1 := (h.fx.tl _ _ hy).1
  have eS : st.L.getD (c.node i) [] = S := getD_some' hS
  refine (fl_alone (h.lo _ _ _ hy hS) h.fx.kl (c.slot i) _ hsp (preL h C hy hS) h10).mono ?_
  rintro e w' ⟨rfl, hf, t⟩
  rw [← e1] at hf
  rw [← e1]
  refine ⟨rfl, ?_, tS_agy hy t⟩
  have hl := h.locOp (p' := lsp st.L (c.node i) (c.slot i)) hi hy t (s' := (aloneC c st i).1) (by rw [eS, setS_id hsp]; exact hf)
  have eL : lset st.L (c.node i) (c.slot i) (lsp st.L (c.node i) (c.slot i)) = st.L := by
    unfold lset
    rw [eS, setS_id hsp]
    obtain ⟨hl, he⟩ := List.getElem?_eq_some_iff.1 hS; rw [← he]; exact List.set_getElem_self hl
  rw [eL] at hl
  exact hl
theorem co_load (h : CoIs B w a g x c P T st) (ho : st.s.ops + 1 ≤ 1000000000000) (n : Nat) {v : Nat} (hv : x.W[n]? = some v) :
    Calls Tryz.prog 77 #[.pointer (some ⟨a, 0, none⟩), .int .i64 v] w fun e w' => e = .returned (.int .i64 (ldW st.s.W (c.cw n))) ∧ CoIs B w' a g x c P T { st with s := loadA st.s (c.cw n) } ∧ Turns (CoS a g x) w w' := by
  have e1 := (h.fx.cc n v hv).1
  rw [e1]
  refine (load_any h.ar v ho).mono ?_
  rintro e w' ⟨rfl, hf, t⟩
  exact ⟨rfl, h.cnt t hf, tS_ag t⟩
theorem co_store (h : CoIs B w a g x c P T st) (ho : st.s.ops + 1 ≤ 1000000000000) (n : Nat) {v : Nat} (hv : x.W[n]? = some v) (u : Int) :
    Calls Tryz.prog 101 #[.pointer (some ⟨a, 0, none⟩), .int .i64 v, .int .i64 u] w fun e w' => e = .returned (.tuple #[]) ∧ CoIs B w' a g x c P T { st with s := storeA st.s (c.cw n) u } ∧ Turns (CoS a g x) w w' := by
  have e1 := (h.fx.cc n v hv).1
  rw [e1]
  refine (store_any h.ar v u ho).mono ?_
  rintro e w' ⟨rfl, hf, t⟩
  exact ⟨rfl, h.cnt t hf, tS_ag t⟩
/-- a lock, and a copy of a node behind it; what turned since a world w0 -/
structure CoN (B : Nat → Prop) (w0 w : World) (a g : Nat) (x : Cox) (c : CoC) (P T : List Int) (st : Co) (k : Nat) (y : Fx) (v : Nat) : Prop where
  is : CoIs B w a g x c P T st
  nb : Blk w k 88 #[.pointer (some ⟨y.p, 0, none⟩), .int .i64 v]
  nS : k ∉ CoS a g x
  tn : Turns (CoS a g x) w0 w
variable {w0 : World}
theorem CoN.to {k : Nat} {y : Fx} {v : Nat} (h : CoN B w0 w a g x c P T st k y v) (h2 : CoIs B w' a g x c P T st') (t : Turns (CoS a g x) w w') : CoN B w0 w' a g x c P T st' k y v :=
  ⟨h2, t.blk h.nb h.nS, h.nS, h.tn.trans t⟩
theorem CoN.put {k : Nat} {y : Fx} {v : Nat} (h : CoN B w0 w a g x c P T st k y v) {i : Nat} {p p' : Sp} (hp : st.T[i]? = some p) {j : Nat} {u : Value} (hj : j < 4) (he : (encP4 p).set j u = encP4 p') :
    CoN B w0 (w.setCell ⟨x.qs, i * 4 + j, none⟩ u) a g x c P T { st with T := st.T.set i p' } k y v := h.to (h.is.put hp hj he) (tS_qs _ _)
theorem CoN.drew {k : Nat} {y : Fx} {v : Nat} (h : CoN B w0 w a g x c P T st k y v) : CoN B w0 w.drew a g x c P T st k y v := h.to (h.is.below (Below.refl _ _).drew) (Turns.refl _ _).drew
/-- what is read -/
theorem CoN.ar (h : CoIs B w a g x c P T st) : w.cell? ⟨x.l, 0, none⟩ = some (.pointer (some ⟨a, 0, none⟩)) := h.lk.cell 0
theorem CoN.bud (h : CoIs B w a g x c P T st) : w.cell? ⟨x.l, 5, none⟩ = some (.int .i64 c.bud) := h.lk.cell 5
theorem CoN.glo (h : CoIs B w a g x c P T st) : w.cell? ⟨x.l, 6, none⟩ = some (.pointer (some ⟨x.g.p, 0, none⟩)) := h.lk.cell 6
theorem CoN.spots (h : CoIs B w a g x c P T st) : w.cell? ⟨x.l, 8, none⟩ = some (.slice (some ⟨x.qs, 0, none⟩) x.n x.n) := h.lk.cell 8
theorem CoN.n0 {k : Nat} {y : Fx} {v : Nat} (h : CoN B w0 w a g x c P T st k y v) : w.cell? ⟨k, 0, none⟩ = some (.pointer (some ⟨y.p, 0, none⟩)) := h.nb.cell 0
theorem CoN.n1 {k : Nat} {y : Fx} {v : Nat} (h : CoN B w0 w a g x c P T st k y v) : w.cell? ⟨k, 1, none⟩ = some (.int .i64 v) := h.nb.cell 1
theorem CoN.mk' (h : CoIs B w a g x c P T st) {w1 : World} (b1 : Below w.heap.size w w1) (y : Fx) (v : Nat) :
    CoN B w (w1.alloc (.cells #[.pointer (some ⟨y.p, 0, none⟩), .int .i64 v] 88)) a g x c P T st w1.heap.size y v := by
  have hs := b1.size
  refine ⟨h.below (b1.alloc hs _), Blk.new w1 _ _, fun k => ?_, Turns.of_below (b1.alloc hs _)⟩
  have := h.lts _ k
  omega
end
end Go.Proofs.YtndipiockdmaoaaGreat
end
