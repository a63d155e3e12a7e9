/- Joined: Qu3, Co2, CoV. -/
import Derived.Deep.RegionLaw
import Derived.Test.YtfiigndlnihioaaGreatMgFamilyDoorway1
import Derived.Test.YtfiigndlnihioaaGreatMgFamilyDoorway2
import Derived.Test.YtfiigndlnihioaaGreatMgFamilyDoorway5
import Derived.Test.YtfiigndlnihioaaGreatMgFamilyDoorway6
import Derived.Test.YtfiigndlnihioaaGreatMgFamilyDoorway9
section
/- Layer 24 (cohort): a new lock: it comes to be, and the arena has some words more. -/
namespace Go.Proofs.YtfiigndlnihioaaGreat
open Go.RowKit

def nodeQ (P T : List Int) (n : Nat) : Nat := (idxI (leavesL P) (T.getD n 0)).toNat
/-- the number of the first word of a thread's node's gauge -/
def ownQ (P T : List Int) (i : Int) : Int := if 0 ≤ i ∧ i < T.length then 2 * (nodeQ P T i.toNat : Int) + 1 else 0
theorem Turns.cellQ {S : List Nat} {w w' : World} (k : Turns S w w') {p : Addr} {u : Value} (h : w.cell? p = some u) (hS : p.block ∉ S) : w'.cell? p = some u := by
  rw [World.cell?_of_block (w := w) (w' := w') (a := p) (k.block p.block (block_lt_of_cell h) hS)]
  exact h
theorem Turns.grownByQ {w w' : World} {row : Option Nat} (h : w.grownBy w' row) : Turns row.toList w w' :=
  ⟨h.os, h.tape, h.output, h.size, fun i hi hn => h.block i hi (by intro e; rw [← e] at hn; simp at hn)⟩
theorem qmade_const4 (u : Value) (n : Nat) : (madeCells #[u, u, u, u] n).toList = List.replicate n u := by
  unfold madeCells
  rw [Array.toList_map, Array.toList_range]
  refine List.ext_getElem? fun i => ?_
  rw [List.getElem?_map, List.getElem?_replicate]
  by_cases h : i < n
  · rw [List.getElem?_range h, if_pos h]
    have : i % 4 = 0 ∨ i % 4 = 1 ∨ i % 4 = 2 ∨ i % 4 = 3 := by omega
    rcases this with e | e | e | e <;> simp [e]
  · rw [if_neg h]; simp; omega
theorem qflat_zero (n : Nat) : (List.replicate n Sp.zero).flatMap encP4 = List.replicate (n * 4) (.int .i64 0) := by
  induction n with
  | zero => rfl
  | succ n ih => rw [List.replicate_succ, List.flatMap_cons, ih, show (n + 1) * 4 = 4 + n * 4 by omega, ← List.replicate_append_replicate]; rfl
theorem Tryz.infoNd : (Tryz.prog.info? 88).map (fun i => (i.zero, i.size, i.bytes)) = some (some (.agg #[.pointer none, .int .i64 0]), 2, 16) := by kernel_rfl
theorem nodesFstQ (B : Nat → Prop) (w : World) (b : Nat) (P T : List Int) (hc : chkT P T = 0) (h : Tab0Q B w b P T) :
    Calls Tryz.prog 39 #[.pointer (some ⟨b, 0, none⟩)] w fun e w' => e = .returned (.int .i64 ((leavesL P).length : Nat)) ∧ TabQ (fun i => B i ∨ w.heap.size ≤ i) w' b P T ∧ Turns [b] w w' :=
  nodesR w b P T (fun w' => TabQ (fun i => B i ∨ w.heap.size ≤ i) w' b P T ∧ Turns [b] w w') (fun _ h => h.1.f) (found_firstQ B w b P T hc h)
theorem nodesFQ (w : World) (b : Nat) (P T : List Int) (h : TabF w b P T) :
    Calls Tryz.prog 39 #[.pointer (some ⟨b, 0, none⟩)] w fun e w' => e = .returned (.int .i64 ((leavesL P).length : Nat)) ∧ w = w' :=
  nodesR w b P T (fun w' => w = w') (fun _ e => e ▸ h) (found_again w b P T h)
def coC (a b : Nat) (G L par bud : Int) (gp nd sp : Value) : Array Value := #[.pointer (some ⟨a, 0, none⟩), .pointer (some ⟨b, 0, none⟩), .int .i64 G, .int .i64 L, .int .i64 par, .int .i64 bud, gp, nd, sp]
set_option maxRecDepth 100000 in
set_option maxHeartbeats 8000000 in
theorem cohortNew {w : World} {a g : Nat} {s : Ar} (h : ArIs w a g s) (vP vT : Value) (P T : List Int) (hP : RdL w vP 1 encI P) (hT : RdL w vT 1 encI T) (hc : chkT P T = 0) (G L : Int) (hG : 1 ≤ G ∧ G ≤ 5) (hL : 1 ≤ L ∧ L ≤ 5) (par : Nat) (hp : 1 ≤ par ∧ par ≤ 4) (bud : Int) (hb : 0 ≤ bud ∧ bud ≤ 3) (hr : s.W.length + 2500 ≤ s.room) (ho : s.ops + 3000 ≤ 1000000000) :
    Calls Tryz.prog 9 #[.pointer (some ⟨a, 0, none⟩), .agg #[vP, vT], .agg #[.int .i64 G, .int .i64 L, .int .i64 par, .int .i64 bud]] w (NewK w a g s 2500) := by
  obtain ⟨i0, hi, hz0, hz1, hz2⟩ := info_parts Tryz.infoSpF
  obtain ⟨j0, hj, hy0, hy1, hy2⟩ := info_parts Tryz.infoNd
  have HJ := Lib.hid (And.intro hj (And.intro hy0 (And.intro hy1 hy2)))
  clear hj hy0 hy1 hy2
  have hml := many_lt (chk_ok hc).1
  have ha0 := h.blk.lt
  have hg0 := h.wds.lt
  obtain ⟨hT1, hT32⟩ : 1 ≤ T.length ∧ T.length ≤ 32 := ⟨hml.2.2.1, hml.2.2.2⟩
  have hN32 : (leavesL P).length ≤ 32 := by
    have := leavesTo_len P P.length
    show (leavesTo P P.length).length ≤ 32; omega
  have hN1 : 1 ≤ (leavesL P).length := by
    obtain ⟨x, hx⟩ := getElem?_lt (show 0 < T.length by omega)
    exact List.length_pos_of_mem (thr_mem (chk_ok hc).2.2.2 hx)
  have HPD := Lib.hid (And.intro hG (And.intro hL (And.intro hp hb)))
  have H := Lib.hid (And.intro h (And.intro ha0 hg0))
  have HN := Lib.hid (new_yesL ((w.alloc (.cells #[vP, vT] 29)).alloc (.cells #[.int .i64 G, .int .i64 L, .int .i64 par, .int .i64 bud] 31)) vP vT P T ((hP.alloc _).alloc _) ((hT.alloc _).alloc _) hc)
  have HCK := Lib.hid hc
  have HS := Lib.hid (And.intro hr ho)
  have HR := Lib.hid (fun W => rightB bud W hb.1 (by omega))
  have hlo : ((w.alloc (.cells #[vP, vT] 29)).alloc (.cells #[.int .i64 G, .int .i64 L, .int .i64 par, .int .i64 bud] 31)).heap.size = w.heap.size + 2 := by simp
  have B0 := Lib.hid (((Below.refl w.heap.size w).alloc (Nat.le_refl _) (.cells #[vP, vT] 29)).alloc (by simp) (.cells #[.int .i64 G, .int .i64 L, .int .i64 par, .int .i64 bud] 31))
  have hbx := Blk.new (w.alloc (.cells #[vP, vT] 29)) 31 #[.int .i64 G, .int .i64 L, .int .i64 par, .int .i64 bud]
  rw [show (w.alloc (.cells #[vP, vT] 29)).heap.size = w.heap.size + 1 by simp] at hbx
  have BX := Lib.hid hbx
  clear h hP hT hr ho hml ha0 hg0 hc hbx hG hL hp hb
  go_enter Tryz.func9, Tryz.ntmps9
  go_wp2_with fail
  refine HN.out.mono ?_
  rintro en w1 ⟨b, rfl, hb, t1, b1⟩
  rw [hlo] at hb t1 b1
  have K1 := Lib.hid (And.intro (t1.q HCK.out) (And.intro (B0.out.trans (b1.mono (by omega))) (And.intro (Turns.blk (S := []) ⟨b1.os, b1.tape, b1.output, b1.size, fun i hi _ => b1.block i (by omega)⟩ BX.out (by simp)) hb)))
  clear t1 b1 hb HN BX B0
  have p3 : w1.cell? ⟨w.heap.size + 1, 3, none⟩ = some (.int .i64 bud) := K1.out.2.2.1.cell 3
  go_wp2_with fail
  refine (HR.out _).mono ?_
  rintro en w1' ⟨rfl, rfl⟩
  have p0 : w1.cell? ⟨w.heap.size + 1, 0, none⟩ = some (.int .i64 G) := K1.out.2.2.1.cell 0
  have p1 : w1.cell? ⟨w.heap.size + 1, 1, none⟩ = some (.int .i64 L) := K1.out.2.2.1.cell 1
  have p2 : w1.cell? ⟨w.heap.size + 1, 2, none⟩ = some (.int .i64 par) := K1.out.2.2.1.cell 2
  have hpl : w.heap.size + 1 < w1.heap.size := K1.out.2.2.1.lt
  have HTh := Lib.hid (threads_any w1.drew b P T ((K1.out.1.turns ((Turns.refl (S := []) _).drew) (by simp)).tab HCK.out))
  obtain ⟨w4, hrun, hown, hg⟩ := run_makeSlice_full (P := Tryz.prog) w1.drew w1.heap.size 78 46 i0 (.agg #[.int .i64 0, .int .i64 0, .int .i64 0, .int .i64 0]) 4 Tryz.underlying78 hi hz0 hz1 .i64 .i64 T.length (by omega) (by rw [hz2]; omega) (by unfold maxLen; omega) (Nat.le_refl _)
  have H4 := Lib.hid (show Turns [] w1 w4 from ((Turns.refl _ _).drew).trans (Turns.of_below ((Below.refl _ _).grown hg (Nat.le_refl _) (fun j hj => by cases hj))))
  have q0 := H4.out.cellQ p0 (by simp)
  have q1 := H4.out.cellQ p1 (by simp)
  have q2 := H4.out.cellQ p2 (by simp)
  have q3 := H4.out.cellQ p3 (by simp)
  have hw14 : w1.heap.size ≤ w4.heap.size := H4.out.size
  clear hown hg
  go_wp2_with fail
  have HQA := Lib.hid (fun o : Obj => show (w4.alloc o).cell? ⟨w.heap.size + 1, 0, none⟩ = some (.int .i64 G) ∧ (w4.alloc o).cell? ⟨w.heap.size + 1, 1, none⟩ = some (.int .i64 L) ∧ (w4.alloc o).cell? ⟨w.heap.size + 1, 2, none⟩ = some (.int .i64 par) ∧ (w4.alloc o).cell? ⟨w.heap.size + 1, 3, none⟩ = some (.int .i64 bud) from by
    have t : Turns [] w4 (w4.alloc o) := (Turns.refl _ _).alloc o
    exact ⟨t.cellQ q0 (by simp), t.cellQ q1 (by simp), t.cellQ q2 (by simp), t.cellQ q3 (by simp)⟩)
  go_region_held3 (fun W => W.cell? ⟨w.heap.size + 1, 0, none⟩ = some (.int .i64 G) ∧ W.cell? ⟨w.heap.size + 1, 1, none⟩ = some (.int .i64 L) ∧ W.cell? ⟨w.heap.size + 1, 2, none⟩ = some (.int .i64 par) ∧ W.cell? ⟨w.heap.size + 1, 3, none⟩ = some (.int .i64 bud))
    (first | exact ⟨p0, p1, p2, p3⟩ | exact ⟨q0, q1, q2, q3⟩ | exact HQA.out _)
    (first | (go_at_call 37; go_loud (refine HTh.out.mono ?_); rintro en w3 ⟨rfl, rfl⟩))
  obtain ⟨l, hl⟩ : ∃ l, l = w4.heap.size := ⟨_, rfl⟩
  obtain ⟨w5, hw5⟩ : ∃ W, W = w4.alloc (.cells (coC a b G L par bud (.pointer none) (.slice none 0 0) (.slice (some ⟨w1.heap.size, 0, none⟩) T.length T.length)) 82) := ⟨_, rfl⟩
  have hw5' := hw5
  unfold coC at hw5'
  rw [← hw5', ← hl]
  have HB5 := Lib.hid (show Blk w5 l 82 (coC a b G L par bud (.pointer none) (.slice none 0 0) (.slice (some ⟨w1.heap.size, 0, none⟩) T.length T.length)) from by rw [hw5, hl]; exact Blk.new _ _ _)
  have H5 := Lib.hid (show Turns [] w1 w5 from by rw [hw5]; exact H4.out.alloc _)
  have HO := Lib.hid (show a < w.heap.size ∧ g < w.heap.size ∧ w.heap.size + 2 ≤ b ∧ b < w1.heap.size ∧ w1.heap.size ≤ l ∧ w5.heap.size = l + 1 from by
    have e1 : b < w1.heap.size := K1.out.1.low.2
    have e2 := K1.out.2.2.2
    have e4 := H.out
    rw [hw5, hl]
    simp
    omega)
  have HPC : Hid (∀ W, Turns [l, b, a, g] w5 W → W.cell? ⟨w.heap.size + 1, 0, none⟩ = some (.int .i64 G) ∧ W.cell? ⟨w.heap.size + 1, 1, none⟩ = some (.int .i64 L) ∧ W.cell? ⟨w.heap.size + 1, 2, none⟩ = some (.int .i64 par) ∧ W.cell? ⟨w.heap.size + 1, 3, none⟩ = some (.int .i64 bud)) := Lib.hid fun W hW => by
    have o := HO.out
    have t : Turns [l, b, a, g] w1 W := (H5.out.mono (by simp)).trans hW
    have n : w.heap.size + 1 ∉ [l, b, a, g] := by simp; omega
    exact ⟨t.cellQ p0 n, t.cellQ p1 n, t.cellQ p2 n, t.cellQ p3 n⟩
  obtain ⟨N, hN⟩ : ∃ N, N = (leavesL P).length := ⟨_, rfl⟩
  rw [← hN] at hN32 hN1
  have HNo0 := nodesFstQ (fun i => w.heap.size + 2 ≤ i ∧ i < w1.heap.size) w5.drew b P T HCK.out ((K1.out.1.turns H5.out (by simp)).turns ((Turns.refl (S := []) _).drew) (by simp))
  rw [← hN] at HNo0
  have HNo := Lib.hid HNo0
  have HNN := Lib.hid hN
  have HA5 := Lib.hid ((H.out.1.turns (Turns.of_below (S := []) K1.out.2.1) (by simp) (by simp)).turns H5.out (by simp) (by simp))
  have HFl := Lib.hid (fun W (hA : ArIs W a g s) => flatNew hA G HPD.out.1.1 HPD.out.1.2 N hN1 hN32 par HPD.out.2.2.1.1 HPD.out.2.2.1.2 (by have := HS.out; omega) (by have := HS.out; omega))
  have k50 := HPC.out w5 (Turns.refl _ _)
  have hl5 : l < w5.heap.size := HB5.out.lt
  clear hw5 hw5' hl hN HNo0 p0 p1 p2 p3 q0 q1 q2 q3 hrun HQA HTh H4 hw14
  go_wp2_with fail
  go_region_held3 (fun W => W.cell? ⟨w.heap.size + 1, 0, none⟩ = some (.int .i64 G) ∧ W.cell? ⟨w.heap.size + 1, 1, none⟩ = some (.int .i64 L) ∧ W.cell? ⟨w.heap.size + 1, 2, none⟩ = some (.int .i64 par) ∧ W.cell? ⟨w.heap.size + 1, 3, none⟩ = some (.int .i64 bud))
    (first | exact k50 | exact HPC.out _ T6.out | exact HPC.out _ T7.out | exact HPC.out _ T8.out)
    (first
      | (go_at_call 39; go_loud (refine HNo.out.mono ?_); rintro en w6 ⟨rfl, t6, n6⟩; have T6 := Lib.hid (show Turns [l, b, a, g] w5 w6 from ((Turns.refl _ _).drew).trans (n6.mono (by simp))); have Q6 := Lib.hid t6.lt; have A6 := Lib.hid (HA5.out.turns (show Turns [b] w5 w6 from ((Turns.refl _ _).drew).trans n6) (by have := HO.out; simp; omega) (by have := HO.out; simp; omega)); have B6 := Lib.hid (show Blk w6 l _ _ from (show Turns [b] w5 w6 from ((Turns.refl _ _).drew).trans n6).blk HB5.out (by have := HO.out; simp; omega)); clear t6 n6)
      | (go_at_call 38; go_loud (refine (HFl.out w6 A6.out).mono ?_); rintro en w7 ⟨gp, s7, rfl, e1, e2, e3, e4, e5⟩; have T7 := Lib.hid (T6.out.trans (e5.mono (by simp))); have B7 := Lib.hid (e5.blk B6.out (by have := HO.out; simp; omega)); have c6 : w7.cell? ⟨l, 6, none⟩ = some (.pointer none) := B7.out.cell 6; have z6 := B7.out.free 6; have T8 := Lib.hid (T7.out.trans ((Turns.refl [l, b, a, g] w7).setCell (p := ⟨l, 6, none⟩) (.inl (by simp)) (.pointer (some ⟨gp, 0, none⟩)))); have H7 := Lib.hid (And.intro e1 (And.intro e2 (And.intro e3 (And.intro e4 e5)))); clear e1 e2 e3 e4 e5))
  obtain ⟨w8, hw8⟩ : ∃ W, W = w7.setCell ⟨l, 6, none⟩ (.pointer (some ⟨gp, 0, none⟩)) := ⟨_, rfl⟩
  rw [← hw8] at T8 ⊢
  have t78 : Turns [l] w7 w8 := by rw [hw8]; exact (Turns.refl _ _).setCell (.inl (by simp)) _
  have HB8 := Lib.hid (show Blk w8 l 82 (coC a b G L par bud (.pointer (some ⟨gp, 0, none⟩)) (.slice none 0 0) (.slice (some ⟨w1.heap.size, 0, none⟩) T.length T.length)) from by rw [hw8]; exact B7.out.set_ 6 _)
  have HA8 := Lib.hid (H7.out.2.2.1.turns t78 (by have := HO.out; simp; omega) (by have := HO.out; simp; omega))
  have HQ8 := Lib.hid (show TabQ (fun i => ((w.heap.size + 2 ≤ i ∧ i < w1.heap.size) ∨ w5.drew.heap.size ≤ i) ∧ i < w6.heap.size) w8 b P T from by
    have o := HO.out
    refine (Q6.out.turns H7.out.2.2.2.2 (fun i hi hB => ?_)).turns t78 (fun i hi hB => ?_)
    · have e : w5.drew.heap.size = w5.heap.size := rfl
      simp at hi
      omega
    · have e : w5.drew.heap.size = w5.heap.size := rfl
      simp at hi
      omega)
  have hs8 : w5.heap.size ≤ w8.heap.size := T8.out.size
  have hl8 : l < w8.heap.size := by omega
  have HM0 := Lib.hid H7.out.2.2.2.1
  clear hw8 c6 z6 t78 B7 B6 H7 k50
  have HNq0 := nodesFQ w8 b P T HQ8.out.f
  rw [← HNN.out] at HNq0
  have HNq := Lib.hid HNq0
  clear HNq0
  go_wp2_with fail
  refine HNq.out.mono ?_
  rintro en w8' ⟨rfl, rfl⟩
  go_wp2
  go_loopw [56] (fun i wr => ∃ (k : Nat) (v : Value) (xs : List Value) (s' : Ar), i = .int .i64 k ∧ k ≤ N ∧ Blk wr l 82 (coC a b G L par bud (.pointer (some ⟨gp, 0, none⟩)) v (.slice (some ⟨w1.heap.size, 0, none⟩) T.length T.length)) ∧ wr.ownsRow w8.heap.size 88 2 v k xs ∧ ArIs wr a g s' ∧ ArMore s s' (66 + 67 * k) ∧ Turns [l, a, g] w8 wr) (fun i _ => N - (intOf i).toNat)
  case atStart => exact ⟨0, _, [], s7, rfl, by omega, HB8.out, World.ownsRow_nil _ _ _ _, HA8.out, HM0.out, Turns.refl _ _⟩
  case round =>
    obtain ⟨k, v, xs, s', rfl, hk, hb, hown, hA, hM, ht⟩ := hrel
    obtain ⟨wo, rfl⟩ : ∃ wo : World, wo = wr := ⟨_, rfl⟩
    have H := Lib.hid (And.intro hb (And.intro hown (And.intro hA (And.intro hM ht))))
    have h8o := ht.size
    by_cases hlt : k < N
    · obtain ⟨A, cap, rfl⟩ := own_form hown
      have HQo := Lib.hid (show TabQ (fun i => ((w.heap.size + 2 ≤ i ∧ i < w1.heap.size) ∨ w5.drew.heap.size ≤ i) ∧ i < w6.heap.size) wo.drew b P T from by
        have o := HO.out
        have e : w5.drew.heap.size = w5.heap.size := rfl
        exact (HQ8.out.turns ht (fun i hi hB => by simp at hi; omega)).turns ((Turns.refl (S := []) _).drew) (by simp))
      obtain ⟨x, hx⟩ := getElem?_lt (show k < (leavesL P).length by rw [← HNN.out]; exact hlt)
      have HMt := Lib.hid (matesF wo.drew b P T HQo.out.f hx)
      have hct : T.count x ≤ 32 := Nat.le_trans List.count_le_length hT32
      obtain ⟨ct, hcte⟩ : ∃ ct, ct = T.count x := ⟨_, rfl⟩
      rw [← hcte] at HMt hct
      have ho8 : Turns [l, b, a, g] w5 wo := T8.out.trans (ht.mono (by simp))
      have HPo := Lib.hid (HPC.out wo ho8)
      obtain ⟨p0, p1, p2, p3⟩ := HPC.out wo ho8
      have hlen : s'.W.length + 100 ≤ s'.room ∧ s'.ops + 100 ≤ 1000000000 := by
        have h1 := hM.len
        have h2 := hM.room
        have h3 := hM.ops
        have h4 := HS.out
        omega
      have HFL := Lib.hid (fun n (h1 : 1 ≤ n) (h2 : n ≤ 32) => flatNew (w := wo.drew) (hA.turns ((Turns.refl (S := []) _).drew) (by simp) (by simp)) L HPD.out.2.1.1 HPD.out.2.1.2 n h1 h2 par HPD.out.2.2.1.1 HPD.out.2.2.1.2 (by omega) (by omega))
      have hllo := hb.lt
      have ho8 := Lib.hid ho8
      clear hb hown hA hM ht hx hcte
      obtain ⟨z, hz⟩ : ∃ z : Int, z = (ct : Int) := ⟨_, rfl⟩
      rw [← hz] at HMt
      obtain ⟨n, hn⟩ : ∃ n : Nat, n = max 1 ct := ⟨_, rfl⟩
      have hif : (if 1 < z then z else 1) = (n : Int) := by split <;> omega
      have HF1 := Lib.hid (HFL.out n (by omega) (by omega))
      clear hn
      clear hz hct
      go_wp2_with fail
      go_region_held3 (fun W => W.cell? ⟨w.heap.size + 1, 0, none⟩ = some (.int .i64 G) ∧ W.cell? ⟨w.heap.size + 1, 1, none⟩ = some (.int .i64 L) ∧ W.cell? ⟨w.heap.size + 1, 2, none⟩ = some (.int .i64 par) ∧ W.cell? ⟨w.heap.size + 1, 3, none⟩ = some (.int .i64 bud))
        (first | exact HPo.out | exact HP7.out)
        (first
          | (go_at_call 40; go_loud (refine HMt.out.mono ?_); rintro en w6' ⟨rfl, rfl⟩)
          | (go_at_call 38; go_loud (refine HF1.out.mono ?_); rintro en w7' ⟨gq, s2, rfl, e1, e2, e3, e4, e5⟩; have T7' := Lib.hid (show Turns [a, g] wo w7' from ((Turns.refl _ _).drew).trans e5); have HP7 := Lib.hid (HPC.out w7' (ho8.out.trans (T7'.out.mono (by simp)))); have H7' := Lib.hid (And.intro e3 e4); clear e1 e2 e3 e4 e5))
      all_goals
        have hlen2 : s2.W.length + 1 ≤ s2.room := by
          have h1 := H7'.out.2.len
          have h2 := H7'.out.2.room
          have h3 := hlen.1
          omega
        go_wp2_with fail
        refine (takeY H7'.out.1 1 hlen2).mono ?_
        rintro en w9 ⟨rfl, k9, t9⟩
        have T9 := Lib.hid (T7'.out.trans (t9.mono (by simp)))
        have H9 := Lib.hid k9
        have hna : l ∉ [a, g] := by have := HO.out; simp; omega
        have bl9 : Blk w9 l 82 (coC a b G L par bud (.pointer (some ⟨gp, 0, none⟩)) (.slice A k cap) (.slice (some ⟨w1.heap.size, 0, none⟩) T.length T.length)) := T9.out.blk H.out.1 hna
        have o9 : w9.ownsRow w8.heap.size 88 2 (.slice A k cap) k xs := Turns.own H.out.2.1 T9.out (fun x hx => by have := (H.out.2.1.lt x hx).1; have := HO.out; simp; omega)
        have c7 : w9.cell? ⟨l, 7, none⟩ = some (.slice A k cap) := bl9.cell 7
        have hs9 : wo.heap.size ≤ w9.heap.size := T9.out.size
        have hll9 := bl9.lt
        have hlow : (Value.slice A k cap).ownBlock ≠ some l := fun e => by have := (H.out.2.1.lt l e).1; omega
        have HB9 := Lib.hid bl9
        have HO9 := Lib.hid o9
        clear k9 t9 bl9 o9 hna
        go_wp2_with (at_builtin; refine wpList_append_lies _ rfl _ _ 80 rfl w8.heap.size 88 j0 (.agg #[.pointer none, .int .i64 0]) 2 16 Tryz.underlying80 HJ.out.1 HJ.out.2.1 HJ.out.2.2.1 HJ.out.2.2.2 rfl (by decide) _ _ _ rfl (HO9.out.alloc _) ⟨w9.heap.size, 0, none⟩ 1 1 [.pointer (some ⟨gq, 0, none⟩), .int .i64 ((s2.W.length : Int) + 1)] rfl rfl (cells_newF _ _ _) (by simp [Value.oneCell']) (by decide) ?c3 ?c4 ?c5 _ rfl ?_)
        case c3 => unfold maxLen; omega
        case c4 => omega
        case c5 => simp; omega
        intro g3 cap3 w10 h3 hg3 hl3 hlt3
        have bl10 := (HB9.out.alloc (.cells #[.pointer (some ⟨gq, 0, none⟩), .int .i64 ((s2.W.length : Int) + 1)] 88)).grown hg3 (fun e => hlow e.symm)
        have c10 : w10.cell? ⟨l, 7, none⟩ = some (.slice A k cap) := bl10.cell 7
        have z10 := bl10.free 7
        obtain ⟨w11, hw11⟩ : ∃ W, W = w10.setCell ⟨l, 7, none⟩ (.slice (some ⟨g3, 0, none⟩) (k + 1) cap3) := ⟨_, rfl⟩
        have tr : Turns (l :: (Value.slice A k cap).ownBlock.toList) w9 w11 := by
          rw [hw11]
          exact (((Turns.refl _ _).alloc _).trans ((Turns.grownByQ hg3).mono fun i hi => List.mem_cons_of_mem _ hi)).trans ((Turns.refl _ _).setCell (.inl (by simp)) _)
        have HR1 := Lib.hid (show Blk w11 l 82 (coC a b G L par bud (.pointer (some ⟨gp, 0, none⟩)) (.slice (some ⟨g3, 0, none⟩) (k + 1) cap3) (.slice (some ⟨w1.heap.size, 0, none⟩) T.length T.length)) from by rw [hw11]; exact bl10.set_ 7 _)
        have HR2 := Lib.hid (show w11.ownsRow w8.heap.size 88 2 (.slice (some ⟨g3, 0, none⟩) (k + 1) cap3) (k + 1) (xs ++ [.pointer (some ⟨gq, 0, none⟩), .int .i64 ((s2.W.length : Int) + 1)]) from by
          rw [hw11]
          have hg3b := (h3.lt g3 rfl).1
          exact Turns.own h3 ((Turns.refl [l] _).setCell (.inl (by simp)) _) (fun x hx => by injection hx with hx; subst hx; simp; omega))
        have hlowA : ∀ x, (Value.slice A k cap).ownBlock = some x → w8.heap.size ≤ x := fun x hx => (H.out.2.1.lt x hx).1
        have HR3 := Lib.hid (show ArIs w11 a g (takeS s2 1) from H9.out.turns tr (fun hm => by
          have := HO.out
          rcases List.mem_cons.1 hm with e | e
          · omega
          · have := hlowA a (by simpa using e); omega) (fun hm => by
          have := HO.out
          rcases List.mem_cons.1 hm with e | e
          · omega
          · have := hlowA g (by simpa using e); omega))
        have HR4 := Lib.hid (show ArMore s (takeS s2 1) (66 + 67 * (k + 1)) from ((H.out.2.2.2.1.trans H7'.out.2).trans (takeS_more s2 1)).le (by omega))
        have HR5 := Lib.hid (show Turns [l, a, g] w8 w11 from by
          have t1 : Turns ([l, a, g] ++ (Value.slice A k cap).ownBlock.toList) w8 w11 := ((H.out.2.2.2.2.mono fun i hi => List.mem_append_left _ hi).trans (T9.out.mono fun i hi => List.mem_append_left _ (by simp at hi ⊢; omega))).trans (tr.mono fun i hi => by
            rcases List.mem_cons.1 hi with e | e
            · exact List.mem_append_left _ (by simp [e])
            · exact List.mem_append_right _ e)
          refine t1.fresh fun i hi => ?_
          rcases List.mem_append.1 hi with hi | hi
          · exact .inl hi
          · exact .inr (hlowA i (by simpa using hi)))
        rw [hw11] at HR1 HR2 HR3 HR5
        clear h3 hg3 hl3 bl10 HB9 HO9 H9 tr hw11 hlowA
        go_wp2
        go_roundw
        case rel => exact ⟨k + 1, _, _, _, by go_num, by omega, HR1.out, HR2.out, HR3.out, HR4.out, HR5.out⟩
        case measure => simp [intOf]; omega
    · obtain rfl : k = N := by omega
      clear hb hown hA hM ht
      go_wp2
      go_ret2
      have o := HO.out
      have s8 := T8.out.size
      have s1 := K1.out.2.1.size
      have s15 := H5.out.size
      refine ⟨l, s', rfl, by omega, by have := H.out.1.lt; omega, H.out.2.2.1, H.out.2.2.2.1.le (by omega), ?_⟩
      have t : Turns [l, b, a, g] w wo := (((Turns.of_below (S := [l, b, a, g]) K1.out.2.1).trans (H5.out.mono (by simp))).trans T8.out).trans (H.out.2.2.2.2.mono (by simp))
      exact t.fresh fun i hi => by simp at hi ⊢; omega
end Go.Proofs.YtfiigndlnihioaaGreat
end
section
/- Layer 24 (cohort): how a lock lies in memory; has, Threads, Spot, of. -/
namespace Go.Proofs.YtfiigndlnihioaaGreat
open Go.RowKit

/-- where a cohort lock lies: its own block, the table's, the nodes', the spots'; threads, nodes, the nodes' room; the global lock, the local ones, the counts' words; whose a block is -/
structure Cox where
  l : Nat
  b : Nat
  qn : Nat
  qs : Nat
  n : Nat
  N : Nat
  capn : Nat
  par : Nat
  g : Fx
  X : List Fx
  W : List Nat
  o : Nat → Nat
def ndE (y : Fx × Nat) : List Value := [.pointer (some ⟨y.1.p, 0, none⟩), .int .i64 y.2]
theorem ndE_len (y : Fx × Nat) : (ndE y).length = 2 := rfl
/-- what does not change -/
structure CoFx (B : Nat → Prop) (a g : Nat) (x : Cox) (c : CoC) (P T : List Int) : Prop where
  ck : chkT P T = 0
  nT : x.n = T.length
  nN : x.N = (leavesL P).length
  lX : x.X.length = x.N
  lW : x.W.length = x.N
  cap : x.N ≤ x.capn
  cn : ∀ i, i < x.n → c.node i = nodeQ P T i ∧ (c.slot i : Int) = slotOf T i
  tg : c.tg = x.g.t
  tl : ∀ (n : Nat) (y : Fx), x.X[n]? = some y → c.tl n = y.t ∧ (y.m : Int) = c.m
  gm : (x.g.m : Int) = c.m
  pm : (x.par : Int) = c.m
  cc : ∀ (n v : Nat), x.W[n]? = some v → c.cw n = v ∧ v ≤ 5000
  kg : KOk c.kg
  kl : KOk c.kl
  bud : 0 ≤ c.bud ∧ c.bud ≤ 1000
  par : 1 ≤ x.par ∧ x.par ≤ 4
  ol : x.o x.l = 1
  on : x.o x.qn = 1
  os : x.o x.qs = 2
  oa : x.o a = 3
  og : x.o g = 3
  oG : x.o x.g.p = 4 ∧ x.o x.g.l = 4 ∧ x.o x.g.q = 4
  oL : ∀ (n : Nat) (y : Fx), x.X[n]? = some y → x.o y.p = 5 + n ∧ x.o y.l = 5 + n ∧ x.o y.q = 5 + n
  oB : ∀ i, B i → x.o i = 0
/-- a cohort lock in memory -/
structure CoIs (B : Nat → Prop) (w : World) (a g : Nat) (x : Cox) (c : CoC) (P T : List Int) (st : Co) : Prop where
  fx : CoFx B a g x c P T
  ar : ArIs w a g st.s
  lk : Blk w x.l 82 (coC a x.b c.kg c.kl x.par c.bud (.pointer (some ⟨x.g.p, 0, none⟩)) (.slice (some ⟨x.qn, 0, none⟩) x.N x.capn) (.slice (some ⟨x.qs, 0, none⟩) x.n x.n))
  tb : TabQ B w x.b P T
  nd : ∃ Z : List Value, Blk w x.qn 88 ((x.X.zip x.W).flatMap ndE ++ Z).toArray
  sp : SpR w x.qs st.T
  gl : FlIs w a g c.kg x.g st.s st.G
  lo : ∀ (n : Nat) (y : Fx) (S : List Sp), x.X[n]? = some y → st.L[n]? = some S → FlIs w a g c.kl y st.s S
  lL : st.L.length = x.N
  lG : st.G.length = x.N
  lS : st.T.length = x.n
  sl : ∀ (i : Nat) (S : List Sp), i < x.n → st.L[c.node i]? = some S → c.slot i < S.length
section
variable {B : Nat → Prop} {w w' : World} {a g : Nat} {x : Cox} {c : CoC} {P T : List Int} {st : Co} {s' : Ar}
theorem CoFx.n32 (h : CoFx B a g x c P T) : x.n ≤ 32 ∧ x.N ≤ 32 := by
  have h1 := many_lt (chk_ok h.ck).1
  have := leavesTo_len P P.length
  have e1 := h.nT
  have e2 := h.nN
  have : (leavesL P).length ≤ 32 := by show (leavesTo P P.length).length ≤ 32; omega
  omega
theorem CoFx.node (h : CoFx B a g x c P T) {i : Nat} (hi : i < x.n) : c.node i < x.N ∧ (nodesTo P T T.length)[i]? = some (c.node i : Int) := by
  have hn : i < T.length := by rw [← h.nT]; exact hi
  obtain ⟨y, hy⟩ := getElem?_lt hn
  have hm := thr_mem (chk_ok h.ck).2.2.2 hy
  obtain ⟨k, hk⟩ := Int.eq_ofNat_of_zero_le ((idx_nonneg (leavesL P) y).1.2 hm)
  have hg := idx_get hm hk
  have e : c.node i = k := by
    rw [(h.cn i hi).1]
    unfold nodeQ
    rw [getD_of hy, hk]; rfl
  rw [e, h.nN]
  refine ⟨(List.getElem?_eq_some_iff.1 hg).1, ?_⟩
  unfold nodesTo
  rw [List.take_length, List.getElem?_map, hy]
  show some (idxI (leavesL P) y) = _
  rw [hk]
theorem CoIs.loc (h : CoIs B w a g x c P T st) {i : Nat} (hi : i < x.n) : ∃ (y : Fx) (v : Nat) (S : List Sp), x.X[c.node i]? = some y ∧ x.W[c.node i]? = some v ∧ st.L[c.node i]? = some S ∧ c.slot i < S.length ∧ S[c.slot i]? = some (lsp st.L (c.node i) (c.slot i)) := by
  have hn := (h.fx.node hi).1
  obtain ⟨y, hy⟩ := getElem?_lt (show c.node i < x.X.length by rw [h.fx.lX]; exact hn)
  obtain ⟨v, hv⟩ := getElem?_lt (show c.node i < x.W.length by rw [h.fx.lW]; exact hn)
  obtain ⟨S, hS⟩ := getElem?_lt (show c.node i < st.L.length by rw [h.lL]; exact hn)
  have hs := h.sl i S hi hS
  refine ⟨y, v, S, hy, hv, hS, hs, ?_⟩
  unfold lsp
  have e : st.L.getD (c.node i) [] = S := by rw [List.getD_eq_getElem?_getD, hS]; rfl
  rw [e, List.getD_eq_getElem?_getD, List.getElem?_eq_getElem hs]; rfl
theorem CoIs.glo (h : CoIs B w a g x c P T st) {i : Nat} (hi : i < x.n) : st.G[c.node i]? = some (sv st.G (c.node i)) := by
  have hn := (h.fx.node hi).1
  have : c.node i < st.G.length := by rw [h.lG]; exact hn
  unfold sv
  rw [List.getD_eq_getElem?_getD, List.getElem?_eq_getElem this]; rfl
theorem CoIs.thr (h : CoIs B w a g x c P T st) {i : Nat} (hi : i < x.n) : st.T[i]? = some (sv st.T i) := by
  have : i < st.T.length := by rw [h.lS]; exact hi
  unfold sv
  rw [List.getD_eq_getElem?_getD, List.getElem?_eq_getElem this]; rfl
theorem ne_own {o : Nat → Nat} {i j u v : Nat} (hi : o i = u) (hj : o j = v) (h : u ≠ v) : i ≠ j := fun e => h (by rw [← hi, ← hj, e])
theorem CoIs.turns0 (h : CoIs B w a g x c P T st) (t : Turns [] w w') : CoIs B w' a g x c P T st :=
  { h with ar := h.ar.turns t (by simp) (by simp), lk := t.blk h.lk (by simp), tb := h.tb.turns t (by simp), nd := by obtain ⟨Z, z⟩ := h.nd; exact ⟨Z, t.blk z (by simp)⟩,
           sp := h.sp.turns t (by simp), gl := h.gl.turns t (by simp) (by simp) (by simp) (by simp) (by simp), lo := fun n y S hy hS => (h.lo n y S hy hS).turns t (by simp) (by simp) (by simp) (by simp) (by simp) }
theorem CoIs.below (h : CoIs B w a g x c P T st) (t : Below w.heap.size w w') : CoIs B w' a g x c P T st := h.turns0 (Turns.of_below t)
/-- all but spots and locks, where blocks of whom turned that are none of them -/
theorem CoIs.rest (h : CoIs B w a g x c P T st) {S : List Nat} (t : Turns S w w') (hS : ∀ i ∈ S, 2 ≤ x.o i) :
    Blk w' x.l 82 (coC a x.b c.kg c.kl x.par c.bud (.pointer (some ⟨x.g.p, 0, none⟩)) (.slice (some ⟨x.qn, 0, none⟩) x.N x.capn) (.slice (some ⟨x.qs, 0, none⟩) x.n x.n)) ∧
    TabQ B w' x.b P T ∧ ∃ Z : List Value, Blk w' x.qn 88 ((x.X.zip x.W).flatMap ndE ++ Z).toArray := by
  obtain ⟨Z, z⟩ := h.nd
  exact ⟨t.blk h.lk (fun k => by have := hS _ k; rw [h.fx.ol] at this; omega), h.tb.turns t (fun i hi hb => by have := hS i hi; rw [h.fx.oB i hb] at this; omega), Z, t.blk z (fun k => by have := hS _ k; rw [h.fx.on] at this; omega)⟩
/-- an op on a count's word -/
theorem CoIs.cnt (h : CoIs B w a g x c P T st) (t : Turns [a, g] w w') (ha : ArIs w' a g s') : CoIs B w' a g x c P T { st with s := s' } := by
  obtain ⟨h1, h2, h3⟩ := h.rest t (by intro i hi; simp at hi; rcases hi with rfl | rfl <;> first | (rw [h.fx.oa]; omega) | (rw [h.fx.og]; omega))
  have n2 : ∀ r u, x.o r = u → u ≠ 3 → r ∉ [a, g] := fun r u e hu => by
    simp only [List.mem_cons, List.not_mem_nil, or_false, not_or]
    exact ⟨ne_own e h.fx.oa hu, ne_own e h.fx.og hu⟩
  exact ⟨h.fx, ha, h1, h2, h3, h.sp.turns t (n2 _ _ h.fx.os (by decide)), h.gl.oth t ha (n2 _ _ h.fx.oG.1 (by decide)) (n2 _ _ h.fx.oG.2.1 (by decide)) (n2 _ _ h.fx.oG.2.2 (by decide)),
    fun n y S hy hS => (h.lo n y S hy hS).oth t ha (n2 _ _ (h.fx.oL n y hy).1 (by omega)) (n2 _ _ (h.fx.oL n y hy).2.1 (by omega)) (n2 _ _ (h.fx.oL n y hy).2.2 (by omega)), h.lL, h.lG, h.lS, h.sl⟩
theorem nin3 {o : Nat → Nat} {a g q r u v : Nat} (ha : o a = 3) (hg : o g = 3) (hq : o q = v) (e : o r = u) (h3 : u ≠ 3) (hv : u ≠ v) : r ∉ [a, g, q] := by
  simp only [List.mem_cons, List.not_mem_nil, or_false, not_or]
  exact ⟨ne_own e ha h3, ne_own e hg h3, ne_own e hq hv⟩
/-- an op of a thread's local lock -/
theorem CoIs.locOp (h : CoIs B w a g x c P T st) {i : Nat} (hi : i < x.n) {y : Fx} (hy : x.X[c.node i]? = some y) {p' : Sp} (t : Turns [a, g, y.q] w w')
    (hf : FlIs w' a g c.kl y s' ((st.L.getD (c.node i) []).set (c.slot i) p')) : CoIs B w' a g x c P T { st with s := s', L := lset st.L (c.node i) (c.slot i) p' } := by
  have hq := (h.fx.oL _ y hy).2.2
  obtain ⟨h1, h2, h3⟩ := h.rest t (by intro i hi; simp at hi; rcases hi with rfl | rfl | rfl <;> first | (rw [h.fx.oa]; omega) | (rw [h.fx.og]; omega) | (rw [hq]; omega))
  have n3 : ∀ r u, x.o r = u → u ≠ 3 → u ≠ 5 + c.node i → r ∉ [a, g, y.q] := fun r u e hu hv => nin3 h.fx.oa h.fx.og hq e hu hv
  refine ⟨h.fx, hf.ki.ar, h1, h2, h3, h.sp.turns t (n3 _ _ h.fx.os (by decide) (by omega)), h.gl.oth t hf.ki.ar (n3 _ _ h.fx.oG.1 (by decide) (by omega)) (n3 _ _ h.fx.oG.2.1 (by decide) (by omega)) (n3 _ _ h.fx.oG.2.2 (by decide) (by omega)),
    fun n z S hz hS => ?_, ?_, h.lG, h.lS, fun j S hj hS => ?_⟩
  · unfold lset at hS
    simp only at hS
    rw [List.getElem?_set] at hS
    split at hS
    · rename_i e
      split at hS
      · simp only [Option.some.injEq] at hS
        subst e
        rw [hy] at hz
        injection hz with hz
        subst hz; subst hS
        exact hf
      · cases hS
    · rename_i e
      have hne : ∀ u, u = 5 + n → u ≠ 5 + c.node i := by omega
      exact (h.lo n z S hz hS).oth t hf.ki.ar (n3 _ _ (h.fx.oL n z hz).1 (by omega) (hne _ rfl)) (n3 _ _ (h.fx.oL n z hz).2.1 (by omega) (hne _ rfl)) (n3 _ _ (h.fx.oL n z hz).2.2 (by omega) (hne _ rfl))
  · show (lset _ _ _ _).length = _
    unfold lset; rw [List.length_set]; exact h.lL
  · unfold lset at hS
    simp only at hS
    rw [List.getElem?_set] at hS
    split at hS
    · rename_i e
      split at hS
      · simp only [Option.some.injEq] at hS
        subst hS
        rw [List.length_set]
        rename_i hl
        have := h.sl j (st.L.getD (c.node i) []) hj (by rw [← e, List.getD_eq_getElem?_getD, List.getElem?_eq_getElem hl]; rfl)
        exact this
      · cases hS
    · exact h.sl j S hj hS
/-- an op of the global lock -/
theorem CoIs.gloOp (h : CoIs B w a g x c P T st) {n : Nat} {p' : Sp} (t : Turns [a, g, x.g.q] w w')
    (hf : FlIs w' a g c.kg x.g s' (st.G.set n p')) : CoIs B w' a g x c P T { st with s := s', G := st.G.set n p' } := by
  have hq := h.fx.oG.2.2
  obtain ⟨h1, h2, h3⟩ := h.rest t (by intro i hi; simp at hi; rcases hi with rfl | rfl | rfl <;> first | (rw [h.fx.oa]; omega) | (rw [h.fx.og]; omega) | (rw [hq]; omega))
  have n3 : ∀ r u, x.o r = u → u ≠ 3 → u ≠ 4 → r ∉ [a, g, x.g.q] := fun r u e hu hv => nin3 h.fx.oa h.fx.og hq e hu hv
  exact ⟨h.fx, hf.ki.ar, h1, h2, h3, h.sp.turns t (n3 _ _ h.fx.os (by decide) (by omega)), hf,
    fun n z S hz hS => (h.lo n z S hz hS).oth t hf.ki.ar (n3 _ _ (h.fx.oL n z hz).1 (by omega) (by omega)) (n3 _ _ (h.fx.oL n z hz).2.1 (by omega) (by omega)) (n3 _ _ (h.fx.oL n z hz).2.2 (by omega) (by omega)), h.lL, by show (st.G.set n p').length = _; rw [List.length_set]; exact h.lG, h.lS, h.sl⟩
/-- a store into a thread's spot -/
theorem CoIs.put (h : CoIs B w a g x c P T st) {i : Nat} {p p' : Sp} (hp : st.T[i]? = some p) {j : Nat} {u : Value} (hj : j < 4) (he : (encP4 p).set j u = encP4 p') :
    CoIs B (w.setCell ⟨x.qs, i * 4 + j, none⟩ u) a g x c P T { st with T := st.T.set i p' } := by
  have t : Turns [x.qs] w (w.setCell ⟨x.qs, i * 4 + j, none⟩ u) := turns_q _ _ _
  obtain ⟨h1, h2, h3⟩ := h.rest t (by intro i hi; simp at hi; subst hi; rw [h.fx.os]; omega)
  have n1 : ∀ r v, x.o r = v → v ≠ 2 → r ∉ [x.qs] := fun r v e hv => by simpa using ne_own e h.fx.os hv
  have na := n1 _ _ h.fx.oa (by decide)
  have ng := n1 _ _ h.fx.og (by decide)
  exact ⟨h.fx, h.ar.turns t na ng, h1, h2, h3, h.sp.put hp hj he, h.gl.turns t (n1 _ _ h.fx.oG.1 (by decide)) (n1 _ _ h.fx.oG.2.1 (by decide)) na ng (n1 _ _ h.fx.oG.2.2 (by decide)),
    fun n z S hz hS => (h.lo n z S hz hS).turns t (n1 _ _ (h.fx.oL n z hz).1 (by omega)) (n1 _ _ (h.fx.oL n z hz).2.1 (by omega)) na ng (n1 _ _ (h.fx.oL n z hz).2.2 (by omega)), h.lL, h.lG, by show (st.T.set i p').length = _; rw [List.length_set]; exact h.lS, h.sl⟩
theorem CoIs.put0 (h : CoIs B w a g x c P T st) {i : Nat} {p p' : Sp} (hp : st.T[i]? = some p) {u : Value} (he : (encP4 p).set 0 u = encP4 p') :
    CoIs B (w.setCell ⟨x.qs, i * 4, none⟩ u) a g x c P T { st with T := st.T.set i p' } := h.put hp (j := 0) (by decide) he
/-- a node's row -/
theorem CoIs.row (h : CoIs B w a g x c P T st) {n : Nat} {y : Fx} {v : Nat} (hy : x.X[n]? = some y) (hv : x.W[n]? = some v) :
    w.cell? ⟨x.qn, n * 2, none⟩ = some (.pointer (some ⟨y.p, 0, none⟩)) ∧ w.cell? ⟨x.qn, n * 2 + 1, none⟩ = some (.int .i64 v) := by
  obtain ⟨Z, z⟩ := h.nd
  have hz : (x.X.zip x.W)[n]? = some (y, v) := by rw [List.getElem?_zip_eq_some]; exact ⟨hy, hv⟩
  have c0 := getElem?_flatMap ndE 2 ndE_len _ n _ 0 (.pointer (some ⟨y.p, 0, none⟩)) hz rfl
  have c1 := getElem?_flatMap ndE 2 ndE_len _ n _ 1 (.int .i64 v) hz rfl
  have l0 := (List.getElem?_eq_some_iff.1 c0).1
  have l1 := (List.getElem?_eq_some_iff.1 c1).1
  have e0 := z.cell (n * 2)
  have e1 := z.cell (n * 2 + 1)
  simp only [List.getElem?_toArray] at e0 e1
  rw [List.getElem?_append_left (by simpa using l0), show n * 2 = n * 2 + 0 from rfl, c0] at e0
  rw [List.getElem?_append_left l1, c1] at e1
  exact ⟨e0, e1⟩
theorem results_cell_row3 {P : Program} {fn : Func} {p u v : Tmp} {ty : TypeId} (h : fn.results = #[.cell p ty, .tmp u, .tmp v]) (tmps : Array Value) (w : World) (g : Nat) (t : TypeId) (cs : Array Value) (fr : Nat × Nat) (d : TypeDesc)
    (hp : tmps.getD p undef = .pointer (some ⟨g, 0, none⟩)) (hg : w.heap[g]? = some (.cells cs t fr))
    (hu : P.underlying ty = some d) (hd : (match d with | .struct _ | .array _ _ => true | _ => false) = true) (hi : (P.info? ty).map (·.size) = some cs.size) :
    (results fn tmps).run P w = .ok (.tuple #[.agg cs, tmps.getD u undef, tmps.getD v undef]) w := by
  have hp' : tmps[p]?.getD undef = .pointer (some ⟨g, 0, none⟩) := by simpa using hp
  simp [results, h, hp', asAddr, run_loadVar_row w g t ty cs fr d hg hu hd hi]
theorem threadsCo (h : CoIs B w a g x c P T st) : Calls Tryz.prog 83 #[.pointer (some ⟨x.l, 0, none⟩)] w fun e w' => e = .returned (.int .i64 x.n) ∧ w = w' := by
  have c8 : w.cell? ⟨x.l, 8, none⟩ = some (.slice (some ⟨x.qs, 0, none⟩) x.n x.n) := h.lk.cell 8
  clear h
  go_enter Tryz.func83, Tryz.ntmps83
  go_wp2
  go_ret
  exact ⟨rfl, rfl⟩
theorem hasCo (h : CoIs B w a g x c P T st) (i : Nat) (hi : i < x.n) : Calls Tryz.prog 42 #[.pointer (some ⟨x.l, 0, none⟩), .int .i64 i] w fun e w' => e = .returned (.bool true) ∧ w = w' := by
  have HT := Lib.hid (threadsCo h)
  have hn := h.fx.n32
  have t1 : (0 : Int) ≤ i := by omega
  have t2 : (i : Int) < x.n := by omega
  clear h
  go_enter Tryz.func42, Tryz.ntmps42
  go_wp2_with fail
  refine HT.out.mono ?_
  rintro en w1 ⟨rfl, rfl⟩
  go_wp2
  go_ret
  exact ⟨rfl, rfl⟩
set_option maxHeartbeats 400000 in
theorem spotCo (h : CoIs B w a g x c P T st) (i : Nat) (hi : i < x.n) :
    Calls Tryz.prog 16 #[.pointer (some ⟨x.l, 0, none⟩), .int .i64 i] w fun e w' => e = .returned (spotV (sv st.T i)) ∧ Below w.heap.size w w' := by
  have H : Hid (CoIs B (w.alloc (.cells #[.int .i64 0, .int .i64 0, .int .i64 0, .int .i64 0] 46)) a g x c P T st) := Lib.hid (h.below ((Below.refl _ _).alloc (Nat.le_refl _) _))
  have hp := h.thr hi
  obtain ⟨p, hpp⟩ : ∃ p, p = sv st.T i := ⟨_, rfl⟩
  rw [← hpp] at hp ⊢
  have c8 : w.cell? ⟨x.l, 8, none⟩ = some (.slice (some ⟨x.qs, 0, none⟩) x.n x.n) := h.lk.cell 8
  have a0 := h.sp.cell hp 0 _ rfl
  have a1 := h.sp.cell hp 1 _ rfl
  have a2 := h.sp.cell hp 2 _ rfl
  have a3 := h.sp.cell hp 3 _ rfl
  simp only [Nat.add_zero] at a0
  have HH := Lib.hid (hasCo H.out i hi)
  have hs1 := h.lk.lt
  have hs2 := h.sp.lt
  have t2 : ¬ (i : Int) < 0 := by omega
  clear h hp hpp
  go_enter Tryz.func16, Tryz.ntmps16
  go_wp2_with (go_at_call 42; refine HH.out.mono ?_; rintro e w' ⟨rfl, rfl⟩)
  exact bodyPost_ret (results_cell_row (by rfl) _ _ w.heap.size 46 _ (0, 0) _ (by rfl) (heap_alloc_new w _) Tryz.underlying46 rfl (by kernel_rfl)) rfl ⟨rfl, (Below.refl _ _).alloc (Nat.le_refl _) _⟩
set_option maxRecDepth 100000 in
set_option maxHeartbeats 2000000 in
theorem ofCo (h : CoIs B w a g x c P T st) (i : Nat) (hi : i < x.n) {y : Fx} {v : Nat} (hy : x.X[c.node i]? = some y) (hv : x.W[c.node i]? = some v) :
    Calls Tryz.prog 43 #[.pointer (some ⟨x.l, 0, none⟩), .int .i64 i] w fun e w' => e = .returned (.tuple #[.agg #[.pointer (some ⟨y.p, 0, none⟩), .int .i64 v], .int .i64 (c.node i : Int), .int .i64 (c.slot i : Int)]) ∧ Below w.heap.size w w' := by
  have hn := h.fx.n32
  obtain ⟨hN, hnd⟩ := h.fx.node hi
  have hT : i < T.length := by rw [← h.fx.nT]; exact hi
  have hsl := (h.fx.cn i hi).2
  obtain ⟨r0, r1⟩ := h.row hy hv
  have b1 := (Below.refl w.heap.size w).alloc (Nat.le_refl _) (.cells #[.pointer none, .int .i64 0] 88)
  have h1 := h.below b1
  have c1 : w.cell? ⟨x.l, 1, none⟩ = some (.pointer (some ⟨x.b, 0, none⟩)) := h.lk.cell 1
  have c7 : w.cell? ⟨x.l, 7, none⟩ = some (.slice (some ⟨x.qn, 0, none⟩) x.N x.capn) := h.lk.cell 7
  have HN := Lib.hid (nodeF (w.alloc (.cells #[.pointer none, .int .i64 0] 88)) x.b P T i hT h1.tb.f _ hnd)
  have hsf := slotF (w.alloc (.cells #[.pointer none, .int .i64 0] 88)).drew x.b P T i hT (h1.below (Below.drew (Below.refl _ _))).tb.f
  rw [← hsl] at hsf
  have HS := Lib.hid hsf
  have hl1 := h.lk.lt
  obtain ⟨nd, he⟩ : ∃ nd, nd = c.node i := ⟨_, rfl⟩
  rw [← he] at hN r0 r1 HN ⊢
  obtain ⟨sl, hs⟩ : ∃ s, s = c.slot i := ⟨_, rfl⟩
  rw [← hs] at HS ⊢
  have t1 : (0 : Int) ≤ (nd : Int) := by omega
  have t2 : (nd : Int) < x.N := by omega
  have t3 : (nd : Int) ≤ x.N := by omega
  have HB := Lib.hid b1
  have HK : Hid (∀ o : Obj, (w.alloc o).drew.cell? ⟨x.l, 1, none⟩ = some (.pointer (some ⟨x.b, 0, none⟩)) ∧ (w.alloc o).drew.cell? ⟨x.l, 7, none⟩ = some (.slice (some ⟨x.qn, 0, none⟩) x.N x.capn) ∧ (w.alloc o).drew.cell? ⟨x.qn, nd * 2, none⟩ = some (.pointer (some ⟨y.p, 0, none⟩)) ∧ (w.alloc o).drew.cell? ⟨x.qn, nd * 2 + 1, none⟩ = some (.int .i64 v)) := Lib.hid fun o => by
    have ho := h.below (((Below.refl w.heap.size w).alloc (Nat.le_refl _) o).drew)
    exact ⟨ho.lk.cell 1, ho.lk.cell 7, (ho.row (he ▸ hy) (he ▸ hv)).1, (ho.row (he ▸ hy) (he ▸ hv)).2⟩
  clear h h1 b1 hsf hy hv hnd hsl he hs r0 r1
  go_enter Tryz.func43, Tryz.ntmps43
  go_wp2_with fail
  refine HN.out.mono ?_
  rintro en w1 ⟨rfl, rfl⟩
  go_wp2_with fail
  go_region_held3 (fun W => W.cell? ⟨x.l, 1, none⟩ = some (.pointer (some ⟨x.b, 0, none⟩)) ∧ W.cell? ⟨x.l, 7, none⟩ = some (.slice (some ⟨x.qn, 0, none⟩) x.N x.capn) ∧ W.cell? ⟨x.qn, nd * 2, none⟩ = some (.pointer (some ⟨y.p, 0, none⟩)) ∧ W.cell? ⟨x.qn, nd * 2 + 1, none⟩ = some (.int .i64 v))
    (first | exact HK.out _)
    (first | (go_at_call 85; go_loud (refine HS.out.mono ?_); rintro en w3 ⟨rfl, rfl⟩))
  all_goals
    go_wp2
    exact bodyPost_ret (results_cell_row3 (by rfl) _ _ w.heap.size 88 _ (0, 0) _ (by rfl) (heap_alloc_new w _) Tryz.underlying88 rfl (by kernel_rfl)) rfl ⟨rfl, ((Below.refl _ _).alloc (Nat.le_refl _) _).drew⟩
end
end Go.Proofs.YtfiigndlnihioaaGreat
end
section
/- Layer 24 (cohort), plain: where slots and threads may be, and what an act leaves alone. No program in sight. -/
namespace Go.Proofs.YtfiigndlnihioaaGreat
open Go

/-- where the slot of a thread's local lock is, as to where the thread is -/
def linkP (p q : Sp) : Prop :=
  (p.pc = 0 ∧ q.pc = 0) ∨ (p.pc = 1 ∧ 0 < q.pc ∧ q.pc < 10) ∨
    ((p.pc = 2 ∨ p.pc = 3 ∨ p.pc = 4 ∨ p.pc = 10 ∨ p.pc = 11 ∨ p.pc = 12 ∨ p.pc = 13 ∨ p.pc = 14 ∨ p.pc = 15) ∧ q.pc = 10) ∨ (p.pc = 16 ∧ 10 < q.pc)
theorem stepK_pc {k : Nat} {t m : Int} {s : Ar} {i : Int} {p : Sp} (hk : 1 ≤ k ∧ k ≤ 5) (hc : pcK k p) :
    pcK k (stepK k t m s i p).2 ∧ (0 < p.pc → p.pc < 10 → 0 < (stepK k t m s i p).2.pc ∧ (stepK k t m s i p).2.pc ≤ 10) ∧ (10 < p.pc → (stepK k t m s i p).2.pc = 0 ∨ 10 < (stepK k t m s i p).2.pc) := by
  unfold stepK
  split
  · rename_i h1
    subst h1
    obtain ⟨pc, u, b, z⟩ := p
    simp only [pcK, mcsPc, reduceIte, show ¬ (1 = 4) by decide, show ¬ (1 = 5) by decide] at hc ⊢
    unfold tasK
    rcases hc with rfl | rfl | rfl | rfl | rfl <;> simp <;> split <;> simp <;> omega
  split
  · rename_i h1
    subst h1
    obtain ⟨pc, u, b, z⟩ := p
    simp only [pcK, mcsPc, reduceIte, show ¬ (2 = 4) by decide, show ¬ (2 = 5) by decide] at hc ⊢
    unfold tickK
    rcases hc with rfl | rfl | rfl | rfl | rfl <;> simp <;> split <;> simp <;> omega
  split
  · rename_i h1
    subst h1
    obtain ⟨pc, u, b, z⟩ := p
    simp only [pcK, mcsPc, reduceIte, show ¬ (3 = 4) by decide, show ¬ (3 = 5) by decide] at hc ⊢
    unfold partK
    rcases hc with rfl | rfl | rfl | rfl | rfl <;> simp <;> split <;> simp <;> omega
  split
  · rename_i h1
    subst h1
    obtain ⟨pc, u, b, z⟩ := p
    simp only [pcK, mcsPc, reduceIte] at hc ⊢
    unfold mcsK
    split
    · unfold mcsIn
      (repeat' split) <;> simp_all <;> omega
    split
    · unfold mcsOut
      (repeat' split) <;> simp_all <;> omega
    · simp only; omega
  · obtain rfl : k = 5 := by omega
    obtain ⟨pc, u, b, z⟩ := p
    simp only [pcK, mcsPc, reduceIte, show ¬ (5 = 4) by decide] at hc ⊢
    unfold clhK
    rcases hc with rfl | rfl | rfl | rfl | rfl | rfl <;> simp <;> split <;> simp <;> omega
theorem came_in {p p' : Sp} (h0 : 0 < p.pc) (h1 : p.pc < 10) (h2 : 0 < p'.pc) : cameK p p' = decide (p'.pc = 10) := by
  unfold cameK
  have : ¬ p.pc = 0 := by omega
  have : ¬ p.pc = 10 := by omega
  have : ¬ p'.pc = 0 := by omega
  simp [*]
theorem came_out {p p' : Sp} (h0 : 10 < p.pc) (h2 : p'.pc = 0 ∨ 10 < p'.pc) : cameK p p' = decide (p'.pc = 0) := by
  unfold cameK
  have : ¬ p.pc = 0 := by omega
  have : ¬ p.pc = 10 := by omega
  have : ¬ p'.pc = 10 := by omega
  simp [*]
theorem askK_pc {k : Nat} {p : Sp} (h : p.pc = 0) : (askK k p).pc = 1 := by
  unfold askK
  rw [if_pos h]
  split <;> rfl
theorem leaveK_pc {p : Sp} (h : p.pc = 10) : (leaveK p).pc = 11 := by
  unfold leaveK
  rw [if_pos h]
theorem askK_pcK {k : Nat} {p : Sp} (hc : pcK k p) : pcK k (askK k p) := by
  by_cases h : p.pc = 0
  · have e := askK_pc (k := k) h
    unfold pcK mcsPc
    rw [e]
    split
    · omega
    split <;> omega
  · unfold askK; rw [if_neg h]; exact hc
theorem leaveK_pcK {k : Nat} {p : Sp} (hc : pcK k p) : pcK k (leaveK p) := by
  by_cases h : p.pc = 10
  · have e := leaveK_pc h
    unfold pcK mcsPc
    rw [e]
    split
    · omega
    split <;> omega
  · unfold leaveK; rw [if_neg h]; exact hc
-- a step at each place
section
variable (c : CoC) (st : Co) (i : Nat) (u b z : Int)
theorem mv1 : coMv c st i ⟨1, u, b, z⟩ = ((stL c st i).1, st.G, setL c st i (stL c st i).2, if camL c st i then ⟨2, u, b, z⟩ else ⟨1, u, b, z⟩) := rfl
theorem mv2 : coMv c st i ⟨2, u, b, z⟩ = if 0 < ldW st.s.W (c.cw (c.node i)) then (loadA st.s (c.cw (c.node i)), st.G, st.L, ⟨10, ldW st.s.W (c.cw (c.node i)), b, z⟩)
    else (loadA st.s (c.cw (c.node i)), st.G.set (c.node i) (askK c.kg (sv st.G (c.node i))), st.L, ⟨3, ldW st.s.W (c.cw (c.node i)), b, z⟩) := rfl
theorem mv3 : coMv c st i ⟨3, u, b, z⟩ = ((stG c st i).1, st.G.set (c.node i) (stG c st i).2, st.L, if camG c st i then ⟨4, u, b, z⟩ else ⟨3, u, b, z⟩) := rfl
theorem mv4 : coMv c st i ⟨4, u, b, z⟩ = (storeA st.s (c.cw (c.node i)) 1, st.G, st.L, ⟨10, 1, b, z⟩) := rfl
theorem mv11 : coMv c st i ⟨11, u, b, z⟩ = (loadA st.s (c.cw (c.node i)), st.G, st.L, ⟨if c.bud < ldW st.s.W (c.cw (c.node i)) then 14 else 12, ldW st.s.W (c.cw (c.node i)), b, z⟩) := rfl
theorem mv12 : coMv c st i ⟨12, u, b, z⟩ = ((aloneK c.kl (c.tl (c.node i)) st.s (c.slot i) (lsp st.L (c.node i) (c.slot i))).1, st.G, st.L,
    ⟨if passB u c.bud (aloneK c.kl (c.tl (c.node i)) st.s (c.slot i) (lsp st.L (c.node i) (c.slot i))).2 then 13 else 14, u, b, z⟩) := rfl
theorem mv13 : coMv c st i ⟨13, u, b, z⟩ = (storeA st.s (c.cw (c.node i)) (u + 1), st.G, setL c st i (leaveK (lsp st.L (c.node i) (c.slot i))), ⟨16, u, b, z⟩) := rfl
theorem mv14 : coMv c st i ⟨14, u, b, z⟩ = (storeA st.s (c.cw (c.node i)) 0, st.G.set (c.node i) (leaveK (sv st.G (c.node i))), st.L, ⟨15, u, b, z⟩) := rfl
theorem mv15 : coMv c st i ⟨15, u, b, z⟩ = if camG c st i then ((stG c st i).1, st.G.set (c.node i) (stG c st i).2, setL c st i (leaveK (lsp st.L (c.node i) (c.slot i))), ⟨16, u, b, z⟩)
    else ((stG c st i).1, st.G.set (c.node i) (stG c st i).2, st.L, ⟨15, u, b, z⟩) := rfl
theorem mv16 : coMv c st i ⟨16, u, b, z⟩ = ((stL c st i).1, st.G, setL c st i (stL c st i).2, if camL c st i then ⟨0, u, b, z⟩ else ⟨16, u, b, z⟩) := rfl
end
/-- where all is, of n threads -/
structure CoV (c : CoC) (n : Nat) (st : Co) : Prop where
  g : ∀ p ∈ st.G, pcK c.kg p
  l : ∀ x ∈ st.L, ∀ p ∈ x, pcK c.kl p
  k : ∀ i, i < n → linkP (sv st.T i) (lsp st.L (c.node i) (c.slot i))
  lT : n ≤ st.T.length
  lG : ∀ i, i < n → c.node i < st.G.length
  lL : ∀ i, i < n → c.node i < st.L.length ∧ c.slot i < (st.L.getD (c.node i) []).length
def Inj (c : CoC) (n : Nat) : Prop := ∀ i j, i < n → j < n → c.node i = c.node j → c.slot i = c.slot j → i = j
theorem lsp_lset {L : List (List Sp)} {n i : Nat} {p : Sp} (hn : n < L.length) (hi : i < (L.getD n []).length) (m j : Nat) : lsp (lset L n i p) m j = if n = m ∧ i = j then p else lsp L m j := by
  unfold lsp lset
  rw [List.getD_eq_getElem?_getD (l := L.set _ _), List.getElem?_set]
  by_cases h1 : n = m
  · subst h1
    rw [if_pos rfl, if_pos hn]
    show (List.set _ _ _).getD _ _ = _
    rw [List.getD_eq_getElem?_getD, List.getElem?_set]
    by_cases h2 : i = j
    · subst h2
      rw [if_pos rfl, if_pos hi, if_pos ⟨rfl, rfl⟩]; rfl
    · rw [if_neg h2, if_neg (fun h => h2 h.2), List.getD_eq_getElem?_getD (l := L.getD n [])]
  · rw [if_neg h1, if_neg (fun h => h1 h.1), List.getD_eq_getElem?_getD (l := L)]
theorem lset_len (L : List (List Sp)) (n i : Nat) (p : Sp) (m : Nat) : ((lset L n i p).getD m []).length = (L.getD m []).length ∧ (lset L n i p).length = L.length := by
  refine ⟨?_, by unfold lset; simp⟩
  unfold lset
  rw [List.getD_eq_getElem?_getD, List.getElem?_set]
  by_cases h1 : n = m
  · subst h1
    rw [if_pos rfl]
    split
    · simp
    · rename_i h
      rw [List.getD_eq_getElem?_getD, List.getElem?_eq_none (by omega)]
  · rw [if_neg h1, List.getD_eq_getElem?_getD]
section
variable {c : CoC} {n : Nat} {st : Co}
theorem CoV.lpc (h : CoV c n st) {i : Nat} (hi : i < n) : pcK c.kl (lsp st.L (c.node i) (c.slot i)) := by
  obtain ⟨h1, h2⟩ := h.lL i hi
  have e1 : st.L.getD (c.node i) [] ∈ st.L := by
    rw [List.getD_eq_getElem?_getD, List.getElem?_eq_getElem h1]; exact List.getElem_mem h1
  have e2 : lsp st.L (c.node i) (c.slot i) ∈ st.L.getD (c.node i) [] := by
    unfold lsp
    rw [List.getD_eq_getElem?_getD (l := st.L.getD _ _), List.getElem?_eq_getElem h2]; exact List.getElem_mem h2
  exact h.l _ e1 _ e2
theorem CoV.gpc (h : CoV c n st) {i : Nat} (hi : i < n) : pcK c.kg (sv st.G (c.node i)) := by
  have h1 := h.lG i hi
  refine h.g _ ?_
  unfold sv
  rw [List.getD_eq_getElem?_getD, List.getElem?_eq_getElem h1]; exact List.getElem_mem h1
theorem CoV.thr (h : CoV c n st) (hI : Inj c n) {i : Nat} (hi : i < n) {t q : Sp} (hl : linkP t q) (j : Nat) (hj : j < n) (L' : List (List Sp)) (hL : lsp L' (c.node i) (c.slot i) = q)
    (ho : ∀ m s, ¬ (c.node i = m ∧ c.slot i = s) → lsp L' m s = lsp st.L m s) : linkP (sv (st.T.set i t) j) (lsp L' (c.node j) (c.slot j)) := by
  rw [sv_set]
  by_cases e : i = j
  · subst e
    rw [if_pos ⟨rfl, by have := h.lT; omega⟩, hL]; exact hl
  · rw [if_neg (fun k => e k.1), ho _ _ (fun k => e (hI i j hi hj k.1 k.2))]; exact h.k j hj
/-- an act that sets a local slot -/
theorem CoV.upd (h : CoV c n st) (hI : Inj c n) {i : Nat} (hi : i < n) (s' : Ar) {G' : List Sp} (hG : ∀ p ∈ G', pcK c.kg p) (hGl : G'.length = st.G.length) {q t : Sp} (hq : pcK c.kl q) (hl : linkP t q) : CoV c n ⟨s', G', setL c st i q, st.T.set i t⟩ := by
  obtain ⟨h1, h2⟩ := h.lL i hi
  refine ⟨hG, ?_, fun j hj => h.thr hI hi hl j hj _ ?_ ?_, by simpa using h.lT, fun j hj => by rw [hGl]; exact h.lG j hj, fun j hj => ?_⟩
  · exact all_set h.l _ (all_set (h.l _ (by rw [List.getD_eq_getElem?_getD, List.getElem?_eq_getElem h1]; exact List.getElem_mem h1)) _ hq)
  · unfold setL; rw [lsp_lset h1 h2, if_pos ⟨rfl, rfl⟩]
  · intro m s hn
    unfold setL; rw [lsp_lset h1 h2, if_neg hn]
  · unfold setL; rw [(lset_len _ _ _ _ _).1, (lset_len _ _ _ _ 0).2]; exact h.lL j hj
/-- an act that sets none -/
theorem CoV.upd0 (h : CoV c n st) (hI : Inj c n) {i : Nat} (hi : i < n) (s' : Ar) {G' : List Sp} (hG : ∀ p ∈ G', pcK c.kg p) (hGl : G'.length = st.G.length) {t : Sp} (hl : linkP t (lsp st.L (c.node i) (c.slot i))) : CoV c n ⟨s', G', st.L, st.T.set i t⟩ :=
  ⟨hG, h.l, fun j hj => h.thr hI hi hl j hj _ rfl (fun _ _ _ => rfl), by simpa using h.lT, fun j hj => by rw [hGl]; exact h.lG j hj, h.lL⟩
/-- a step keeps where all may be -/
theorem coStep_v (h : CoV c n st) (hI : Inj c n) (hk : (1 ≤ c.kg ∧ c.kg ≤ 5) ∧ 1 ≤ c.kl ∧ c.kl ≤ 5) {i : Nat} (hi : i < n) : CoV c n (coStep c st i) := by
  have hlk := h.k i hi
  have hq := h.lpc hi
  have hg := h.gpc hi
  have sL := stepK_pc (t := c.tl (c.node i)) (m := c.m) (s := st.s) (i := (c.slot i : Int)) hk.2 hq
  have sG := stepK_pc (t := c.tg) (m := c.m) (s := st.s) (i := (c.node i : Int)) hk.1 hg
  have hGl : ∀ q : Sp, (st.G.set (c.node i) q).length = st.G.length := fun q => by simp
  have hGs : ∀ q : Sp, pcK c.kg q → ∀ p ∈ st.G.set (c.node i) q, pcK c.kg p := fun q hq => all_set h.g _ hq
  unfold coStep
  split
  · exact h
  rename_i hne
  obtain ⟨p, hp⟩ : ∃ p, p = sv st.T i := ⟨_, rfl⟩
  rw [← hp] at hlk hne ⊢
  obtain ⟨q, hqq⟩ : ∃ q, q = lsp st.L (c.node i) (c.slot i) := ⟨_, rfl⟩
  have hc : p.pc = 1 ∨ p.pc = 2 ∨ p.pc = 3 ∨ p.pc = 4 ∨ p.pc = 11 ∨ p.pc = 12 ∨ p.pc = 13 ∨ p.pc = 14 ∨ p.pc = 15 ∨ p.pc = 16 := by unfold linkP at hlk; omega
  obtain ⟨pc, u, b, z⟩ := p
  simp only at hc
  have hL10 : pc ≠ 0 → pc ≠ 1 → pc ≠ 16 → (lsp st.L (c.node i) (c.slot i)).pc = 10 := fun a0 a1 a2 => by unfold linkP at hlk; simp only at hlk; omega
  have lk : ∀ t : Sp, (t.pc = 2 ∨ t.pc = 3 ∨ t.pc = 4 ∨ t.pc = 10 ∨ t.pc = 11 ∨ t.pc = 12 ∨ t.pc = 13 ∨ t.pc = 14 ∨ t.pc = 15) → ∀ q : Sp, q.pc = 10 → linkP t q := fun t ht q hq => .inr (.inr (.inl ⟨ht, hq⟩))
  have lk16 : ∀ t : Sp, t.pc = 16 → linkP t (leaveK (lsp st.L (c.node i) (c.slot i))) ∨ (lsp st.L (c.node i) (c.slot i)).pc ≠ 10 := fun t ht => by
    by_cases e : (lsp st.L (c.node i) (c.slot i)).pc = 10
    · left; exact .inr (.inr (.inr ⟨ht, by rw [leaveK_pc e]; decide⟩))
    · right; exact e
  have l16 : ∀ t : Sp, t.pc = 16 → (lsp st.L (c.node i) (c.slot i)).pc = 10 → linkP t (leaveK (lsp st.L (c.node i) (c.slot i))) := fun t ht e => (lk16 t ht).resolve_right (fun k => k e)
  rcases hc with rfl | rfl | rfl | rfl | rfl | rfl | rfl | rfl | rfl | rfl
  · have hb : 0 < (lsp st.L (c.node i) (c.slot i)).pc ∧ (lsp st.L (c.node i) (c.slot i)).pc < 10 := by unfold linkP at hlk; simp only at hlk; omega
    have s2 := sL.2.1 hb.1 hb.2
    have ec : camL c st i = decide ((stL c st i).2.pc = 10) := came_in hb.1 hb.2 s2.1
    rw [mv1]
    refine h.upd hI hi _ h.g rfl sL.1 ?_
    show linkP (if camL c st i then _ else _) _
    rw [ec]
    split
    · rename_i e; exact lk _ (.inl rfl) _ (by simpa using e)
    · rename_i e
      refine .inr (.inl ⟨rfl, s2.1, ?_⟩)
      have : ¬ (stL c st i).2.pc = 10 := by simpa using e
      have := s2.2
      show (stL c st i).2.pc < 10
      unfold stL at *
      omega
  · rw [mv2]
    split
    · exact h.upd0 hI hi _ h.g rfl (lk _ (by simp) _ (hL10 (by decide) (by decide) (by decide)))
    · exact h.upd0 hI hi _ (hGs _ (askK_pcK hg)) (hGl _) (lk _ (by simp) _ (hL10 (by decide) (by decide) (by decide)))
  · rw [mv3]
    refine h.upd0 hI hi _ (hGs _ sG.1) (hGl _) ?_
    show linkP (if camG c st i then _ else _) _
    split <;> exact lk _ (by simp) _ (hL10 (by decide) (by decide) (by decide))
  · rw [mv4]
    exact h.upd0 hI hi _ h.g rfl (lk _ (by simp) _ (hL10 (by decide) (by decide) (by decide)))
  · rw [mv11]
    refine h.upd0 hI hi _ h.g rfl (lk _ ?_ _ (hL10 (by decide) (by decide) (by decide)))
    simp only
    split <;> simp
  · rw [mv12]
    refine h.upd0 hI hi _ h.g rfl (lk _ ?_ _ (hL10 (by decide) (by decide) (by decide)))
    simp only
    split <;> simp
  · rw [mv13]
    exact h.upd hI hi _ h.g rfl (leaveK_pcK hq) (l16 _ rfl (hL10 (by decide) (by decide) (by decide)))
  · rw [mv14]
    exact h.upd0 hI hi _ (hGs _ (leaveK_pcK hg)) (hGl _) (lk _ (by simp) _ (hL10 (by decide) (by decide) (by decide)))
  · rw [mv15]
    split
    · exact h.upd hI hi _ (hGs _ sG.1) (hGl _) (leaveK_pcK hq) (l16 _ rfl (hL10 (by decide) (by decide) (by decide)))
    · exact h.upd0 hI hi _ (hGs _ sG.1) (hGl _) (lk _ (by simp) _ (hL10 (by decide) (by decide) (by decide)))
  · have hb : 10 < (lsp st.L (c.node i) (c.slot i)).pc := by unfold linkP at hlk; simp only at hlk; omega
    have s2 := sL.2.2 hb
    have ec : camL c st i = decide ((stL c st i).2.pc = 0) := came_out hb s2
    rw [mv16]
    refine h.upd hI hi _ h.g rfl sL.1 ?_
    show linkP (if camL c st i then _ else _) _
    rw [ec]
    split
    · rename_i e; exact .inl ⟨rfl, by simpa using e⟩
    · rename_i e
      refine .inr (.inr (.inr ⟨rfl, ?_⟩))
      have : ¬ (stL c st i).2.pc = 0 := by simpa using e
      show 10 < (stL c st i).2.pc
      unfold stL at *
      omega
theorem coAsk_v (h : CoV c n st) (hI : Inj c n) {i : Nat} (hi : i < n) : CoV c n (coAsk c st i) := by
  unfold coAsk
  split
  · rename_i e
    have hlk := h.k i hi
    have hq0 : (lsp st.L (c.node i) (c.slot i)).pc = 0 := by unfold linkP at hlk; omega
    exact h.upd hI hi _ h.g rfl (askK_pcK (h.lpc hi)) (.inr (.inl ⟨rfl, by rw [askK_pc hq0]; decide, by rw [askK_pc hq0]; decide⟩))
  · exact h
theorem coLeave_v (h : CoV c n st) (hI : Inj c n) {i : Nat} (hi : i < n) : CoV c n (coLeave st i) := by
  unfold coLeave
  split
  · rename_i e
    have hlk := h.k i hi
    exact h.upd0 hI hi _ h.g rfl (.inr (.inr (.inl ⟨by simp, by unfold linkP at hlk; omega⟩)))
  · exact h
end
end Go.Proofs.YtfiigndlnihioaaGreat
end
