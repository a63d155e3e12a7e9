/- Joined: Fk1, Fn1, Fn3, Fn2, Fk2. -/
import Derived.Test.YtndipiockdmaoaaGreatRows
import Derived.Deep.AppendLies
import Derived.Deep.RegionHeld3
import Derived.Laws.MakeOwn
import Derived.Deep.DeepCutAuto
import Derived.Test.YtndipiockdmaoaaGreatMgNeutralSafe2
import Derived.Test.YtndipiockdmaoaaGreatMgNeutralSafe6
section
set_option linter.unusedVariables false
set_option linter.unusedSimpArgs false
/- Layers 15 to 20: a new flat lock of any kind: it comes to be, and the arena has some words more. (written by wip/gen_fk.py) -/
namespace Go.Proofs.YtndipiockdmaoaaGreat
open Go.RowKit

structure ArMore (s s' : Ar) (k : Nat) : Prop where
  room : s'.room = s.room
  W : ∃ X, s'.W = s.W ++ X ∧ X.length ≤ k
  ops : s'.ops ≤ s.ops + k
theorem ArMore.refl (s : Ar) : ArMore s s 0 := ⟨rfl, ⟨[], by simp, by simp⟩, by omega⟩
theorem ArMore.trans {s s' s2 : Ar} {k j : Nat} (h : ArMore s s' k) (h2 : ArMore s' s2 j) : ArMore s s2 (k + j) := by
  obtain ⟨X, e1, l1⟩ := h.W
  obtain ⟨Y, e2, l2⟩ := h2.W
  exact ⟨h2.room.trans h.room, ⟨X ++ Y, by rw [e2, e1, List.append_assoc], by simp; omega⟩, by have := h.ops; have := h2.ops; omega⟩
theorem ArMore.le {s s' : Ar} {k j : Nat} (h : ArMore s s' k) (hj : k ≤ j) : ArMore s s' j := by
  obtain ⟨X, e1, l1⟩ := h.W
  exact ⟨h.room, ⟨X, e1, by omega⟩, by have := h.ops; omega⟩
theorem ArMore.len {s s' : Ar} {k : Nat} (h : ArMore s s' k) : s'.W.length ≤ s.W.length + k := by
  obtain ⟨X, e1, l1⟩ := h.W
  rw [e1]; simp; omega
def takeS (s : Ar) (n : Nat) : Ar := { s with W := s.W ++ List.replicate n 0 }
theorem takeS_more (s : Ar) (n : Nat) : ArMore s (takeS s n) n := ⟨rfl, ⟨_, rfl, by simp⟩, by show s.ops ≤ _; omega⟩
theorem takeY {w : World} {a g : Nat} {s : Ar} (h : ArIs w a g s) (n : Nat) (hn : s.W.length + n ≤ s.room) :
    Calls Tryz.prog 53 #[.pointer (some ⟨a, 0, none⟩), .int .i64 n] w fun e w' => e = .returned (.tuple #[.int .i64 ((s.W.length : Int) + 1), .int .i64 0]) ∧ ArIs w' a g (takeS s n) ∧ Turns [a] w w' := by
  refine (take_any h n).mono ?_
  have e : takeA s n = (takeS s n, (s.W.length : Int) + 1, (0 : Int)) := by
    unfold takeA
    rw [if_neg (by omega), if_neg (by omega), Int.toNat_natCast]; rfl
  rw [e]
  rintro en w' ⟨h1, h2, h3⟩
  exact ⟨h1, h2, h3⟩
theorem storeS_more (s s0 : Ar) (k : Nat) (h : ArMore s0 s k) (x v : Int) (hx : (s0.W.length : Int) < x) : ArMore s0 (storeA s x v) (k + 1) := by
  obtain ⟨X, e1, l1⟩ := h.W
  have hW : (noteA s 2 x true).W = s.W := noteA_W _ _ _ _
  have ho : (noteA s 2 x true).ops ≤ s.ops + 1 := by unfold noteA; split <;> simp
  have hr : (noteA s 2 x true).room = s.room := by unfold noteA; split <;> rfl
  unfold storeA wrA
  refine ⟨hr.trans h.room, ?_, by have := h.ops; show (noteA s 2 x true).ops ≤ _; omega⟩
  show ∃ Y, stW (noteA s 2 x true).W x v = _ ∧ _
  rw [hW]
  unfold stW
  split
  · rename_i hin
    have hin2 := inR_true.1 hin
    refine ⟨X.set (x.toNat - 1 - s0.W.length) v, ?_, by rw [List.length_set]; omega⟩
    rw [e1, List.set_append_right _ _ (by omega)]
  · exact ⟨X, e1, by omega⟩
theorem cells_newF (w : World) (xs : List Value) (t : TypeId) : ∀ j u, xs[j]? = some u → (w.alloc (.cells xs.toArray t)).cell? ((⟨w.heap.size, 0, none⟩ : Addr).add j) = some u := by
  intro j u hj
  have k := Blk.new w t xs.toArray
  have c := k.cell j
  have e : (⟨w.heap.size, 0, none⟩ : Addr).add j = ⟨w.heap.size, j, none⟩ := by
    simp [Addr.add]
    exact fun h => h.symm
  rw [e, c]
  simpa using hj
/-- a new lock of k words at most -/
def NewK (w : World) (a g : Nat) (s : Ar) (k : Nat) (e : Ending) (w' : World) : Prop :=
  ∃ (l : Nat) (s' : Ar), e = .returned (.tuple #[.pointer (some ⟨l, 0, none⟩), .int .i64 0]) ∧ w.heap.size ≤ l ∧ l < w'.heap.size ∧ ArIs w' a g s' ∧ ArMore s s' k ∧ Turns [a, g] w w'
theorem Tryz.infoSpF : (Tryz.prog.info? 46).map (fun i => (i.zero, i.size, i.bytes)) = some (some (.agg #[.int .i64 0, .int .i64 0, .int .i64 0, .int .i64 0]), 4, 32) := by kernel_rfl
set_option maxRecDepth 100000 in
set_option maxHeartbeats 1000000 in
theorem tasNew {w : World} {a g : Nat} {s : Ar} (h : ArIs w a g s) (n : Nat) (h1 : 1 ≤ n) (h2 : n ≤ 32) (m : Nat) (hm1 : 1 ≤ m) (hm2 : m ≤ 4) (hr : s.W.length + (1) ≤ s.room) :
    Calls Tryz.prog 91 #[.pointer (some ⟨a, 0, none⟩), .int .i64 n, .int .i64 m] w (NewK w a g s (1)) := by
  obtain ⟨i0, hi, hz0, hz1, hz2⟩ := info_parts Tryz.infoSpF
  have HT := Lib.hid (takeY h (1) hr)
  have t1 : ¬ (n : Int) < 1 := by omega
  have t2 : ¬ 32 < (n : Int) := by omega
  have t3 : ¬ (m : Int) < 1 := by omega
  have t4 : ¬ 1024 < (m : Int) := by omega
  clear h hr
  go_enter Tryz.func91, Tryz.ntmps91
  go_wp2_with fail
  refine HT.out.mono ?_
  rintro en w1 ⟨rfl, k1, t1'⟩
  have H1 := Lib.hid (And.intro k1 t1')
  clear k1 t1' HT
  go_wp2_with (refine wpList_make_full _ rfl _ _ 78 rfl w1.heap.size 46 i0 (.agg #[.int .i64 0, .int .i64 0, .int .i64 0, .int .i64 0]) 4 Tryz.underlying78 hi hz0 hz1 .i64 .i64 n n n rfl rfl rfl rfl ?b2 ?b3 (Nat.le_refl _) ?_)
  case b2 => rw [hz2]; omega
  case b3 => unfold maxLen; omega
  intro w2 hown hg
  have t2' : Turns [] w1 w2 := Turns.of_below ((Below.refl w1.heap.size w1).grown hg (Nat.le_refl _) (fun j hj => by cases hj))
  have H2 := Lib.hid t2'
  clear hown hg t2'
  go_wp2
  go_ret2
  have k2 := H1.out.1.turns H2.out (by simp) (by simp)
  have s1 := H1.out.2.size
  have s2 := H2.out.size
  exact ⟨w2.heap.size, _, rfl, by omega, by simp, k2.turns (S := []) ((Turns.refl _ _).alloc _) (by simp) (by simp), takeS_more s (1), ((H1.out.2.mono (by simp)).trans (H2.out.mono (by simp))).alloc _⟩
set_option maxRecDepth 100000 in
set_option maxHeartbeats 1000000 in
theorem ticketNew {w : World} {a g : Nat} {s : Ar} (h : ArIs w a g s) (n : Nat) (h1 : 1 ≤ n) (h2 : n ≤ 32) (hr : s.W.length + (2) ≤ s.room) :
    Calls Tryz.prog 92 #[.pointer (some ⟨a, 0, none⟩), .int .i64 n] w (NewK w a g s (2)) := by
  obtain ⟨i0, hi, hz0, hz1, hz2⟩ := info_parts Tryz.infoSpF
  have HT := Lib.hid (takeY h (2) hr)
  have t1 : ¬ (n : Int) < 1 := by omega
  have t2 : ¬ 32 < (n : Int) := by omega
  clear h hr
  go_enter Tryz.func92, Tryz.ntmps92
  go_wp2_with fail
  refine HT.out.mono ?_
  rintro en w1 ⟨rfl, k1, t1'⟩
  have H1 := Lib.hid (And.intro k1 t1')
  clear k1 t1' HT
  go_wp2_with (refine wpList_make_full _ rfl _ _ 78 rfl w1.heap.size 46 i0 (.agg #[.int .i64 0, .int .i64 0, .int .i64 0, .int .i64 0]) 4 Tryz.underlying78 hi hz0 hz1 .i64 .i64 n n n rfl rfl rfl rfl ?b2 ?b3 (Nat.le_refl _) ?_)
  case b2 => rw [hz2]; omega
  case b3 => unfold maxLen; omega
  intro w2 hown hg
  have t2' : Turns [] w1 w2 := Turns.of_below ((Below.refl w1.heap.size w1).grown hg (Nat.le_refl _) (fun j hj => by cases hj))
  have H2 := Lib.hid t2'
  clear hown hg t2'
  go_wp2
  go_ret2
  have k2 := H1.out.1.turns H2.out (by simp) (by simp)
  have s1 := H1.out.2.size
  have s2 := H2.out.size
  exact ⟨w2.heap.size, _, rfl, by omega, by simp, k2.turns (S := []) ((Turns.refl _ _).alloc _) (by simp) (by simp), takeS_more s (2), ((H1.out.2.mono (by simp)).trans (H2.out.mono (by simp))).alloc _⟩
set_option maxRecDepth 100000 in
set_option maxHeartbeats 1000000 in
theorem mcsNew {w : World} {a g : Nat} {s : Ar} (h : ArIs w a g s) (n : Nat) (h1 : 1 ≤ n) (h2 : n ≤ 32) (hr : s.W.length + (1 + 2 * n) ≤ s.room) :
    Calls Tryz.prog 94 #[.pointer (some ⟨a, 0, none⟩), .int .i64 n] w (NewK w a g s (1 + 2 * n)) := by
  obtain ⟨i0, hi, hz0, hz1, hz2⟩ := info_parts Tryz.infoSpF
  have HT := Lib.hid (takeY h (1 + 2 * n) hr)
  have t1 : ¬ (n : Int) < 1 := by omega
  have t2 : ¬ 32 < (n : Int) := by omega
  have x1 : IntKind.i64.wrap (2 * (n : Int)) = 2 * (n : Int) := IntWalk.i64_in _ (by omega)
  have x2 : IntKind.i64.wrap (1 + 2 * (n : Int)) = ((1 + 2 * n : Nat) : Int) := by rw [IntWalk.i64_in _ (by omega)]; omega
  clear h hr
  go_enter Tryz.func94, Tryz.ntmps94
  go_wp2_with fail
  refine HT.out.mono ?_
  rintro en w1 ⟨rfl, k1, t1'⟩
  have H1 := Lib.hid (And.intro k1 t1')
  clear k1 t1' HT
  go_wp2_with (refine wpList_make_full _ rfl _ _ 78 rfl w1.heap.size 46 i0 (.agg #[.int .i64 0, .int .i64 0, .int .i64 0, .int .i64 0]) 4 Tryz.underlying78 hi hz0 hz1 .i64 .i64 n n n rfl rfl rfl rfl ?b2 ?b3 (Nat.le_refl _) ?_)
  case b2 => rw [hz2]; omega
  case b3 => unfold maxLen; omega
  intro w2 hown hg
  have t2' : Turns [] w1 w2 := Turns.of_below ((Below.refl w1.heap.size w1).grown hg (Nat.le_refl _) (fun j hj => by cases hj))
  have H2 := Lib.hid t2'
  clear hown hg t2'
  go_wp2
  go_ret2
  have k2 := H1.out.1.turns H2.out (by simp) (by simp)
  have s1 := H1.out.2.size
  have s2 := H2.out.size
  exact ⟨w2.heap.size, _, rfl, by omega, by simp, k2.turns (S := []) ((Turns.refl _ _).alloc _) (by simp) (by simp), takeS_more s (1 + 2 * n), ((H1.out.2.mono (by simp)).trans (H2.out.mono (by simp))).alloc _⟩
theorem placeF {w : World} {l : Nat} {va vs : Value} (nx : Nat) (m : Nat) (hm : 1 ≤ m) (hx : nx ≤ 100000) (h : Blk w l 178 #[va, .int .i64 nx, .int .i64 m, vs]) :
    Calls Tryz.prog 131 #[.pointer (some ⟨l, 0, none⟩), .int .i64 0] w fun e w' => e = .returned (.int .i64 ((nx : Int) + 1)) ∧ Below w.heap.size w w' := by
  have c1 : w.cell? ⟨l, 1, none⟩ = some (.int .i64 nx) := h.cell 1
  have c2 : w.cell? ⟨l, 2, none⟩ = some (.int .i64 m) := h.cell 2
  have t1 : ¬ (m : Int) = 0 := by omega
  have t2 : ((m : Int) == 0) = false := by simpa using t1
  have x1 : IntKind.i64.wrap ((nx : Int) + 1) = (nx : Int) + 1 := IntWalk.i64_in _ (by omega)
  clear h
  go_enter Tryz.func131, Tryz.ntmps131
  go_wp2_with fail
  go_quiet (fail)
  go_wp2
  go_ret
  exact ⟨rfl, below_drewN (Below.refl _ _) _⟩
theorem mayF (w : World) (n : Nat) (h1 : 1 ≤ n) (h2 : n ≤ 32) : Calls Tryz.prog 130 #[.int .i64 n] w fun e w' => e = .returned (.bool true) ∧ w = w' := by
  have t1 : (1 : Int) ≤ n := by omega
  have t2 : (n : Int) ≤ 32 := by omega
  go_enter Tryz.func130, Tryz.ntmps130
  go_wp2
  go_ret
  exact ⟨rfl, rfl⟩
set_option maxRecDepth 100000 in
set_option maxHeartbeats 1000000 in
theorem partedNew {w : World} {a g : Nat} {s : Ar} (h : ArIs w a g s) (n : Nat) (h1 : 1 ≤ n) (h2 : n ≤ 32) (m : Nat) (hm1 : 1 ≤ m) (hm2 : m ≤ 4) (hr : s.W.length + (1 + m) ≤ s.room) (ho : s.ops + 1 ≤ 1000000000) :
    Calls Tryz.prog 93 #[.pointer (some ⟨a, 0, none⟩), .int .i64 n, .int .i64 m] w (NewK w a g s (1 + m + 1)) := by
  obtain ⟨i0, hi, hz0, hz1, hz2⟩ := info_parts Tryz.infoSpF
  have HT := Lib.hid (takeY h (1 + m) hr)
  have x1 : IntKind.i64.wrap (1 + (m : Int)) = ((1 + m : Nat) : Int) := by rw [IntWalk.i64_in _ (by omega)]; omega
  have hlen : s.W.length ≤ 4096 := by have := h.le; have := h.room; omega
  have ha0 := h.blk.lt
  have hg0 := h.wds.lt
  have HO := Lib.hid ho
  clear h hr ho
  go_enter Tryz.func93, Tryz.ntmps93
  go_wp2_with fail
  refine (mayF _ n h1 h2).mono ?_
  rintro en w0 ⟨rfl, rfl⟩
  go_wp2_with fail
  refine (mayF _ m hm1 (by omega)).mono ?_
  rintro en w0 ⟨rfl, rfl⟩
  go_wp2_with fail
  refine HT.out.mono ?_
  rintro en w1 ⟨rfl, k1, t1'⟩
  have H1 := Lib.hid (And.intro k1 t1')
  clear k1 t1' HT
  go_wp2_with (refine wpList_make_full _ rfl _ _ 78 rfl w1.heap.size 46 i0 (.agg #[.int .i64 0, .int .i64 0, .int .i64 0, .int .i64 0]) 4 Tryz.underlying78 hi hz0 hz1 .i64 .i64 n n n rfl rfl rfl rfl ?b2 ?b3 (Nat.le_refl _) ?_)
  case b2 => rw [hz2]; omega
  case b3 => unfold maxLen; omega
  intro w2 hown hg
  have t2' : Turns [] w1 w2 := Turns.of_below ((Below.refl w1.heap.size w1).grown hg (Nat.le_refl _) (fun j hj => by cases hj))
  have H2 := Lib.hid t2'
  clear hown hg t2'
  go_upto_region 7 with fail
  obtain ⟨l, hl⟩ : ∃ l, l = w2.heap.size := ⟨_, rfl⟩
  obtain ⟨nx, hnx⟩ : ∃ x : Nat, x = s.W.length + 1 := ⟨_, rfl⟩
  have hnx2 : ((s.W.length : Int) + 1) = (nx : Int) := by omega
  obtain ⟨w3, hw3⟩ : ∃ W, W = w2.alloc (.cells #[.pointer (some ⟨a, 0, none⟩), .int .i64 nx, .int .i64 m, .slice (some ⟨w1.heap.size, 0, none⟩) n n] 178) := ⟨_, rfl⟩
  rw [hnx2, ← hw3, ← hl]
  have HB := Lib.hid (show Blk w3 l 178 #[.pointer (some ⟨a, 0, none⟩), .int .i64 nx, .int .i64 m, .slice (some ⟨w1.heap.size, 0, none⟩) n n] from by rw [hw3, hl]; exact Blk.new _ _ _)
  have HT3 := Lib.hid (show Turns [a] w w3 from by rw [hw3]; exact (H1.out.2.trans (H2.out.mono (by simp))).alloc _)
  have HA3 := Lib.hid (show ArIs w3 a g (takeS s (1 + m)) from by rw [hw3]; exact (H1.out.1.turns H2.out (by simp) (by simp)).turns (S := []) ((Turns.refl _ _).alloc _) (by simp) (by simp))
  have HL := Lib.hid (show w.heap.size ≤ l ∧ nx = s.W.length + 1 from by have := H1.out.2.size; have := H2.out.size; omega)
  clear hl hw3 hnx hnx2
  go_wp2_with fail
  refine (placeF nx m hm1 (by have := HL.out.2; omega) HB.out).mono ?_
  rintro en w4 ⟨rfl, b4⟩
  have HA4 := Lib.hid (And.intro (HA3.out.turns (Turns.of_below (S := []) b4) (by simp) (by simp)) b4)
  clear b4
  go_wp2_with fail
  refine (store_any HA4.out.1 ((nx : Int) + 1) 1 (by show s.ops + 1 ≤ _; have := HO.out; omega)).mono ?_
  rintro en w5 ⟨rfl, k5, t5⟩
  have H5 := Lib.hid (And.intro k5 t5)
  clear k5 t5
  go_wp2
  go_ret2
  have s3 := HT3.out.size
  have s4 := HA4.out.2.size
  have s5 := H5.out.2.size
  have hb := HB.out.lt
  exact ⟨l, _, rfl, HL.out.1, by omega, H5.out.1, storeS_more _ _ _ (takeS_more s (1 + m)) _ _ (by have := HL.out.2; omega), ((HT3.out.mono (by simp)).trans (Turns.of_below HA4.out.2)).trans H5.out.2⟩
set_option maxRecDepth 100000 in
set_option maxHeartbeats 2000000 in
theorem clhNew {w : World} {a g : Nat} {s : Ar} (h : ArIs w a g s) (n : Nat) (h1 : 1 ≤ n) (h2 : n ≤ 32) (hr : s.W.length + (n + 2) ≤ s.room) (ho : s.ops + 1 ≤ 1000000000) :
    Calls Tryz.prog 95 #[.pointer (some ⟨a, 0, none⟩), .int .i64 n] w (NewK w a g s (n + 2 + 1)) := by
  obtain ⟨i0, hi, hz0, hz1, hz2⟩ := info_parts Tryz.infoSpF
  have HI := Lib.hid (And.intro hi (And.intro hz0 (And.intro hz1 hz2)))
  have HT := Lib.hid (takeY h (n + 2) hr)
  have t1 : ¬ (n : Int) < 1 := by omega
  have t2 : ¬ 32 < (n : Int) := by omega
  have x1 : IntKind.i64.wrap ((n : Int) + 2) = ((n + 2 : Nat) : Int) := by rw [IntWalk.i64_in _ (by omega)]; omega
  have x2 : IntKind.i64.wrap ((n : Int) + 1) = ((n + 1 : Nat) : Int) := by rw [IntWalk.i64_in _ (by omega)]; omega
  have hlen : s.W.length ≤ 4096 := by have := h.le; have := h.room; omega
  have HG := Lib.hid (And.intro h.blk.lt h.wds.lt)
  have HO := Lib.hid ho
  clear h hr ho hi hz0 hz1 hz2
  go_enter Tryz.func95, Tryz.ntmps95
  go_wp2_with fail
  refine HT.out.mono ?_
  rintro en w1 ⟨rfl, k1, t1'⟩
  have H1 := Lib.hid (And.intro k1 t1')
  clear k1 t1' HT
  go_upto_region 7 with fail
  obtain ⟨l, hl⟩ : ∃ l, l = w1.heap.size := ⟨_, rfl⟩
  obtain ⟨nx, hnx⟩ : ∃ x : Nat, x = s.W.length + 1 := ⟨_, rfl⟩
  have hnx2 : ((s.W.length : Int) + 1) = (nx : Int) := by omega
  obtain ⟨w3, hw3⟩ : ∃ W, W = w1.alloc (.cells #[.pointer (some ⟨a, 0, none⟩), .int .i64 nx, .slice none 0 0] 182) := ⟨_, rfl⟩
  rw [hnx2, ← hw3, ← hl]
  have HB := Lib.hid (show Blk w3 l 182 #[.pointer (some ⟨a, 0, none⟩), .int .i64 nx, .slice none 0 0] from by rw [hw3, hl]; exact Blk.new _ _ _)
  have HT3 := Lib.hid (show Turns [a] w w3 from by rw [hw3]; exact H1.out.2.alloc _)
  have HA3 := Lib.hid (show ArIs w3 a g (takeS s (n + 2)) from by rw [hw3]; exact H1.out.1.turns (S := []) ((Turns.refl _ _).alloc _) (by simp) (by simp))
  have HL := Lib.hid (show w.heap.size ≤ l ∧ nx = s.W.length + 1 ∧ w3.heap.size = l + 1 from by have := H1.out.2.size; rw [hw3]; simp; omega)
  clear hl hw3 hnx hnx2
  go_wp2
  go_loopw [31] (fun i wr => ∃ (k : Nat) (v : Value) (xs : List Value), i = .int .i64 k ∧ k ≤ n ∧ Blk wr l 182 #[.pointer (some ⟨a, 0, none⟩), .int .i64 nx, v] ∧ wr.ownsRow w3.heap.size 46 4 v k xs ∧ Turns [l] w3 wr) (fun i _ => n - (intOf i).toNat)
  case atStart => exact ⟨0, _, [], rfl, by omega, HB.out, World.ownsRow_nil _ _ _ _, Turns.refl _ _⟩
  case round =>
    obtain ⟨k, v, xs, rfl, hk, hb, hown, ht⟩ := hrel
    obtain ⟨wo, rfl⟩ : ∃ wo : World, wo = wr := ⟨_, rfl⟩
    by_cases hlt : k < n
    · obtain ⟨A, cap, rfl⟩ := own_form hown
      have c2 : wo.cell? ⟨l, 2, none⟩ = some (.slice A k cap) := hb.cell 2
      have hll := hb.lt
      have hs3 := ht.size
      have H := Lib.hid (And.intro hb (And.intro hown ht))
      have hlow : (Value.slice A k cap).ownBlock ≠ some l := fun e => by have := (hown.lt l e).1; have := HL.out.2.2; omega
      clear hb hown ht
      go_wp2_with (at_builtin; refine wpList_append_lies _ rfl _ _ 78 rfl w3.heap.size 46 i0 (.agg #[.int .i64 0, .int .i64 0, .int .i64 0, .int .i64 0]) 4 32 Tryz.underlying78 HI.out.1 HI.out.2.1 HI.out.2.2.1 HI.out.2.2.2 rfl (by decide) _ _ _ rfl (H.out.2.1.alloc _) ⟨wo.heap.size, 0, none⟩ 1 1 [.int .i64 0, .int .i64 ((k : Int) + 1), .int .i64 0, .int .i64 0] rfl rfl (cells_newF _ _ _) (by simp [Value.oneCell']) (by decide) ?c3 ?c4 ?c5 _ rfl ?_)
      case c3 => unfold maxLen; omega
      case c4 => omega
      case c5 => simp; omega
      intro g3 cap3 w7 h3 hg3 hl3 hlt3
      have bl7 := (H.out.1.alloc (.cells #[.int .i64 0, .int .i64 ((k : Int) + 1), .int .i64 0, .int .i64 0] 46)).grown hg3 (fun e => hlow e.symm)
      have c27 : w7.cell? ⟨l, 2, none⟩ = some (.slice A k cap) := bl7.cell 2
      have z27 := bl7.free 2
      have ts : Turns [l] w7 (w7.setCell ⟨l, 2, none⟩ (.slice (some ⟨g3, 0, none⟩) (k + 1) cap3)) := (Turns.refl _ _).setCell (.inl (by simp)) _
      have HRR := Lib.hid (show Blk (w7.setCell ⟨l, 2, none⟩ (.slice (some ⟨g3, 0, none⟩) (k + 1) cap3)) l 182 #[.pointer (some ⟨a, 0, none⟩), .int .i64 nx, .slice (some ⟨g3, 0, none⟩) (k + 1) cap3] ∧ (w7.setCell ⟨l, 2, none⟩ (.slice (some ⟨g3, 0, none⟩) (k + 1) cap3)).ownsRow w3.heap.size 46 4 (.slice (some ⟨g3, 0, none⟩) (k + 1) cap3) (k + 1) (xs ++ [.int .i64 0, .int .i64 ((k : Int) + 1), .int .i64 0, .int .i64 0]) ∧ Turns [l] w3 (w7.setCell ⟨l, 2, none⟩ (.slice (some ⟨g3, 0, none⟩) (k + 1) cap3)) from by
        have hg35 := (h3.lt g3 rfl).1
        have hl3' := HL.out.2.2
        refine ⟨bl7.set_ 2 _, Turns.own h3 ts (fun x hx => by injection hx with hx; subst hx; simp; omega), ?_⟩
        have t37 : Turns [l] w3 w7 := ⟨hg3.os.trans H.out.2.2.os, hg3.tape.trans H.out.2.2.tape, hg3.output.trans H.out.2.2.output, by have := hg3.size; simp at this; omega, fun i hi hn => by
          have h9 := hg3.block i (by simp; omega) (fun e => by have := (H.out.2.1.lt i e.symm).1; omega)
          rw [h9]
          have h8 := ((Turns.refl [l] wo).alloc (.cells #[.int .i64 0, .int .i64 ((k : Int) + 1), .int .i64 0, .int .i64 0] 46)).block i (by omega) hn
          rw [h8]
          exact H.out.2.2.block i hi hn⟩
        exact t37.trans ts)
      clear h3 hg3 hl3 bl7 H
      go_wp2
      go_roundw
      case rel => exact ⟨k + 1, _, _, by go_num, by omega, HRR.out.1, HRR.out.2.1, HRR.out.2.2⟩
      case measure => simp [intOf]; omega
    · obtain rfl : k = n := by omega
      have H := Lib.hid (And.intro hb ht)
      clear hb hown ht
      have HA4 := Lib.hid (HA3.out.turns H.out.2 (by have := HG.out; have := HL.out; simp; omega) (by have := HG.out; have := HL.out; simp; omega))
      go_wp2_with fail
      refine (store_any HA4.out (nx : Int) ((k + 1 : Nat) : Int) (by show s.ops + 1 ≤ _; have := HO.out; omega)).mono ?_
      rintro en w5 ⟨rfl, k5, t5⟩
      have H5 := Lib.hid (And.intro k5 t5)
      clear k5 t5
      go_wp2
      go_ret2
      have s3 := HT3.out.size
      have s5 := H5.out.2.size
      have hb := H.out.1.lt
      have s6 := H.out.2.size
      refine ⟨l, _, rfl, HL.out.1, by omega, H5.out.1, storeS_more _ _ _ (takeS_more s (k + 2)) _ _ (by have := HL.out.2.1; omega), ?_⟩
      have t9 : Turns [a, g, l] w w5 := ((HT3.out.mono (by simp)).trans (H.out.2.mono (by simp))).trans (H5.out.2.mono (by simp))
      exact t9.fresh fun i hi => by have := HL.out.1; simp at hi ⊢; omega
end Go.Proofs.YtndipiockdmaoaaGreat
end
section
set_option linter.unusedVariables false
set_option linter.unusedSimpArgs false
/- Layers 15 to 18: a new flat lock (tas, ticket, mcs), exactly. (written by wip/gen_fn.py) -/
namespace Go.Proofs.YtndipiockdmaoaaGreat
open Go.RowKit

theorem fmade_const4 (u : Value) (n : Nat) : (madeCells #[u, u, u, u] n).toList = List.replicate n u := by
  unfold madeCells
  rw [Array.toList_map, Array.toList_range]
  refine List.ext_getElem? fun i => ?_
  rw [List.getElem?_map, List.getElem?_replicate]
  by_cases h : i < n
  · rw [List.getElem?_range h, if_pos h]
    have : i % 4 = 0 ∨ i % 4 = 1 ∨ i % 4 = 2 ∨ i % 4 = 3 := by omega
    rcases this with e | e | e | e <;> simp [e]
  · rw [if_neg h]; simp; omega
theorem fflat_zero (n : Nat) : (List.replicate n Sp.zero).flatMap encP4 = List.replicate (n * 4) (.int .i64 0) := by
  induction n with
  | zero => rfl
  | succ n ih => rw [List.replicate_succ, List.flatMap_cons, ih, show (n + 1) * 4 = 4 + n * 4 by omega, ← List.replicate_append_replicate]; rfl
/-- spots that were made -/
theorem spr_made {w : World} {base q n : Nat} (h : w.ownsRow base 46 4 (.slice (some ⟨q, 0, none⟩) n n) n (madeCells #[Value.int .i64 0, .int .i64 0, .int .i64 0, .int .i64 0] (n * 4)).toList) : SpR w q (List.replicate n Sp.zero) := by
  have := own_blk h
  refine ⟨[], ?_⟩
  rw [List.append_nil, fflat_zero]
  have e : (madeCells #[Value.int .i64 0, .int .i64 0, .int .i64 0, .int .i64 0] (n * 4)).toList = List.replicate (n * 4) (.int .i64 0) := fmade_const4 _ _
  rw [e] at this
  exact this
/-- how many words a lock takes; the arena after it came to be; its spots -/
def szK (k n m : Nat) : Nat := if k = 1 then 1 else if k = 2 then 2 else if k = 3 then 1 + m else if k = 4 then 1 + 2 * n else n + 2
def newAr_ (k : Nat) (s : Ar) (n m : Nat) : Ar :=
  if k = 3 then storeA (takeS s (szK k n m)) ((s.W.length : Int) + 2) 1 else if k = 5 then storeA (takeS s (szK k n m)) ((s.W.length : Int) + 1) ((n : Int) + 1) else takeS s (szK k n m)
def newSpK (k n : Nat) : List Sp := if k = 5 then (List.range n).map fun (i : Nat) => (⟨0, (i : Int) + 1, 0, 0⟩ : Sp) else List.replicate n Sp.zero
/-- a new lock, exactly -/
def NewX (w : World) (a g k : Nat) (s : Ar) (n m : Nat) (e : Ending) (w' : World) : Prop :=
  ∃ x : Fx, e = .returned (.tuple #[.pointer (some ⟨x.l, 0, none⟩), .int .i64 0]) ∧ KIs w' a g k x (newAr_ k s n m) (newSpK k n) ∧ (w.heap.size ≤ x.l ∧ w.heap.size ≤ x.q ∧ x.n = n ∧ x.m = m ∧ x.t = s.W.length + 1 ∧ x.k = k) ∧ Turns [a, g] w w'
set_option maxRecDepth 100000 in
set_option maxHeartbeats 1000000 in
theorem ticketNewX {w : World} {a g : Nat} {s : Ar} (h : ArIs w a g s) (n : Nat) (h1 : 1 ≤ n) (h2 : n ≤ 32) (m : Nat) (hm1 : 1 ≤ m) (hm2 : m ≤ 4) (hr : s.W.length + (2) ≤ s.room) :
    Calls Tryz.prog 92 #[.pointer (some ⟨a, 0, none⟩), .int .i64 n] w (NewX w a g 2 s n m) := by
  obtain ⟨i0, hi, hz0, hz1, hz2⟩ := info_parts Tryz.infoSpF
  have HT := Lib.hid (takeY h (2) hr)
  have t1 : ¬ (n : Int) < 1 := by omega
  have t2 : ¬ 32 < (n : Int) := by omega
  have HR := Lib.hid (And.intro hr h.room)
  have HG := Lib.hid (And.intro h.blk.lt h.wds.lt)
  clear h hr
  go_enter Tryz.func92, Tryz.ntmps92
  go_wp2_with fail
  refine HT.out.mono ?_
  rintro en w1 ⟨rfl, k1, t1'⟩
  have H1 := Lib.hid (And.intro k1 t1')
  clear k1 t1' HT
  go_wp2_with (refine wpList_make_full _ rfl _ _ 78 rfl w1.heap.size 46 i0 (.agg #[.int .i64 0, .int .i64 0, .int .i64 0, .int .i64 0]) 4 Tryz.underlying78 hi hz0 hz1 .i64 .i64 n n n rfl rfl rfl rfl ?b2 ?b3 (Nat.le_refl _) ?_)
  case b2 => rw [hz2]; omega
  case b3 => unfold maxLen; omega
  intro w2 hown hg
  have t2' : Turns [] w1 w2 := Turns.of_below ((Below.refl w1.heap.size w1).grown hg (Nat.le_refl _) (fun j hj => by cases hj))
  have H2 := Lib.hid t2'
  have HS := Lib.hid (spr_made hown)
  clear hown hg t2'
  go_wp2
  go_ret2
  have k2 := H1.out.1.turns H2.out (by simp) (by simp)
  have s1 := H1.out.2.size
  have s2 := H2.out.size
  have hq := HS.out.lt
  have hgg := HG.out
  have hrr := HR.out
  have tA : Turns [] w2 (w2.alloc (.cells (lkC 2 a ⟨0, w2.heap.size, w1.heap.size, 2, s.W.length + 1, m, n, n⟩) (lkT 2))) := (Turns.refl _ _).alloc _
  have hb := Blk.new w2 (lkT 2) (lkC 2 a ⟨0, w2.heap.size, w1.heap.size, 2, s.W.length + 1, m, n, n⟩)
  refine ⟨⟨0, w2.heap.size, w1.heap.size, 2, s.W.length + 1, m, n, n⟩, rfl, ?_, ⟨by show w.heap.size ≤ w2.heap.size; omega, by show w.heap.size ≤ w1.heap.size; omega, rfl, rfl, rfl, rfl⟩, ((H1.out.2.mono (by simp)).trans (H2.out.mono (by simp))).alloc _⟩
  exact ⟨k2.turns tA (by simp) (by simp), hb, HS.out.turns tA (by simp), by show (List.replicate n Sp.zero).length = n; simp, by show w2.heap.size ≠ a; omega, by show w2.heap.size ≠ g; omega, by show w2.heap.size ≠ w1.heap.size; omega, by show w1.heap.size ≠ a; omega, by show w1.heap.size ≠ g; omega, h2, by show 1 ≤ s.W.length + 1; omega, by show s.W.length + 1 ≤ 5000; omega, hm1, hm2, Nat.le_refl _⟩
set_option maxRecDepth 100000 in
set_option maxHeartbeats 1000000 in
theorem mcsNewX {w : World} {a g : Nat} {s : Ar} (h : ArIs w a g s) (n : Nat) (h1 : 1 ≤ n) (h2 : n ≤ 32) (m : Nat) (hm1 : 1 ≤ m) (hm2 : m ≤ 4) (hr : s.W.length + (1 + 2 * n) ≤ s.room) :
    Calls Tryz.prog 94 #[.pointer (some ⟨a, 0, none⟩), .int .i64 n] w (NewX w a g 4 s n m) := by
  obtain ⟨i0, hi, hz0, hz1, hz2⟩ := info_parts Tryz.infoSpF
  have HT := Lib.hid (takeY h (1 + 2 * n) hr)
  have t1 : ¬ (n : Int) < 1 := by omega
  have t2 : ¬ 32 < (n : Int) := by omega
  have HR := Lib.hid (And.intro hr h.room)
  have HG := Lib.hid (And.intro h.blk.lt h.wds.lt)
  have x1 : IntKind.i64.wrap (2 * (n : Int)) = 2 * (n : Int) := IntWalk.i64_in _ (by omega)
  have x2 : IntKind.i64.wrap (1 + 2 * (n : Int)) = ((1 + 2 * n : Nat) : Int) := by rw [IntWalk.i64_in _ (by omega)]; omega
  clear h hr
  go_enter Tryz.func94, Tryz.ntmps94
  go_wp2_with fail
  refine HT.out.mono ?_
  rintro en w1 ⟨rfl, k1, t1'⟩
  have H1 := Lib.hid (And.intro k1 t1')
  clear k1 t1' HT
  go_wp2_with (refine wpList_make_full _ rfl _ _ 78 rfl w1.heap.size 46 i0 (.agg #[.int .i64 0, .int .i64 0, .int .i64 0, .int .i64 0]) 4 Tryz.underlying78 hi hz0 hz1 .i64 .i64 n n n rfl rfl rfl rfl ?b2 ?b3 (Nat.le_refl _) ?_)
  case b2 => rw [hz2]; omega
  case b3 => unfold maxLen; omega
  intro w2 hown hg
  have t2' : Turns [] w1 w2 := Turns.of_below ((Below.refl w1.heap.size w1).grown hg (Nat.le_refl _) (fun j hj => by cases hj))
  have H2 := Lib.hid t2'
  have HS := Lib.hid (spr_made hown)
  clear hown hg t2'
  go_wp2
  go_ret2
  have k2 := H1.out.1.turns H2.out (by simp) (by simp)
  have s1 := H1.out.2.size
  have s2 := H2.out.size
  have hq := HS.out.lt
  have hgg := HG.out
  have hrr := HR.out
  have tA : Turns [] w2 (w2.alloc (.cells (lkC 4 a ⟨0, w2.heap.size, w1.heap.size, 4, s.W.length + 1, m, n, n⟩) (lkT 4))) := (Turns.refl _ _).alloc _
  have hb := Blk.new w2 (lkT 4) (lkC 4 a ⟨0, w2.heap.size, w1.heap.size, 4, s.W.length + 1, m, n, n⟩)
  refine ⟨⟨0, w2.heap.size, w1.heap.size, 4, s.W.length + 1, m, n, n⟩, rfl, ?_, ⟨by show w.heap.size ≤ w2.heap.size; omega, by show w.heap.size ≤ w1.heap.size; omega, rfl, rfl, rfl, rfl⟩, ((H1.out.2.mono (by simp)).trans (H2.out.mono (by simp))).alloc _⟩
  exact ⟨k2.turns tA (by simp) (by simp), hb, HS.out.turns tA (by simp), by show (List.replicate n Sp.zero).length = n; simp, by show w2.heap.size ≠ a; omega, by show w2.heap.size ≠ g; omega, by show w2.heap.size ≠ w1.heap.size; omega, by show w1.heap.size ≠ a; omega, by show w1.heap.size ≠ g; omega, h2, by show 1 ≤ s.W.length + 1; omega, by show s.W.length + 1 ≤ 5000; omega, hm1, hm2, Nat.le_refl _⟩
set_option maxRecDepth 100000 in
set_option maxHeartbeats 1000000 in
theorem tasNewX {w : World} {a g : Nat} {s : Ar} (h : ArIs w a g s) (n : Nat) (h1 : 1 ≤ n) (h2 : n ≤ 32) (m : Nat) (hm1 : 1 ≤ m) (hm2 : m ≤ 4) (hr : s.W.length + (1) ≤ s.room) :
    Calls Tryz.prog 91 #[.pointer (some ⟨a, 0, none⟩), .int .i64 n, .int .i64 m] w (NewX w a g 1 s n m) := by
  obtain ⟨i0, hi, hz0, hz1, hz2⟩ := info_parts Tryz.infoSpF
  have HT := Lib.hid (takeY h (1) hr)
  have t1 : ¬ (n : Int) < 1 := by omega
  have t2 : ¬ 32 < (n : Int) := by omega
  have HR := Lib.hid (And.intro hr h.room)
  have HG := Lib.hid (And.intro h.blk.lt h.wds.lt)
  have t3 : ¬ (m : Int) < 1 := by omega
  have t4 : ¬ 1024 < (m : Int) := by omega
  clear h hr
  go_enter Tryz.func91, Tryz.ntmps91
  go_wp2_with fail
  refine HT.out.mono ?_
  rintro en w1 ⟨rfl, k1, t1'⟩
  have H1 := Lib.hid (And.intro k1 t1')
  clear k1 t1' HT
  go_wp2_with (refine wpList_make_full _ rfl _ _ 78 rfl w1.heap.size 46 i0 (.agg #[.int .i64 0, .int .i64 0, .int .i64 0, .int .i64 0]) 4 Tryz.underlying78 hi hz0 hz1 .i64 .i64 n n n rfl rfl rfl rfl ?b2 ?b3 (Nat.le_refl _) ?_)
  case b2 => rw [hz2]; omega
  case b3 => unfold maxLen; omega
  intro w2 hown hg
  have t2' : Turns [] w1 w2 := Turns.of_below ((Below.refl w1.heap.size w1).grown hg (Nat.le_refl _) (fun j hj => by cases hj))
  have H2 := Lib.hid t2'
  have HS := Lib.hid (spr_made hown)
  clear hown hg t2'
  go_wp2
  go_ret2
  have k2 := H1.out.1.turns H2.out (by simp) (by simp)
  have s1 := H1.out.2.size
  have s2 := H2.out.size
  have hq := HS.out.lt
  have hgg := HG.out
  have hrr := HR.out
  have tA : Turns [] w2 (w2.alloc (.cells (lkC 1 a ⟨0, w2.heap.size, w1.heap.size, 1, s.W.length + 1, m, n, n⟩) (lkT 1))) := (Turns.refl _ _).alloc _
  have hb := Blk.new w2 (lkT 1) (lkC 1 a ⟨0, w2.heap.size, w1.heap.size, 1, s.W.length + 1, m, n, n⟩)
  refine ⟨⟨0, w2.heap.size, w1.heap.size, 1, s.W.length + 1, m, n, n⟩, rfl, ?_, ⟨by show w.heap.size ≤ w2.heap.size; omega, by show w.heap.size ≤ w1.heap.size; omega, rfl, rfl, rfl, rfl⟩, ((H1.out.2.mono (by simp)).trans (H2.out.mono (by simp))).alloc _⟩
  exact ⟨k2.turns tA (by simp) (by simp), hb, HS.out.turns tA (by simp), by show (List.replicate n Sp.zero).length = n; simp, by show w2.heap.size ≠ a; omega, by show w2.heap.size ≠ g; omega, by show w2.heap.size ≠ w1.heap.size; omega, by show w1.heap.size ≠ a; omega, by show w1.heap.size ≠ g; omega, h2, by show 1 ≤ s.W.length + 1; omega, by show s.W.length + 1 ≤ 5000; omega, hm1, hm2, Nat.le_refl _⟩
end Go.Proofs.YtndipiockdmaoaaGreat
end
section
set_option linter.unusedVariables false
set_option linter.unusedSimpArgs false
/- Layers 17 and 19: a new flat lock (parted, clh), exactly. (printed by gen_fn3.py out of XFk1) -/
namespace Go.Proofs.YtndipiockdmaoaaGreat
open Go.RowKit

/-- a slice's block, whatever its room -/
theorem own_blkZ {w : World} {base : Nat} {e : TypeId} {sz n : Nat} {v : Value} {xs : List Value} (h : w.ownsRow base e sz v n xs) (hn : 1 ≤ n) : ∃ q cap, v = .slice (some ⟨q, 0, none⟩) n cap ∧ n ≤ cap ∧ base ≤ q ∧ ∃ Z : List Value, Blk w q e (xs ++ Z).toArray := by
  rcases h.2 with ⟨_, h0⟩ | ⟨q, cap, cur, rfl, hb, hq, hnc, hcm, hcs, ht⟩
  · omega
  · refine ⟨q, cap, rfl, hnc, hb, cur.toList.drop (n * sz), ?_⟩
    rw [← ht, List.take_append_drop, Array.toArray_toList]
    exact hq
theorem newSp5_len (k : Nat) : (newSpK 5 k).length = k := by
  unfold newSpK
  simp
theorem clh_snoc (k : Nat) : (newSpK 5 (k + 1)).flatMap encP4 = (newSpK 5 k).flatMap encP4 ++ [.int .i64 0, .int .i64 ((k : Int) + 1), .int .i64 0, .int .i64 0] := by
  unfold newSpK
  rw [if_pos rfl, if_pos rfl, List.range_succ, List.map_append, List.flatMap_append]
  rfl
set_option maxRecDepth 100000 in
set_option maxHeartbeats 1000000 in
theorem partedNewX {w : World} {a g : Nat} {s : Ar} (h : ArIs w a g s) (n : Nat) (h1 : 1 ≤ n) (h2 : n ≤ 32) (m : Nat) (hm1 : 1 ≤ m) (hm2 : m ≤ 4) (hr : s.W.length + (1 + m) ≤ s.room) (ho : s.ops + 1 ≤ 1000000000000) :
    Calls Tryz.prog 93 #[.pointer (some ⟨a, 0, none⟩), .int .i64 n, .int .i64 m] w (NewX w a g 3 s n m) := by
  obtain ⟨i0, hi, hz0, hz1, hz2⟩ := info_parts Tryz.infoSpF
  have HT := Lib.hid (takeY h (1 + m) hr)
  have x1 : IntKind.i64.wrap (1 + (m : Int)) = ((1 + m : Nat) : Int) := by rw [IntWalk.i64_in _ (by omega)]; omega
  have hlen : s.W.length ≤ 4096 := by have := h.le; have := h.room; omega
  have ha0 := h.blk.lt
  have hg0 := h.wds.lt
  have HO := Lib.hid ho
  clear h hr ho
  go_enter Tryz.func93, Tryz.ntmps93
  go_wp2_with fail
  refine (mayF _ n h1 h2).mono ?_
  rintro en w0 ⟨rfl, rfl⟩
  go_wp2_with fail
  refine (mayF _ m hm1 (by omega)).mono ?_
  rintro en w0 ⟨rfl, rfl⟩
  go_wp2_with fail
  refine HT.out.mono ?_
  rintro en w1 ⟨rfl, k1, t1'⟩
  have H1 := Lib.hid (And.intro k1 t1')
  clear k1 t1' HT
  go_wp2_with (refine wpList_make_full _ rfl _ _ 78 rfl w1.heap.size 46 i0 (.agg #[.int .i64 0, .int .i64 0, .int .i64 0, .int .i64 0]) 4 Tryz.underlying78 hi hz0 hz1 .i64 .i64 n n n rfl rfl rfl rfl ?b2 ?b3 (Nat.le_refl _) ?_)
  case b2 => rw [hz2]; omega
  case b3 => unfold maxLen; omega
  intro w2 hown hg
  have t2' : Turns [] w1 w2 := Turns.of_below ((Below.refl w1.heap.size w1).grown hg (Nat.le_refl _) (fun j hj => by cases hj))
  have H2 := Lib.hid t2'
  have HSP := Lib.hid (spr_made hown)
  clear hown hg t2'
  go_upto_region 7 with fail
  obtain ⟨l, hl⟩ : ∃ l, l = w2.heap.size := ⟨_, rfl⟩
  obtain ⟨nx, hnx⟩ : ∃ x : Nat, x = s.W.length + 1 := ⟨_, rfl⟩
  have hnx2 : ((s.W.length : Int) + 1) = (nx : Int) := by omega
  obtain ⟨w3, hw3⟩ : ∃ W, W = w2.alloc (.cells #[.pointer (some ⟨a, 0, none⟩), .int .i64 nx, .int .i64 m, .slice (some ⟨w1.heap.size, 0, none⟩) n n] 178) := ⟨_, rfl⟩
  rw [hnx2, ← hw3, ← hl]
  have HB := Lib.hid (show Blk w3 l 178 #[.pointer (some ⟨a, 0, none⟩), .int .i64 nx, .int .i64 m, .slice (some ⟨w1.heap.size, 0, none⟩) n n] from by rw [hw3, hl]; exact Blk.new _ _ _)
  have HT3 := Lib.hid (show Turns [a] w w3 from by rw [hw3]; exact (H1.out.2.trans (H2.out.mono (by simp))).alloc _)
  have HA3 := Lib.hid (show ArIs w3 a g (takeS s (1 + m)) from by rw [hw3]; exact (H1.out.1.turns H2.out (by simp) (by simp)).turns (S := []) ((Turns.refl _ _).alloc _) (by simp) (by simp))
  have HSP3 := Lib.hid (show SpR w3 w1.heap.size (List.replicate n Sp.zero) from by rw [hw3]; exact HSP.out.turns ((Turns.refl [] _).alloc _) (by simp))
  have HL := Lib.hid (show w.heap.size ≤ l ∧ nx = s.W.length + 1 ∧ w1.heap.size < l ∧ w.heap.size ≤ w1.heap.size from by have := H1.out.2.size; have := H2.out.size; have := HSP.out.lt; omega)
  clear hl hw3 hnx hnx2
  go_wp2_with fail
  refine (placeF nx m hm1 (by have := HL.out.2.1; omega) HB.out).mono ?_
  rintro en w4 ⟨rfl, b4⟩
  have HA4 := Lib.hid (And.intro (HA3.out.turns (Turns.of_below (S := []) b4) (by simp) (by simp)) b4)
  clear b4
  go_wp2_with fail
  refine (store_any HA4.out.1 ((nx : Int) + 1) 1 (by show s.ops + 1 ≤ _; have := HO.out; omega)).mono ?_
  rintro en w5 ⟨rfl, k5, t5⟩
  have H5 := Lib.hid (And.intro k5 t5)
  clear k5 t5
  go_wp2
  go_ret2
  have s3 := HT3.out.size
  have s4 := HA4.out.2.size
  have s5 := H5.out.2.size
  have hb := HB.out.lt
  have hL := HL.out
  have e3 : ((nx : Int) + 1) = (s.W.length : Int) + 2 := by omega
  have tt : Turns [a, g] w3 w5 := (Turns.of_below HA4.out.2).trans H5.out.2
  have ka := H5.out.1
  rw [e3] at ka
  refine ⟨⟨0, l, w1.heap.size, 3, nx, m, n, n⟩, rfl, ?_, ⟨by show w.heap.size ≤ l; omega, by show w.heap.size ≤ w1.heap.size; omega, rfl, rfl, hL.2.1, rfl⟩, (HT3.out.mono (by simp)).trans tt⟩
  exact ⟨ka, tt.blk HB.out (by simp; omega), HSP3.out.turns tt (by simp; omega), by show (List.replicate n Sp.zero).length = n; simp, by show l ≠ a; omega, by show l ≠ g; omega, by show l ≠ w1.heap.size; omega, by show w1.heap.size ≠ a; omega, by show w1.heap.size ≠ g; omega, h2, by show 1 ≤ nx; omega, by show nx ≤ 5000; omega, hm1, hm2, Nat.le_refl _⟩
set_option maxRecDepth 100000 in
set_option maxHeartbeats 2000000 in
theorem clhNewX {w : World} {a g : Nat} {s : Ar} (h : ArIs w a g s) (n : Nat) (h1 : 1 ≤ n) (h2 : n ≤ 32) (m : Nat) (hm1 : 1 ≤ m) (hm2 : m ≤ 4) (hr : s.W.length + (n + 2) ≤ s.room) (ho : s.ops + 1 ≤ 1000000000000) :
    Calls Tryz.prog 95 #[.pointer (some ⟨a, 0, none⟩), .int .i64 n] w (NewX w a g 5 s n m) := by
  obtain ⟨i0, hi, hz0, hz1, hz2⟩ := info_parts Tryz.infoSpF
  have HI := Lib.hid (And.intro hi (And.intro hz0 (And.intro hz1 hz2)))
  have HT := Lib.hid (takeY h (n + 2) hr)
  have t1 : ¬ (n : Int) < 1 := by omega
  have t2 : ¬ 32 < (n : Int) := by omega
  have x1 : IntKind.i64.wrap ((n : Int) + 2) = ((n + 2 : Nat) : Int) := by rw [IntWalk.i64_in _ (by omega)]; omega
  have x2 : IntKind.i64.wrap ((n : Int) + 1) = ((n + 1 : Nat) : Int) := by rw [IntWalk.i64_in _ (by omega)]; omega
  have hlen : s.W.length ≤ 4096 := by have := h.le; have := h.room; omega
  have HG := Lib.hid (And.intro h.blk.lt h.wds.lt)
  have HO := Lib.hid ho
  clear h hr ho hi hz0 hz1 hz2
  go_enter Tryz.func95, Tryz.ntmps95
  go_wp2_with fail
  refine HT.out.mono ?_
  rintro en w1 ⟨rfl, k1, t1'⟩
  have H1 := Lib.hid (And.intro k1 t1')
  clear k1 t1' HT
  go_upto_region 7 with fail
  obtain ⟨l, hl⟩ : ∃ l, l = w1.heap.size := ⟨_, rfl⟩
  obtain ⟨nx, hnx⟩ : ∃ x : Nat, x = s.W.length + 1 := ⟨_, rfl⟩
  have hnx2 : ((s.W.length : Int) + 1) = (nx : Int) := by omega
  obtain ⟨w3, hw3⟩ : ∃ W, W = w1.alloc (.cells #[.pointer (some ⟨a, 0, none⟩), .int .i64 nx, .slice none 0 0] 182) := ⟨_, rfl⟩
  rw [hnx2, ← hw3, ← hl]
  have HB := Lib.hid (show Blk w3 l 182 #[.pointer (some ⟨a, 0, none⟩), .int .i64 nx, .slice none 0 0] from by rw [hw3, hl]; exact Blk.new _ _ _)
  have HT3 := Lib.hid (show Turns [a] w w3 from by rw [hw3]; exact H1.out.2.alloc _)
  have HA3 := Lib.hid (show ArIs w3 a g (takeS s (n + 2)) from by rw [hw3]; exact H1.out.1.turns (S := []) ((Turns.refl _ _).alloc _) (by simp) (by simp))
  have HL := Lib.hid (show w.heap.size ≤ l ∧ nx = s.W.length + 1 ∧ w3.heap.size = l + 1 from by have := H1.out.2.size; rw [hw3]; simp; omega)
  clear hl hw3 hnx hnx2
  go_wp2
  go_loopw [31] (fun i wr => ∃ (k : Nat) (v : Value), i = .int .i64 k ∧ k ≤ n ∧ Blk wr l 182 #[.pointer (some ⟨a, 0, none⟩), .int .i64 nx, v] ∧ wr.ownsRow w3.heap.size 46 4 v k ((newSpK 5 k).flatMap encP4) ∧ Turns [l] w3 wr) (fun i _ => n - (intOf i).toNat)
  case atStart => exact ⟨0, _, rfl, by omega, HB.out, World.ownsRow_nil _ _ _ _, Turns.refl _ _⟩
  case round =>
    obtain ⟨k, v, rfl, hk, hb, hown, ht⟩ := hrel
    have HXS := Lib.hid (clh_snoc k)
    obtain ⟨xs, hxs⟩ : ∃ l, l = (newSpK 5 k).flatMap encP4 := ⟨_, rfl⟩
    rw [← hxs] at hown HXS
    have HXE := Lib.hid hxs
    clear hxs
    obtain ⟨wo, rfl⟩ : ∃ wo : World, wo = wr := ⟨_, rfl⟩
    by_cases hlt : k < n
    · obtain ⟨A, cap, rfl⟩ := own_form hown
      have c2 : wo.cell? ⟨l, 2, none⟩ = some (.slice A k cap) := hb.cell 2
      have hll := hb.lt
      have hs3 := ht.size
      have H := Lib.hid (And.intro hb (And.intro hown ht))
      have hlow : (Value.slice A k cap).ownBlock ≠ some l := fun e => by have := (hown.lt l e).1; have := HL.out.2.2; omega
      clear hb hown ht
      go_wp2_with (at_builtin; refine wpList_append_lies _ rfl _ _ 78 rfl w3.heap.size 46 i0 (.agg #[.int .i64 0, .int .i64 0, .int .i64 0, .int .i64 0]) 4 32 Tryz.underlying78 HI.out.1 HI.out.2.1 HI.out.2.2.1 HI.out.2.2.2 rfl (by decide) _ _ _ rfl (H.out.2.1.alloc _) ⟨wo.heap.size, 0, none⟩ 1 1 [.int .i64 0, .int .i64 ((k : Int) + 1), .int .i64 0, .int .i64 0] rfl rfl (cells_newF _ _ _) (by simp [Value.oneCell']) (by decide) ?c3 ?c4 ?c5 _ rfl ?_)
      case c3 => unfold maxLen; omega
      case c4 => omega
      case c5 => simp; omega
      intro g3 cap3 w7 h3 hg3 hl3 hlt3
      have bl7 := (H.out.1.alloc (.cells #[.int .i64 0, .int .i64 ((k : Int) + 1), .int .i64 0, .int .i64 0] 46)).grown hg3 (fun e => hlow e.symm)
      have c27 : w7.cell? ⟨l, 2, none⟩ = some (.slice A k cap) := bl7.cell 2
      have z27 := bl7.free 2
      have ts : Turns [l] w7 (w7.setCell ⟨l, 2, none⟩ (.slice (some ⟨g3, 0, none⟩) (k + 1) cap3)) := (Turns.refl _ _).setCell (.inl (by simp)) _
      have HRR := Lib.hid (show Blk (w7.setCell ⟨l, 2, none⟩ (.slice (some ⟨g3, 0, none⟩) (k + 1) cap3)) l 182 #[.pointer (some ⟨a, 0, none⟩), .int .i64 nx, .slice (some ⟨g3, 0, none⟩) (k + 1) cap3] ∧ (w7.setCell ⟨l, 2, none⟩ (.slice (some ⟨g3, 0, none⟩) (k + 1) cap3)).ownsRow w3.heap.size 46 4 (.slice (some ⟨g3, 0, none⟩) (k + 1) cap3) (k + 1) (xs ++ [.int .i64 0, .int .i64 ((k : Int) + 1), .int .i64 0, .int .i64 0]) ∧ Turns [l] w3 (w7.setCell ⟨l, 2, none⟩ (.slice (some ⟨g3, 0, none⟩) (k + 1) cap3)) from by
        have hg35 := (h3.lt g3 rfl).1
        have hl3' := HL.out.2.2
        refine ⟨bl7.set_ 2 _, Turns.own h3 ts (fun x hx => by injection hx with hx; subst hx; simp; omega), ?_⟩
        have t37 : Turns [l] w3 w7 := ⟨hg3.os.trans H.out.2.2.os, hg3.tape.trans H.out.2.2.tape, hg3.output.trans H.out.2.2.output, by have := hg3.size; simp at this; omega, fun i hi hn => by
          have h9 := hg3.block i (by simp; omega) (fun e => by have := (H.out.2.1.lt i e.symm).1; omega)
          rw [h9]
          have h8 := ((Turns.refl [l] wo).alloc (.cells #[.int .i64 0, .int .i64 ((k : Int) + 1), .int .i64 0, .int .i64 0] 46)).block i (by omega) hn
          rw [h8]
          exact H.out.2.2.block i hi hn⟩
        exact t37.trans ts)
      clear h3 hg3 hl3 bl7 H
      go_wp2
      go_roundw
      case rel => exact ⟨k + 1, _, by go_num, by omega, HRR.out.1, by rw [HXS.out]; exact HRR.out.2.1, HRR.out.2.2⟩
      case measure => simp [intOf]; omega
    · obtain rfl : k = n := by omega
      obtain ⟨q, cap, rfl, hcap, hql, Z, hZ⟩ := own_blkZ hown h1
      have H := Lib.hid (And.intro hb ht)
      have HZ := Lib.hid (show SpR wo q (newSpK 5 k) from ⟨Z, by rw [← HXE.out]; exact hZ⟩)
      clear hb hown ht hZ
      have HA4 := Lib.hid (HA3.out.turns H.out.2 (by have := HG.out; have := HL.out; simp; omega) (by have := HG.out; have := HL.out; simp; omega))
      go_wp2_with fail
      refine (store_any HA4.out (nx : Int) ((k + 1 : Nat) : Int) (by show s.ops + 1 ≤ _; have := HO.out; omega)).mono ?_
      rintro en w5 ⟨rfl, k5, t5⟩
      have H5 := Lib.hid (And.intro k5 t5)
      clear k5 t5
      go_wp2
      go_ret2
      have s3 := HT3.out.size
      have s5 := H5.out.2.size
      have hb := H.out.1.lt
      have s6 := H.out.2.size
      have hL := HL.out
      have hG := HG.out
      have e3 : (nx : Int) = (s.W.length : Int) + 1 := by omega
      have ka := H5.out.1
      rw [e3, show (((k + 1 : Nat) : Nat) : Int) = (k : Int) + 1 by omega] at ka
      have t9 : Turns [a, g, l] w w5 := ((HT3.out.mono (by simp)).trans (H.out.2.mono (by simp))).trans (H5.out.2.mono (by simp))
      refine ⟨⟨0, l, q, 5, nx, m, k, cap⟩, rfl, ?_, ⟨by show w.heap.size ≤ l; omega, by show w.heap.size ≤ q; omega, rfl, rfl, hL.2.1, rfl⟩, t9.fresh fun i hi => by simp at hi ⊢; omega⟩
      exact ⟨ka, H5.out.2.blk H.out.1 (by simp; omega), HZ.out.turns H5.out.2 (by simp; omega), newSp5_len k, by show l ≠ a; omega, by show l ≠ g; omega, by show l ≠ q; omega, by show q ≠ a; omega, by show q ≠ g; omega, h2, by show 1 ≤ nx; omega, by show nx ≤ 5000; omega, hm1, hm2, hcap⟩
end Go.Proofs.YtndipiockdmaoaaGreat
end
section
set_option linter.unusedVariables false
set_option linter.unusedSimpArgs false
/- Layer 20 (flat): a new flat lock, exactly. (printed by gen_fn2.py) -/
namespace Go.Proofs.YtndipiockdmaoaaGreat
open Go.RowKit

/-- a new flat lock, exactly -/
def NewFl (w : World) (a g k : Nat) (s : Ar) (n m : Nat) (e : Ending) (w' : World) : Prop :=
  ∃ x : Fx, e = .returned (.tuple #[.pointer (some ⟨x.p, 0, none⟩), .int .i64 0]) ∧ FlIs w' a g k x (newAr_ k s n m) (newSpK k n) ∧ (w.heap.size ≤ x.p ∧ w.heap.size ≤ x.l ∧ w.heap.size ≤ x.q ∧ x.n = n ∧ x.m = m ∧ x.t = s.W.length + 1) ∧ Turns [a, g] w w'
set_option maxRecDepth 100000 in
set_option maxHeartbeats 4000000 in
theorem flNew_1 {w : World} {a g : Nat} {s : Ar} (h : ArIs w a g s) (n : Nat) (h1 : 1 ≤ n) (h2 : n ≤ 32) (m : Nat) (hm1 : 1 ≤ m) (hm2 : m ≤ 4) (hr : s.W.length + szK 1 n m ≤ s.room) (ho : s.ops + 1 ≤ 1000000000000) :
    Calls Tryz.prog 50 #[.pointer (some ⟨a, 0, none⟩), .int .i64 1, .int .i64 n, .int .i64 m] w (NewFl w a g 1 s n m) := by
  have H2 := Lib.hid (tasNewX h n h1 h2 m hm1 hm2 (show s.W.length + (1) ≤ s.room from hr))
  have HG := Lib.hid (And.intro h.blk.lt h.wds.lt)
  clear h hr ho
  go_enter Tryz.func50, Tryz.ntmps50
  go_wp2_with fail
  refine H2.out.mono ?_
  rintro en w1 ⟨x, rfl, e1, e2, e3⟩
  have HE := Lib.hid (And.intro e1 (And.intro e2 e3))
  clear e1 e2 e3
  go_wp2
  go_ret2
  obtain ⟨e1, e2, e3⟩ := HE.out
  have hq := e1.sp.lt
  have hs := e3.size
  have hg := HG.out
  have tA : Turns [] w1 (w1.alloc (.cells #[.int .i64 ((1 : Nat) : Int), ifV 1 x.l] 155)) := (Turns.refl _ _).alloc _
  exact ⟨{ x with p := w1.heap.size }, rfl, ⟨Blk.new w1 155 #[.int .i64 ((1 : Nat) : Int), ifV 1 x.l], ⟨e1.ar.turns tA (by simp) (by simp), tA.blk e1.lk (by simp), e1.sp.turns tA (by simp), e1.n, e1.la, e1.lg, e1.lq, e1.qa, e1.qg, e1.n32, e1.t0, e1.t1, e1.m0, e1.m1, e1.cap⟩, by show w1.heap.size ≠ a; omega, by show w1.heap.size ≠ g; omega, by show w1.heap.size ≠ x.q; omega⟩, ⟨by show w.heap.size ≤ w1.heap.size; omega, e2.1, e2.2.1, e2.2.2.1, e2.2.2.2.1, e2.2.2.2.2.1⟩, e3.alloc _⟩
set_option maxRecDepth 100000 in
set_option maxHeartbeats 4000000 in
theorem flNew_2 {w : World} {a g : Nat} {s : Ar} (h : ArIs w a g s) (n : Nat) (h1 : 1 ≤ n) (h2 : n ≤ 32) (m : Nat) (hm1 : 1 ≤ m) (hm2 : m ≤ 4) (hr : s.W.length + szK 2 n m ≤ s.room) (ho : s.ops + 1 ≤ 1000000000000) :
    Calls Tryz.prog 50 #[.pointer (some ⟨a, 0, none⟩), .int .i64 2, .int .i64 n, .int .i64 m] w (NewFl w a g 2 s n m) := by
  have H2 := Lib.hid (ticketNewX h n h1 h2 m hm1 hm2 (show s.W.length + (2) ≤ s.room from hr))
  have HG := Lib.hid (And.intro h.blk.lt h.wds.lt)
  clear h hr ho
  go_enter Tryz.func50, Tryz.ntmps50
  go_wp2_with fail
  refine H2.out.mono ?_
  rintro en w1 ⟨x, rfl, e1, e2, e3⟩
  have HE := Lib.hid (And.intro e1 (And.intro e2 e3))
  clear e1 e2 e3
  go_wp2
  go_ret2
  obtain ⟨e1, e2, e3⟩ := HE.out
  have hq := e1.sp.lt
  have hs := e3.size
  have hg := HG.out
  have tA : Turns [] w1 (w1.alloc (.cells #[.int .i64 ((2 : Nat) : Int), ifV 2 x.l] 155)) := (Turns.refl _ _).alloc _
  exact ⟨{ x with p := w1.heap.size }, rfl, ⟨Blk.new w1 155 #[.int .i64 ((2 : Nat) : Int), ifV 2 x.l], ⟨e1.ar.turns tA (by simp) (by simp), tA.blk e1.lk (by simp), e1.sp.turns tA (by simp), e1.n, e1.la, e1.lg, e1.lq, e1.qa, e1.qg, e1.n32, e1.t0, e1.t1, e1.m0, e1.m1, e1.cap⟩, by show w1.heap.size ≠ a; omega, by show w1.heap.size ≠ g; omega, by show w1.heap.size ≠ x.q; omega⟩, ⟨by show w.heap.size ≤ w1.heap.size; omega, e2.1, e2.2.1, e2.2.2.1, e2.2.2.2.1, e2.2.2.2.2.1⟩, e3.alloc _⟩
set_option maxRecDepth 100000 in
set_option maxHeartbeats 4000000 in
theorem flNew_3 {w : World} {a g : Nat} {s : Ar} (h : ArIs w a g s) (n : Nat) (h1 : 1 ≤ n) (h2 : n ≤ 32) (m : Nat) (hm1 : 1 ≤ m) (hm2 : m ≤ 4) (hr : s.W.length + szK 3 n m ≤ s.room) (ho : s.ops + 1 ≤ 1000000000000) :
    Calls Tryz.prog 50 #[.pointer (some ⟨a, 0, none⟩), .int .i64 3, .int .i64 n, .int .i64 m] w (NewFl w a g 3 s n m) := by
  have H2 := Lib.hid (partedNewX h n h1 h2 m hm1 hm2 (show s.W.length + (1 + m) ≤ s.room from hr) ho)
  have HG := Lib.hid (And.intro h.blk.lt h.wds.lt)
  clear h hr ho
  go_enter Tryz.func50, Tryz.ntmps50
  go_wp2_with fail
  refine H2.out.mono ?_
  rintro en w1 ⟨x, rfl, e1, e2, e3⟩
  have HE := Lib.hid (And.intro e1 (And.intro e2 e3))
  clear e1 e2 e3
  go_wp2
  go_ret2
  obtain ⟨e1, e2, e3⟩ := HE.out
  have hq := e1.sp.lt
  have hs := e3.size
  have hg := HG.out
  have tA : Turns [] w1 (w1.alloc (.cells #[.int .i64 ((3 : Nat) : Int), ifV 3 x.l] 155)) := (Turns.refl _ _).alloc _
  exact ⟨{ x with p := w1.heap.size }, rfl, ⟨Blk.new w1 155 #[.int .i64 ((3 : Nat) : Int), ifV 3 x.l], ⟨e1.ar.turns tA (by simp) (by simp), tA.blk e1.lk (by simp), e1.sp.turns tA (by simp), e1.n, e1.la, e1.lg, e1.lq, e1.qa, e1.qg, e1.n32, e1.t0, e1.t1, e1.m0, e1.m1, e1.cap⟩, by show w1.heap.size ≠ a; omega, by show w1.heap.size ≠ g; omega, by show w1.heap.size ≠ x.q; omega⟩, ⟨by show w.heap.size ≤ w1.heap.size; omega, e2.1, e2.2.1, e2.2.2.1, e2.2.2.2.1, e2.2.2.2.2.1⟩, e3.alloc _⟩
set_option maxRecDepth 100000 in
set_option maxHeartbeats 4000000 in
theorem flNew_4 {w : World} {a g : Nat} {s : Ar} (h : ArIs w a g s) (n : Nat) (h1 : 1 ≤ n) (h2 : n ≤ 32) (m : Nat) (hm1 : 1 ≤ m) (hm2 : m ≤ 4) (hr : s.W.length + szK 4 n m ≤ s.room) (ho : s.ops + 1 ≤ 1000000000000) :
    Calls Tryz.prog 50 #[.pointer (some ⟨a, 0, none⟩), .int .i64 4, .int .i64 n, .int .i64 m] w (NewFl w a g 4 s n m) := by
  have H2 := Lib.hid (mcsNewX h n h1 h2 m hm1 hm2 (show s.W.length + (1 + 2 * n) ≤ s.room from hr))
  have HG := Lib.hid (And.intro h.blk.lt h.wds.lt)
  clear h hr ho
  go_enter Tryz.func50, Tryz.ntmps50
  go_wp2_with fail
  refine H2.out.mono ?_
  rintro en w1 ⟨x, rfl, e1, e2, e3⟩
  have HE := Lib.hid (And.intro e1 (And.intro e2 e3))
  clear e1 e2 e3
  go_wp2
  go_ret2
  obtain ⟨e1, e2, e3⟩ := HE.out
  have hq := e1.sp.lt
  have hs := e3.size
  have hg := HG.out
  have tA : Turns [] w1 (w1.alloc (.cells #[.int .i64 ((4 : Nat) : Int), ifV 4 x.l] 155)) := (Turns.refl _ _).alloc _
  exact ⟨{ x with p := w1.heap.size }, rfl, ⟨Blk.new w1 155 #[.int .i64 ((4 : Nat) : Int), ifV 4 x.l], ⟨e1.ar.turns tA (by simp) (by simp), tA.blk e1.lk (by simp), e1.sp.turns tA (by simp), e1.n, e1.la, e1.lg, e1.lq, e1.qa, e1.qg, e1.n32, e1.t0, e1.t1, e1.m0, e1.m1, e1.cap⟩, by show w1.heap.size ≠ a; omega, by show w1.heap.size ≠ g; omega, by show w1.heap.size ≠ x.q; omega⟩, ⟨by show w.heap.size ≤ w1.heap.size; omega, e2.1, e2.2.1, e2.2.2.1, e2.2.2.2.1, e2.2.2.2.2.1⟩, e3.alloc _⟩
set_option maxRecDepth 100000 in
set_option maxHeartbeats 4000000 in
theorem flNew_5 {w : World} {a g : Nat} {s : Ar} (h : ArIs w a g s) (n : Nat) (h1 : 1 ≤ n) (h2 : n ≤ 32) (m : Nat) (hm1 : 1 ≤ m) (hm2 : m ≤ 4) (hr : s.W.length + szK 5 n m ≤ s.room) (ho : s.ops + 1 ≤ 1000000000000) :
    Calls Tryz.prog 50 #[.pointer (some ⟨a, 0, none⟩), .int .i64 5, .int .i64 n, .int .i64 m] w (NewFl w a g 5 s n m) := by
  have H2 := Lib.hid (clhNewX h n h1 h2 m hm1 hm2 (show s.W.length + (n + 2) ≤ s.room from hr) ho)
  have HG := Lib.hid (And.intro h.blk.lt h.wds.lt)
  clear h hr ho
  go_enter Tryz.func50, Tryz.ntmps50
  go_wp2_with fail
  refine H2.out.mono ?_
  rintro en w1 ⟨x, rfl, e1, e2, e3⟩
  have HE := Lib.hid (And.intro e1 (And.intro e2 e3))
  clear e1 e2 e3
  go_wp2
  go_ret2
  obtain ⟨e1, e2, e3⟩ := HE.out
  have hq := e1.sp.lt
  have hs := e3.size
  have hg := HG.out
  have tA : Turns [] w1 (w1.alloc (.cells #[.int .i64 ((5 : Nat) : Int), ifV 5 x.l] 155)) := (Turns.refl _ _).alloc _
  exact ⟨{ x with p := w1.heap.size }, rfl, ⟨Blk.new w1 155 #[.int .i64 ((5 : Nat) : Int), ifV 5 x.l], ⟨e1.ar.turns tA (by simp) (by simp), tA.blk e1.lk (by simp), e1.sp.turns tA (by simp), e1.n, e1.la, e1.lg, e1.lq, e1.qa, e1.qg, e1.n32, e1.t0, e1.t1, e1.m0, e1.m1, e1.cap⟩, by show w1.heap.size ≠ a; omega, by show w1.heap.size ≠ g; omega, by show w1.heap.size ≠ x.q; omega⟩, ⟨by show w.heap.size ≤ w1.heap.size; omega, e2.1, e2.2.1, e2.2.2.1, e2.2.2.2.1, e2.2.2.2.2.1⟩, e3.alloc _⟩
theorem flNew {w : World} {a g : Nat} {s : Ar} (h : ArIs w a g s) (k : Nat) (hk : KOk k) (n : Nat) (h1 : 1 ≤ n) (h2 : n ≤ 32) (m : Nat) (hm1 : 1 ≤ m) (hm2 : m ≤ 4) (hr : s.W.length + szK k n m ≤ s.room) (ho : s.ops + 1 ≤ 1000000000000) :
    Calls Tryz.prog 50 #[.pointer (some ⟨a, 0, none⟩), .int .i64 (k : Int), .int .i64 n, .int .i64 m] w (NewFl w a g k s n m) := by
  rcases hk with rfl | rfl | rfl | rfl | rfl
  · exact flNew_1 h n h1 h2 m hm1 hm2 hr ho
  · exact flNew_2 h n h1 h2 m hm1 hm2 hr ho
  · exact flNew_3 h n h1 h2 m hm1 hm2 hr ho
  · exact flNew_4 h n h1 h2 m hm1 hm2 hr ho
  · exact flNew_5 h n h1 h2 m hm1 hm2 hr ho
end Go.Proofs.YtndipiockdmaoaaGreat
end
section
set_option linter.unusedVariables false
set_option linter.unusedSimpArgs false
/- Layer 20 (flat): a new flat lock of any kind. -/
namespace Go.Proofs.YtndipiockdmaoaaGreat
open Go.RowKit

theorem NewK.le {w : World} {a g : Nat} {s : Ar} {k j : Nat} {e : Ending} {w' : World} (h : NewK w a g s k e w') (hj : k ≤ j) : NewK w a g s j e w' := by
  obtain ⟨l, s', h1, h2, h3, h4, h5, h6⟩ := h
  exact ⟨l, s', h1, h2, h3, h4, h5.le hj, h6⟩
set_option maxRecDepth 100000 in
set_option maxHeartbeats 4000000 in
theorem flatNew {w : World} {a g : Nat} {s : Ar} (h : ArIs w a g s) (kind : Int) (hk1 : 1 ≤ kind) (hk5 : kind ≤ 5) (n : Nat) (h1 : 1 ≤ n) (h2 : n ≤ 32) (m : Nat) (hm1 : 1 ≤ m) (hm2 : m ≤ 4) (hr : s.W.length + 65 ≤ s.room) (ho : s.ops + 1 ≤ 1000000000) :
    Calls Tryz.prog 50 #[.pointer (some ⟨a, 0, none⟩), .int .i64 kind, .int .i64 n, .int .i64 m] w (NewK w a g s 66) := by
  have H1 := Lib.hid (tasNew h n h1 h2 m hm1 hm2 (by omega))
  have H2 := Lib.hid (ticketNew h n h1 h2 (by omega))
  have H3 := Lib.hid (partedNew h n h1 h2 m hm1 hm2 (by omega) ho)
  have H4 := Lib.hid (mcsNew h n h1 h2 (by omega))
  have H5 := Lib.hid (clhNew h n h1 h2 (by omega) ho)
  have hn : kind = 1 ∨ kind = 2 ∨ kind = 3 ∨ kind = 4 ∨ kind = 5 := by omega
  clear h hr ho hk1 hk5
  rcases hn with rfl | rfl | rfl | rfl | rfl
  · go_enter Tryz.func50, Tryz.ntmps50
    go_wp2_with fail
    refine H1.out.mono ?_
    rintro en w1 ⟨l, s', rfl, e1, e2, e3, e4, e5⟩
    have HE := Lib.hid (And.intro e1 (And.intro e2 (And.intro e3 (And.intro e4 e5))))
    clear e1 e2 e3 e4 e5
    go_wp2
    go_ret2
    obtain ⟨e1, e2, e3, e4, e5⟩ := HE.out
    exact ⟨w1.heap.size, s', rfl, by omega, by simp, e3.turns (S := []) ((Turns.refl _ _).alloc _) (by simp) (by simp), e4.le (by omega), e5.alloc _⟩
  · go_enter Tryz.func50, Tryz.ntmps50
    go_wp2_with fail
    refine H2.out.mono ?_
    rintro en w1 ⟨l, s', rfl, e1, e2, e3, e4, e5⟩
    have HE := Lib.hid (And.intro e1 (And.intro e2 (And.intro e3 (And.intro e4 e5))))
    clear e1 e2 e3 e4 e5
    go_wp2
    go_ret2
    obtain ⟨e1, e2, e3, e4, e5⟩ := HE.out
    exact ⟨w1.heap.size, s', rfl, by omega, by simp, e3.turns (S := []) ((Turns.refl _ _).alloc _) (by simp) (by simp), e4.le (by omega), e5.alloc _⟩
  · go_enter Tryz.func50, Tryz.ntmps50
    go_wp2_with fail
    refine H3.out.mono ?_
    rintro en w1 ⟨l, s', rfl, e1, e2, e3, e4, e5⟩
    have HE := Lib.hid (And.intro e1 (And.intro e2 (And.intro e3 (And.intro e4 e5))))
    clear e1 e2 e3 e4 e5
    go_wp2
    go_ret2
    obtain ⟨e1, e2, e3, e4, e5⟩ := HE.out
    exact ⟨w1.heap.size, s', rfl, by omega, by simp, e3.turns (S := []) ((Turns.refl _ _).alloc _) (by simp) (by simp), e4.le (by omega), e5.alloc _⟩
  · go_enter Tryz.func50, Tryz.ntmps50
    go_wp2_with fail
    refine H4.out.mono ?_
    rintro en w1 ⟨l, s', rfl, e1, e2, e3, e4, e5⟩
    have HE := Lib.hid (And.intro e1 (And.intro e2 (And.intro e3 (And.intro e4 e5))))
    clear e1 e2 e3 e4 e5
    go_wp2
    go_ret2
    obtain ⟨e1, e2, e3, e4, e5⟩ := HE.out
    exact ⟨w1.heap.size, s', rfl, by omega, by simp, e3.turns (S := []) ((Turns.refl _ _).alloc _) (by simp) (by simp), e4.le (by omega), e5.alloc _⟩
  · go_enter Tryz.func50, Tryz.ntmps50
    go_wp2_with fail
    refine H5.out.mono ?_
    rintro en w1 ⟨l, s', rfl, e1, e2, e3, e4, e5⟩
    have HE := Lib.hid (And.intro e1 (And.intro e2 (And.intro e3 (And.intro e4 e5))))
    clear e1 e2 e3 e4 e5
    go_wp2
    go_ret2
    obtain ⟨e1, e2, e3, e4, e5⟩ := HE.out
    exact ⟨w1.heap.size, s', rfl, by omega, by simp, e3.turns (S := []) ((Turns.refl _ _).alloc _) (by simp) (by simp), e4.le (by omega), e5.alloc _⟩
end Go.Proofs.YtndipiockdmaoaaGreat
end
