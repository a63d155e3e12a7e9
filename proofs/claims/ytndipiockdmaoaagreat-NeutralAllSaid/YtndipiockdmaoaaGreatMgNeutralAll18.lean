/- Joined: Sm7n, Sm8n. -/
import Derived.Test.YtndipiockdmaoaaGreatMgNeutralAll17
section
set_option linter.unusedVariables false
set_option linter.unusedSimpArgs false
/- Layer 36 (neutral): does, a step at a time, over the cohort lock. (printed by gen_sm7.py) -/
namespace Go.Proofs.YtndipiockdmaoaaGreat
open Go.RowKit

/-- a lock, the cell that closures read, and what turned -/
structure SmB (B BC : Nat → Prop) (w0 w : World) (a g : Nat) (X : SmX) (c : CoC) (P T : List Int) (st : Co) (d : Dr) (U : List Sp) (bx : Nat) : Prop where
  is : SmIs 112 B BC w a g X c P T st d U
  bk : Blk w bx 52 #[.pointer (some ⟨X.l, 0, none⟩)]
  nS : bx ∉ SmS a g X
  tn : Turns (SmS a g X) w0 w
section
variable {B BC : Nat → Prop} {w w' w0 : World} {a g bx : Nat} {X : SmX} {c : CoC} {P T : List Int} {st st' : Co} {d d' : Dr} {U : List Sp} {s' : Ar} {BB : Int}
theorem SmIs.lts (h : SmIs 112 B BC w a g X c P T st d U) : ∀ r ∈ SmS a g X, r < w.heap.size := by
  intro r hr
  unfold SmS at hr
  simp only [List.mem_cons] at hr
  rcases hr with rfl | rfl | hr
  · exact h.sp.lt
  · exact h.gd.dr.lt
  · exact h.co.lts r hr
theorem SmB.to (h : SmB B BC w0 w a g X c P T st d U bx) (k : SmIs 112 B BC w' a g X c P T st' d' U) (t : Turns (SmS a g X) w w') : SmB B BC w0 w' a g X c P T st' d' U bx := ⟨k, t.blk h.bk h.nS, h.nS, h.tn.trans t⟩
theorem SmB.drew (h : SmB B BC w0 w a g X c P T st d U bx) : SmB B BC w0 w.drew a g X c P T st d U bx := h.to (h.is.below (Below.refl _ _).drew) (Turns.refl _ _).drew
theorem SmB.below (h : SmB B BC w0 w a g X c P T st d U bx) (b : Below w.heap.size w w') : SmB B BC w0 w' a g X c P T st d U bx := h.to (h.is.below b) (Turns.of_below b)
theorem SmB.new (h : SmIs 112 B BC w a g X c P T st d U) : SmB B BC w (w.alloc (.cells #[.pointer (some ⟨X.l, 0, none⟩)] 52)) a g X c P T st d U w.heap.size :=
  ⟨h.below ((Below.refl _ _).alloc (Nat.le_refl _) _), Blk.new w _ _, fun k => by have := h.lts _ k; omega, (Turns.refl _ _).alloc _⟩
theorem SmB.cs (h : SmB B BC w0 w a g X c P T st d U bx) : w.cell? ⟨bx, 0, none⟩ = some (.pointer (some ⟨X.l, 0, none⟩)) ∧ w.cell? ⟨X.l, 0, none⟩ = some (.pointer (some ⟨a, 0, none⟩)) ∧ w.cell? ⟨X.l, 1, none⟩ = some (.pointer (some ⟨X.b, 0, none⟩)) ∧ w.cell? ⟨X.l, 3, none⟩ = some (.pointer (some ⟨X.dd, 0, none⟩)) ∧ w.cell? ⟨X.l, 4, none⟩ = some (.int .i64 (2 * ((leavesL P).length : Int) + 1)) := ⟨h.bk.cell 0, h.is.cs.1, h.is.cs.2.1, h.is.cs.2.2.2.1, h.is.cs.2.2.2.2.1⟩
/-- an op on a low word -/
theorem SmB.ag (h : SmB B BC w0 w a g X c P T st d U bx) (t : Turns [a, g] w w') (ha : ArIs w' a g s') : SmB B BC w0 w' a g X c P T (onA st s') d U bx := h.to (h.is.arT t ha) (smS_ag t)
theorem SmB.gd (h : SmB B BC w0 w a g X c P T st d U bx) (t : Turns [a, g, X.dd] w w') (k : GD w' a g X.gg X.dd (leavesL P).length s' d') : SmB B BC w0 w' a g X c P T (onA st s') d' U bx := h.to (h.is.gdT t k) (smS_gd t)
theorem SmB.co (h : SmB B BC w0 w a g X c P T st d U bx) (t : Turns (CoS a g X.x) w w') (k : CoIs BC w' a g X.x c P T st') : SmB B BC w0 w' a g X c P T st' d U bx := h.to (h.is.coT t k) (smS_co t)
theorem SmIs.node (h : SmIs 112 B BC w a g X c P T st d U) {n : Nat} (hn : n < T.length) : (c.node n) < (leavesL P).length ∧ (nodesTo P T T.length)[n]? = some ((c.node n : Nat) : Int) := by
  have := h.co.fx.node (i := n) (by rw [h.nT.1]; exact hn)
  rw [h.nT.2.1] at this
  exact this
set_option maxHeartbeats 1000000 in
theorem set_n (h : SmB B BC w0 w a g X c P T st d U bx) (v : Int) (ho : st.s.ops + 1 ≤ 1000000000000) : Calls Tryz.prog 115 #[.int .i64 v, .pointer (some ⟨bx, 0, none⟩)] w fun e w' => e = .returned (.tuple #[]) ∧ SmB B BC w0 w' a g X c P T (onA st (storeA st.s (nuFl (leavesL P).length) v)) d U bx := by
  have HO := Lib.hid (fun W (k : SmB B BC w0 W a g X c P T st d U bx) => store_any k.is.gd.ar (2 * ((leavesL P).length : Int) + 1) v ho)
  have N1 := Lib.hid h.drew
  clear h
  go_enter Tryz.func115, Tryz.ntmps115
  go_wp2_with fail
  go_region_held3 (fun W => W.cell? ⟨bx, 0, none⟩ = some (.pointer (some ⟨X.l, 0, none⟩)) ∧ W.cell? ⟨X.l, 0, none⟩ = some (.pointer (some ⟨a, 0, none⟩)) ∧ W.cell? ⟨X.l, 4, none⟩ = some (.int .i64 (2 * ((leavesL P).length : Int) + 1)))
    (first | exact ⟨N1.out.cs.1, N1.out.cs.2.1, N1.out.cs.2.2.2.2⟩ | exact ⟨N2.out.cs.1, N2.out.cs.2.1, N2.out.cs.2.2.2.2⟩)
    (first
      | (go_at_call 101; go_loud (refine (HO.out _ N1.out).mono ?_); rintro en w3 ⟨rfl, a3, t3⟩; have N2 := Lib.hid (N1.out.ag t3 a3); clear a3 t3))
  go_wp2
  go_end0
  exact ⟨rfl, N2.out⟩
/-- behind does -/
def DoesOk (B BC : Nat → Prop) (w : World) (a g : Nat) (X : SmX) (c : CoC) (P T : List Int) (r : Co × Dr × Bool) (U : List Sp) (e : Ending) (w' : World) : Prop :=
  e = .returned (.bool r.2.2) ∧ SmIs 112 B BC w' a g X c P T r.1 r.2.1 U ∧ Turns (SmS a g X) w w'
set_option maxRecDepth 100000 in
set_option maxHeartbeats 2000000 in
theorem does_n1 (h : SmIs 112 B BC w a g X c P T st d U) (n : Nat) (hn : n < T.length) (hpc : (sv U n).pc = 1) (ho : st.s.ops + 1 ≤ 1000000000000) : Calls Tryz.prog 78 #[.pointer (some ⟨X.l, 0, none⟩), .int .i64 n] w (DoesOk B BC w a g X c P T (nuDoes c (leavesL P).length ⟨st, d, U⟩ n 1) U) := by
  have hp := h.thr hn
  obtain ⟨hnd, hnn⟩ := h.node hn
  have hx := h.nT
  have N0 := Lib.hid (SmB.new h)
  have HND := Lib.hid (nodeF (w.alloc (.cells #[.pointer (some ⟨X.l, 0, none⟩)] 52)) X.b P T n hn N0.out.is.tb.f _ hnn)
  have t2 : ¬ (n : Int) < 0 := by omega
  have hl := h.lk.lt
  have hq := h.sp.lt
  have hnx : n < X.x.n := by rw [hx.1]; exact hn
  obtain ⟨nd, hnde⟩ : ∃ nd, nd = c.node n := ⟨_, rfl⟩
  obtain ⟨p, hpp⟩ : ∃ p, p = sv U n := ⟨_, rfl⟩
  rw [← hpp] at hp hpc
  obtain ⟨pc, u, b, z⟩ := p
  simp only at hpc
  subst hpc
  have a0 := N0.out.is.sp.cell hp 0 _ rfl
  simp only [Nat.add_zero] at a0
  have d2 := N0.out.is.cs.2.2.1
  have d3 := N0.out.is.cs.2.2.2.1
  have d5 := N0.out.is.cs.2.2.2.2.2.1
  have d6 := N0.out.is.cs.2.2.2.2.2.2
  rw [← hnde] at HND hnd
  have HG := Lib.hid (fun W (k : SmB B BC w W a g X c P T st d U w.heap.size) => gaEnter k.is.gd.ga k.is.gd.ar nd hnd k.is.gd.n32 ho)
  have HX : Hid (nuDoes c (leavesL P).length ⟨st, d, U⟩ n 1 = (onA st (addA st.s (2 * (nd : Int) + 1) 1), d, true)) := Lib.hid (by rw [hnde]; rfl)
  clear h hp hpp hnn hnde
  go_enter Tryz.func78, Tryz.ntmps78
  have e1 := N0.out.cs
  go_wp2_with fail
  refine HND.out.mono ?_
  rintro en w1 ⟨rfl, rfl⟩
  go_wp2_with fail
  refine (HG.out _ N0.out).mono ?_
  rintro en w2 ⟨rfl, a2, t2'⟩
  have N2 := Lib.hid (N0.out.ag t2' a2)
  clear a2 t2'
  go_wp2
  go_ret
  rw [HX.out]
  exact ⟨rfl, N2.out.is, N2.out.tn⟩
set_option maxRecDepth 100000 in
set_option maxHeartbeats 2000000 in
theorem does_n11 (h : SmIs 112 B BC w a g X c P T st d U) (n : Nat) (hn : n < T.length) (hpc : (sv U n).pc = 11) (ho : st.s.ops + 1 ≤ 1000000000000) : Calls Tryz.prog 78 #[.pointer (some ⟨X.l, 0, none⟩), .int .i64 n] w (DoesOk B BC w a g X c P T (nuDoes c (leavesL P).length ⟨st, d, U⟩ n 11) U) := by
  have hp := h.thr hn
  obtain ⟨hnd, hnn⟩ := h.node hn
  have hx := h.nT
  have N0 := Lib.hid (SmB.new h)
  have HND := Lib.hid (nodeF (w.alloc (.cells #[.pointer (some ⟨X.l, 0, none⟩)] 52)) X.b P T n hn N0.out.is.tb.f _ hnn)
  have t2 : ¬ (n : Int) < 0 := by omega
  have hl := h.lk.lt
  have hq := h.sp.lt
  have hnx : n < X.x.n := by rw [hx.1]; exact hn
  obtain ⟨nd, hnde⟩ : ∃ nd, nd = c.node n := ⟨_, rfl⟩
  obtain ⟨p, hpp⟩ : ∃ p, p = sv U n := ⟨_, rfl⟩
  rw [← hpp] at hp hpc
  obtain ⟨pc, u, b, z⟩ := p
  simp only at hpc
  subst hpc
  have a0 := N0.out.is.sp.cell hp 0 _ rfl
  simp only [Nat.add_zero] at a0
  have d2 := N0.out.is.cs.2.2.1
  have d3 := N0.out.is.cs.2.2.2.1
  have d5 := N0.out.is.cs.2.2.2.2.2.1
  have d6 := N0.out.is.cs.2.2.2.2.2.2
  rw [← hnde] at HND hnd
  have HG := Lib.hid (fun W (k : SmB B BC w W a g X c P T st d U w.heap.size) => gaExit k.is.gd.ga k.is.gd.ar nd hnd k.is.gd.n32 ho)
  have HX : Hid (nuDoes c (leavesL P).length ⟨st, d, U⟩ n 11 = (onA st (addA st.s (2 * (nd : Int) + 1 + 1) 1), d, true)) := Lib.hid (by rw [hnde]; show _ = (_, _, _); rw [show 2 * ((c.node n : Nat) : Int) + 1 + 1 = gaW (c.node n) by unfold gaW; omega]; rfl)
  clear h hp hpp hnn hnde
  go_enter Tryz.func78, Tryz.ntmps78
  have e1 := N0.out.cs
  go_wp2_with fail
  refine HND.out.mono ?_
  rintro en w1 ⟨rfl, rfl⟩
  go_wp2_with fail
  refine (HG.out _ N0.out).mono ?_
  rintro en w2 ⟨rfl, a2, t2'⟩
  have N2 := Lib.hid (N0.out.ag t2' a2)
  clear a2 t2'
  go_wp2
  go_ret
  rw [HX.out]
  exact ⟨rfl, N2.out.is, N2.out.tn⟩
set_option maxRecDepth 100000 in
set_option maxHeartbeats 2000000 in
theorem does_n3 (h : SmIs 112 B BC w a g X c P T st d U) (n : Nat) (hn : n < T.length) (hpc : (sv U n).pc = 3) (ho : st.s.ops + 1 ≤ 1000000000000) : Calls Tryz.prog 78 #[.pointer (some ⟨X.l, 0, none⟩), .int .i64 n] w (DoesOk B BC w a g X c P T (nuDoes c (leavesL P).length ⟨st, d, U⟩ n 3) U) := by
  have hp := h.thr hn
  obtain ⟨hnd, hnn⟩ := h.node hn
  have hx := h.nT
  have N0 := Lib.hid (SmB.new h)
  have HND := Lib.hid (nodeF (w.alloc (.cells #[.pointer (some ⟨X.l, 0, none⟩)] 52)) X.b P T n hn N0.out.is.tb.f _ hnn)
  have t2 : ¬ (n : Int) < 0 := by omega
  have hl := h.lk.lt
  have hq := h.sp.lt
  have hnx : n < X.x.n := by rw [hx.1]; exact hn
  obtain ⟨nd, hnde⟩ : ∃ nd, nd = c.node n := ⟨_, rfl⟩
  obtain ⟨p, hpp⟩ : ∃ p, p = sv U n := ⟨_, rfl⟩
  rw [← hpp] at hp hpc
  obtain ⟨pc, u, b, z⟩ := p
  simp only at hpc
  subst hpc
  have a0 := N0.out.is.sp.cell hp 0 _ rfl
  simp only [Nat.add_zero] at a0
  have d2 := N0.out.is.cs.2.2.1
  have d3 := N0.out.is.cs.2.2.2.1
  have d5 := N0.out.is.cs.2.2.2.2.2.1
  have d6 := N0.out.is.cs.2.2.2.2.2.2
  rw [← hnde] at HND hnd
  have HG := Lib.hid (fun W (k : SmB B BC w W a g X c P T st d U w.heap.size) => gaExit k.is.gd.ga k.is.gd.ar nd hnd k.is.gd.n32 ho)
  have HL := Lib.hid (fun W (k : SmB B BC w W a g X c P T (onA st (addA st.s (2 * (nd : Int) + 1 + 1) 1)) d U w.heap.size) => askCo k.is.co n hnx)
  have HX : Hid (nuDoes c (leavesL P).length ⟨st, d, U⟩ n 3 = (coAsk c (onA st (addA st.s (2 * (nd : Int) + 1 + 1) 1)) n, d, true)) := Lib.hid (by rw [hnde]; show _ = (_, _, _); rw [show 2 * ((c.node n : Nat) : Int) + 1 + 1 = gaW (c.node n) by unfold gaW; omega]; rfl)
  clear h hp hpp hnn hnde
  go_enter Tryz.func78, Tryz.ntmps78
  have e1 := N0.out.cs
  go_wp2_with fail
  refine HND.out.mono ?_
  rintro en w1 ⟨rfl, rfl⟩
  go_wp2_with fail
  refine (HG.out _ N0.out).mono ?_
  rintro en w2 ⟨rfl, a2, t2'⟩
  have N2 := Lib.hid (N0.out.ag t2' a2)
  clear a2 t2'
  have l5 := N2.out.is.cs.2.2.2.2.2.1
  have l0 := N2.out.bk.cell 0
  go_wp2_with fail
  refine (HL.out _ N2.out).mono ?_
  rintro en w3 ⟨rfl, k3, t3⟩
  have N3 := Lib.hid (N2.out.co t3 k3)
  clear k3 t3
  go_wp2
  go_ret
  rw [HX.out]
  exact ⟨rfl, N3.out.is, N3.out.tn⟩
set_option maxRecDepth 100000 in
set_option maxHeartbeats 2000000 in
theorem does_n5 (h : SmIs 112 B BC w a g X c P T st d U) (n : Nat) (hn : n < T.length) (hpc : (sv U n).pc = 5) (ho : st.s.ops + 1 ≤ 1000000000000) : Calls Tryz.prog 78 #[.pointer (some ⟨X.l, 0, none⟩), .int .i64 n] w (DoesOk B BC w a g X c P T (nuDoes c (leavesL P).length ⟨st, d, U⟩ n 5) U) := by
  have hp := h.thr hn
  obtain ⟨hnd, hnn⟩ := h.node hn
  have hx := h.nT
  have N0 := Lib.hid (SmB.new h)
  have HND := Lib.hid (nodeF (w.alloc (.cells #[.pointer (some ⟨X.l, 0, none⟩)] 52)) X.b P T n hn N0.out.is.tb.f _ hnn)
  have t2 : ¬ (n : Int) < 0 := by omega
  have hl := h.lk.lt
  have hq := h.sp.lt
  have hnx : n < X.x.n := by rw [hx.1]; exact hn
  obtain ⟨nd, hnde⟩ : ∃ nd, nd = c.node n := ⟨_, rfl⟩
  obtain ⟨p, hpp⟩ : ∃ p, p = sv U n := ⟨_, rfl⟩
  rw [← hpp] at hp hpc
  obtain ⟨pc, u, b, z⟩ := p
  simp only at hpc
  subst hpc
  have a0 := N0.out.is.sp.cell hp 0 _ rfl
  simp only [Nat.add_zero] at a0
  have d2 := N0.out.is.cs.2.2.1
  have d3 := N0.out.is.cs.2.2.2.1
  have d5 := N0.out.is.cs.2.2.2.2.2.1
  have d6 := N0.out.is.cs.2.2.2.2.2.2
  rw [← hnde] at HND hnd
  have HG := Lib.hid (fun W (k : SmB B BC w W a g X c P T st d U w.heap.size) => gaEnter k.is.gd.ga k.is.gd.ar nd hnd k.is.gd.n32 ho)
  have HL := Lib.hid (fun W (k : SmB B BC w W a g X c P T (onA st (addA st.s (2 * (nd : Int) + 1) 1)) d U w.heap.size) => leaveCo k.is.co n hnx)
  have HX : Hid (nuDoes c (leavesL P).length ⟨st, d, U⟩ n 5 = (coLeave (onA st (addA st.s (2 * (nd : Int) + 1) 1)) n, d, true)) := Lib.hid (by rw [hnde]; rfl)
  clear h hp hpp hnn hnde
  go_enter Tryz.func78, Tryz.ntmps78
  have e1 := N0.out.cs
  go_wp2_with fail
  refine HND.out.mono ?_
  rintro en w1 ⟨rfl, rfl⟩
  go_wp2_with fail
  refine (HG.out _ N0.out).mono ?_
  rintro en w2 ⟨rfl, a2, t2'⟩
  have N2 := Lib.hid (N0.out.ag t2' a2)
  clear a2 t2'
  have l5 := N2.out.is.cs.2.2.2.2.2.1
  have l0 := N2.out.bk.cell 0
  go_wp2_with fail
  refine (HL.out _ N2.out).mono ?_
  rintro en w3 ⟨rfl, k3, t3⟩
  have N3 := Lib.hid (N2.out.co t3 k3)
  clear k3 t3
  go_wp2
  go_ret
  rw [HX.out]
  exact ⟨rfl, N3.out.is, N3.out.tn⟩
set_option maxRecDepth 100000 in
set_option maxHeartbeats 2000000 in
theorem does_n12 (h : SmIs 112 B BC w a g X c P T st d U) (n : Nat) (hn : n < T.length) (hpc : (sv U n).pc = 12) (ho : st.s.ops + 1 ≤ 1000000000000) : Calls Tryz.prog 78 #[.pointer (some ⟨X.l, 0, none⟩), .int .i64 n] w (DoesOk B BC w a g X c P T (nuDoes c (leavesL P).length ⟨st, d, U⟩ n 12) U) := by
  have hp := h.thr hn
  obtain ⟨hnd, hnn⟩ := h.node hn
  have hx := h.nT
  have N0 := Lib.hid (SmB.new h)
  have HND := Lib.hid (nodeF (w.alloc (.cells #[.pointer (some ⟨X.l, 0, none⟩)] 52)) X.b P T n hn N0.out.is.tb.f _ hnn)
  have t2 : ¬ (n : Int) < 0 := by omega
  have hl := h.lk.lt
  have hq := h.sp.lt
  have hnx : n < X.x.n := by rw [hx.1]; exact hn
  obtain ⟨nd, hnde⟩ : ∃ nd, nd = c.node n := ⟨_, rfl⟩
  obtain ⟨p, hpp⟩ : ∃ p, p = sv U n := ⟨_, rfl⟩
  rw [← hpp] at hp hpc
  obtain ⟨pc, u, b, z⟩ := p
  simp only at hpc
  subst hpc
  have a0 := N0.out.is.sp.cell hp 0 _ rfl
  simp only [Nat.add_zero] at a0
  have d2 := N0.out.is.cs.2.2.1
  have d3 := N0.out.is.cs.2.2.2.1
  have d5 := N0.out.is.cs.2.2.2.2.2.1
  have d6 := N0.out.is.cs.2.2.2.2.2.2
  rw [← hnde] at HND hnd
  have HG := Lib.hid (fun W (k : SmB B BC w W a g X c P T st d U w.heap.size) => set_n k 0 ho)
  have HL := Lib.hid (fun W (k : SmB B BC w W a g X c P T (onA st (storeA st.s (nuFl (leavesL P).length) 0)) d U w.heap.size) => leaveCo k.is.co n hnx)
  have HX : Hid (nuDoes c (leavesL P).length ⟨st, d, U⟩ n 12 = (coLeave (onA st (storeA st.s (nuFl (leavesL P).length) 0)) n, d, true)) := Lib.hid (by rfl)
  clear h hp hpp hnn hnde
  go_enter Tryz.func78, Tryz.ntmps78
  have e1 := N0.out.cs
  go_wp2_with fail
  refine HND.out.mono ?_
  rintro en w1 ⟨rfl, rfl⟩
  go_wp2_with fail
  refine (HG.out _ N0.out).mono ?_
  rintro en w2 ⟨rfl, n2⟩
  have N2 := Lib.hid n2
  clear n2
  have l5 := N2.out.is.cs.2.2.2.2.2.1
  have l0 := N2.out.bk.cell 0
  go_wp2_with fail
  refine (HL.out _ N2.out).mono ?_
  rintro en w3 ⟨rfl, k3, t3⟩
  have N3 := Lib.hid (N2.out.co t3 k3)
  clear k3 t3
  go_wp2
  go_ret
  rw [HX.out]
  exact ⟨rfl, N3.out.is, N3.out.tn⟩
set_option maxRecDepth 100000 in
set_option maxHeartbeats 2000000 in
theorem does_n8 (h : SmIs 112 B BC w a g X c P T st d U) (n : Nat) (hn : n < T.length) (hpc : (sv U n).pc = 8) (ho : st.s.ops + 1 ≤ 1000000000000) (hN : 1 ≤ (leavesL P).length) : Calls Tryz.prog 78 #[.pointer (some ⟨X.l, 0, none⟩), .int .i64 n] w (DoesOk B BC w a g X c P T (nuDoes c (leavesL P).length ⟨st, d, U⟩ n 8) U) := by
  have hp := h.thr hn
  obtain ⟨hnd, hnn⟩ := h.node hn
  have hx := h.nT
  have N0 := Lib.hid (SmB.new h)
  have HND := Lib.hid (nodeF (w.alloc (.cells #[.pointer (some ⟨X.l, 0, none⟩)] 52)) X.b P T n hn N0.out.is.tb.f _ hnn)
  have t2 : ¬ (n : Int) < 0 := by omega
  have hl := h.lk.lt
  have hq := h.sp.lt
  have hnx : n < X.x.n := by rw [hx.1]; exact hn
  obtain ⟨nd, hnde⟩ : ∃ nd, nd = c.node n := ⟨_, rfl⟩
  obtain ⟨p, hpp⟩ : ∃ p, p = sv U n := ⟨_, rfl⟩
  rw [← hpp] at hp hpc
  obtain ⟨pc, u, b, z⟩ := p
  simp only at hpc
  subst hpc
  have a0 := N0.out.is.sp.cell hp 0 _ rfl
  simp only [Nat.add_zero] at a0
  have d2 := N0.out.is.cs.2.2.1
  have d3 := N0.out.is.cs.2.2.2.1
  have d5 := N0.out.is.cs.2.2.2.2.2.1
  have d6 := N0.out.is.cs.2.2.2.2.2.2
  rw [← hnde] at HND hnd
  have HG := Lib.hid (fun W (k : SmB B BC w W a g X c P T st d U w.heap.size) => set_n k 1 ho)
  have HL := Lib.hid (fun W (k : SmB B BC w W a g X c P T (onA st (storeA st.s (nuFl (leavesL P).length) 1)) d U w.heap.size) => drBegin k.is.gd hN false)
  have HNo := Lib.hid (fun W (k : SmB B BC w W a g X c P T (onA st (storeA st.s (nuFl (leavesL P).length) 1)) d U w.heap.size) => nodesFQ W X.b P T k.is.tb.f)
  have HX : Hid (nuDoes c (leavesL P).length ⟨st, d, U⟩ n 8 = (onA st (storeA st.s (nuFl (leavesL P).length) 1), drBeg d (leavesL P).length false, true)) := Lib.hid (by rfl)
  clear h hp hpp hnn hnde
  go_enter Tryz.func78, Tryz.ntmps78
  have e1 := N0.out.cs
  go_wp2_with fail
  refine HND.out.mono ?_
  rintro en w1 ⟨rfl, rfl⟩
  go_wp2_with fail
  refine (HG.out _ N0.out).mono ?_
  rintro en w2 ⟨rfl, n2⟩
  have N2 := Lib.hid n2
  clear n2
  have N2d := Lib.hid N2.out.drew
  go_wp2_with fail
  go_region_held3 (fun W => W.cell? ⟨w.heap.size, 0, none⟩ = some (.pointer (some ⟨X.l, 0, none⟩)) ∧ W.cell? ⟨X.l, 1, none⟩ = some (.pointer (some ⟨X.b, 0, none⟩)) ∧ W.cell? ⟨X.l, 3, none⟩ = some (.pointer (some ⟨X.dd, 0, none⟩)))
    (first | exact ⟨N2d.out.cs.1, N2d.out.cs.2.2.1, N2d.out.cs.2.2.2.1⟩ | exact ⟨N3.out.cs.1, N3.out.cs.2.2.1, N3.out.cs.2.2.2.1⟩)
    (first
      | (go_at_call 51; go_loud (refine (HNo.out _ N2d.out).mono ?_); rintro en w3 ⟨rfl, rfl⟩)
      | (go_at_call 118; go_loud (refine (HL.out _ N2d.out).mono ?_); rintro en w4 ⟨rfl, k4, t4⟩; have N3 := Lib.hid (N2d.out.gd t4 k4); clear k4 t4))
  go_wp2
  go_ret
  rw [HX.out]
  exact ⟨rfl, N3.out.is, N3.out.tn⟩
set_option maxRecDepth 100000 in
set_option maxHeartbeats 2000000 in
theorem does_n9 (h : SmIs 112 B BC w a g X c P T st d U) (n : Nat) (hn : n < T.length) (hpc : (sv U n).pc = 9) (ho : st.s.ops + 1 ≤ 1000000000000) (hb : d.busy = true → d.at_ < (leavesL P).length) : Calls Tryz.prog 78 #[.pointer (some ⟨X.l, 0, none⟩), .int .i64 n] w (DoesOk B BC w a g X c P T (nuDoes c (leavesL P).length ⟨st, d, U⟩ n 9) U) := by
  have hp := h.thr hn
  obtain ⟨hnd, hnn⟩ := h.node hn
  have hx := h.nT
  have N0 := Lib.hid (SmB.new h)
  have HND := Lib.hid (nodeF (w.alloc (.cells #[.pointer (some ⟨X.l, 0, none⟩)] 52)) X.b P T n hn N0.out.is.tb.f _ hnn)
  have t2 : ¬ (n : Int) < 0 := by omega
  have hl := h.lk.lt
  have hq := h.sp.lt
  have hnx : n < X.x.n := by rw [hx.1]; exact hn
  obtain ⟨nd, hnde⟩ : ∃ nd, nd = c.node n := ⟨_, rfl⟩
  obtain ⟨p, hpp⟩ : ∃ p, p = sv U n := ⟨_, rfl⟩
  rw [← hpp] at hp hpc
  obtain ⟨pc, u, b, z⟩ := p
  simp only at hpc
  subst hpc
  have a0 := N0.out.is.sp.cell hp 0 _ rfl
  simp only [Nat.add_zero] at a0
  have d2 := N0.out.is.cs.2.2.1
  have d3 := N0.out.is.cs.2.2.2.1
  have d5 := N0.out.is.cs.2.2.2.2.2.1
  have d6 := N0.out.is.cs.2.2.2.2.2.2
  rw [← hnde] at HND hnd
  have HL := Lib.hid (fun W (k : SmB B BC w W a g X c P T st d U w.heap.size) => drStepW k.is.gd hb ho)
  obtain ⟨r, hr⟩ : ∃ r, r = drStep st.s d := ⟨_, rfl⟩
  rw [← hr] at HL
  have HX : Hid (nuDoes c (leavesL P).length ⟨st, d, U⟩ n 9 = (onA st r.1, r.2.1, r.2.2)) := Lib.hid (by rw [hr]; rfl)
  clear h hp hpp hnn hnde hr
  go_enter Tryz.func78, Tryz.ntmps78
  have e1 := N0.out.cs
  go_wp2_with fail
  refine HND.out.mono ?_
  rintro en w1 ⟨rfl, rfl⟩
  go_wp2_with fail
  refine (HL.out _ N0.out).mono ?_
  rintro en w4 ⟨rfl, k4, t4⟩
  have N3 := Lib.hid (N0.out.gd t4 k4)
  clear k4 t4
  go_wp2
  go_ret
  rw [HX.out]
  exact ⟨rfl, N3.out.is, N3.out.tn⟩
set_option maxRecDepth 100000 in
set_option maxHeartbeats 2000000 in
theorem does_n4 (h : SmIs 112 B BC w a g X c P T st d U) (n : Nat) (hn : n < T.length) (hpc : (sv U n).pc = 4) (ho : st.s.ops + 1 ≤ 1000000000000) (C : CoPre BB X.x c st) : Calls Tryz.prog 78 #[.pointer (some ⟨X.l, 0, none⟩), .int .i64 n] w (DoesOk B BC w a g X c P T (nuDoes c (leavesL P).length ⟨st, d, U⟩ n 4) U) := by
  have hp := h.thr hn
  obtain ⟨hnd, hnn⟩ := h.node hn
  have hx := h.nT
  have N0 := Lib.hid (SmB.new h)
  have HND := Lib.hid (nodeF (w.alloc (.cells #[.pointer (some ⟨X.l, 0, none⟩)] 52)) X.b P T n hn N0.out.is.tb.f _ hnn)
  have t2 : ¬ (n : Int) < 0 := by omega
  have hl := h.lk.lt
  have hq := h.sp.lt
  have hnx : n < X.x.n := by rw [hx.1]; exact hn
  obtain ⟨nd, hnde⟩ : ∃ nd, nd = c.node n := ⟨_, rfl⟩
  obtain ⟨p, hpp⟩ : ∃ p, p = sv U n := ⟨_, rfl⟩
  rw [← hpp] at hp hpc
  obtain ⟨pc, u, b, z⟩ := p
  simp only at hpc
  subst hpc
  have a0 := N0.out.is.sp.cell hp 0 _ rfl
  simp only [Nat.add_zero] at a0
  have d2 := N0.out.is.cs.2.2.1
  have d3 := N0.out.is.cs.2.2.2.1
  have d5 := N0.out.is.cs.2.2.2.2.2.1
  have d6 := N0.out.is.cs.2.2.2.2.2.2
  rw [← hnde] at HND hnd
  have HL := Lib.hid (fun W (k : SmB B BC w W a g X c P T st d U w.heap.size) => stepCo k.is.co C n hnx)
  obtain ⟨q, hq0⟩ : ∃ q, q = cameK (sv st.T n) (sv (coStep c st n).T n) := ⟨_, rfl⟩
  rw [← hq0] at HL
  have HX : Hid (nuDoes c (leavesL P).length ⟨st, d, U⟩ n 4 = (coStep c st n, d, q)) := Lib.hid (by rw [hq0]; rfl)
  clear h hp hpp hnn hnde hq0
  go_enter Tryz.func78, Tryz.ntmps78
  have e1 := N0.out.cs
  go_wp2_with fail
  refine HND.out.mono ?_
  rintro en w1 ⟨rfl, rfl⟩
  go_wp2_with fail
  refine (HL.out _ N0.out).mono ?_
  rintro en w4 ⟨rfl, k4, t4⟩
  have N3 := Lib.hid (N0.out.co t4 k4)
  clear k4 t4
  go_wp2
  go_ret
  rw [HX.out]
  exact ⟨rfl, N3.out.is, N3.out.tn⟩
set_option maxRecDepth 100000 in
set_option maxHeartbeats 2000000 in
theorem does_n6 (h : SmIs 112 B BC w a g X c P T st d U) (n : Nat) (hn : n < T.length) (hpc : (sv U n).pc = 6) (ho : st.s.ops + 1 ≤ 1000000000000) (C : CoPre BB X.x c st) : Calls Tryz.prog 78 #[.pointer (some ⟨X.l, 0, none⟩), .int .i64 n] w (DoesOk B BC w a g X c P T (nuDoes c (leavesL P).length ⟨st, d, U⟩ n 6) U) := by
  have hp := h.thr hn
  obtain ⟨hnd, hnn⟩ := h.node hn
  have hx := h.nT
  have N0 := Lib.hid (SmB.new h)
  have HND := Lib.hid (nodeF (w.alloc (.cells #[.pointer (some ⟨X.l, 0, none⟩)] 52)) X.b P T n hn N0.out.is.tb.f _ hnn)
  have t2 : ¬ (n : Int) < 0 := by omega
  have hl := h.lk.lt
  have hq := h.sp.lt
  have hnx : n < X.x.n := by rw [hx.1]; exact hn
  obtain ⟨nd, hnde⟩ : ∃ nd, nd = c.node n := ⟨_, rfl⟩
  obtain ⟨p, hpp⟩ : ∃ p, p = sv U n := ⟨_, rfl⟩
  rw [← hpp] at hp hpc
  obtain ⟨pc, u, b, z⟩ := p
  simp only at hpc
  subst hpc
  have a0 := N0.out.is.sp.cell hp 0 _ rfl
  simp only [Nat.add_zero] at a0
  have d2 := N0.out.is.cs.2.2.1
  have d3 := N0.out.is.cs.2.2.2.1
  have d5 := N0.out.is.cs.2.2.2.2.2.1
  have d6 := N0.out.is.cs.2.2.2.2.2.2
  rw [← hnde] at HND hnd
  have HL := Lib.hid (fun W (k : SmB B BC w W a g X c P T st d U w.heap.size) => stepCo k.is.co C n hnx)
  obtain ⟨q, hq0⟩ : ∃ q, q = cameK (sv st.T n) (sv (coStep c st n).T n) := ⟨_, rfl⟩
  rw [← hq0] at HL
  have HX : Hid (nuDoes c (leavesL P).length ⟨st, d, U⟩ n 6 = (coStep c st n, d, q)) := Lib.hid (by rw [hq0]; rfl)
  clear h hp hpp hnn hnde hq0
  go_enter Tryz.func78, Tryz.ntmps78
  have e1 := N0.out.cs
  go_wp2_with fail
  refine HND.out.mono ?_
  rintro en w1 ⟨rfl, rfl⟩
  go_wp2_with fail
  refine (HL.out _ N0.out).mono ?_
  rintro en w4 ⟨rfl, k4, t4⟩
  have N3 := Lib.hid (N0.out.co t4 k4)
  clear k4 t4
  go_wp2
  go_ret
  rw [HX.out]
  exact ⟨rfl, N3.out.is, N3.out.tn⟩
set_option maxRecDepth 100000 in
set_option maxHeartbeats 2000000 in
theorem does_n7 (h : SmIs 112 B BC w a g X c P T st d U) (n : Nat) (hn : n < T.length) (hpc : (sv U n).pc = 7) (ho : st.s.ops + 1 ≤ 1000000000000) (C : CoPre BB X.x c st) : Calls Tryz.prog 78 #[.pointer (some ⟨X.l, 0, none⟩), .int .i64 n] w (DoesOk B BC w a g X c P T (nuDoes c (leavesL P).length ⟨st, d, U⟩ n 7) U) := by
  have hp := h.thr hn
  obtain ⟨hnd, hnn⟩ := h.node hn
  have hx := h.nT
  have N0 := Lib.hid (SmB.new h)
  have HND := Lib.hid (nodeF (w.alloc (.cells #[.pointer (some ⟨X.l, 0, none⟩)] 52)) X.b P T n hn N0.out.is.tb.f _ hnn)
  have t2 : ¬ (n : Int) < 0 := by omega
  have hl := h.lk.lt
  have hq := h.sp.lt
  have hnx : n < X.x.n := by rw [hx.1]; exact hn
  obtain ⟨nd, hnde⟩ : ∃ nd, nd = c.node n := ⟨_, rfl⟩
  obtain ⟨p, hpp⟩ : ∃ p, p = sv U n := ⟨_, rfl⟩
  rw [← hpp] at hp hpc
  obtain ⟨pc, u, b, z⟩ := p
  simp only at hpc
  subst hpc
  have a0 := N0.out.is.sp.cell hp 0 _ rfl
  simp only [Nat.add_zero] at a0
  have d2 := N0.out.is.cs.2.2.1
  have d3 := N0.out.is.cs.2.2.2.1
  have d5 := N0.out.is.cs.2.2.2.2.2.1
  have d6 := N0.out.is.cs.2.2.2.2.2.2
  rw [← hnde] at HND hnd
  have HL := Lib.hid (fun W (k : SmB B BC w W a g X c P T st d U w.heap.size) => stepCo k.is.co C n hnx)
  obtain ⟨q, hq0⟩ : ∃ q, q = cameK (sv st.T n) (sv (coStep c st n).T n) := ⟨_, rfl⟩
  rw [← hq0] at HL
  have HX : Hid (nuDoes c (leavesL P).length ⟨st, d, U⟩ n 7 = (coStep c st n, d, q)) := Lib.hid (by rw [hq0]; rfl)
  clear h hp hpp hnn hnde hq0
  go_enter Tryz.func78, Tryz.ntmps78
  have e1 := N0.out.cs
  go_wp2_with fail
  refine HND.out.mono ?_
  rintro en w1 ⟨rfl, rfl⟩
  go_wp2_with fail
  refine (HL.out _ N0.out).mono ?_
  rintro en w4 ⟨rfl, k4, t4⟩
  have N3 := Lib.hid (N0.out.co t4 k4)
  clear k4 t4
  go_wp2
  go_ret
  rw [HX.out]
  exact ⟨rfl, N3.out.is, N3.out.tn⟩
set_option maxRecDepth 100000 in
set_option maxHeartbeats 2000000 in
theorem does_n13 (h : SmIs 112 B BC w a g X c P T st d U) (n : Nat) (hn : n < T.length) (hpc : (sv U n).pc = 13) (ho : st.s.ops + 1 ≤ 1000000000000) (C : CoPre BB X.x c st) : Calls Tryz.prog 78 #[.pointer (some ⟨X.l, 0, none⟩), .int .i64 n] w (DoesOk B BC w a g X c P T (nuDoes c (leavesL P).length ⟨st, d, U⟩ n 13) U) := by
  have hp := h.thr hn
  obtain ⟨hnd, hnn⟩ := h.node hn
  have hx := h.nT
  have N0 := Lib.hid (SmB.new h)
  have HND := Lib.hid (nodeF (w.alloc (.cells #[.pointer (some ⟨X.l, 0, none⟩)] 52)) X.b P T n hn N0.out.is.tb.f _ hnn)
  have t2 : ¬ (n : Int) < 0 := by omega
  have hl := h.lk.lt
  have hq := h.sp.lt
  have hnx : n < X.x.n := by rw [hx.1]; exact hn
  obtain ⟨nd, hnde⟩ : ∃ nd, nd = c.node n := ⟨_, rfl⟩
  obtain ⟨p, hpp⟩ : ∃ p, p = sv U n := ⟨_, rfl⟩
  rw [← hpp] at hp hpc
  obtain ⟨pc, u, b, z⟩ := p
  simp only at hpc
  subst hpc
  have a0 := N0.out.is.sp.cell hp 0 _ rfl
  simp only [Nat.add_zero] at a0
  have d2 := N0.out.is.cs.2.2.1
  have d3 := N0.out.is.cs.2.2.2.1
  have d5 := N0.out.is.cs.2.2.2.2.2.1
  have d6 := N0.out.is.cs.2.2.2.2.2.2
  rw [← hnde] at HND hnd
  have HL := Lib.hid (fun W (k : SmB B BC w W a g X c P T st d U w.heap.size) => stepCo k.is.co C n hnx)
  obtain ⟨q, hq0⟩ : ∃ q, q = cameK (sv st.T n) (sv (coStep c st n).T n) := ⟨_, rfl⟩
  rw [← hq0] at HL
  have HX : Hid (nuDoes c (leavesL P).length ⟨st, d, U⟩ n 13 = (coStep c st n, d, q)) := Lib.hid (by rw [hq0]; rfl)
  clear h hp hpp hnn hnde hq0
  go_enter Tryz.func78, Tryz.ntmps78
  have e1 := N0.out.cs
  go_wp2_with fail
  refine HND.out.mono ?_
  rintro en w1 ⟨rfl, rfl⟩
  go_wp2_with fail
  refine (HL.out _ N0.out).mono ?_
  rintro en w4 ⟨rfl, k4, t4⟩
  have N3 := Lib.hid (N0.out.co t4 k4)
  clear k4 t4
  go_wp2
  go_ret
  rw [HX.out]
  exact ⟨rfl, N3.out.is, N3.out.tn⟩
end
end Go.Proofs.YtndipiockdmaoaaGreat
end
section
set_option linter.unusedVariables false
set_option linter.unusedSimpArgs false
/- Layer 36 (neutral): Step, over the cohort lock. (printed by gen_sm8.py) -/
namespace Go.Proofs.YtndipiockdmaoaaGreat
open Go.RowKit

theorem next_n (w : World) (pc : Int) (h : pc = 1 ∨ pc = 3 ∨ pc = 4 ∨ pc = 5 ∨ pc = 6 ∨ pc = 7 ∨ pc = 8 ∨ pc = 9 ∨ pc = 11 ∨ pc = 12 ∨ pc = 13) : Calls Tryz.prog 79 #[.int .i64 pc] w fun e w' => e = .returned (.int .i64 (nuNext pc)) ∧ w = w' := by
  rcases h with rfl | rfl | rfl | rfl | rfl | rfl | rfl | rfl | rfl | rfl | rfl
  all_goals
    go_enter Tryz.func79, Tryz.ntmps79
    go_wp2
    go_ret
    exact ⟨rfl, rfl⟩
section
variable {B BC : Nat → Prop} {w w' w0 : World} {a g : Nat} {X : SmX} {c : CoC} {P T : List Int} {st st' : Co} {d d' : Dr} {U : List Sp} {s' : Ar} {BB : Int}
theorem step_n0 (h : SmIs 112 B BC w a g X c P T st d U) (n : Nat) (hn : n < T.length) (hc : (sv U n).pc = 0 ∨ (sv U n).pc = 10) : Calls Tryz.prog 35 #[.pointer (some ⟨X.l, 0, none⟩), .int .i64 n] w (SmAct 112 B BC w a g X c P T (nuStep c (leavesL P).length ⟨st, d, U⟩ n)) := by
  have hfp := field_pc
  have HS0 := spot_n h n
  have hp := h.thr hn
  have hg : getS U (n : Int) = sv U n := by
    unfold getS sv
    rw [if_pos ⟨by omega, by rw [h.lU]; omega⟩, Int.toNat_natCast]
  rw [hg] at HS0
  have H := Lib.hid h
  have t2 : ¬ (n : Int) < 0 := by omega
  have hn32 := h.nT.2.2.1
  obtain ⟨x', hx'⟩ : ∃ x, x = nuStep c (leavesL P).length ⟨st, d, U⟩ n := ⟨_, rfl⟩
  rw [← hx']
  unfold nuStep at hx'
  obtain ⟨p, hpp⟩ : ∃ p, p = sv U n := ⟨_, rfl⟩
  simp only at hx'
  rw [if_pos hc] at hx'
  rw [← hpp] at hc HS0 hp
  have HS := Lib.hid HS0
  have HX := Lib.hid hx'
  clear h hp hpp hx' hg HS0
  obtain ⟨pc, u, b, z⟩ := p
  simp only at hc
  unfold spotV at HS
  rcases hc with rfl | rfl
  all_goals
    go_enter Tryz.func35, Tryz.ntmps35
    go_wp2_with fail
    refine HS.out.mono ?_
    rintro en w1 ⟨rfl, b1⟩
    have HB := Lib.hid b1
    clear b1
    go_wp2
    go_ret
    rw [HX.out]
    exact ⟨_, rfl, H.out.below HB.out, Turns.of_below HB.out⟩
theorem step_n_out (h : SmIs 112 B BC w a g X c P T st d U) (i : Int) (hok : ¬ okI U i) : Calls Tryz.prog 35 #[.pointer (some ⟨X.l, 0, none⟩), .int .i64 i] w (SmAct 112 B BC w a g X c P T ⟨st, d, U⟩) := by
  have hfp := field_pc
  have HS0 := spot_n h i
  rw [getS_out hok] at HS0
  have HS := Lib.hid HS0
  have H := Lib.hid h
  clear h hok HS0
  unfold spotV Sp.zero at HS
  go_enter Tryz.func35, Tryz.ntmps35
  go_wp2_with fail
  refine HS.out.mono ?_
  rintro en w1 ⟨rfl, b1⟩
  have HB := Lib.hid b1
  clear b1
  go_wp2
  go_ret
  exact ⟨_, rfl, H.out.below HB.out, Turns.of_below HB.out⟩
set_option maxRecDepth 100000 in
set_option maxHeartbeats 4000000 in
theorem step_n2 (h : SmIs 112 B BC w a g X c P T st d U) (n : Nat) (hn : n < T.length) (hc : (sv U n).pc = 2) (ho : st.s.ops + 1 ≤ 1000000000000) : Calls Tryz.prog 35 #[.pointer (some ⟨X.l, 0, none⟩), .int .i64 n] w (SmAct 112 B BC w a g X c P T (nuStep c (leavesL P).length ⟨st, d, U⟩ n)) := by
  have hfp := field_pc
  have HS0 := spot_n h n
  have hp := h.thr hn
  have hg : getS U (n : Int) = sv U n := by
    unfold getS sv
    rw [if_pos ⟨by omega, by rw [h.lU]; omega⟩, Int.toNat_natCast]
  rw [hg] at HS0
  have H := Lib.hid h
  have t2 : ¬ (n : Int) < 0 := by omega
  have hn32 := h.nT.2.2.1
  obtain ⟨x', hx'⟩ : ∃ x, x = nuStep c (leavesL P).length ⟨st, d, U⟩ n := ⟨_, rfl⟩
  rw [← hx']
  unfold nuStep at hx'
  obtain ⟨p, hpp⟩ : ∃ p, p = sv U n := ⟨_, rfl⟩
  simp only at hx'
  rw [if_neg (by omega), if_pos hc] at hx'
  rw [← hpp] at hc HS0 hp hx'
  have HS := Lib.hid HS0
  have HP := Lib.hid hp
  obtain ⟨pc, u, b, z⟩ := p
  simp only at hc hx'
  subst hc
  obtain ⟨q, hq⟩ : ∃ q, q = ldW st.s.W (nuFl (leavesL P).length) := ⟨_, rfl⟩
  obtain ⟨ar', har⟩ : ∃ q, q = loadA st.s (nuFl (leavesL P).length) := ⟨_, rfl⟩
  have HO0 := (fun W (k : SmIs 112 B BC W a g X c P T st d U) => load_any k.gd.ar (nuFl (leavesL P).length) ho)
  rw [← hq, ← har] at HO0
  rw [← hq, ← har] at hx'
  have HX := Lib.hid hx'
  have HC := Lib.hid (fun W st (k : SmIs 112 B BC W a g X c P T st d U) => And.intro k.cs.1 k.cs.2.2.2.2.1)
  have HO := Lib.hid HO0
  clear h hp hpp hx' hg HS0 hq har HO0
  unfold spotV at HS
  cases hz : (q == 0)
  all_goals
    go_enter Tryz.func35, Tryz.ntmps35
    go_wp2_with fail
    refine HS.out.mono ?_
    rintro en w1 ⟨rfl, b1⟩
    have K0 := Lib.hid (H.out.below b1)
    have K1 := Lib.hid (H.out.below b1.drew)
    have T1 := Lib.hid (Turns.of_below (S := SmS a g X) b1.drew)
    have d6 := K0.out.cs.2.2.2.2.2.2
    clear b1
    go_wp2_with fail
    first
    | (go_region_held3 (fun W => W.cell? ⟨X.l, 0, none⟩ = some (.pointer (some ⟨a, 0, none⟩)) ∧ W.cell? ⟨X.l, 4, none⟩ = some (.int .i64 (2 * ((leavesL P).length : Int) + 1)))
        (first | exact HC.out _ _ K1.out | exact HC.out _ _ K2.out)
        (first
          | (go_at_call 77; go_loud (refine (HO.out _ K1.out).mono ?_); rintro en w3 ⟨rfl, a3, t3⟩; have K2 := Lib.hid (K1.out.arT t3 a3); have T2 := Lib.hid (T1.out.trans (smS_ag t3)); clear a3 t3)))
    | fail "held"
  all_goals
    have e0 := K2.out.sp.cell HP.out 0 _ rfl
    have z0 := K2.out.sp.free (n * 4)
    simp only [Nat.add_zero] at e0
    first
      | (have K3 := Lib.hid (K2.out.put0 HP.out (p' := (⟨10, u, b, z⟩ : Sp)) (u := .int .i64 10) rfl)
         go_wp2
         go_ret
         rw [HX.out, if_pos (by simpa using hz)]
         exact ⟨_, rfl, K3.out, T2.out.trans (smS_q _ _)⟩)
      | (have K3 := Lib.hid (K2.out.put0 HP.out (p' := (⟨3, u, b, z⟩ : Sp)) (u := .int .i64 3) rfl)
         go_wp2
         go_ret
         rw [HX.out, if_neg (by simpa using hz)]
         exact ⟨_, rfl, K3.out, T2.out.trans (smS_q _ _)⟩)
set_option maxRecDepth 100000 in
set_option maxHeartbeats 4000000 in
theorem step_nD (h : SmIs 112 B BC w a g X c P T st d U) (n : Nat) (hn : n < T.length) (pc u b z : Int) (hU : sv U n = ⟨pc, u, b, z⟩) (hc : pc = 1 ∨ pc = 3 ∨ pc = 4 ∨ pc = 5 ∨ pc = 6 ∨ pc = 7 ∨ pc = 8 ∨ pc = 9 ∨ pc = 11 ∨ pc = 12 ∨ pc = 13)
    (hD : ∀ W, SmIs 112 B BC W a g X c P T st d U → Calls Tryz.prog 78 #[.pointer (some ⟨X.l, 0, none⟩), .int .i64 n] W (DoesOk B BC W a g X c P T (nuDoes c (leavesL P).length ⟨st, d, U⟩ n pc) U)) : Calls Tryz.prog 35 #[.pointer (some ⟨X.l, 0, none⟩), .int .i64 n] w (SmAct 112 B BC w a g X c P T (nuStep c (leavesL P).length ⟨st, d, U⟩ n)) := by
  have hfp := field_pc
  have HS0 := spot_n h n
  have hp := h.thr hn
  have hg : getS U (n : Int) = sv U n := by
    unfold getS sv
    rw [if_pos ⟨by omega, by rw [h.lU]; omega⟩, Int.toNat_natCast]
  rw [hg] at HS0
  have H := Lib.hid h
  have t2 : ¬ (n : Int) < 0 := by omega
  have hn32 := h.nT.2.2.1
  obtain ⟨x', hx'⟩ : ∃ x, x = nuStep c (leavesL P).length ⟨st, d, U⟩ n := ⟨_, rfl⟩
  rw [← hx']
  unfold nuStep at hx'
  obtain ⟨p, hpp⟩ : ∃ p, p = sv U n := ⟨_, rfl⟩
  simp only at hx'
  have hv : p = ⟨pc, u, b, z⟩ := by rw [hpp, hU]
  subst hv
  rw [← hpp, if_neg (show ¬ (pc = 0 ∨ pc = 10) by omega), if_neg (show ¬ pc = 2 by omega)] at hx'
  rw [← hpp] at HS0 hp
  have u0 : (pc == 0) = false := by simp; omega
  have u1 : (pc == 10) = false := by simp; omega
  have u2 : (pc == 2) = false := by simp; omega
  have HNX := Lib.hid (fun W => next_n W pc hc)
  obtain ⟨r, hr⟩ : ∃ r, r = nuDoes c (leavesL P).length ⟨st, d, U⟩ n pc := ⟨_, rfl⟩
  rw [← hr] at hD hx'
  obtain ⟨s1, d1, q⟩ := r
  obtain ⟨v, hvv⟩ : ∃ v, v = nuNext pc := ⟨_, rfl⟩
  rw [← hvv] at HNX
  unfold nuTo at hx'
  simp only at hx'
  rw [← hvv] at hx'
  have HX := Lib.hid hx'
  have HS := Lib.hid HS0
  have HP := Lib.hid hp
  have HD := Lib.hid hD
  clear h hp hpp hx' hg HS0 hD hr hvv hU hc
  unfold spotV at HS
  cases q
  · skip
    go_enter Tryz.func35, Tryz.ntmps35
    go_wp2_with fail
    refine HS.out.mono ?_
    rintro en w1 ⟨rfl, b1⟩
    have K1 := Lib.hid (H.out.below b1.drew)
    have T1 := Lib.hid (Turns.of_below (S := SmS a g X) b1.drew)
    have K0 := Lib.hid (H.out.below b1)
    have d6 := K0.out.cs.2.2.2.2.2.2
    clear b1
    go_wp2_with fail
    refine wp_region_held_drew (S := (fun _ => True)) (by kernel_rfl) (by exact trivial) (fun hHeld => ?_)
    refine wpAnyH_take (i := 0) (v := ?v0) rfl (by kernel_rfl) (by kernel_rfl) (by kernel_rfl) (fun _ _ _ h => h) (Or.inl ⟨by rfl, ?hy0⟩) (by assumption) ?_
    case hy0 => (intro W hSw; (try dsimp only at hSw); go_simp; try with_reducible rfl)
    try simp only [Act.put, List.setIfInBounds_toArray, List.set_cons_zero, List.set_cons_succ, List.getElem_toArray, List.getElem_cons_zero, List.getElem_cons_succ]
    refine wpAnyH_take (i := 1) (v := ?v1) rfl (by kernel_rfl) (by kernel_rfl) (by kernel_rfl) (fun _ _ _ h => h) (Or.inl ⟨by rfl, ?hy1⟩) (by assumption) ?_
    case hy1 => (intro W hSw; (try dsimp only at hSw); go_simp; try with_reducible rfl)
    try simp only [Act.put, List.setIfInBounds_toArray, List.set_cons_zero, List.set_cons_succ, List.getElem_toArray, List.getElem_cons_zero, List.getElem_cons_succ]
    refine wpAnyH_take (i := 2) (v := ?v2) rfl (by kernel_rfl) (by kernel_rfl) (by kernel_rfl) (fun _ _ _ h => h) (Or.inl ⟨by rfl, ?hy2⟩) (by assumption) ?_
    case hy2 => (intro W hSw; (try dsimp only at hSw); go_simp; try with_reducible rfl)
    try simp only [Act.put, List.setIfInBounds_toArray, List.set_cons_zero, List.set_cons_succ, List.getElem_toArray, List.getElem_cons_zero, List.getElem_cons_succ]
    refine wpAnyH_take (i := 3) (v := undef) rfl (by kernel_rfl) (by kernel_rfl) (by kernel_rfl) (fun _ _ _ h => h) (Or.inr ⟨by rfl, rfl⟩) (by assumption) ?_
    try simp only [Act.put, List.setIfInBounds_toArray, List.set_cons_zero, List.set_cons_succ, List.getElem_toArray, List.getElem_cons_zero, List.getElem_cons_succ]
    refine wpAnyH_take (i := 4) (v := undef) rfl (by kernel_rfl) (by kernel_rfl) (by kernel_rfl) (fun _ _ _ h => h) (Or.inr ⟨by rfl, rfl⟩) (by assumption) ?_
    try simp only [Act.put, List.setIfInBounds_toArray, List.set_cons_zero, List.set_cons_succ, List.getElem_toArray, List.getElem_cons_zero, List.getElem_cons_succ]
    refine wpAnyH_take (i := 5) (v := undef) rfl (by kernel_rfl) (by kernel_rfl) (by kernel_rfl) (fun _ _ _ h => h) (Or.inr ⟨by rfl, rfl⟩) (by assumption) ?_
    try simp only [Act.put, List.setIfInBounds_toArray, List.set_cons_zero, List.set_cons_succ, List.getElem_toArray, List.getElem_cons_zero, List.getElem_cons_succ]
    refine wpAnyH_take (i := 6) (v := undef) rfl (by kernel_rfl) (by kernel_rfl) (by kernel_rfl) (fun _ _ _ h => h) (Or.inr ⟨by rfl, rfl⟩) (by assumption) ?_
    try simp only [Act.put, List.setIfInBounds_toArray, List.set_cons_zero, List.set_cons_succ, List.getElem_toArray, List.getElem_cons_zero, List.getElem_cons_succ]
    refine wpAnyH_take (i := 7) (v := undef) rfl (by kernel_rfl) (by kernel_rfl) (by kernel_rfl) (fun _ _ _ h => h) (Or.inr ⟨by rfl, rfl⟩) (by assumption) ?_
    try simp only [Act.put, List.setIfInBounds_toArray, List.set_cons_zero, List.set_cons_succ, List.getElem_toArray, List.getElem_cons_zero, List.getElem_cons_succ]
    refine wpAnyH_take (i := 8) (v := undef) rfl (by kernel_rfl) (by kernel_rfl) (by kernel_rfl) (fun _ _ _ h => h) (Or.inr ⟨by rfl, rfl⟩) (by assumption) ?_
    try simp only [Act.put, List.setIfInBounds_toArray, List.set_cons_zero, List.set_cons_succ, List.getElem_toArray, List.getElem_cons_zero, List.getElem_cons_succ]
    refine wpAnyH_take (i := 9) (v := undef) rfl (by kernel_rfl) (by kernel_rfl) (by kernel_rfl) (fun _ _ _ h => h) (Or.inr ⟨by rfl, rfl⟩) (by assumption) ?_
    try simp only [Act.put, List.setIfInBounds_toArray, List.set_cons_zero, List.set_cons_succ, List.getElem_toArray, List.getElem_cons_zero, List.getElem_cons_succ]
    refine wpAnyH_take (i := 10) (v := undef) rfl (by kernel_rfl) (by kernel_rfl) (by kernel_rfl) (fun _ _ _ h => h) (Or.inr ⟨by rfl, rfl⟩) (by assumption) ?_
    try simp only [Act.put, List.setIfInBounds_toArray, List.set_cons_zero, List.set_cons_succ, List.getElem_toArray, List.getElem_cons_zero, List.getElem_cons_succ]
    refine wpAnyH_take (i := 11) (v := undef) rfl (by kernel_rfl) (by kernel_rfl) (by kernel_rfl) (fun _ _ _ h => h) (Or.inr ⟨by rfl, rfl⟩) (by assumption) ?_
    try simp only [Act.put, List.setIfInBounds_toArray, List.set_cons_zero, List.set_cons_succ, List.getElem_toArray, List.getElem_cons_zero, List.getElem_cons_succ]
    refine wpAnyH_take (i := 12) (v := undef) rfl (by kernel_rfl) (by kernel_rfl) (by kernel_rfl) (fun _ _ _ h => h) (Or.inr ⟨by rfl, rfl⟩) (by assumption) ?_
    try simp only [Act.put, List.setIfInBounds_toArray, List.set_cons_zero, List.set_cons_succ, List.getElem_toArray, List.getElem_cons_zero, List.getElem_cons_succ]
    refine wpAnyH_take (i := 13) (v := ?v13) rfl (by kernel_rfl) (by kernel_rfl) (by kernel_rfl) (fun _ _ _ h => h) (Or.inl ⟨by rfl, ?hy13⟩) (by assumption) ?_
    case hy13 => (intro W hSw; (try dsimp only at hSw); go_simp; try with_reducible rfl)
    try simp only [Act.put, List.setIfInBounds_toArray, List.set_cons_zero, List.set_cons_succ, List.getElem_toArray, List.getElem_cons_zero, List.getElem_cons_succ]
    refine wpAnyH_take (i := 14) (v := ?v14) rfl (by kernel_rfl) (by kernel_rfl) (by kernel_rfl) (fun _ _ _ h => h) (Or.inl ⟨by rfl, ?hy14⟩) (by assumption) ?_
    case hy14 => (intro W hSw; (try dsimp only at hSw); go_simp; try with_reducible rfl)
    try simp only [Act.put, List.setIfInBounds_toArray, List.set_cons_zero, List.set_cons_succ, List.getElem_toArray, List.getElem_cons_zero, List.getElem_cons_succ]
    refine wpAnyH_done (by kernel_rfl) ?_ _
    go_wp2_with fail
    refine (HD.out _ K1.out).mono ?_
    rintro en w3 ⟨rfl, k3, t3⟩
    have K3 := Lib.hid k3
    have T3 := Lib.hid (T1.out.trans t3)
    clear k3 t3
    go_wp2
    go_ret
    rw [HX.out]
    refine ⟨_, rfl, ?_, T3.out⟩
    have k := K3.out
    rw [← setS_id HP.out] at k
    exact k
  · cases v1 : (v == 10) <;> cases v2 : (v == 0)
    all_goals
      go_enter Tryz.func35, Tryz.ntmps35
      go_wp2_with fail
      refine HS.out.mono ?_
      rintro en w1 ⟨rfl, b1⟩
      have K1 := Lib.hid (H.out.below b1.drew)
      have T1 := Lib.hid (Turns.of_below (S := SmS a g X) b1.drew)
      have K0 := Lib.hid (H.out.below b1)
      have d6 := K0.out.cs.2.2.2.2.2.2
      clear b1
      go_wp2_with fail
      refine wp_region_held_drew (S := (fun _ => True)) (by kernel_rfl) (by exact trivial) (fun hHeld => ?_)
      refine wpAnyH_take (i := 0) (v := ?v0) rfl (by kernel_rfl) (by kernel_rfl) (by kernel_rfl) (fun _ _ _ h => h) (Or.inl ⟨by rfl, ?hy0⟩) (by assumption) ?_
      case hy0 => (intro W hSw; (try dsimp only at hSw); go_simp; try with_reducible rfl)
      try simp only [Act.put, List.setIfInBounds_toArray, List.set_cons_zero, List.set_cons_succ, List.getElem_toArray, List.getElem_cons_zero, List.getElem_cons_succ]
      refine wpAnyH_take (i := 1) (v := ?v1) rfl (by kernel_rfl) (by kernel_rfl) (by kernel_rfl) (fun _ _ _ h => h) (Or.inl ⟨by rfl, ?hy1⟩) (by assumption) ?_
      case hy1 => (intro W hSw; (try dsimp only at hSw); go_simp; try with_reducible rfl)
      try simp only [Act.put, List.setIfInBounds_toArray, List.set_cons_zero, List.set_cons_succ, List.getElem_toArray, List.getElem_cons_zero, List.getElem_cons_succ]
      refine wpAnyH_take (i := 2) (v := ?v2) rfl (by kernel_rfl) (by kernel_rfl) (by kernel_rfl) (fun _ _ _ h => h) (Or.inl ⟨by rfl, ?hy2⟩) (by assumption) ?_
      case hy2 => (intro W hSw; (try dsimp only at hSw); go_simp; try with_reducible rfl)
      try simp only [Act.put, List.setIfInBounds_toArray, List.set_cons_zero, List.set_cons_succ, List.getElem_toArray, List.getElem_cons_zero, List.getElem_cons_succ]
      refine wpAnyH_take (i := 3) (v := undef) rfl (by kernel_rfl) (by kernel_rfl) (by kernel_rfl) (fun _ _ _ h => h) (Or.inr ⟨by rfl, rfl⟩) (by assumption) ?_
      try simp only [Act.put, List.setIfInBounds_toArray, List.set_cons_zero, List.set_cons_succ, List.getElem_toArray, List.getElem_cons_zero, List.getElem_cons_succ]
      refine wpAnyH_take (i := 4) (v := undef) rfl (by kernel_rfl) (by kernel_rfl) (by kernel_rfl) (fun _ _ _ h => h) (Or.inr ⟨by rfl, rfl⟩) (by assumption) ?_
      try simp only [Act.put, List.setIfInBounds_toArray, List.set_cons_zero, List.set_cons_succ, List.getElem_toArray, List.getElem_cons_zero, List.getElem_cons_succ]
      refine wpAnyH_take (i := 5) (v := undef) rfl (by kernel_rfl) (by kernel_rfl) (by kernel_rfl) (fun _ _ _ h => h) (Or.inr ⟨by rfl, rfl⟩) (by assumption) ?_
      try simp only [Act.put, List.setIfInBounds_toArray, List.set_cons_zero, List.set_cons_succ, List.getElem_toArray, List.getElem_cons_zero, List.getElem_cons_succ]
      refine wpAnyH_take (i := 6) (v := undef) rfl (by kernel_rfl) (by kernel_rfl) (by kernel_rfl) (fun _ _ _ h => h) (Or.inr ⟨by rfl, rfl⟩) (by assumption) ?_
      try simp only [Act.put, List.setIfInBounds_toArray, List.set_cons_zero, List.set_cons_succ, List.getElem_toArray, List.getElem_cons_zero, List.getElem_cons_succ]
      refine wpAnyH_take (i := 7) (v := undef) rfl (by kernel_rfl) (by kernel_rfl) (by kernel_rfl) (fun _ _ _ h => h) (Or.inr ⟨by rfl, rfl⟩) (by assumption) ?_
      try simp only [Act.put, List.setIfInBounds_toArray, List.set_cons_zero, List.set_cons_succ, List.getElem_toArray, List.getElem_cons_zero, List.getElem_cons_succ]
      refine wpAnyH_take (i := 8) (v := undef) rfl (by kernel_rfl) (by kernel_rfl) (by kernel_rfl) (fun _ _ _ h => h) (Or.inr ⟨by rfl, rfl⟩) (by assumption) ?_
      try simp only [Act.put, List.setIfInBounds_toArray, List.set_cons_zero, List.set_cons_succ, List.getElem_toArray, List.getElem_cons_zero, List.getElem_cons_succ]
      refine wpAnyH_take (i := 9) (v := undef) rfl (by kernel_rfl) (by kernel_rfl) (by kernel_rfl) (fun _ _ _ h => h) (Or.inr ⟨by rfl, rfl⟩) (by assumption) ?_
      try simp only [Act.put, List.setIfInBounds_toArray, List.set_cons_zero, List.set_cons_succ, List.getElem_toArray, List.getElem_cons_zero, List.getElem_cons_succ]
      refine wpAnyH_take (i := 10) (v := undef) rfl (by kernel_rfl) (by kernel_rfl) (by kernel_rfl) (fun _ _ _ h => h) (Or.inr ⟨by rfl, rfl⟩) (by assumption) ?_
      try simp only [Act.put, List.setIfInBounds_toArray, List.set_cons_zero, List.set_cons_succ, List.getElem_toArray, List.getElem_cons_zero, List.getElem_cons_succ]
      refine wpAnyH_take (i := 11) (v := undef) rfl (by kernel_rfl) (by kernel_rfl) (by kernel_rfl) (fun _ _ _ h => h) (Or.inr ⟨by rfl, rfl⟩) (by assumption) ?_
      try simp only [Act.put, List.setIfInBounds_toArray, List.set_cons_zero, List.set_cons_succ, List.getElem_toArray, List.getElem_cons_zero, List.getElem_cons_succ]
      refine wpAnyH_take (i := 12) (v := undef) rfl (by kernel_rfl) (by kernel_rfl) (by kernel_rfl) (fun _ _ _ h => h) (Or.inr ⟨by rfl, rfl⟩) (by assumption) ?_
      try simp only [Act.put, List.setIfInBounds_toArray, List.set_cons_zero, List.set_cons_succ, List.getElem_toArray, List.getElem_cons_zero, List.getElem_cons_succ]
      refine wpAnyH_take (i := 13) (v := ?v13) rfl (by kernel_rfl) (by kernel_rfl) (by kernel_rfl) (fun _ _ _ h => h) (Or.inl ⟨by rfl, ?hy13⟩) (by assumption) ?_
      case hy13 => (intro W hSw; (try dsimp only at hSw); go_simp; try with_reducible rfl)
      try simp only [Act.put, List.setIfInBounds_toArray, List.set_cons_zero, List.set_cons_succ, List.getElem_toArray, List.getElem_cons_zero, List.getElem_cons_succ]
      refine wpAnyH_take (i := 14) (v := ?v14) rfl (by kernel_rfl) (by kernel_rfl) (by kernel_rfl) (fun _ _ _ h => h) (Or.inl ⟨by rfl, ?hy14⟩) (by assumption) ?_
      case hy14 => (intro W hSw; (try dsimp only at hSw); go_simp; try with_reducible rfl)
      try simp only [Act.put, List.setIfInBounds_toArray, List.set_cons_zero, List.set_cons_succ, List.getElem_toArray, List.getElem_cons_zero, List.getElem_cons_succ]
      refine wpAnyH_done (by kernel_rfl) ?_ _
      go_wp2_with fail
      refine (HD.out _ K1.out).mono ?_
      rintro en w3 ⟨rfl, k3, t3⟩
      have K3 := Lib.hid k3
      have T3 := Lib.hid (T1.out.trans t3)
      have e0 := K3.out.sp.cell HP.out 0 _ rfl
      have z0 := K3.out.sp.free (n * 4)
      simp only [Nat.add_zero] at e0
      have K4 := Lib.hid (K3.out.put0 HP.out (p' := (⟨v, u, b, z⟩ : Sp)) (u := .int .i64 v) rfl)
      clear k3 t3
      go_wp2_with fail
      refine (HNX.out _).mono ?_
      rintro en w4 ⟨rfl, rfl⟩
      go_wp2
      go_ret
      rw [HX.out]
      exact ⟨_, rfl, K4.out, T3.out.trans (smS_q _ _)⟩
theorem step_nAll (h : SmIs 112 B BC w a g X c P T st d U) (n : Nat) (hn : n < T.length) (hc : linkN (sv U n) (sv st.T n)) (ho : st.s.ops + 1 ≤ 1000000000000) (hN : 1 ≤ (leavesL P).length) (hb : (sv U n).pc = 9 → d.busy = true → d.at_ < (leavesL P).length) (C : CoPre BB X.x c st) :
    Calls Tryz.prog 35 #[.pointer (some ⟨X.l, 0, none⟩), .int .i64 n] w (SmAct 112 B BC w a g X c P T (nuStep c (leavesL P).length ⟨st, d, U⟩ n)) := by
  obtain ⟨p, hpp⟩ : ∃ p, p = sv U n := ⟨_, rfl⟩
  have hcs : p.pc = 0 ∨ p.pc = 10 ∨ p.pc = 2 ∨ p.pc = 1 ∨ p.pc = 3 ∨ p.pc = 4 ∨ p.pc = 5 ∨ p.pc = 6 ∨ p.pc = 7 ∨ p.pc = 8 ∨ p.pc = 9 ∨ p.pc = 11 ∨ p.pc = 12 ∨ p.pc = 13 := by
    rw [← hpp] at hc
    unfold linkN at hc
    rcases hc with ⟨q1, _⟩ | ⟨_, q2, _⟩ | ⟨_, q2, _⟩ | ⟨_, q2, _⟩ | ⟨_, q2, _⟩ | ⟨_, q2, _⟩ | ⟨_, q2, _⟩ | ⟨_, q2, _⟩
    all_goals omega
  obtain ⟨pc, u, b, z⟩ := p
  have hpc : (sv U n).pc = pc := by rw [← hpp]
  simp only at hcs
  rcases hcs with rfl | rfl | rfl | rfl | rfl | rfl | rfl | rfl | rfl | rfl | rfl | rfl | rfl | rfl
  · exact step_n0 h n hn (.inl hpc)
  · exact step_n0 h n hn (.inr hpc)
  · exact step_n2 h n hn hpc ho
  · exact step_nD h n hn _ u b z hpp.symm (by decide) (fun W k => does_n1 k n hn hpc ho)
  · exact step_nD h n hn _ u b z hpp.symm (by decide) (fun W k => does_n3 k n hn hpc ho)
  · exact step_nD h n hn _ u b z hpp.symm (by decide) (fun W k => does_n4 k n hn hpc ho C)
  · exact step_nD h n hn _ u b z hpp.symm (by decide) (fun W k => does_n5 k n hn hpc ho)
  · exact step_nD h n hn _ u b z hpp.symm (by decide) (fun W k => does_n6 k n hn hpc ho C)
  · exact step_nD h n hn _ u b z hpp.symm (by decide) (fun W k => does_n7 k n hn hpc ho C)
  · exact step_nD h n hn _ u b z hpp.symm (by decide) (fun W k => does_n8 k n hn hpc ho hN)
  · exact step_nD h n hn _ u b z hpp.symm (by decide) (fun W k => does_n9 k n hn hpc ho (hb hpc))
  · exact step_nD h n hn _ u b z hpp.symm (by decide) (fun W k => does_n11 k n hn hpc ho)
  · exact step_nD h n hn _ u b z hpp.symm (by decide) (fun W k => does_n12 k n hn hpc ho)
  · exact step_nD h n hn _ u b z hpp.symm (by decide) (fun W k => does_n13 k n hn hpc ho C)
end
end Go.Proofs.YtndipiockdmaoaaGreat
end
