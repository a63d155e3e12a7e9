/- Joined: Rg2, Rg3, Ar3. -/
import Derived.StillTailTactics
import Derived.Deep.RegionHeld3
import Derived.Deep.QuietTactic
import Derived.BigQuiet
import Derived.Test.YtkdaiomjbkpedaaGreatMgHmcsU2
section
/- Layer 26: a rung's steps (written by wip/gen_rg2.py). -/
namespace Go.Proofs.YtkdaiomjbkpedaaGreat
open Go.RowKit

def StepOk (w : World) (l a g q : Nat) (t : Int) (n : Nat) (r : Rg) (p : Sp) (x : Ar × Sp) (e : Ending) (w' : World) : Prop :=
  e = .returned (.int .i64 x.2.pc) ∧ RgIs w' l a g q t ⟨x.1, r.S.set n { x.2 with pc := p.pc }⟩ ∧ Turns [a, g, q] w w'
theorem same_calls {P : Program} {f : FuncId} {args : Array Value} {w : World} {v : Value} (h : Calls P f args w fun e w' => e = .returned v ∧ w = w') : Calls P f args w fun e w' => e = .returned v ∧ w' = w :=
  h.mono fun _ _ ⟨a, b⟩ => ⟨a, b.symm⟩
theorem RgIs.ar_ {w w' : World} {l a g q : Nat} {t : Int} {r : Rg} (h : RgIs w l a g q t r) {s' : Ar} (hs : ArIs w' a g s') (k : Turns [a, g] w w') : RgIs w' l a g q t ⟨s', r.S⟩ :=
  ⟨hs, k.blk h.lk (by simp [h.la, h.lg]), h.sp.turns k (by simp [h.qa, h.qg]), h.la, h.lg, h.lq, h.qa, h.qg, h.len⟩
theorem RgIs.drew {w : World} {l a g q : Nat} {t : Int} {r : Rg} (h : RgIs w l a g q t r) : RgIs w.drew l a g q t r := h.turns (T := []) ((Turns.refl _ _).drew) (by simp) (by simp) (by simp) (by simp)
theorem set_self {S : List Sp} {n : Nat} {p : Sp} (h : S[n]? = some p) : S.set n p = S := by
  obtain ⟨hk, rfl⟩ := List.getElem?_eq_some_iff.1 h
  simp
theorem swap_call {w : World} {a g : Nat} {s : Ar} (h : ArIs w a g s) (x v r : Int) (hr : r = ldW s.W x) (ho : s.ops + 1 ≤ 1000000000000) :
    Calls Tryz.prog 92 #[.pointer (some ⟨a, 0, none⟩), .int .i64 x, .int .i64 v] w (OpDone w a g (swapA s x v) (.int .i64 r)) := by rw [hr]; exact swap_any h x v ho
theorem load_call {w : World} {a g : Nat} {s : Ar} (h : ArIs w a g s) (x r : Int) (hr : r = ldW s.W x) (ho : s.ops + 1 ≤ 1000000000000) :
    Calls Tryz.prog 94 #[.pointer (some ⟨a, 0, none⟩), .int .i64 x] w (OpDone w a g (loadA s x) (.int .i64 r)) := by rw [hr]; exact load_any h x ho
theorem cas_call {w : World} {a g : Nat} {s : Ar} (h : ArIs w a g s) (x old v : Int) (b : Bool) (hb : casB s x old = b) (ho : s.ops + 1 ≤ 1000000000000) :
    Calls Tryz.prog 95 #[.pointer (some ⟨a, 0, none⟩), .int .i64 x, .int .i64 old, .int .i64 v] w (OpDone w a g (casA s x old v) (.bool b)) := by rw [← hb]; exact cas_any h x old v ho
set_option maxRecDepth 100000 in
set_option maxHeartbeats 1000000 in
theorem in1 {w : World} {l a g q : Nat} {t : Int} {r : Rg} (h : RgIs w l a g q t r) (n : Nat) (p : Sp) (hp : r.S[n]? = some p) (x : Int) (ho : r.ar.ops + 1 ≤ 1000000000000) (hpc : p.pc = 1) :
    Calls Tryz.prog 110 #[.pointer (some ⟨l, 0, none⟩), .pointer (some ⟨q, n * 4, none⟩), .int .i64 x] w (StepOk w l a g q t n r p (inR26 r.ar t x p)) := by
  have y : (p.pc == 1) = true := by rw [hpc]; rfl
  have c0 : w.cell? ⟨l, 0, none⟩ = some (.pointer (some ⟨a, 0, none⟩)) := h.lk.cell 0
  have c1 : w.cell? ⟨l, 1, none⟩ = some (.int .i64 t) := h.lk.cell 1
  have a0 := h.sp.cell hp 0 _ rfl
  have a1 := h.sp.cell hp 1 _ rfl
  have a2 := h.sp.cell hp 2 _ rfl
  have a3 := h.sp.cell hp 3 _ rfl
  simp only [Nat.add_zero] at a0
  have H := Lib.hid (And.intro h (And.intro hp hpc))
  clear h hp hpc
  go_enter Tryz.func110, Tryz.ntmps110
  go_wp2
  refine wp_region_still_tail 7 (by kernel_rfl) (by kernel_rfl) ?_
  simp only [List.take_succ_cons, List.take_zero, List.drop_succ_cons, List.drop_zero]
  change wpStill _ _ (World.drew _) _ _ _
  repeat still_step
  still_call (same_calls (next_any H.out.1.drew x))
  repeat still_step
  refine wpStill_nil ?_
  change wpList _ _ _ _ _ (World.drew w)
  go_wp2_with fail
  refine (store_any H.out.1.drew.ar (nxA t x) 0 ho).mono ?_
  rintro en w1 ⟨rfl, h1, t1⟩
  have H1 := Lib.hid (And.intro (H.out.1.drew.ar_ h1 t1) (Turns.trans ((Turns.refl _ _).drew) t1))
  clear h1 t1
  go_wp2
  go_ret
  have e : inR26 r.ar t x p = (storeA r.ar (nxA t x) 0, { p with pc := 2 }) := by unfold inR26; rw [if_pos H.out.2.2]
  rw [e]
  have e2 : ({ ({ p with pc := 2 } : Sp) with pc := p.pc } : Sp) = p := rfl
  refine ⟨rfl, ?_, H1.out.2.mono (by simp)⟩
  rw [e2, set_self H.out.2.1]
  exact H1.out.1
set_option maxRecDepth 100000 in
set_option maxHeartbeats 1000000 in
theorem in2 {w : World} {l a g q : Nat} {t : Int} {r : Rg} (h : RgIs w l a g q t r) (n : Nat) (p : Sp) (hp : r.S[n]? = some p) (x : Int) (ho : r.ar.ops + 1 ≤ 1000000000000) (hpc : p.pc = 2) :
    Calls Tryz.prog 110 #[.pointer (some ⟨l, 0, none⟩), .pointer (some ⟨q, n * 4, none⟩), .int .i64 x] w (StepOk w l a g q t n r p (inR26 r.ar t x p)) := by
  have y : (p.pc == 2) = true := by rw [hpc]; rfl
  have n1 : (p.pc == 1) = false := by rw [hpc]; rfl
  have c0 : w.cell? ⟨l, 0, none⟩ = some (.pointer (some ⟨a, 0, none⟩)) := h.lk.cell 0
  have c1 : w.cell? ⟨l, 1, none⟩ = some (.int .i64 t) := h.lk.cell 1
  have a0 := h.sp.cell hp 0 _ rfl
  have a1 := h.sp.cell hp 1 _ rfl
  have a2 := h.sp.cell hp 2 _ rfl
  have a3 := h.sp.cell hp 3 _ rfl
  simp only [Nat.add_zero] at a0
  have H := Lib.hid (And.intro h (And.intro hp hpc))
  clear h hp hpc
  go_enter Tryz.func110, Tryz.ntmps110
  go_wp2
  refine wp_region_still_tail 7 (by kernel_rfl) (by kernel_rfl) ?_
  simp only [List.take_succ_cons, List.take_zero, List.drop_succ_cons, List.drop_zero]
  change wpStill _ _ (World.drew _) _ _ _
  repeat still_step
  still_call (same_calls (stat_any H.out.1.drew x))
  repeat still_step
  refine wpStill_nil ?_
  change wpList _ _ _ _ _ (World.drew w)
  go_wp2_with fail
  refine (store_any H.out.1.drew.ar (stA t x) 0 ho).mono ?_
  rintro en w1 ⟨rfl, h1, t1⟩
  have H1 := Lib.hid (And.intro (H.out.1.drew.ar_ h1 t1) (Turns.trans ((Turns.refl _ _).drew) t1))
  clear h1 t1
  go_wp2
  go_ret
  have e : inR26 r.ar t x p = (storeA r.ar (stA t x) 0, { p with pc := 3 }) := by unfold inR26; rw [if_neg (by rw [H.out.2.2]; decide), if_pos H.out.2.2]
  rw [e]
  have e2 : ({ ({ p with pc := 3 } : Sp) with pc := p.pc } : Sp) = p := rfl
  refine ⟨rfl, ?_, H1.out.2.mono (by simp)⟩
  rw [e2, set_self H.out.2.1]
  exact H1.out.1
set_option maxRecDepth 100000 in
set_option maxHeartbeats 1000000 in
theorem in4 {w : World} {l a g q : Nat} {t : Int} {r : Rg} (h : RgIs w l a g q t r) (n : Nat) (p : Sp) (hp : r.S[n]? = some p) (x : Int) (ho : r.ar.ops + 1 ≤ 1000000000000) (hpc : p.pc = 4) :
    Calls Tryz.prog 110 #[.pointer (some ⟨l, 0, none⟩), .pointer (some ⟨q, n * 4, none⟩), .int .i64 x] w (StepOk w l a g q t n r p (inR26 r.ar t x p)) := by
  have y : (p.pc == 4) = true := by rw [hpc]; rfl
  have n1 : (p.pc == 1) = false := by rw [hpc]; rfl
  have n2 : (p.pc == 2) = false := by rw [hpc]; rfl
  have n3 : (p.pc == 3) = false := by rw [hpc]; rfl
  have c0 : w.cell? ⟨l, 0, none⟩ = some (.pointer (some ⟨a, 0, none⟩)) := h.lk.cell 0
  have c1 : w.cell? ⟨l, 1, none⟩ = some (.int .i64 t) := h.lk.cell 1
  have a0 := h.sp.cell hp 0 _ rfl
  have a1 := h.sp.cell hp 1 _ rfl
  have a2 := h.sp.cell hp 2 _ rfl
  have a3 := h.sp.cell hp 3 _ rfl
  simp only [Nat.add_zero] at a0
  have H := Lib.hid (And.intro h (And.intro hp hpc))
  clear h hp hpc
  go_enter Tryz.func110, Tryz.ntmps110
  go_wp2
  refine wp_region_still_tail 11 (by kernel_rfl) (by kernel_rfl) ?_
  simp only [List.take_succ_cons, List.take_zero, List.drop_succ_cons, List.drop_zero]
  change wpStill _ _ (World.drew _) _ _ _
  repeat still_step
  still_call (same_calls (next_any H.out.1.drew p.a))
  repeat still_step
  refine wpStill_nil ?_
  change wpList _ _ _ _ _ (World.drew w)
  go_wp2_with fail
  refine (store_any H.out.1.drew.ar (nxA t p.a) x ho).mono ?_
  rintro en w1 ⟨rfl, h1, t1⟩
  have H1 := Lib.hid (And.intro (H.out.1.drew.ar_ h1 t1) (Turns.trans ((Turns.refl _ _).drew) t1))
  clear h1 t1
  go_wp2
  go_ret
  have e : inR26 r.ar t x p = (storeA r.ar (nxA t p.a) x, { p with pc := 5 }) := by unfold inR26; rw [if_neg (by rw [H.out.2.2]; decide), if_neg (by rw [H.out.2.2]; decide), if_neg (by rw [H.out.2.2]; decide), if_pos H.out.2.2]
  rw [e]
  have e2 : ({ ({ p with pc := 5 } : Sp) with pc := p.pc } : Sp) = p := rfl
  refine ⟨rfl, ?_, H1.out.2.mono (by simp)⟩
  rw [e2, set_self H.out.2.1]
  exact H1.out.1
set_option maxRecDepth 100000 in
set_option maxHeartbeats 1000000 in
theorem in6 {w : World} {l a g q : Nat} {t : Int} {r : Rg} (h : RgIs w l a g q t r) (n : Nat) (p : Sp) (hp : r.S[n]? = some p) (x : Int) (ho : r.ar.ops + 1 ≤ 1000000000000) (hpc : p.pc = 6) :
    Calls Tryz.prog 110 #[.pointer (some ⟨l, 0, none⟩), .pointer (some ⟨q, n * 4, none⟩), .int .i64 x] w (StepOk w l a g q t n r p (inR26 r.ar t x p)) := by
  have n1 : (p.pc == 1) = false := by rw [beq_eq_false_iff_ne]; omega
  have n2 : (p.pc == 2) = false := by rw [beq_eq_false_iff_ne]; omega
  have n3 : (p.pc == 3) = false := by rw [beq_eq_false_iff_ne]; omega
  have n4 : (p.pc == 4) = false := by rw [beq_eq_false_iff_ne]; omega
  have n5 : (p.pc == 5) = false := by rw [beq_eq_false_iff_ne]; omega
  have c0 : w.cell? ⟨l, 0, none⟩ = some (.pointer (some ⟨a, 0, none⟩)) := h.lk.cell 0
  have c1 : w.cell? ⟨l, 1, none⟩ = some (.int .i64 t) := h.lk.cell 1
  have a0 := h.sp.cell hp 0 _ rfl
  have a1 := h.sp.cell hp 1 _ rfl
  have a2 := h.sp.cell hp 2 _ rfl
  have a3 := h.sp.cell hp 3 _ rfl
  simp only [Nat.add_zero] at a0
  have H := Lib.hid (And.intro h (And.intro hp hpc))
  clear h hp hpc
  go_enter Tryz.func110, Tryz.ntmps110
  go_wp2
  refine wp_region_still_tail 7 (by kernel_rfl) (by kernel_rfl) ?_
  simp only [List.take_succ_cons, List.take_zero, List.drop_succ_cons, List.drop_zero]
  change wpStill _ _ (World.drew _) _ _ _
  repeat still_step
  still_call (same_calls (stat_any H.out.1.drew x))
  repeat still_step
  refine wpStill_nil ?_
  change wpList _ _ _ _ _ (World.drew w)
  go_wp2_with fail
  refine (store_any H.out.1.drew.ar (stA t x) 1 ho).mono ?_
  rintro en w1 ⟨rfl, h1, t1⟩
  have H1 := Lib.hid (And.intro (H.out.1.drew.ar_ h1 t1) (Turns.trans ((Turns.refl _ _).drew) t1))
  have hsp := H1.out.1.sp
  have d1 := hsp.cell H.out.2.1 1 _ rfl
  have d2 := hsp.cell H.out.2.1 2 _ rfl
  have f1 := hsp.free (n * 4 + 1)
  have f2 := hsp.free (n * 4 + 2)
  clear h1 t1 hsp
  go_wp2
  go_ret
  have e : inR26 r.ar t x p = (storeA r.ar (stA t x) 1, { p with a := 1, b := 1, pc := 10 }) := by unfold inR26; rw [if_neg (by rw [H.out.2.2]; decide), if_neg (by rw [H.out.2.2]; decide), if_neg (by rw [H.out.2.2]; decide), if_neg (by rw [H.out.2.2]; decide), if_neg (by rw [H.out.2.2]; decide)]
  rw [e]
  have g1 := H1.out.1.sp.put H.out.2.1 (j := 1) (u := .int .i64 1) (p' := { p with a := 1 }) (by decide) rfl
  have hn : n < r.S.length := (List.getElem?_eq_some_iff.1 H.out.2.1).1
  have g2 := g1.put (i := n) (p := { p with a := 1 }) (by simp [hn]) (j := 2) (u := .int .i64 1) (p' := { p with a := 1, b := 1 }) (by decide) rfl
  have ht : Turns [q] w1 ((w1.setCell ⟨q, n * 4 + 1, none⟩ (.int .i64 1)).setCell ⟨q, n * 4 + 2, none⟩ (.int .i64 1)) := ((Turns.refl _ _).setCell (.inl (by simp)) _).setCell (.inl (by simp)) _
  refine ⟨rfl, ?_, (H1.out.2.mono (by simp)).trans (ht.mono (by simp))⟩
  have := H1.out.1.spot g2 (by simp) ht
  simpa using this
set_option maxRecDepth 100000 in
set_option maxHeartbeats 1000000 in
theorem in3 {w : World} {l a g q : Nat} {t : Int} {r : Rg} (h : RgIs w l a g q t r) (n : Nat) (p : Sp) (hp : r.S[n]? = some p) (x : Int) (ho : r.ar.ops + 1 ≤ 1000000000000) (hpc : p.pc = 3) :
    Calls Tryz.prog 110 #[.pointer (some ⟨l, 0, none⟩), .pointer (some ⟨q, n * 4, none⟩), .int .i64 x] w (StepOk w l a g q t n r p (inR26 r.ar t x p)) := by
  have y : (p.pc == 3) = true := by rw [hpc]; rfl
  have n1 : (p.pc == 1) = false := by rw [hpc]; rfl
  have n2 : (p.pc == 2) = false := by rw [hpc]; rfl
  have c0 : w.cell? ⟨l, 0, none⟩ = some (.pointer (some ⟨a, 0, none⟩)) := h.lk.cell 0
  have c1 : w.cell? ⟨l, 1, none⟩ = some (.int .i64 t) := h.lk.cell 1
  have a0 := h.sp.cell hp 0 _ rfl
  have a1 := h.sp.cell hp 1 _ rfl
  have a2 := h.sp.cell hp 2 _ rfl
  have a3 := h.sp.cell hp 3 _ rfl
  simp only [Nat.add_zero] at a0
  have H := Lib.hid (And.intro h (And.intro hp hpc))
  clear h hp hpc
  go_enter Tryz.func110, Tryz.ntmps110
  go_wp2
  obtain ⟨v, hv⟩ : ∃ v, v = ldW r.ar.W t := ⟨_, rfl⟩
  have HV := Lib.hid hv
  clear hv
  have HD := Lib.hid H.out.1.drew
  go_region_held3 (fun W => W.cell? ⟨l, 0, none⟩ = some (.pointer (some ⟨a, 0, none⟩)) ∧ W.cell? ⟨l, 1, none⟩ = some (.int .i64 t))
    (first | exact ⟨c0, c1⟩ | exact ⟨k0, k1⟩ | exact hk.out _ _)
    (first
      | (go_at_call 92; go_loud (refine (swap_call HD.out.ar t x v HV.out ho).mono ?_); rintro en w1 ⟨rfl, h1, t1⟩; have H1 := Lib.hid (And.intro (HD.out.ar_ h1 t1) (Turns.trans ((Turns.refl _ _).drew) t1)); have k0 : w1.cell? ⟨l, 0, none⟩ = some (.pointer (some ⟨a, 0, none⟩)) := H1.out.1.lk.cell 0; have k1 : w1.cell? ⟨l, 1, none⟩ = some (.int .i64 t) := H1.out.1.lk.cell 1; have hk : Hid (∀ (o : Nat) (u : Value), (w1.setCell ⟨q, o, none⟩ u).cell? ⟨l, 0, none⟩ = some (.pointer (some ⟨a, 0, none⟩)) ∧ (w1.setCell ⟨q, o, none⟩ u).cell? ⟨l, 1, none⟩ = some (.int .i64 t)) := Lib.hid fun o u => ⟨(H1.out.1.lk.far (p := ⟨q, o, none⟩) H1.out.1.lq u).cell 0, (H1.out.1.lk.far (p := ⟨q, o, none⟩) H1.out.1.lq u).cell 1⟩; have d0 := H1.out.1.sp.cell H.out.2.1 0 _ rfl; simp only [Nat.add_zero] at d0; have d1 := H1.out.1.sp.cell H.out.2.1 1 _ rfl; have d2 := H1.out.1.sp.cell H.out.2.1 2 _ rfl; have f1 := H1.out.1.sp.free (n * 4 + 1); have f2 := H1.out.1.sp.free (n * 4 + 2)))
  all_goals clear h1 t1
  cases hz : (v == 0)
  · have HZ : Hid (¬ v = 0) := Lib.hid (by simpa using hz)
    go_wp2
    go_ret
    have e : inR26 r.ar t x p = (swapA r.ar t x, { p with a := v, pc := 4 }) := by unfold inR26; rw [if_neg (by rw [H.out.2.2]; decide), if_neg (by rw [H.out.2.2]; decide), if_pos H.out.2.2, ← HV.out, if_neg HZ.out]
    rw [e]
    have g1 := H1.out.1.sp.put H.out.2.1 (j := 1) (u := .int .i64 v) (p' := { p with a := v }) (by decide) rfl
    have ht : Turns [q] w1 (w1.setCell ⟨q, n * 4 + 1, none⟩ (.int .i64 v)) := (Turns.refl _ _).setCell (.inl (by simp)) _
    refine ⟨rfl, ?_, (H1.out.2.mono (by simp)).trans (ht.mono (by simp))⟩
    have := H1.out.1.spot g1 (by simp) ht
    simpa using this
  · have HZ : Hid (v = 0) := Lib.hid (by simpa using hz)
    go_wp2
    go_ret
    have e : inR26 r.ar t x p = (swapA r.ar t x, { p with a := v, pc := 6 }) := by unfold inR26; rw [if_neg (by rw [H.out.2.2]; decide), if_neg (by rw [H.out.2.2]; decide), if_pos H.out.2.2, ← HV.out, if_pos HZ.out]
    rw [e]
    have g1 := H1.out.1.sp.put H.out.2.1 (j := 1) (u := .int .i64 v) (p' := { p with a := v }) (by decide) rfl
    have ht : Turns [q] w1 (w1.setCell ⟨q, n * 4 + 1, none⟩ (.int .i64 v)) := (Turns.refl _ _).setCell (.inl (by simp)) _
    refine ⟨rfl, ?_, (H1.out.2.mono (by simp)).trans (ht.mono (by simp))⟩
    have := H1.out.1.spot g1 (by simp) ht
    simpa using this
set_option maxRecDepth 100000 in
set_option maxHeartbeats 1000000 in
theorem in5 {w : World} {l a g q : Nat} {t : Int} {r : Rg} (h : RgIs w l a g q t r) (n : Nat) (p : Sp) (hp : r.S[n]? = some p) (x : Int) (ho : r.ar.ops + 1 ≤ 1000000000000) (hpc : p.pc = 5) :
    Calls Tryz.prog 110 #[.pointer (some ⟨l, 0, none⟩), .pointer (some ⟨q, n * 4, none⟩), .int .i64 x] w (StepOk w l a g q t n r p (inR26 r.ar t x p)) := by
  have y : (p.pc == 5) = true := by rw [hpc]; rfl
  have n1 : (p.pc == 1) = false := by rw [hpc]; rfl
  have n2 : (p.pc == 2) = false := by rw [hpc]; rfl
  have n3 : (p.pc == 3) = false := by rw [hpc]; rfl
  have n4 : (p.pc == 4) = false := by rw [hpc]; rfl
  have c0 : w.cell? ⟨l, 0, none⟩ = some (.pointer (some ⟨a, 0, none⟩)) := h.lk.cell 0
  have c1 : w.cell? ⟨l, 1, none⟩ = some (.int .i64 t) := h.lk.cell 1
  have a0 := h.sp.cell hp 0 _ rfl
  have a1 := h.sp.cell hp 1 _ rfl
  have a2 := h.sp.cell hp 2 _ rfl
  have a3 := h.sp.cell hp 3 _ rfl
  simp only [Nat.add_zero] at a0
  have H := Lib.hid (And.intro h (And.intro hp hpc))
  clear h hp hpc
  go_enter Tryz.func110, Tryz.ntmps110
  go_wp2
  obtain ⟨v, hv⟩ : ∃ v, v = ldW r.ar.W (stA t x) := ⟨_, rfl⟩
  have HV := Lib.hid hv
  clear hv
  have HD := Lib.hid H.out.1.drew
  go_region_held3 (fun W => W.cell? ⟨l, 0, none⟩ = some (.pointer (some ⟨a, 0, none⟩)) ∧ W.cell? ⟨l, 1, none⟩ = some (.int .i64 t))
    (first | exact ⟨c0, c1⟩ | exact ⟨k0, k1⟩ | exact hk.out _ _)
    (first
      | (go_at_call 135; go_loud (refine (stat_any HD.out x).mono ?_); rintro en w1 ⟨rfl, rfl⟩)
      | (go_at_call 94; go_loud (refine (load_call HD.out.ar (stA t x) v HV.out ho).mono ?_); rintro en w1 ⟨rfl, h1, t1⟩; have H1 := Lib.hid (And.intro (HD.out.ar_ h1 t1) (Turns.trans ((Turns.refl _ _).drew) t1)); have k0 : w1.cell? ⟨l, 0, none⟩ = some (.pointer (some ⟨a, 0, none⟩)) := H1.out.1.lk.cell 0; have k1 : w1.cell? ⟨l, 1, none⟩ = some (.int .i64 t) := H1.out.1.lk.cell 1; have hk : Hid (∀ (o : Nat) (u : Value), (w1.setCell ⟨q, o, none⟩ u).cell? ⟨l, 0, none⟩ = some (.pointer (some ⟨a, 0, none⟩)) ∧ (w1.setCell ⟨q, o, none⟩ u).cell? ⟨l, 1, none⟩ = some (.int .i64 t)) := Lib.hid fun o u => ⟨(H1.out.1.lk.far (p := ⟨q, o, none⟩) H1.out.1.lq u).cell 0, (H1.out.1.lk.far (p := ⟨q, o, none⟩) H1.out.1.lq u).cell 1⟩; have d0 := H1.out.1.sp.cell H.out.2.1 0 _ rfl; simp only [Nat.add_zero] at d0; have d1 := H1.out.1.sp.cell H.out.2.1 1 _ rfl; have d2 := H1.out.1.sp.cell H.out.2.1 2 _ rfl; have f1 := H1.out.1.sp.free (n * 4 + 1); have f2 := H1.out.1.sp.free (n * 4 + 2)))
  all_goals clear h1 t1
  by_cases hz : 0 < v
  · have HZ := Lib.hid hz
    go_wp2
    go_ret
    have e : inR26 r.ar t x p = (loadA r.ar (stA t x), { p with a := v, b := 0, pc := 10 }) := by unfold inR26; rw [if_neg (by rw [H.out.2.2]; decide), if_neg (by rw [H.out.2.2]; decide), if_neg (by rw [H.out.2.2]; decide), if_neg (by rw [H.out.2.2]; decide), if_pos H.out.2.2, ← HV.out, if_pos HZ.out]
    rw [e]
    have g1 := H1.out.1.sp.put H.out.2.1 (j := 1) (u := .int .i64 v) (p' := { p with a := v }) (by decide) rfl
    have hn : n < r.S.length := (List.getElem?_eq_some_iff.1 H.out.2.1).1
    have g2 := g1.put (i := n) (p := { p with a := v }) (by simp [hn]) (j := 2) (u := .int .i64 0) (p' := { p with a := v, b := 0 }) (by decide) rfl
    have ht : Turns [q] w1 ((w1.setCell ⟨q, n * 4 + 1, none⟩ (.int .i64 v)).setCell ⟨q, n * 4 + 2, none⟩ (.int .i64 0)) := ((Turns.refl _ _).setCell (.inl (by simp)) _).setCell (.inl (by simp)) _
    refine ⟨rfl, ?_, (H1.out.2.mono (by simp)).trans (ht.mono (by simp))⟩
    have := H1.out.1.spot g2 (by simp) ht
    simpa using this
  · by_cases hz2 : v < 0
    · have HZ := Lib.hid (And.intro hz hz2)
      go_wp2
      go_ret
      have e : inR26 r.ar t x p = (loadA r.ar (stA t x), { p with a := v, pc := 6 }) := by unfold inR26; rw [if_neg (by rw [H.out.2.2]; decide), if_neg (by rw [H.out.2.2]; decide), if_neg (by rw [H.out.2.2]; decide), if_neg (by rw [H.out.2.2]; decide), if_pos H.out.2.2, ← HV.out, if_neg (show ¬ 0 < v by have := HZ.out.1; omega), if_pos HZ.out.2]
      rw [e]
      have g1 := H1.out.1.sp.put H.out.2.1 (j := 1) (u := .int .i64 v) (p' := { p with a := v }) (by decide) rfl
      have ht : Turns [q] w1 (w1.setCell ⟨q, n * 4 + 1, none⟩ (.int .i64 v)) := (Turns.refl _ _).setCell (.inl (by simp)) _
      refine ⟨rfl, ?_, (H1.out.2.mono (by simp)).trans (ht.mono (by simp))⟩
      have := H1.out.1.spot g1 (by simp) ht
      simpa using this
    · have HZ := Lib.hid (And.intro hz hz2)
      go_wp2
      go_ret
      have e : inR26 r.ar t x p = (loadA r.ar (stA t x), { p with a := v, pc := 5 }) := by unfold inR26; rw [if_neg (by rw [H.out.2.2]; decide), if_neg (by rw [H.out.2.2]; decide), if_neg (by rw [H.out.2.2]; decide), if_neg (by rw [H.out.2.2]; decide), if_pos H.out.2.2, ← HV.out, if_neg (show ¬ 0 < v by have := HZ.out.1; omega), if_neg (show ¬ v < 0 by have := HZ.out.2; omega)]
      rw [e]
      have g1 := H1.out.1.sp.put H.out.2.1 (j := 1) (u := .int .i64 v) (p' := { p with a := v }) (by decide) rfl
      have ht : Turns [q] w1 (w1.setCell ⟨q, n * 4 + 1, none⟩ (.int .i64 v)) := (Turns.refl _ _).setCell (.inl (by simp)) _
      refine ⟨rfl, ?_, (H1.out.2.mono (by simp)).trans (ht.mono (by simp))⟩
      have := H1.out.1.spot g1 (by simp) ht
      simpa using this
set_option maxRecDepth 100000 in
set_option maxHeartbeats 1000000 in
theorem out12 {w : World} {l a g q : Nat} {t : Int} {r : Rg} (h : RgIs w l a g q t r) (n : Nat) (p : Sp) (hp : r.S[n]? = some p) (x : Int) (ho : r.ar.ops + 1 ≤ 1000000000000) (hpc : p.pc = 12) :
    Calls Tryz.prog 111 #[.pointer (some ⟨l, 0, none⟩), .pointer (some ⟨q, n * 4, none⟩), .int .i64 x] w (StepOk w l a g q t n r p (outR26 r.ar t x p)) := by
  have y : (p.pc == 12) = true := by rw [hpc]; rfl
  have c0 : w.cell? ⟨l, 0, none⟩ = some (.pointer (some ⟨a, 0, none⟩)) := h.lk.cell 0
  have c1 : w.cell? ⟨l, 1, none⟩ = some (.int .i64 t) := h.lk.cell 1
  have a0 := h.sp.cell hp 0 _ rfl
  have a1 := h.sp.cell hp 1 _ rfl
  have a2 := h.sp.cell hp 2 _ rfl
  have a3 := h.sp.cell hp 3 _ rfl
  simp only [Nat.add_zero] at a0
  have H := Lib.hid (And.intro h (And.intro hp hpc))
  clear h hp hpc
  go_enter Tryz.func111, Tryz.ntmps111
  go_wp2
  cases hb : casB r.ar t x
  · have HB := Lib.hid hb
    clear hb
    refine wp_region_still_tail 9 (by kernel_rfl) (by kernel_rfl) ?_
    simp only [List.take_succ_cons, List.take_zero, List.drop_succ_cons, List.drop_zero]
    change wpStill _ _ (World.drew _) _ _ _
    repeat still_step
    refine wpStill_nil ?_
    change wpList _ _ _ _ _ (World.drew w)
    go_wp2_with fail
    refine (cas_call H.out.1.drew.ar t x 0 false HB.out ho).mono ?_
    rintro en w1 ⟨rfl, h1, t1⟩
    have H1 := Lib.hid (And.intro (H.out.1.drew.ar_ h1 t1) (Turns.trans ((Turns.refl _ _).drew) t1))
    clear h1 t1
    go_wp2
    go_ret
    have e : outR26 r.ar t x p = (casA r.ar t x 0, { p with pc := 13 }) := by unfold outR26; rw [if_pos H.out.2.2, HB.out]; rfl
    rw [e]
    have e2 : ({ ({ p with pc := 13 } : Sp) with pc := p.pc } : Sp) = p := rfl
    refine ⟨rfl, ?_, H1.out.2.mono (by simp)⟩
    rw [e2, set_self H.out.2.1]
    exact H1.out.1
  · have HB := Lib.hid hb
    clear hb
    refine wp_region_still_tail 9 (by kernel_rfl) (by kernel_rfl) ?_
    simp only [List.take_succ_cons, List.take_zero, List.drop_succ_cons, List.drop_zero]
    change wpStill _ _ (World.drew _) _ _ _
    repeat still_step
    refine wpStill_nil ?_
    change wpList _ _ _ _ _ (World.drew w)
    go_wp2_with fail
    refine (cas_call H.out.1.drew.ar t x 0 true HB.out ho).mono ?_
    rintro en w1 ⟨rfl, h1, t1⟩
    have H1 := Lib.hid (And.intro (H.out.1.drew.ar_ h1 t1) (Turns.trans ((Turns.refl _ _).drew) t1))
    clear h1 t1
    go_wp2
    go_ret
    have e : outR26 r.ar t x p = (casA r.ar t x 0, { p with pc := 0 }) := by unfold outR26; rw [if_pos H.out.2.2, HB.out]; rfl
    rw [e]
    have e2 : ({ ({ p with pc := 0 } : Sp) with pc := p.pc } : Sp) = p := rfl
    refine ⟨rfl, ?_, H1.out.2.mono (by simp)⟩
    rw [e2, set_self H.out.2.1]
    exact H1.out.1
set_option maxRecDepth 100000 in
set_option maxHeartbeats 1000000 in
theorem out14 {w : World} {l a g q : Nat} {t : Int} {r : Rg} (h : RgIs w l a g q t r) (n : Nat) (p : Sp) (hp : r.S[n]? = some p) (x : Int) (ho : r.ar.ops + 1 ≤ 1000000000000) (hpc : p.pc = 14) :
    Calls Tryz.prog 111 #[.pointer (some ⟨l, 0, none⟩), .pointer (some ⟨q, n * 4, none⟩), .int .i64 x] w (StepOk w l a g q t n r p (outR26 r.ar t x p)) := by
  have y : (p.pc == 14) = true := by rw [hpc]; rfl
  have n12 : (p.pc == 12) = false := by rw [hpc]; rfl
  have c0 : w.cell? ⟨l, 0, none⟩ = some (.pointer (some ⟨a, 0, none⟩)) := h.lk.cell 0
  have c1 : w.cell? ⟨l, 1, none⟩ = some (.int .i64 t) := h.lk.cell 1
  have a0 := h.sp.cell hp 0 _ rfl
  have a1 := h.sp.cell hp 1 _ rfl
  have a2 := h.sp.cell hp 2 _ rfl
  have a3 := h.sp.cell hp 3 _ rfl
  simp only [Nat.add_zero] at a0
  have H := Lib.hid (And.intro h (And.intro hp hpc))
  clear h hp hpc
  go_enter Tryz.func111, Tryz.ntmps111
  go_wp2
  refine wp_region_still_tail 14 (by kernel_rfl) (by kernel_rfl) ?_
  simp only [List.take_succ_cons, List.take_zero, List.drop_succ_cons, List.drop_zero]
  change wpStill _ _ (World.drew _) _ _ _
  repeat still_step
  still_call (same_calls (stat_any H.out.1.drew p.a))
  repeat still_step
  refine wpStill_nil ?_
  change wpList _ _ _ _ _ (World.drew w)
  go_wp2_with fail
  refine (store_any H.out.1.drew.ar (stA t p.a) p.c ho).mono ?_
  rintro en w1 ⟨rfl, h1, t1⟩
  have H1 := Lib.hid (And.intro (H.out.1.drew.ar_ h1 t1) (Turns.trans ((Turns.refl _ _).drew) t1))
  clear h1 t1
  go_wp2
  go_ret
  have e : outR26 r.ar t x p = (storeA r.ar (stA t p.a) p.c, { p with pc := 0 }) := by unfold outR26; rw [if_neg (by rw [H.out.2.2]; decide), if_pos H.out.2.2]
  rw [e]
  have e2 : ({ ({ p with pc := 0 } : Sp) with pc := p.pc } : Sp) = p := rfl
  refine ⟨rfl, ?_, H1.out.2.mono (by simp)⟩
  rw [e2, set_self H.out.2.1]
  exact H1.out.1
set_option maxRecDepth 100000 in
set_option maxHeartbeats 1000000 in
theorem out16 {w : World} {l a g q : Nat} {t : Int} {r : Rg} (h : RgIs w l a g q t r) (n : Nat) (p : Sp) (hp : r.S[n]? = some p) (x : Int) (ho : r.ar.ops + 1 ≤ 1000000000000) (hpc : p.pc = 16) :
    Calls Tryz.prog 111 #[.pointer (some ⟨l, 0, none⟩), .pointer (some ⟨q, n * 4, none⟩), .int .i64 x] w (StepOk w l a g q t n r p (outR26 r.ar t x p)) := by
  have y : (p.pc == 16) = true := by rw [hpc]; rfl
  have n12 : (p.pc == 12) = false := by rw [hpc]; rfl
  have n14 : (p.pc == 14) = false := by rw [hpc]; rfl
  have n15 : (p.pc == 15) = false := by rw [hpc]; rfl
  have c0 : w.cell? ⟨l, 0, none⟩ = some (.pointer (some ⟨a, 0, none⟩)) := h.lk.cell 0
  have c1 : w.cell? ⟨l, 1, none⟩ = some (.int .i64 t) := h.lk.cell 1
  have a0 := h.sp.cell hp 0 _ rfl
  have a1 := h.sp.cell hp 1 _ rfl
  have a2 := h.sp.cell hp 2 _ rfl
  have a3 := h.sp.cell hp 3 _ rfl
  simp only [Nat.add_zero] at a0
  have H := Lib.hid (And.intro h (And.intro hp hpc))
  clear h hp hpc
  go_enter Tryz.func111, Tryz.ntmps111
  go_wp2
  refine wp_region_still_tail 14 (by kernel_rfl) (by kernel_rfl) ?_
  simp only [List.take_succ_cons, List.take_zero, List.drop_succ_cons, List.drop_zero]
  change wpStill _ _ (World.drew _) _ _ _
  repeat still_step
  still_call (same_calls (stat_any H.out.1.drew p.b))
  repeat still_step
  refine wpStill_nil ?_
  change wpList _ _ _ _ _ (World.drew w)
  go_wp2_with fail
  refine (store_any H.out.1.drew.ar (stA t p.b) p.c ho).mono ?_
  rintro en w1 ⟨rfl, h1, t1⟩
  have H1 := Lib.hid (And.intro (H.out.1.drew.ar_ h1 t1) (Turns.trans ((Turns.refl _ _).drew) t1))
  clear h1 t1
  go_wp2
  go_ret
  have e : outR26 r.ar t x p = (storeA r.ar (stA t p.b) p.c, { p with pc := 0 }) := by unfold outR26; rw [if_neg (by rw [H.out.2.2]; decide), if_neg (by rw [H.out.2.2]; decide), if_neg (by rw [H.out.2.2]; decide), if_pos H.out.2.2]
  rw [e]
  have e2 : ({ ({ p with pc := 0 } : Sp) with pc := p.pc } : Sp) = p := rfl
  refine ⟨rfl, ?_, H1.out.2.mono (by simp)⟩
  rw [e2, set_self H.out.2.1]
  exact H1.out.1
set_option maxRecDepth 100000 in
set_option maxHeartbeats 1000000 in
theorem out15 {w : World} {l a g q : Nat} {t : Int} {r : Rg} (h : RgIs w l a g q t r) (n : Nat) (p : Sp) (hp : r.S[n]? = some p) (x : Int) (ho : r.ar.ops + 1 ≤ 1000000000000) (hpc : p.pc = 15) :
    Calls Tryz.prog 111 #[.pointer (some ⟨l, 0, none⟩), .pointer (some ⟨q, n * 4, none⟩), .int .i64 x] w (StepOk w l a g q t n r p (outR26 r.ar t x p)) := by
  have y : (p.pc == 15) = true := by rw [hpc]; rfl
  have n12 : (p.pc == 12) = false := by rw [hpc]; rfl
  have n14 : (p.pc == 14) = false := by rw [hpc]; rfl
  have c0 : w.cell? ⟨l, 0, none⟩ = some (.pointer (some ⟨a, 0, none⟩)) := h.lk.cell 0
  have c1 : w.cell? ⟨l, 1, none⟩ = some (.int .i64 t) := h.lk.cell 1
  have a0 := h.sp.cell hp 0 _ rfl
  have a1 := h.sp.cell hp 1 _ rfl
  have a2 := h.sp.cell hp 2 _ rfl
  have a3 := h.sp.cell hp 3 _ rfl
  simp only [Nat.add_zero] at a0
  have H := Lib.hid (And.intro h (And.intro hp hpc))
  clear h hp hpc
  go_enter Tryz.func111, Tryz.ntmps111
  go_wp2
  obtain ⟨v, hv⟩ : ∃ v, v = ldW r.ar.W (nxA t x) := ⟨_, rfl⟩
  have HV := Lib.hid hv
  clear hv
  have HD := Lib.hid H.out.1.drew
  go_region_held3 (fun W => W.cell? ⟨l, 0, none⟩ = some (.pointer (some ⟨a, 0, none⟩)) ∧ W.cell? ⟨l, 1, none⟩ = some (.int .i64 t))
    (first | exact ⟨c0, c1⟩ | exact ⟨k0, k1⟩ | exact hk.out _ _)
    (first
      | (go_at_call 134; go_loud (refine (next_any HD.out x).mono ?_); rintro en w1 ⟨rfl, rfl⟩)
      | (go_at_call 94; go_loud (refine (load_call HD.out.ar (nxA t x) v HV.out ho).mono ?_); rintro en w1 ⟨rfl, h1, t1⟩; have H1 := Lib.hid (And.intro (HD.out.ar_ h1 t1) (Turns.trans ((Turns.refl _ _).drew) t1)); have k0 : w1.cell? ⟨l, 0, none⟩ = some (.pointer (some ⟨a, 0, none⟩)) := H1.out.1.lk.cell 0; have k1 : w1.cell? ⟨l, 1, none⟩ = some (.int .i64 t) := H1.out.1.lk.cell 1; have hk : Hid (∀ (o : Nat) (u : Value), (w1.setCell ⟨q, o, none⟩ u).cell? ⟨l, 0, none⟩ = some (.pointer (some ⟨a, 0, none⟩)) ∧ (w1.setCell ⟨q, o, none⟩ u).cell? ⟨l, 1, none⟩ = some (.int .i64 t)) := Lib.hid fun o u => ⟨(H1.out.1.lk.far (p := ⟨q, o, none⟩) H1.out.1.lq u).cell 0, (H1.out.1.lk.far (p := ⟨q, o, none⟩) H1.out.1.lq u).cell 1⟩; have d0 := H1.out.1.sp.cell H.out.2.1 0 _ rfl; simp only [Nat.add_zero] at d0; have d1 := H1.out.1.sp.cell H.out.2.1 1 _ rfl; have d2 := H1.out.1.sp.cell H.out.2.1 2 _ rfl; have f1 := H1.out.1.sp.free (n * 4 + 1); have f2 := H1.out.1.sp.free (n * 4 + 2)))
  all_goals clear h1 t1
  cases hz : (v == 0)
  · have HZ : Hid (¬ v = 0) := Lib.hid (by simpa using hz)
    go_wp2
    go_ret
    have e : outR26 r.ar t x p = (loadA r.ar (nxA t x), { p with b := v, pc := 16 }) := by unfold outR26; rw [if_neg (by rw [H.out.2.2]; decide), if_neg (by rw [H.out.2.2]; decide), if_pos H.out.2.2, ← HV.out, if_neg HZ.out]
    rw [e]
    have g1 := H1.out.1.sp.put H.out.2.1 (j := 2) (u := .int .i64 v) (p' := { p with b := v }) (by decide) rfl
    have ht : Turns [q] w1 (w1.setCell ⟨q, n * 4 + 2, none⟩ (.int .i64 v)) := (Turns.refl _ _).setCell (.inl (by simp)) _
    refine ⟨rfl, ?_, (H1.out.2.mono (by simp)).trans (ht.mono (by simp))⟩
    have := H1.out.1.spot g1 (by simp) ht
    simpa using this
  · have HZ : Hid (v = 0) := Lib.hid (by simpa using hz)
    go_wp2
    go_ret
    have e : outR26 r.ar t x p = (loadA r.ar (nxA t x), { p with b := v, pc := 10 }) := by unfold outR26; rw [if_neg (by rw [H.out.2.2]; decide), if_neg (by rw [H.out.2.2]; decide), if_pos H.out.2.2, ← HV.out, if_pos HZ.out]
    rw [e]
    have g1 := H1.out.1.sp.put H.out.2.1 (j := 2) (u := .int .i64 v) (p' := { p with b := v }) (by decide) rfl
    have ht : Turns [q] w1 (w1.setCell ⟨q, n * 4 + 2, none⟩ (.int .i64 v)) := (Turns.refl _ _).setCell (.inl (by simp)) _
    refine ⟨rfl, ?_, (H1.out.2.mono (by simp)).trans (ht.mono (by simp))⟩
    have := H1.out.1.spot g1 (by simp) ht
    simpa using this
set_option maxRecDepth 100000 in
set_option maxHeartbeats 1000000 in
theorem out11 {w : World} {l a g q : Nat} {t : Int} {r : Rg} (h : RgIs w l a g q t r) (n : Nat) (p : Sp) (hp : r.S[n]? = some p) (x : Int) (ho : r.ar.ops + 1 ≤ 1000000000000) (hpc : p.pc = 11) :
    Calls Tryz.prog 111 #[.pointer (some ⟨l, 0, none⟩), .pointer (some ⟨q, n * 4, none⟩), .int .i64 x] w (StepOk w l a g q t n r p (outR26 r.ar t x p)) := by
  have y : (p.pc == 11) = true := by rw [hpc]; rfl
  have n12 : (p.pc == 12) = false := by rw [hpc]; rfl
  have n14 : (p.pc == 14) = false := by rw [hpc]; rfl
  have n15 : (p.pc == 15) = false := by rw [hpc]; rfl
  have n16 : (p.pc == 16) = false := by rw [hpc]; rfl
  have c0 : w.cell? ⟨l, 0, none⟩ = some (.pointer (some ⟨a, 0, none⟩)) := h.lk.cell 0
  have c1 : w.cell? ⟨l, 1, none⟩ = some (.int .i64 t) := h.lk.cell 1
  have a0 := h.sp.cell hp 0 _ rfl
  have a1 := h.sp.cell hp 1 _ rfl
  have a2 := h.sp.cell hp 2 _ rfl
  have a3 := h.sp.cell hp 3 _ rfl
  simp only [Nat.add_zero] at a0
  have H := Lib.hid (And.intro h (And.intro hp hpc))
  clear h hp hpc
  go_enter Tryz.func111, Tryz.ntmps111
  go_wp2
  obtain ⟨v, hv⟩ : ∃ v, v = ldW r.ar.W (nxA t x) := ⟨_, rfl⟩
  have HV := Lib.hid hv
  clear hv
  have HD := Lib.hid H.out.1.drew
  go_region_held3 (fun W => W.cell? ⟨l, 0, none⟩ = some (.pointer (some ⟨a, 0, none⟩)) ∧ W.cell? ⟨l, 1, none⟩ = some (.int .i64 t))
    (first | exact ⟨c0, c1⟩ | exact ⟨k0, k1⟩ | exact hk.out _ _)
    (first
      | (go_at_call 134; go_loud (refine (next_any HD.out x).mono ?_); rintro en w1 ⟨rfl, rfl⟩)
      | (go_at_call 94; go_loud (refine (load_call HD.out.ar (nxA t x) v HV.out ho).mono ?_); rintro en w1 ⟨rfl, h1, t1⟩; have H1 := Lib.hid (And.intro (HD.out.ar_ h1 t1) (Turns.trans ((Turns.refl _ _).drew) t1)); have k0 : w1.cell? ⟨l, 0, none⟩ = some (.pointer (some ⟨a, 0, none⟩)) := H1.out.1.lk.cell 0; have k1 : w1.cell? ⟨l, 1, none⟩ = some (.int .i64 t) := H1.out.1.lk.cell 1; have hk : Hid (∀ (o : Nat) (u : Value), (w1.setCell ⟨q, o, none⟩ u).cell? ⟨l, 0, none⟩ = some (.pointer (some ⟨a, 0, none⟩)) ∧ (w1.setCell ⟨q, o, none⟩ u).cell? ⟨l, 1, none⟩ = some (.int .i64 t)) := Lib.hid fun o u => ⟨(H1.out.1.lk.far (p := ⟨q, o, none⟩) H1.out.1.lq u).cell 0, (H1.out.1.lk.far (p := ⟨q, o, none⟩) H1.out.1.lq u).cell 1⟩; have d0 := H1.out.1.sp.cell H.out.2.1 0 _ rfl; simp only [Nat.add_zero] at d0; have d1 := H1.out.1.sp.cell H.out.2.1 1 _ rfl; have d2 := H1.out.1.sp.cell H.out.2.1 2 _ rfl; have f1 := H1.out.1.sp.free (n * 4 + 1); have f2 := H1.out.1.sp.free (n * 4 + 2)))
  all_goals clear h1 t1
  cases hz : (v != 0)
  · have HZ : Hid (¬ v ≠ 0) := Lib.hid (by simpa using hz)
    go_wp2
    go_ret
    have e : outR26 r.ar t x p = (loadA r.ar (nxA t x), { p with a := v, pc := 12 }) := by unfold outR26; rw [if_neg (by rw [H.out.2.2]; decide), if_neg (by rw [H.out.2.2]; decide), if_neg (by rw [H.out.2.2]; decide), if_neg (by rw [H.out.2.2]; decide), ← HV.out, if_neg HZ.out, if_pos H.out.2.2]
    rw [e]
    have g1 := H1.out.1.sp.put H.out.2.1 (j := 1) (u := .int .i64 v) (p' := { p with a := v }) (by decide) rfl
    have ht : Turns [q] w1 (w1.setCell ⟨q, n * 4 + 1, none⟩ (.int .i64 v)) := (Turns.refl _ _).setCell (.inl (by simp)) _
    refine ⟨rfl, ?_, (H1.out.2.mono (by simp)).trans (ht.mono (by simp))⟩
    have := H1.out.1.spot g1 (by simp) ht
    simpa using this
  · have HZ : Hid (v ≠ 0) := Lib.hid (by simpa using hz)
    go_wp2
    go_ret
    have e : outR26 r.ar t x p = (loadA r.ar (nxA t x), { p with a := v, pc := 14 }) := by unfold outR26; rw [if_neg (by rw [H.out.2.2]; decide), if_neg (by rw [H.out.2.2]; decide), if_neg (by rw [H.out.2.2]; decide), if_neg (by rw [H.out.2.2]; decide), ← HV.out, if_pos HZ.out]
    rw [e]
    have g1 := H1.out.1.sp.put H.out.2.1 (j := 1) (u := .int .i64 v) (p' := { p with a := v }) (by decide) rfl
    have ht : Turns [q] w1 (w1.setCell ⟨q, n * 4 + 1, none⟩ (.int .i64 v)) := (Turns.refl _ _).setCell (.inl (by simp)) _
    refine ⟨rfl, ?_, (H1.out.2.mono (by simp)).trans (ht.mono (by simp))⟩
    have := H1.out.1.spot g1 (by simp) ht
    simpa using this
set_option maxRecDepth 100000 in
set_option maxHeartbeats 1000000 in
theorem out13 {w : World} {l a g q : Nat} {t : Int} {r : Rg} (h : RgIs w l a g q t r) (n : Nat) (p : Sp) (hp : r.S[n]? = some p) (x : Int) (ho : r.ar.ops + 1 ≤ 1000000000000) (hpc : p.pc = 13) :
    Calls Tryz.prog 111 #[.pointer (some ⟨l, 0, none⟩), .pointer (some ⟨q, n * 4, none⟩), .int .i64 x] w (StepOk w l a g q t n r p (outR26 r.ar t x p)) := by
  have n12 : (p.pc == 12) = false := by rw [beq_eq_false_iff_ne]; omega
  have n14 : (p.pc == 14) = false := by rw [beq_eq_false_iff_ne]; omega
  have n15 : (p.pc == 15) = false := by rw [beq_eq_false_iff_ne]; omega
  have n16 : (p.pc == 16) = false := by rw [beq_eq_false_iff_ne]; omega
  have n11 : (p.pc == 11) = false := by rw [beq_eq_false_iff_ne]; omega
  have c0 : w.cell? ⟨l, 0, none⟩ = some (.pointer (some ⟨a, 0, none⟩)) := h.lk.cell 0
  have c1 : w.cell? ⟨l, 1, none⟩ = some (.int .i64 t) := h.lk.cell 1
  have a0 := h.sp.cell hp 0 _ rfl
  have a1 := h.sp.cell hp 1 _ rfl
  have a2 := h.sp.cell hp 2 _ rfl
  have a3 := h.sp.cell hp 3 _ rfl
  simp only [Nat.add_zero] at a0
  have H := Lib.hid (And.intro h (And.intro hp hpc))
  clear h hp hpc
  go_enter Tryz.func111, Tryz.ntmps111
  go_wp2
  obtain ⟨v, hv⟩ : ∃ v, v = ldW r.ar.W (nxA t x) := ⟨_, rfl⟩
  have HV := Lib.hid hv
  clear hv
  have HD := Lib.hid H.out.1.drew
  go_region_held3 (fun W => W.cell? ⟨l, 0, none⟩ = some (.pointer (some ⟨a, 0, none⟩)) ∧ W.cell? ⟨l, 1, none⟩ = some (.int .i64 t))
    (first | exact ⟨c0, c1⟩ | exact ⟨k0, k1⟩ | exact hk.out _ _)
    (first
      | (go_at_call 134; go_loud (refine (next_any HD.out x).mono ?_); rintro en w1 ⟨rfl, rfl⟩)
      | (go_at_call 94; go_loud (refine (load_call HD.out.ar (nxA t x) v HV.out ho).mono ?_); rintro en w1 ⟨rfl, h1, t1⟩; have H1 := Lib.hid (And.intro (HD.out.ar_ h1 t1) (Turns.trans ((Turns.refl _ _).drew) t1)); have k0 : w1.cell? ⟨l, 0, none⟩ = some (.pointer (some ⟨a, 0, none⟩)) := H1.out.1.lk.cell 0; have k1 : w1.cell? ⟨l, 1, none⟩ = some (.int .i64 t) := H1.out.1.lk.cell 1; have hk : Hid (∀ (o : Nat) (u : Value), (w1.setCell ⟨q, o, none⟩ u).cell? ⟨l, 0, none⟩ = some (.pointer (some ⟨a, 0, none⟩)) ∧ (w1.setCell ⟨q, o, none⟩ u).cell? ⟨l, 1, none⟩ = some (.int .i64 t)) := Lib.hid fun o u => ⟨(H1.out.1.lk.far (p := ⟨q, o, none⟩) H1.out.1.lq u).cell 0, (H1.out.1.lk.far (p := ⟨q, o, none⟩) H1.out.1.lq u).cell 1⟩; have d0 := H1.out.1.sp.cell H.out.2.1 0 _ rfl; simp only [Nat.add_zero] at d0; have d1 := H1.out.1.sp.cell H.out.2.1 1 _ rfl; have d2 := H1.out.1.sp.cell H.out.2.1 2 _ rfl; have f1 := H1.out.1.sp.free (n * 4 + 1); have f2 := H1.out.1.sp.free (n * 4 + 2)))
  all_goals clear h1 t1
  cases hz : (v != 0)
  · have HZ : Hid (¬ v ≠ 0) := Lib.hid (by simpa using hz)
    go_wp2
    go_ret
    have e : outR26 r.ar t x p = (loadA r.ar (nxA t x), { p with a := v, pc := 13 }) := by unfold outR26; rw [if_neg (by rw [H.out.2.2]; decide), if_neg (by rw [H.out.2.2]; decide), if_neg (by rw [H.out.2.2]; decide), if_neg (by rw [H.out.2.2]; decide), ← HV.out, if_neg HZ.out, if_neg (by rw [H.out.2.2]; decide)]
    rw [e]
    have g1 := H1.out.1.sp.put H.out.2.1 (j := 1) (u := .int .i64 v) (p' := { p with a := v }) (by decide) rfl
    have ht : Turns [q] w1 (w1.setCell ⟨q, n * 4 + 1, none⟩ (.int .i64 v)) := (Turns.refl _ _).setCell (.inl (by simp)) _
    refine ⟨rfl, ?_, (H1.out.2.mono (by simp)).trans (ht.mono (by simp))⟩
    have := H1.out.1.spot g1 (by simp) ht
    simpa using this
  · have HZ : Hid (v ≠ 0) := Lib.hid (by simpa using hz)
    go_wp2
    go_ret
    have e : outR26 r.ar t x p = (loadA r.ar (nxA t x), { p with a := v, pc := 14 }) := by unfold outR26; rw [if_neg (by rw [H.out.2.2]; decide), if_neg (by rw [H.out.2.2]; decide), if_neg (by rw [H.out.2.2]; decide), if_neg (by rw [H.out.2.2]; decide), ← HV.out, if_pos HZ.out]
    rw [e]
    have g1 := H1.out.1.sp.put H.out.2.1 (j := 1) (u := .int .i64 v) (p' := { p with a := v }) (by decide) rfl
    have ht : Turns [q] w1 (w1.setCell ⟨q, n * 4 + 1, none⟩ (.int .i64 v)) := (Turns.refl _ _).setCell (.inl (by simp)) _
    refine ⟨rfl, ?_, (H1.out.2.mono (by simp)).trans (ht.mono (by simp))⟩
    have := H1.out.1.spot g1 (by simp) ht
    simpa using this
end Go.Proofs.YtkdaiomjbkpedaaGreat
end
section
/- Layers 1 and 26: Step; a new arena, taking words, a new rung. -/
namespace Go.Proofs.YtkdaiomjbkpedaaGreat
open Go.RowKit

def pcOk (p : Sp) : Prop := (0 ≤ p.pc ∧ p.pc ≤ 6) ∨ (10 ≤ p.pc ∧ p.pc ≤ 16)
theorem in_any {w : World} {l a g q : Nat} {t : Int} {r : Rg} (h : RgIs w l a g q t r) (n : Nat) (p : Sp) (hp : r.S[n]? = some p) (x : Int) (ho : r.ar.ops + 1 ≤ 1000000000000) (h1 : 1 ≤ p.pc) (h6 : p.pc ≤ 6) :
    Calls Tryz.prog 110 #[.pointer (some ⟨l, 0, none⟩), .pointer (some ⟨q, n * 4, none⟩), .int .i64 x] w (StepOk w l a g q t n r p (inR26 r.ar t x p)) := by
  rcases (show p.pc = 1 ∨ p.pc = 2 ∨ p.pc = 3 ∨ p.pc = 4 ∨ p.pc = 5 ∨ p.pc = 6 by omega) with e | e | e | e | e | e
  · exact in1 h n p hp x ho e
  · exact in2 h n p hp x ho e
  · exact in3 h n p hp x ho e
  · exact in4 h n p hp x ho e
  · exact in5 h n p hp x ho e
  · exact in6 h n p hp x ho e
theorem out_any {w : World} {l a g q : Nat} {t : Int} {r : Rg} (h : RgIs w l a g q t r) (n : Nat) (p : Sp) (hp : r.S[n]? = some p) (x : Int) (ho : r.ar.ops + 1 ≤ 1000000000000) (h1 : 11 ≤ p.pc) (h6 : p.pc ≤ 16) :
    Calls Tryz.prog 111 #[.pointer (some ⟨l, 0, none⟩), .pointer (some ⟨q, n * 4, none⟩), .int .i64 x] w (StepOk w l a g q t n r p (outR26 r.ar t x p)) := by
  rcases (show p.pc = 11 ∨ p.pc = 12 ∨ p.pc = 13 ∨ p.pc = 14 ∨ p.pc = 15 ∨ p.pc = 16 by omega) with e | e | e | e | e | e
  · exact out11 h n p hp x ho e
  · exact out12 h n p hp x ho e
  · exact out13 h n p hp x ho e
  · exact out14 h n p hp x ho e
  · exact out15 h n p hp x ho e
  · exact out16 h n p hp x ho e
def RgOk (w : World) (l a g q : Nat) (t : Int) (x : Rg × Bool) (e : Ending) (w' : World) : Prop := e = .returned (.bool x.2) ∧ RgIs w' l a g q t x.1 ∧ Turns [a, g, q] w w'
theorem BegOk.rg {w : World} {l a g q : Nat} {t : Int} {x : Rg × Bool} {e : Ending} {w' : World} (h : BegOk w l a g q t x e w') : RgOk w l a g q t x e w' := ⟨h.1, h.2.1, h.2.2.mono (by simp)⟩
set_option maxRecDepth 100000 in
set_option maxHeartbeats 1000000 in
theorem step_any {w : World} {l a g q : Nat} {t : Int} {r : Rg} (h : RgIs w l a g q t r) (i : Int) (ho : r.ar.ops + 1 ≤ 1000000000000) (hpc : ∀ p ∈ r.S, pcOk p) :
    Calls Tryz.prog 62 #[.pointer (some ⟨l, 0, none⟩), .int .i64 i] w (RgOk w l a g q t (stepRg r t i)) := by
  have hfield := field_pc
  have H := Lib.hid h
  have hlen := h.len
  obtain ⟨p, hp⟩ : ∃ p, p = getS r.S i := ⟨_, rfl⟩
  have HP := Lib.hid hp
  by_cases hc : okI r.S i ∧ p.pc ≠ 0 ∧ p.pc ≠ 10
  · obtain ⟨hi, hz, ht⟩ := hc
    have hget := getS_in hi
    rw [← hp] at hget
    have hok := hpc p (List.mem_of_getElem? hget)
    obtain ⟨h0, h9⟩ := id hi
    obtain ⟨n, rfl⟩ := Int.eq_ofNat_of_zero_le h0
    simp only [Int.toNat_natCast] at hget
    have t0 : (p.pc == 0) = false := by simpa using hz
    have t10 : (p.pc == 10) = false := by simpa using ht
    have hn : n < r.S.length := by omega
    have hn2 : (n : Int) < r.S.length := by omega
    have hx : (n : Int) + 1 ≤ 33 := by omega
    have HS : Hid (stepRg r t n = (⟨(stepP r.ar t (n + 1) p).1, r.S.set n (stepP r.ar t (n + 1) p).2⟩, decide ((stepP r.ar t (n + 1) p).2.pc = 0 ∨ (stepP r.ar t (n + 1) p).2.pc = 10))) := Lib.hid (by
      unfold stepRg
      rw [← HP.out, if_pos ⟨hi, hz, ht⟩]; rfl)
    have HG := Lib.hid (And.intro hget hi)
    have HB : Hid ((1 ≤ p.pc ∧ p.pc ≤ 6) ∨ (11 ≤ p.pc ∧ p.pc ≤ 16)) := Lib.hid (by unfold pcOk at hok; omega)
    clear h hp hz ht hget h0 h9 hi hpc hok
    go_enter Tryz.func62, Tryz.ntmps62
    go_wp2_with fail
    refine (spot_any H.out n).mono ?_
    rintro en w1 ⟨rfl, b1⟩
    rw [← HP.out]
    unfold spotV
    have h1 := H.out.below b1
    have H1 := Lib.hid (And.intro h1 b1)
    have c2 : w1.cell? ⟨l, 2, none⟩ = some (.slice (some ⟨q, 0, none⟩) r.S.length r.S.length) := h1.lk.cell 2
    clear h1 b1
    by_cases h10 : p.pc < 10
    all_goals
      go_wp2_with fail
      first
        | refine (in_any H1.out.1 n p HG.out.1 _ ho (by have := HB.out; omega) (by have := HB.out; omega)).mono ?_
        | refine (out_any H1.out.1 n p HG.out.1 _ ho (by have := HB.out; omega) (by have := HB.out; omega)).mono ?_
      rintro en w2 ⟨rfl, h2, t2⟩
      obtain ⟨y, hy⟩ : ∃ y, y = stepP r.ar t (n + 1) p := ⟨_, rfl⟩
      have hyy := hy
      unfold stepP at hyy
      first
        | rw [if_pos h10] at hyy
        | rw [if_neg (by omega)] at hyy
      rw [← hyy] at h2 ⊢
      rw [← hy] at HS
      clear hy hyy
      have hg2 : (r.S.set n { y.2 with pc := p.pc })[n]? = some { y.2 with pc := p.pc } := by simp [hn]
      have d0 := h2.sp.cell hg2 0 _ rfl
      simp only [Nat.add_zero] at d0
      have f0 := h2.sp.free (n * 4)
      have hq := h2.sp.lt
      have h3 := h2.sp.put hg2 (j := 0) (u := .int .i64 y.2.pc) (p' := y.2) (by decide) rfl
      simp only [Nat.add_zero, List.set_set] at h3
      have ht3 : Turns [q] w2 (w2.setCell ⟨q, n * 4, none⟩ (.int .i64 y.2.pc)) := (Turns.refl _ _).setCell (.inl (by simp)) _
      have h4 := h2.spot h3 (by simp) ht3
      have H2 := Lib.hid (And.intro h4 (((Turns.of_below H1.out.2).trans t2).trans (ht3.mono (by simp))))
      clear h2 t2 hg2 h3 ht3 h4
      cases z0 : (y.2.pc == 0)
      · cases z1 : (y.2.pc == 10)
        · have HD : Hid (decide (y.2.pc = 0 ∨ y.2.pc = 10) = false) := Lib.hid (by simp at z0 z1; simp [z0, z1])
          go_wp2
          go_ret
          rw [HS.out]
          exact ⟨ret_bool HD.out.symm, H2.out.1, H2.out.2⟩
        · have HD : Hid (decide (y.2.pc = 0 ∨ y.2.pc = 10) = true) := Lib.hid (by simp at z1; simp [z1])
          go_wp2
          go_ret
          rw [HS.out]
          exact ⟨ret_bool HD.out.symm, H2.out.1, H2.out.2⟩
      · have HD : Hid (decide (y.2.pc = 0 ∨ y.2.pc = 10) = true) := Lib.hid (by simp at z0; simp [z0])
        go_wp2
        go_ret
        rw [HS.out]
        exact ⟨ret_bool HD.out.symm, H2.out.1, H2.out.2⟩
  · have HS : Hid (stepRg r t i = (r, false)) := Lib.hid (by unfold stepRg; rw [← hp, if_neg hc])
    have hz : p.pc = 0 ∨ p.pc = 10 := by
      by_cases hi : okI r.S i
      · by_cases h0 : p.pc = 0
        · exact .inl h0
        · by_cases h10 : p.pc = 10
          · exact .inr h10
          · exact absurd ⟨hi, h0, h10⟩ hc
      · rw [hp, getS_out hi]; exact .inl rfl
    clear h hp hc hpc
    go_enter Tryz.func62, Tryz.ntmps62
    go_wp2_with fail
    refine (spot_any H.out i).mono ?_
    rintro en w1 ⟨rfl, b1⟩
    rw [← HP.out]
    unfold spotV
    have H1 := Lib.hid (And.intro (H.out.below b1) b1)
    clear b1
    rcases hz with hz | hz
    · have t0 : (p.pc == 0) = true := by rw [hz]; rfl
      clear hz
      go_wp2
      go_ret
      rw [HS.out]
      exact ⟨rfl, H1.out.1, Turns.of_below H1.out.2⟩
    · have t0 : (p.pc == 0) = false := by rw [hz]; rfl
      have t1 : (p.pc == 10) = true := by rw [hz]; rfl
      clear hz
      go_wp2
      go_ret
      rw [HS.out]
      exact ⟨rfl, H1.out.1, Turns.of_below H1.out.2⟩
end Go.Proofs.YtkdaiomjbkpedaaGreat
end
section
/- Layer 1: a new arena, and taking words. -/
namespace Go.Proofs.YtkdaiomjbkpedaaGreat
open Go.RowKit

theorem Tryz.infoAt : (Tryz.prog.info? 116).map (fun i => (i.zero, i.size, i.bytes)) = some (some (.agg #[.int .i64 0]), 1, 8) := by kernel_rfl
theorem made_const1 (u : Value) (n : Nat) : (madeCells #[u] n).toList = List.replicate n u := by
  unfold madeCells
  rw [Array.toList_map, Array.toList_range]
  refine List.ext_getElem? fun i => ?_
  rw [List.getElem?_map, List.getElem?_replicate]
  by_cases h : i < n
  · rw [List.getElem?_range h, if_pos h]; simp [Nat.mod_one]
  · rw [if_neg h]; simp; omega
theorem own_blk {w : World} {base : Nat} {e : TypeId} {sz g n : Nat} {xs : List Value} (h : w.ownsRow base e sz (.slice (some ⟨g, 0, none⟩) n n) n xs) : Blk w g e xs.toArray := by
  rcases h.2 with ⟨h', _⟩ | ⟨g', cap', cur, h', hb, hg, hnc, hcm, hcs, ht⟩
  · simp at h'
  · simp only [Value.slice.injEq, Option.some.injEq, Addr.mk.injEq, and_true, true_and] at h'
    obtain ⟨rfl, rfl⟩ := h'
    have e1 : cur = xs.toArray := by
      rw [← ht]
      apply Array.ext'
      rw [List.take_of_length_le (by rw [Array.length_toList, hcs]; exact Nat.le_refl _)]
    unfold Blk
    rw [hg, e1]
def clampA (room : Int) : Nat := if room < 0 then 0 else if 4096 < room then 4096 else room.toNat
def newAr (room : Int) : Ar := ⟨[], clampA room, 0, 0, 0, false⟩
def NewA (w : World) (room : Int) (e : Ending) (w' : World) : Prop := ∃ a g, e = .returned (.pointer (some ⟨a, 0, none⟩)) ∧ ArIs w' a g (newAr room) ∧ w.heap.size ≤ a ∧ w.heap.size ≤ g ∧ Below w.heap.size w w'
set_option maxRecDepth 100000 in
set_option maxHeartbeats 1000000 in
theorem newA_any (w : World) (room : Int) : Calls Tryz.prog 37 #[.int .i64 room] w (NewA w room) := by
  obtain ⟨i0, hi, hz0, hz1, hz2⟩ := info_parts Tryz.infoAt
  obtain ⟨n, hn⟩ : ∃ n, n = clampA room := ⟨_, rfl⟩
  have hc : n ≤ 4096 := by rw [hn]; unfold clampA; split <;> (try split) <;> omega
  have HN := Lib.hid hn
  have key : ∀ (w1 : World), w1.ownsRow w.heap.size 116 1 (.slice (some ⟨w.heap.size, 0, none⟩) n n) n (madeCells #[.int .i64 0] n).toList → w.grownBy w1 none →
      ArIs (w1.alloc (.cells #[.slice (some ⟨w.heap.size, 0, none⟩) n n, .int .i64 0, .int .i64 0, .int .i64 0, .int .i64 0, .bool false] 79)) w1.heap.size w.heap.size (newAr room) ∧ w.heap.size ≤ w1.heap.size ∧ Below w.heap.size w (w1.alloc (.cells #[.slice (some ⟨w.heap.size, 0, none⟩) n n, .int .i64 0, .int .i64 0, .int .i64 0, .int .i64 0, .bool false] 79)) := by
    intro w1 hown hg
    rw [made_const1] at hown
    have hb := own_blk hown
    have hlt := hb.lt
    refine ⟨⟨?_, ?_, by omega, by simp [newAr], by simp [newAr]; omega, by simp [newAr]⟩, by omega, ((Below.refl w.heap.size w).grown hg (Nat.le_refl _) (fun j hj => by cases hj)).alloc (by omega) _⟩
    · have := Blk.new w1 79 (arCells w.heap.size (newAr room))
      unfold arCells newAr at this ⊢
      rw [← HN.out] at this ⊢
      simpa using this
    · have e : (wdL (newAr room)).toArray = (List.replicate n (Value.int .i64 0)).toArray := by unfold wdL newAr; simp [← HN.out]
      rw [e]
      exact hb.alloc _
  have KEY := Lib.hid key
  clear key
  rcases (show 4096 < room ∨ (room ≤ 4096 ∧ 0 < room) ∨ room ≤ 0 by omega) with h | ⟨h, h'⟩ | h
  · have E : Hid ((4096 : Int) = (n : Int)) := Lib.hid (by rw [hn]; unfold clampA; rw [if_neg (by omega), if_pos h]; rfl)
    clear hn
    go_enter Tryz.func37, Tryz.ntmps37
    go_wp2_with (refine wpList_make_full _ rfl (.tmp 5) (.tmp 5) 75 rfl w.heap.size 116 i0 (.agg #[.int .i64 0]) 1 Tryz.underlying75 hi hz0 hz1 .i64 .i64 4096 4096 n rfl rfl E.out E.out ?b2 ?b3 (Nat.le_refl _) ?_)
    case b2 => rw [hz2]; omega
    case b3 => unfold maxLen; omega
    intro w1 hown hg
    obtain ⟨k1, k2, k3⟩ := KEY.out w1 hown hg
    clear hown hg
    go_wp2
    go_ret
    exact ⟨_, _, rfl, k1, k2, Nat.le_refl _, k3⟩
  · have E : Hid (room = (n : Int)) := Lib.hid (by rw [hn]; unfold clampA; rw [if_neg (by omega), if_neg (by omega)]; omega)
    clear hn
    go_enter Tryz.func37, Tryz.ntmps37
    go_wp2_with (refine wpList_make_full _ rfl (.tmp 5) (.tmp 5) 75 rfl w.heap.size 116 i0 (.agg #[.int .i64 0]) 1 Tryz.underlying75 hi hz0 hz1 .i64 .i64 room room n rfl rfl E.out E.out ?b2 ?b3 (Nat.le_refl _) ?_)
    case b2 => rw [hz2]; omega
    case b3 => unfold maxLen; omega
    intro w1 hown hg
    obtain ⟨k1, k2, k3⟩ := KEY.out w1 hown hg
    clear hown hg
    go_wp2
    go_ret
    exact ⟨_, _, rfl, k1, k2, Nat.le_refl _, k3⟩
  · have E : Hid ((0 : Int) = (n : Int)) := Lib.hid (by rw [hn]; unfold clampA; split <;> (try split) <;> omega)
    have h4 : room ≤ 4096 := by omega
    clear hn
    go_enter Tryz.func37, Tryz.ntmps37
    go_wp2_with (refine wpList_make_full _ rfl (.tmp 5) (.tmp 5) 75 rfl w.heap.size 116 i0 (.agg #[.int .i64 0]) 1 Tryz.underlying75 hi hz0 hz1 .i64 .i64 0 0 n rfl rfl E.out E.out ?b2 ?b3 (Nat.le_refl _) ?_)
    case b2 => rw [hz2]; omega
    case b3 => unfold maxLen; omega
    intro w1 hown hg
    obtain ⟨k1, k2, k3⟩ := KEY.out w1 hown hg
    clear hown hg
    go_wp2
    go_ret
    exact ⟨_, _, rfl, k1, k2, Nat.le_refl _, k3⟩

def takeA (s : Ar) (n : Int) : Ar × Int × Int :=
  if n < 0 then (s, (0 : Int), (1 : Int)) else if (s.room : Int) - s.W.length < n then (s, (0 : Int), (3 : Int)) else ({ s with W := s.W ++ List.replicate n.toNat 0 }, (s.W.length : Int) + 1, (0 : Int))
def TakeOk (w : World) (a g : Nat) (x : Ar × Int × Int) (e : Ending) (w' : World) : Prop := e = .returned (.tuple #[.int .i64 x.2.1, .int .i64 x.2.2]) ∧ ArIs w' a g x.1 ∧ Turns [a] w w'
set_option maxRecDepth 100000 in
set_option maxHeartbeats 1000000 in
theorem take_any {w : World} {a g : Nat} {s : Ar} (h : ArIs w a g s) (n : Int) :
    Calls Tryz.prog 71 #[.pointer (some ⟨a, 0, none⟩), .int .i64 n] w (TakeOk w a g (takeA s n)) := by
  have H := Lib.hid h
  have c0 := h.c0
  have c1 := h.c1
  have f1 := h.blk.free 1
  have hle := h.le
  have hro := h.room
  have hlt := h.blk.lt
  clear h
  by_cases h0 : n < 0
  · have e : takeA s n = (s, (0 : Int), (1 : Int)) := by unfold takeA; rw [if_pos h0]
    have HE := Lib.hid e
    clear e
    go_enter Tryz.func71, Tryz.ntmps71
    go_wp2
    go_ret2
    rw [HE.out]
    exact ⟨rfl, H.out, Turns.refl _ _⟩
  · by_cases h1 : (s.room : Int) - s.W.length < n
    · have e : takeA s n = (s, (0 : Int), (3 : Int)) := by unfold takeA; rw [if_neg h0, if_pos h1]
      have HE := Lib.hid e
      have x1 : IntKind.i64.wrap ((s.room : Int) - s.W.length) = (s.room : Int) - s.W.length := IntWalk.i64_in _ (by omega)
      clear e
      go_enter Tryz.func71, Tryz.ntmps71
      go_wp2
      go_quiet (fail)
      go_wp2
      go_ret2
      rw [HE.out]
      exact ⟨rfl, H.out.turns (S := []) ((Turns.refl _ _).drewN _) (by simp) (by simp), (Turns.refl _ _).drewN _⟩
    · have e : takeA s n = ({ s with W := s.W ++ List.replicate n.toNat 0 }, (s.W.length : Int) + 1, (0 : Int)) := by unfold takeA; rw [if_neg h0, if_neg h1]
      have HE := Lib.hid e
      have x1 : IntKind.i64.wrap ((s.room : Int) - s.W.length) = (s.room : Int) - s.W.length := IntWalk.i64_in _ (by omega)
      have h2 : n ≤ 4096 := by omega
      clear e
      go_enter Tryz.func71, Tryz.ntmps71
      go_wp2
      go_quiet (fail)
      clear x1
      go_wp2
      go_ret2
      rw [HE.out]
      obtain ⟨m, rfl⟩ := Int.eq_ofNat_of_zero_le (show 0 ≤ n by omega)
      have hb := (H.out.blk.drewN nq).set_ 1 (.int .i64 (s.W.length + m))
      have hw := (H.out.wds.drewN nq).far (p := ⟨a, 1, none⟩) H.out.ne.symm (.int .i64 (s.W.length + m))
      refine ⟨rfl, ⟨?_, ?_, H.out.ne, by simp; omega, hro, H.out.ops⟩, ((Turns.refl _ _).drewN _).setCell (.inl (by simp)) _⟩
      · have e : arCells g ({ s with W := s.W ++ List.replicate ((m : Int).toNat) 0 }) = (arCells g s).setIfInBounds 1 (.int .i64 (s.W.length + m)) := by
          unfold arCells; simp
        rw [e]; exact hb
      · have e : wdL { s with W := s.W ++ List.replicate ((m : Int).toNat) 0 } = wdL s := by
          unfold wdL
          congr 1
          rw [List.append_assoc, List.append_cancel_left_eq, List.replicate_append_replicate]
          congr 1
          simp; omega
        rw [e]; exact hw
end Go.Proofs.YtkdaiomjbkpedaaGreat
end
