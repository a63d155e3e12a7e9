/- Layer 26: a rung's steps (written by wip/gen_rg2.py). -/
import Derived.Test.YthgpjiebeinamaaRg1
import Derived.StillTailTactics
import Derived.Deep.RegionHeld3
namespace Go.Proofs.Ythgpjiebeinamaa
open Go.RowKit

def StepOk (w : World) (l a g q : Nat) (t : Int) (n : Nat) (r : Rg) (p : Sp) (x : Ar × Sp) (e : Ending) (w' : World) : Prop :=
  e = .returned (.int .i64 x.2.pc) ∧ RgIs w' l a g q t ⟨x.1, r.S.set n { x.2 with pc := p.pc }⟩ ∧ Turns [a, g, q] w w'
theorem same_calls {P : Program} {f : FuncId} {args : Array Value} {w : World} {v : Value} (h : Calls P f args w fun e w' => e = .returned v ∧ w = w') : Calls P f args w fun e w' => e = .returned v ∧ w' = w :=
  h.mono fun _ _ ⟨a, b⟩ => ⟨a, b.symm⟩
theorem RgIs.ar_ {w w' : World} {l a g q : Nat} {t : Int} {r : Rg} (h : RgIs w l a g q t r) {s' : Ar} (hs : ArIs w' a g s') (k : Turns [a, g] w w') : RgIs w' l a g q t ⟨s', r.S⟩ :=
  ⟨hs, k.blk h.lk (by simp [h.la, h.lg]), h.sp.turns k (by simp [h.qa, h.qg]), h.la, h.lg, h.lq, h.qa, h.qg, h.len⟩
theorem RgIs.drew {w : World} {l a g q : Nat} {t : Int} {r : Rg} (h : RgIs w l a g q t r) : RgIs w.drew l a g q t r := h.turns (T := []) ((Turns.refl _ _).drew) (by simp) (by simp) (by simp) (by simp)
theorem set_self {S : List Sp} {n : Nat} {p : Sp} (h : S[n]? = some p) : S.set n p = S := by
  obtain ⟨hk, rfl⟩ := List.getElem?_eq_some_iff.1 h
  simp
theorem swap_call {w : World} {a g : Nat} {s : Ar} (h : ArIs w a g s) (x v r : Int) (hr : r = ldW s.W x) (ho : s.ops + 1 ≤ 1000000000000) :
    Calls Try.prog 98 #[.pointer (some ⟨a, 0, none⟩), .int .i64 x, .int .i64 v] w (OpOk w a g (swapA s x v) (.int .i64 r)) := by rw [hr]; exact swap_any h x v ho
theorem load_call {w : World} {a g : Nat} {s : Ar} (h : ArIs w a g s) (x r : Int) (hr : r = ldW s.W x) (ho : s.ops + 1 ≤ 1000000000000) :
    Calls Try.prog 99 #[.pointer (some ⟨a, 0, none⟩), .int .i64 x] w (OpOk w a g (loadA s x) (.int .i64 r)) := by rw [hr]; exact load_any h x ho
theorem cas_call {w : World} {a g : Nat} {s : Ar} (h : ArIs w a g s) (x old v : Int) (b : Bool) (hb : casB s x old = b) (ho : s.ops + 1 ≤ 1000000000000) :
    Calls Try.prog 100 #[.pointer (some ⟨a, 0, none⟩), .int .i64 x, .int .i64 old, .int .i64 v] w (OpOk w a g (casA s x old v) (.bool b)) := by rw [← hb]; exact cas_any h x old v ho
set_option maxRecDepth 100000 in
set_option maxHeartbeats 1000000 in
theorem in1 {w : World} {l a g q : Nat} {t : Int} {r : Rg} (h : RgIs w l a g q t r) (n : Nat) (p : Sp) (hp : r.S[n]? = some p) (x : Int) (ho : r.ar.ops + 1 ≤ 1000000000000) (hpc : p.pc = 1) :
    Calls Try.prog 63 #[.pointer (some ⟨l, 0, none⟩), .pointer (some ⟨q, n * 4, none⟩), .int .i64 x] w (StepOk w l a g q t n r p (inR26 r.ar t x p)) := by
  have y : (p.pc == 1) = true := by rw [hpc]; rfl
  have c0 : w.cell? ⟨l, 0, none⟩ = some (.pointer (some ⟨a, 0, none⟩)) := h.lk.cell 0
  have c1 : w.cell? ⟨l, 1, none⟩ = some (.int .i64 t) := h.lk.cell 1
  have a0 := h.sp.cell hp 0 _ rfl
  have a1 := h.sp.cell hp 1 _ rfl
  have a2 := h.sp.cell hp 2 _ rfl
  have a3 := h.sp.cell hp 3 _ rfl
  simp only [Nat.add_zero] at a0
  have H := Lib.hid (And.intro h (And.intro hp hpc))
  clear h hp hpc
  go_enter Try.func63, Try.ntmps63
  go_wp2
  refine wp_region_still_tail 7 (by kernel_rfl) (by kernel_rfl) ?_
  simp only [List.take_succ_cons, List.take_zero, List.drop_succ_cons, List.drop_zero]
  change wpStill _ _ (World.drew _) _ _ _
  repeat still_step
  still_call (same_calls (next_any H.out.1.drew x))
  repeat still_step
  refine wpStill_nil ?_
  change wpList _ _ _ _ _ (World.drew w)
  go_wp2_with fail
  refine (store_any H.out.1.drew.ar (nxA t x) 0 ho).mono ?_
  rintro en w1 ⟨rfl, h1, t1⟩
  have H1 := Lib.hid (And.intro (H.out.1.drew.ar_ h1 t1) (Turns.trans ((Turns.refl _ _).drew) t1))
  clear h1 t1
  go_wp2
  go_ret
  have e : inR26 r.ar t x p = (storeA r.ar (nxA t x) 0, { p with pc := 2 }) := by unfold inR26; rw [if_pos H.out.2.2]
  rw [e]
  have e2 : ({ ({ p with pc := 2 } : Sp) with pc := p.pc } : Sp) = p := rfl
  refine ⟨rfl, ?_, H1.out.2.mono (by simp)⟩
  rw [e2, set_self H.out.2.1]
  exact H1.out.1
set_option maxRecDepth 100000 in
set_option maxHeartbeats 1000000 in
theorem in2 {w : World} {l a g q : Nat} {t : Int} {r : Rg} (h : RgIs w l a g q t r) (n : Nat) (p : Sp) (hp : r.S[n]? = some p) (x : Int) (ho : r.ar.ops + 1 ≤ 1000000000000) (hpc : p.pc = 2) :
    Calls Try.prog 63 #[.pointer (some ⟨l, 0, none⟩), .pointer (some ⟨q, n * 4, none⟩), .int .i64 x] w (StepOk w l a g q t n r p (inR26 r.ar t x p)) := by
  have y : (p.pc == 2) = true := by rw [hpc]; rfl
  have n1 : (p.pc == 1) = false := by rw [hpc]; rfl
  have c0 : w.cell? ⟨l, 0, none⟩ = some (.pointer (some ⟨a, 0, none⟩)) := h.lk.cell 0
  have c1 : w.cell? ⟨l, 1, none⟩ = some (.int .i64 t) := h.lk.cell 1
  have a0 := h.sp.cell hp 0 _ rfl
  have a1 := h.sp.cell hp 1 _ rfl
  have a2 := h.sp.cell hp 2 _ rfl
  have a3 := h.sp.cell hp 3 _ rfl
  simp only [Nat.add_zero] at a0
  have H := Lib.hid (And.intro h (And.intro hp hpc))
  clear h hp hpc
  go_enter Try.func63, Try.ntmps63
  go_wp2
  refine wp_region_still_tail 7 (by kernel_rfl) (by kernel_rfl) ?_
  simp only [List.take_succ_cons, List.take_zero, List.drop_succ_cons, List.drop_zero]
  change wpStill _ _ (World.drew _) _ _ _
  repeat still_step
  still_call (same_calls (stat_any H.out.1.drew x))
  repeat still_step
  refine wpStill_nil ?_
  change wpList _ _ _ _ _ (World.drew w)
  go_wp2_with fail
  refine (store_any H.out.1.drew.ar (stA t x) 0 ho).mono ?_
  rintro en w1 ⟨rfl, h1, t1⟩
  have H1 := Lib.hid (And.intro (H.out.1.drew.ar_ h1 t1) (Turns.trans ((Turns.refl _ _).drew) t1))
  clear h1 t1
  go_wp2
  go_ret
  have e : inR26 r.ar t x p = (storeA r.ar (stA t x) 0, { p with pc := 3 }) := by unfold inR26; rw [if_neg (by rw [H.out.2.2]; decide), if_pos H.out.2.2]
  rw [e]
  have e2 : ({ ({ p with pc := 3 } : Sp) with pc := p.pc } : Sp) = p := rfl
  refine ⟨rfl, ?_, H1.out.2.mono (by simp)⟩
  rw [e2, set_self H.out.2.1]
  exact H1.out.1
set_option maxRecDepth 100000 in
set_option maxHeartbeats 1000000 in
theorem in4 {w : World} {l a g q : Nat} {t : Int} {r : Rg} (h : RgIs w l a g q t r) (n : Nat) (p : Sp) (hp : r.S[n]? = some p) (x : Int) (ho : r.ar.ops + 1 ≤ 1000000000000) (hpc : p.pc = 4) :
    Calls Try.prog 63 #[.pointer (some ⟨l, 0, none⟩), .pointer (some ⟨q, n * 4, none⟩), .int .i64 x] w (StepOk w l a g q t n r p (inR26 r.ar t x p)) := by
  have y : (p.pc == 4) = true := by rw [hpc]; rfl
  have n1 : (p.pc == 1) = false := by rw [hpc]; rfl
  have n2 : (p.pc == 2) = false := by rw [hpc]; rfl
  have n3 : (p.pc == 3) = false := by rw [hpc]; rfl
  have c0 : w.cell? ⟨l, 0, none⟩ = some (.pointer (some ⟨a, 0, none⟩)) := h.lk.cell 0
  have c1 : w.cell? ⟨l, 1, none⟩ = some (.int .i64 t) := h.lk.cell 1
  have a0 := h.sp.cell hp 0 _ rfl
  have a1 := h.sp.cell hp 1 _ rfl
  have a2 := h.sp.cell hp 2 _ rfl
  have a3 := h.sp.cell hp 3 _ rfl
  simp only [Nat.add_zero] at a0
  have H := Lib.hid (And.intro h (And.intro hp hpc))
  clear h hp hpc
  go_enter Try.func63, Try.ntmps63
  go_wp2
  refine wp_region_still_tail 11 (by kernel_rfl) (by kernel_rfl) ?_
  simp only [List.take_succ_cons, List.take_zero, List.drop_succ_cons, List.drop_zero]
  change wpStill _ _ (World.drew _) _ _ _
  repeat still_step
  still_call (same_calls (next_any H.out.1.drew p.a))
  repeat still_step
  refine wpStill_nil ?_
  change wpList _ _ _ _ _ (World.drew w)
  go_wp2_with fail
  refine (store_any H.out.1.drew.ar (nxA t p.a) x ho).mono ?_
  rintro en w1 ⟨rfl, h1, t1⟩
  have H1 := Lib.hid (And.intro (H.out.1.drew.ar_ h1 t1) (Turns.trans ((Turns.refl _ _).drew) t1))
  clear h1 t1
  go_wp2
  go_ret
  have e : inR26 r.ar t x p = (storeA r.ar (nxA t p.a) x, { p with pc := 5 }) := by unfold inR26; rw [if_neg (by rw [H.out.2.2]; decide), if_neg (by rw [H.out.2.2]; decide), if_neg (by rw [H.out.2.2]; decide), if_pos H.out.2.2]
  rw [e]
  have e2 : ({ ({ p with pc := 5 } : Sp) with pc := p.pc } : Sp) = p := rfl
  refine ⟨rfl, ?_, H1.out.2.mono (by simp)⟩
  rw [e2, set_self H.out.2.1]
  exact H1.out.1
set_option maxRecDepth 100000 in
set_option maxHeartbeats 1000000 in
theorem in6 {w : World} {l a g q : Nat} {t : Int} {r : Rg} (h : RgIs w l a g q t r) (n : Nat) (p : Sp) (hp : r.S[n]? = some p) (x : Int) (ho : r.ar.ops + 1 ≤ 1000000000000) (hpc : p.pc = 6) :
    Calls Try.prog 63 #[.pointer (some ⟨l, 0, none⟩), .pointer (some ⟨q, n * 4, none⟩), .int .i64 x] w (StepOk w l a g q t n r p (inR26 r.ar t x p)) := by
  have n1 : (p.pc == 1) = false := by rw [beq_eq_false_iff_ne]; omega
  have n2 : (p.pc == 2) = false := by rw [beq_eq_false_iff_ne]; omega
  have n3 : (p.pc == 3) = false := by rw [beq_eq_false_iff_ne]; omega
  have n4 : (p.pc == 4) = false := by rw [beq_eq_false_iff_ne]; omega
  have n5 : (p.pc == 5) = false := by rw [beq_eq_false_iff_ne]; omega
  have c0 : w.cell? ⟨l, 0, none⟩ = some (.pointer (some ⟨a, 0, none⟩)) := h.lk.cell 0
  have c1 : w.cell? ⟨l, 1, none⟩ = some (.int .i64 t) := h.lk.cell 1
  have a0 := h.sp.cell hp 0 _ rfl
  have a1 := h.sp.cell hp 1 _ rfl
  have a2 := h.sp.cell hp 2 _ rfl
  have a3 := h.sp.cell hp 3 _ rfl
  simp only [Nat.add_zero] at a0
  have H := Lib.hid (And.intro h (And.intro hp hpc))
  clear h hp hpc
  go_enter Try.func63, Try.ntmps63
  go_wp2
  refine wp_region_still_tail 7 (by kernel_rfl) (by kernel_rfl) ?_
  simp only [List.take_succ_cons, List.take_zero, List.drop_succ_cons, List.drop_zero]
  change wpStill _ _ (World.drew _) _ _ _
  repeat still_step
  still_call (same_calls (stat_any H.out.1.drew x))
  repeat still_step
  refine wpStill_nil ?_
  change wpList _ _ _ _ _ (World.drew w)
  go_wp2_with fail
  refine (store_any H.out.1.drew.ar (stA t x) 1 ho).mono ?_
  rintro en w1 ⟨rfl, h1, t1⟩
  have H1 := Lib.hid (And.intro (H.out.1.drew.ar_ h1 t1) (Turns.trans ((Turns.refl _ _).drew) t1))
  have hsp := H1.out.1.sp
  have d1 := hsp.cell H.out.2.1 1 _ rfl
  have d2 := hsp.cell H.out.2.1 2 _ rfl
  have f1 := hsp.free (n * 4 + 1)
  have f2 := hsp.free (n * 4 + 2)
  clear h1 t1 hsp
  go_wp2
  go_ret
  have e : inR26 r.ar t x p = (storeA r.ar (stA t x) 1, { p with a := 1, b := 1, pc := 10 }) := by unfold inR26; rw [if_neg (by rw [H.out.2.2]; decide), if_neg (by rw [H.out.2.2]; decide), if_neg (by rw [H.out.2.2]; decide), if_neg (by rw [H.out.2.2]; decide), if_neg (by rw [H.out.2.2]; decide)]
  rw [e]
  have g1 := H1.out.1.sp.put H.out.2.1 (j := 1) (u := .int .i64 1) (p' := { p with a := 1 }) (by decide) rfl
  have hn : n < r.S.length := (List.getElem?_eq_some_iff.1 H.out.2.1).1
  have g2 := g1.put (i := n) (p := { p with a := 1 }) (by simp [hn]) (j := 2) (u := .int .i64 1) (p' := { p with a := 1, b := 1 }) (by decide) rfl
  have ht : Turns [q] w1 ((w1.setCell ⟨q, n * 4 + 1, none⟩ (.int .i64 1)).setCell ⟨q, n * 4 + 2, none⟩ (.int .i64 1)) := ((Turns.refl _ _).setCell (.inl (by simp)) _).setCell (.inl (by simp)) _
  refine ⟨rfl, ?_, (H1.out.2.mono (by simp)).trans (ht.mono (by simp))⟩
  have := H1.out.1.spot g2 (by simp) ht
  simpa using this
set_option maxRecDepth 100000 in
set_option maxHeartbeats 1000000 in
theorem in3 {w : World} {l a g q : Nat} {t : Int} {r : Rg} (h : RgIs w l a g q t r) (n : Nat) (p : Sp) (hp : r.S[n]? = some p) (x : Int) (ho : r.ar.ops + 1 ≤ 1000000000000) (hpc : p.pc = 3) :
    Calls Try.prog 63 #[.pointer (some ⟨l, 0, none⟩), .pointer (some ⟨q, n * 4, none⟩), .int .i64 x] w (StepOk w l a g q t n r p (inR26 r.ar t x p)) := by
  have y : (p.pc == 3) = true := by rw [hpc]; rfl
  have n1 : (p.pc == 1) = false := by rw [hpc]; rfl
  have n2 : (p.pc == 2) = false := by rw [hpc]; rfl
  have c0 : w.cell? ⟨l, 0, none⟩ = some (.pointer (some ⟨a, 0, none⟩)) := h.lk.cell 0
  have c1 : w.cell? ⟨l, 1, none⟩ = some (.int .i64 t) := h.lk.cell 1
  have a0 := h.sp.cell hp 0 _ rfl
  have a1 := h.sp.cell hp 1 _ rfl
  have a2 := h.sp.cell hp 2 _ rfl
  have a3 := h.sp.cell hp 3 _ rfl
  simp only [Nat.add_zero] at a0
  have H := Lib.hid (And.intro h (And.intro hp hpc))
  clear h hp hpc
  go_enter Try.func63, Try.ntmps63
  go_wp2
  obtain ⟨v, hv⟩ : ∃ v, v = ldW r.ar.W t := ⟨_, rfl⟩
  have HV := Lib.hid hv
  clear hv
  have HD := Lib.hid H.out.1.drew
  go_region_held3 (fun W => W.cell? ⟨l, 0, none⟩ = some (.pointer (some ⟨a, 0, none⟩)) ∧ W.cell? ⟨l, 1, none⟩ = some (.int .i64 t))
    (first | exact ⟨c0, c1⟩ | exact ⟨k0, k1⟩ | exact hk.out _ _)
    (first
      | (go_at_call 98; go_loud (refine (swap_call HD.out.ar t x v HV.out ho).mono ?_); rintro en w1 ⟨rfl, h1, t1⟩; have H1 := Lib.hid (And.intro (HD.out.ar_ h1 t1) (Turns.trans ((Turns.refl _ _).drew) t1)); have k0 : w1.cell? ⟨l, 0, none⟩ = some (.pointer (some ⟨a, 0, none⟩)) := H1.out.1.lk.cell 0; have k1 : w1.cell? ⟨l, 1, none⟩ = some (.int .i64 t) := H1.out.1.lk.cell 1; have hk : Hid (∀ (o : Nat) (u : Value), (w1.setCell ⟨q, o, none⟩ u).cell? ⟨l, 0, none⟩ = some (.pointer (some ⟨a, 0, none⟩)) ∧ (w1.setCell ⟨q, o, none⟩ u).cell? ⟨l, 1, none⟩ = some (.int .i64 t)) := Lib.hid fun o u => ⟨(H1.out.1.lk.far (p := ⟨q, o, none⟩) H1.out.1.lq u).cell 0, (H1.out.1.lk.far (p := ⟨q, o, none⟩) H1.out.1.lq u).cell 1⟩; have d0 := H1.out.1.sp.cell H.out.2.1 0 _ rfl; simp only [Nat.add_zero] at d0; have d1 := H1.out.1.sp.cell H.out.2.1 1 _ rfl; have d2 := H1.out.1.sp.cell H.out.2.1 2 _ rfl; have f1 := H1.out.1.sp.free (n * 4 + 1); have f2 := H1.out.1.sp.free (n * 4 + 2)))
  all_goals clear h1 t1
  cases hz : (v == 0)
  · have HZ : Hid (¬ v = 0) := Lib.hid (by simpa using hz)
    go_wp2
    go_ret
    have e : inR26 r.ar t x p = (swapA r.ar t x, { p with a := v, pc := 4 }) := by unfold inR26; rw [if_neg (by rw [H.out.2.2]; decide), if_neg (by rw [H.out.2.2]; decide), if_pos H.out.2.2, ← HV.out, if_neg HZ.out]
    rw [e]
    have g1 := H1.out.1.sp.put H.out.2.1 (j := 1) (u := .int .i64 v) (p' := { p with a := v }) (by decide) rfl
    have ht : Turns [q] w1 (w1.setCell ⟨q, n * 4 + 1, none⟩ (.int .i64 v)) := (Turns.refl _ _).setCell (.inl (by simp)) _
    refine ⟨rfl, ?_, (H1.out.2.mono (by simp)).trans (ht.mono (by simp))⟩
    have := H1.out.1.spot g1 (by simp) ht
    simpa using this
  · have HZ : Hid (v = 0) := Lib.hid (by simpa using hz)
    go_wp2
    go_ret
    have e : inR26 r.ar t x p = (swapA r.ar t x, { p with a := v, pc := 6 }) := by unfold inR26; rw [if_neg (by rw [H.out.2.2]; decide), if_neg (by rw [H.out.2.2]; decide), if_pos H.out.2.2, ← HV.out, if_pos HZ.out]
    rw [e]
    have g1 := H1.out.1.sp.put H.out.2.1 (j := 1) (u := .int .i64 v) (p' := { p with a := v }) (by decide) rfl
    have ht : Turns [q] w1 (w1.setCell ⟨q, n * 4 + 1, none⟩ (.int .i64 v)) := (Turns.refl _ _).setCell (.inl (by simp)) _
    refine ⟨rfl, ?_, (H1.out.2.mono (by simp)).trans (ht.mono (by simp))⟩
    have := H1.out.1.spot g1 (by simp) ht
    simpa using this
set_option maxRecDepth 100000 in
set_option maxHeartbeats 1000000 in
theorem in5 {w : World} {l a g q : Nat} {t : Int} {r : Rg} (h : RgIs w l a g q t r) (n : Nat) (p : Sp) (hp : r.S[n]? = some p) (x : Int) (ho : r.ar.ops + 1 ≤ 1000000000000) (hpc : p.pc = 5) :
    Calls Try.prog 63 #[.pointer (some ⟨l, 0, none⟩), .pointer (some ⟨q, n * 4, none⟩), .int .i64 x] w (StepOk w l a g q t n r p (inR26 r.ar t x p)) := by
  have y : (p.pc == 5) = true := by rw [hpc]; rfl
  have n1 : (p.pc == 1) = false := by rw [hpc]; rfl
  have n2 : (p.pc == 2) = false := by rw [hpc]; rfl
  have n3 : (p.pc == 3) = false := by rw [hpc]; rfl
  have n4 : (p.pc == 4) = false := by rw [hpc]; rfl
  have c0 : w.cell? ⟨l, 0, none⟩ = some (.pointer (some ⟨a, 0, none⟩)) := h.lk.cell 0
  have c1 : w.cell? ⟨l, 1, none⟩ = some (.int .i64 t) := h.lk.cell 1
  have a0 := h.sp.cell hp 0 _ rfl
  have a1 := h.sp.cell hp 1 _ rfl
  have a2 := h.sp.cell hp 2 _ rfl
  have a3 := h.sp.cell hp 3 _ rfl
  simp only [Nat.add_zero] at a0
  have H := Lib.hid (And.intro h (And.intro hp hpc))
  clear h hp hpc
  go_enter Try.func63, Try.ntmps63
  go_wp2
  obtain ⟨v, hv⟩ : ∃ v, v = ldW r.ar.W (stA t x) := ⟨_, rfl⟩
  have HV := Lib.hid hv
  clear hv
  have HD := Lib.hid H.out.1.drew
  go_region_held3 (fun W => W.cell? ⟨l, 0, none⟩ = some (.pointer (some ⟨a, 0, none⟩)) ∧ W.cell? ⟨l, 1, none⟩ = some (.int .i64 t))
    (first | exact ⟨c0, c1⟩ | exact ⟨k0, k1⟩ | exact hk.out _ _)
    (first
      | (go_at_call 97; go_loud (refine (stat_any HD.out x).mono ?_); rintro en w1 ⟨rfl, rfl⟩)
      | (go_at_call 99; go_loud (refine (load_call HD.out.ar (stA t x) v HV.out ho).mono ?_); rintro en w1 ⟨rfl, h1, t1⟩; have H1 := Lib.hid (And.intro (HD.out.ar_ h1 t1) (Turns.trans ((Turns.refl _ _).drew) t1)); have k0 : w1.cell? ⟨l, 0, none⟩ = some (.pointer (some ⟨a, 0, none⟩)) := H1.out.1.lk.cell 0; have k1 : w1.cell? ⟨l, 1, none⟩ = some (.int .i64 t) := H1.out.1.lk.cell 1; have hk : Hid (∀ (o : Nat) (u : Value), (w1.setCell ⟨q, o, none⟩ u).cell? ⟨l, 0, none⟩ = some (.pointer (some ⟨a, 0, none⟩)) ∧ (w1.setCell ⟨q, o, none⟩ u).cell? ⟨l, 1, none⟩ = some (.int .i64 t)) := Lib.hid fun o u => ⟨(H1.out.1.lk.far (p := ⟨q, o, none⟩) H1.out.1.lq u).cell 0, (H1.out.1.lk.far (p := ⟨q, o, none⟩) H1.out.1.lq u).cell 1⟩; have d0 := H1.out.1.sp.cell H.out.2.1 0 _ rfl; simp only [Nat.add_zero] at d0; have d1 := H1.out.1.sp.cell H.out.2.1 1 _ rfl; have d2 := H1.out.1.sp.cell H.out.2.1 2 _ rfl; have f1 := H1.out.1.sp.free (n * 4 + 1); have f2 := H1.out.1.sp.free (n * 4 + 2)))
  all_goals clear h1 t1
  by_cases hz : 0 < v
  · have HZ := Lib.hid hz
    go_wp2
    go_ret
    have e : inR26 r.ar t x p = (loadA r.ar (stA t x), { p with a := v, b := 0, pc := 10 }) := by unfold inR26; rw [if_neg (by rw [H.out.2.2]; decide), if_neg (by rw [H.out.2.2]; decide), if_neg (by rw [H.out.2.2]; decide), if_neg (by rw [H.out.2.2]; decide), if_pos H.out.2.2, ← HV.out, if_pos HZ.out]
    rw [e]
    have g1 := H1.out.1.sp.put H.out.2.1 (j := 1) (u := .int .i64 v) (p' := { p with a := v }) (by decide) rfl
    have hn : n < r.S.length := (List.getElem?_eq_some_iff.1 H.out.2.1).1
    have g2 := g1.put (i := n) (p := { p with a := v }) (by simp [hn]) (j := 2) (u := .int .i64 0) (p' := { p with a := v, b := 0 }) (by decide) rfl
    have ht : Turns [q] w1 ((w1.setCell ⟨q, n * 4 + 1, none⟩ (.int .i64 v)).setCell ⟨q, n * 4 + 2, none⟩ (.int .i64 0)) := ((Turns.refl _ _).setCell (.inl (by simp)) _).setCell (.inl (by simp)) _
    refine ⟨rfl, ?_, (H1.out.2.mono (by simp)).trans (ht.mono (by simp))⟩
    have := H1.out.1.spot g2 (by simp) ht
    simpa using this
  · by_cases hz2 : v < 0
    · have HZ := Lib.hid (And.intro hz hz2)
      go_wp2
      go_ret
      have e : inR26 r.ar t x p = (loadA r.ar (stA t x), { p with a := v, pc := 6 }) := by unfold inR26; rw [if_neg (by rw [H.out.2.2]; decide), if_neg (by rw [H.out.2.2]; decide), if_neg (by rw [H.out.2.2]; decide), if_neg (by rw [H.out.2.2]; decide), if_pos H.out.2.2, ← HV.out, if_neg (show ¬ 0 < v by have := HZ.out.1; omega), if_pos HZ.out.2]
      rw [e]
      have g1 := H1.out.1.sp.put H.out.2.1 (j := 1) (u := .int .i64 v) (p' := { p with a := v }) (by decide) rfl
      have ht : Turns [q] w1 (w1.setCell ⟨q, n * 4 + 1, none⟩ (.int .i64 v)) := (Turns.refl _ _).setCell (.inl (by simp)) _
      refine ⟨rfl, ?_, (H1.out.2.mono (by simp)).trans (ht.mono (by simp))⟩
      have := H1.out.1.spot g1 (by simp) ht
      simpa using this
    · have HZ := Lib.hid (And.intro hz hz2)
      go_wp2
      go_ret
      have e : inR26 r.ar t x p = (loadA r.ar (stA t x), { p with a := v, pc := 5 }) := by unfold inR26; rw [if_neg (by rw [H.out.2.2]; decide), if_neg (by rw [H.out.2.2]; decide), if_neg (by rw [H.out.2.2]; decide), if_neg (by rw [H.out.2.2]; decide), if_pos H.out.2.2, ← HV.out, if_neg (show ¬ 0 < v by have := HZ.out.1; omega), if_neg (show ¬ v < 0 by have := HZ.out.2; omega)]
      rw [e]
      have g1 := H1.out.1.sp.put H.out.2.1 (j := 1) (u := .int .i64 v) (p' := { p with a := v }) (by decide) rfl
      have ht : Turns [q] w1 (w1.setCell ⟨q, n * 4 + 1, none⟩ (.int .i64 v)) := (Turns.refl _ _).setCell (.inl (by simp)) _
      refine ⟨rfl, ?_, (H1.out.2.mono (by simp)).trans (ht.mono (by simp))⟩
      have := H1.out.1.spot g1 (by simp) ht
      simpa using this
set_option maxRecDepth 100000 in
set_option maxHeartbeats 1000000 in
theorem out12 {w : World} {l a g q : Nat} {t : Int} {r : Rg} (h : RgIs w l a g q t r) (n : Nat) (p : Sp) (hp : r.S[n]? = some p) (x : Int) (ho : r.ar.ops + 1 ≤ 1000000000000) (hpc : p.pc = 12) :
    Calls Try.prog 64 #[.pointer (some ⟨l, 0, none⟩), .pointer (some ⟨q, n * 4, none⟩), .int .i64 x] w (StepOk w l a g q t n r p (outR26 r.ar t x p)) := by
  have y : (p.pc == 12) = true := by rw [hpc]; rfl
  have c0 : w.cell? ⟨l, 0, none⟩ = some (.pointer (some ⟨a, 0, none⟩)) := h.lk.cell 0
  have c1 : w.cell? ⟨l, 1, none⟩ = some (.int .i64 t) := h.lk.cell 1
  have a0 := h.sp.cell hp 0 _ rfl
  have a1 := h.sp.cell hp 1 _ rfl
  have a2 := h.sp.cell hp 2 _ rfl
  have a3 := h.sp.cell hp 3 _ rfl
  simp only [Nat.add_zero] at a0
  have H := Lib.hid (And.intro h (And.intro hp hpc))
  clear h hp hpc
  go_enter Try.func64, Try.ntmps64
  go_wp2
  cases hb : casB r.ar t x
  · have HB := Lib.hid hb
    clear hb
    refine wp_region_still_tail 9 (by kernel_rfl) (by kernel_rfl) ?_
    simp only [List.take_succ_cons, List.take_zero, List.drop_succ_cons, List.drop_zero]
    change wpStill _ _ (World.drew _) _ _ _
    repeat still_step
    refine wpStill_nil ?_
    change wpList _ _ _ _ _ (World.drew w)
    go_wp2_with fail
    refine (cas_call H.out.1.drew.ar t x 0 false HB.out ho).mono ?_
    rintro en w1 ⟨rfl, h1, t1⟩
    have H1 := Lib.hid (And.intro (H.out.1.drew.ar_ h1 t1) (Turns.trans ((Turns.refl _ _).drew) t1))
    clear h1 t1
    go_wp2
    go_ret
    have e : outR26 r.ar t x p = (casA r.ar t x 0, { p with pc := 13 }) := by unfold outR26; rw [if_pos H.out.2.2, HB.out]; rfl
    rw [e]
    have e2 : ({ ({ p with pc := 13 } : Sp) with pc := p.pc } : Sp) = p := rfl
    refine ⟨rfl, ?_, H1.out.2.mono (by simp)⟩
    rw [e2, set_self H.out.2.1]
    exact H1.out.1
  · have HB := Lib.hid hb
    clear hb
    refine wp_region_still_tail 9 (by kernel_rfl) (by kernel_rfl) ?_
    simp only [List.take_succ_cons, List.take_zero, List.drop_succ_cons, List.drop_zero]
    change wpStill _ _ (World.drew _) _ _ _
    repeat still_step
    refine wpStill_nil ?_
    change wpList _ _ _ _ _ (World.drew w)
    go_wp2_with fail
    refine (cas_call H.out.1.drew.ar t x 0 true HB.out ho).mono ?_
    rintro en w1 ⟨rfl, h1, t1⟩
    have H1 := Lib.hid (And.intro (H.out.1.drew.ar_ h1 t1) (Turns.trans ((Turns.refl _ _).drew) t1))
    clear h1 t1
    go_wp2
    go_ret
    have e : outR26 r.ar t x p = (casA r.ar t x 0, { p with pc := 0 }) := by unfold outR26; rw [if_pos H.out.2.2, HB.out]; rfl
    rw [e]
    have e2 : ({ ({ p with pc := 0 } : Sp) with pc := p.pc } : Sp) = p := rfl
    refine ⟨rfl, ?_, H1.out.2.mono (by simp)⟩
    rw [e2, set_self H.out.2.1]
    exact H1.out.1
set_option maxRecDepth 100000 in
set_option maxHeartbeats 1000000 in
theorem out14 {w : World} {l a g q : Nat} {t : Int} {r : Rg} (h : RgIs w l a g q t r) (n : Nat) (p : Sp) (hp : r.S[n]? = some p) (x : Int) (ho : r.ar.ops + 1 ≤ 1000000000000) (hpc : p.pc = 14) :
    Calls Try.prog 64 #[.pointer (some ⟨l, 0, none⟩), .pointer (some ⟨q, n * 4, none⟩), .int .i64 x] w (StepOk w l a g q t n r p (outR26 r.ar t x p)) := by
  have y : (p.pc == 14) = true := by rw [hpc]; rfl
  have n12 : (p.pc == 12) = false := by rw [hpc]; rfl
  have c0 : w.cell? ⟨l, 0, none⟩ = some (.pointer (some ⟨a, 0, none⟩)) := h.lk.cell 0
  have c1 : w.cell? ⟨l, 1, none⟩ = some (.int .i64 t) := h.lk.cell 1
  have a0 := h.sp.cell hp 0 _ rfl
  have a1 := h.sp.cell hp 1 _ rfl
  have a2 := h.sp.cell hp 2 _ rfl
  have a3 := h.sp.cell hp 3 _ rfl
  simp only [Nat.add_zero] at a0
  have H := Lib.hid (And.intro h (And.intro hp hpc))
  clear h hp hpc
  go_enter Try.func64, Try.ntmps64
  go_wp2
  refine wp_region_still_tail 14 (by kernel_rfl) (by kernel_rfl) ?_
  simp only [List.take_succ_cons, List.take_zero, List.drop_succ_cons, List.drop_zero]
  change wpStill _ _ (World.drew _) _ _ _
  repeat still_step
  still_call (same_calls (stat_any H.out.1.drew p.a))
  repeat still_step
  refine wpStill_nil ?_
  change wpList _ _ _ _ _ (World.drew w)
  go_wp2_with fail
  refine (store_any H.out.1.drew.ar (stA t p.a) p.c ho).mono ?_
  rintro en w1 ⟨rfl, h1, t1⟩
  have H1 := Lib.hid (And.intro (H.out.1.drew.ar_ h1 t1) (Turns.trans ((Turns.refl _ _).drew) t1))
  clear h1 t1
  go_wp2
  go_ret
  have e : outR26 r.ar t x p = (storeA r.ar (stA t p.a) p.c, { p with pc := 0 }) := by unfold outR26; rw [if_neg (by rw [H.out.2.2]; decide), if_pos H.out.2.2]
  rw [e]
  have e2 : ({ ({ p with pc := 0 } : Sp) with pc := p.pc } : Sp) = p := rfl
  refine ⟨rfl, ?_, H1.out.2.mono (by simp)⟩
  rw [e2, set_self H.out.2.1]
  exact H1.out.1
set_option maxRecDepth 100000 in
set_option maxHeartbeats 1000000 in
theorem out16 {w : World} {l a g q : Nat} {t : Int} {r : Rg} (h : RgIs w l a g q t r) (n : Nat) (p : Sp) (hp : r.S[n]? = some p) (x : Int) (ho : r.ar.ops + 1 ≤ 1000000000000) (hpc : p.pc = 16) :
    Calls Try.prog 64 #[.pointer (some ⟨l, 0, none⟩), .pointer (some ⟨q, n * 4, none⟩), .int .i64 x] w (StepOk w l a g q t n r p (outR26 r.ar t x p)) := by
  have y : (p.pc == 16) = true := by rw [hpc]; rfl
  have n12 : (p.pc == 12) = false := by rw [hpc]; rfl
  have n14 : (p.pc == 14) = false := by rw [hpc]; rfl
  have n15 : (p.pc == 15) = false := by rw [hpc]; rfl
  have c0 : w.cell? ⟨l, 0, none⟩ = some (.pointer (some ⟨a, 0, none⟩)) := h.lk.cell 0
  have c1 : w.cell? ⟨l, 1, none⟩ = some (.int .i64 t) := h.lk.cell 1
  have a0 := h.sp.cell hp 0 _ rfl
  have a1 := h.sp.cell hp 1 _ rfl
  have a2 := h.sp.cell hp 2 _ rfl
  have a3 := h.sp.cell hp 3 _ rfl
  simp only [Nat.add_zero] at a0
  have H := Lib.hid (And.intro h (And.intro hp hpc))
  clear h hp hpc
  go_enter Try.func64, Try.ntmps64
  go_wp2
  refine wp_region_still_tail 14 (by kernel_rfl) (by kernel_rfl) ?_
  simp only [List.take_succ_cons, List.take_zero, List.drop_succ_cons, List.drop_zero]
  change wpStill _ _ (World.drew _) _ _ _
  repeat still_step
  still_call (same_calls (stat_any H.out.1.drew p.b))
  repeat still_step
  refine wpStill_nil ?_
  change wpList _ _ _ _ _ (World.drew w)
  go_wp2_with fail
  refine (store_any H.out.1.drew.ar (stA t p.b) p.c ho).mono ?_
  rintro en w1 ⟨rfl, h1, t1⟩
  have H1 := Lib.hid (And.intro (H.out.1.drew.ar_ h1 t1) (Turns.trans ((Turns.refl _ _).drew) t1))
  clear h1 t1
  go_wp2
  go_ret
  have e : outR26 r.ar t x p = (storeA r.ar (stA t p.b) p.c, { p with pc := 0 }) := by unfold outR26; rw [if_neg (by rw [H.out.2.2]; decide), if_neg (by rw [H.out.2.2]; decide), if_neg (by rw [H.out.2.2]; decide), if_pos H.out.2.2]
  rw [e]
  have e2 : ({ ({ p with pc := 0 } : Sp) with pc := p.pc } : Sp) = p := rfl
  refine ⟨rfl, ?_, H1.out.2.mono (by simp)⟩
  rw [e2, set_self H.out.2.1]
  exact H1.out.1
set_option maxRecDepth 100000 in
set_option maxHeartbeats 1000000 in
theorem out15 {w : World} {l a g q : Nat} {t : Int} {r : Rg} (h : RgIs w l a g q t r) (n : Nat) (p : Sp) (hp : r.S[n]? = some p) (x : Int) (ho : r.ar.ops + 1 ≤ 1000000000000) (hpc : p.pc = 15) :
    Calls Try.prog 64 #[.pointer (some ⟨l, 0, none⟩), .pointer (some ⟨q, n * 4, none⟩), .int .i64 x] w (StepOk w l a g q t n r p (outR26 r.ar t x p)) := by
  have y : (p.pc == 15) = true := by rw [hpc]; rfl
  have n12 : (p.pc == 12) = false := by rw [hpc]; rfl
  have n14 : (p.pc == 14) = false := by rw [hpc]; rfl
  have c0 : w.cell? ⟨l, 0, none⟩ = some (.pointer (some ⟨a, 0, none⟩)) := h.lk.cell 0
  have c1 : w.cell? ⟨l, 1, none⟩ = some (.int .i64 t) := h.lk.cell 1
  have a0 := h.sp.cell hp 0 _ rfl
  have a1 := h.sp.cell hp 1 _ rfl
  have a2 := h.sp.cell hp 2 _ rfl
  have a3 := h.sp.cell hp 3 _ rfl
  simp only [Nat.add_zero] at a0
  have H := Lib.hid (And.intro h (And.intro hp hpc))
  clear h hp hpc
  go_enter Try.func64, Try.ntmps64
  go_wp2
  obtain ⟨v, hv⟩ : ∃ v, v = ldW r.ar.W (nxA t x) := ⟨_, rfl⟩
  have HV := Lib.hid hv
  clear hv
  have HD := Lib.hid H.out.1.drew
  go_region_held3 (fun W => W.cell? ⟨l, 0, none⟩ = some (.pointer (some ⟨a, 0, none⟩)) ∧ W.cell? ⟨l, 1, none⟩ = some (.int .i64 t))
    (first | exact ⟨c0, c1⟩ | exact ⟨k0, k1⟩ | exact hk.out _ _)
    (first
      | (go_at_call 96; go_loud (refine (next_any HD.out x).mono ?_); rintro en w1 ⟨rfl, rfl⟩)
      | (go_at_call 99; go_loud (refine (load_call HD.out.ar (nxA t x) v HV.out ho).mono ?_); rintro en w1 ⟨rfl, h1, t1⟩; have H1 := Lib.hid (And.intro (HD.out.ar_ h1 t1) (Turns.trans ((Turns.refl _ _).drew) t1)); have k0 : w1.cell? ⟨l, 0, none⟩ = some (.pointer (some ⟨a, 0, none⟩)) := H1.out.1.lk.cell 0; have k1 : w1.cell? ⟨l, 1, none⟩ = some (.int .i64 t) := H1.out.1.lk.cell 1; have hk : Hid (∀ (o : Nat) (u : Value), (w1.setCell ⟨q, o, none⟩ u).cell? ⟨l, 0, none⟩ = some (.pointer (some ⟨a, 0, none⟩)) ∧ (w1.setCell ⟨q, o, none⟩ u).cell? ⟨l, 1, none⟩ = some (.int .i64 t)) := Lib.hid fun o u => ⟨(H1.out.1.lk.far (p := ⟨q, o, none⟩) H1.out.1.lq u).cell 0, (H1.out.1.lk.far (p := ⟨q, o, none⟩) H1.out.1.lq u).cell 1⟩; have d0 := H1.out.1.sp.cell H.out.2.1 0 _ rfl; simp only [Nat.add_zero] at d0; have d1 := H1.out.1.sp.cell H.out.2.1 1 _ rfl; have d2 := H1.out.1.sp.cell H.out.2.1 2 _ rfl; have f1 := H1.out.1.sp.free (n * 4 + 1); have f2 := H1.out.1.sp.free (n * 4 + 2)))
  all_goals clear h1 t1
  cases hz : (v == 0)
  · have HZ : Hid (¬ v = 0) := Lib.hid (by simpa using hz)
    go_wp2
    go_ret
    have e : outR26 r.ar t x p = (loadA r.ar (nxA t x), { p with b := v, pc := 16 }) := by unfold outR26; rw [if_neg (by rw [H.out.2.2]; decide), if_neg (by rw [H.out.2.2]; decide), if_pos H.out.2.2, ← HV.out, if_neg HZ.out]
    rw [e]
    have g1 := H1.out.1.sp.put H.out.2.1 (j := 2) (u := .int .i64 v) (p' := { p with b := v }) (by decide) rfl
    have ht : Turns [q] w1 (w1.setCell ⟨q, n * 4 + 2, none⟩ (.int .i64 v)) := (Turns.refl _ _).setCell (.inl (by simp)) _
    refine ⟨rfl, ?_, (H1.out.2.mono (by simp)).trans (ht.mono (by simp))⟩
    have := H1.out.1.spot g1 (by simp) ht
    simpa using this
  · have HZ : Hid (v = 0) := Lib.hid (by simpa using hz)
    go_wp2
    go_ret
    have e : outR26 r.ar t x p = (loadA r.ar (nxA t x), { p with b := v, pc := 10 }) := by unfold outR26; rw [if_neg (by rw [H.out.2.2]; decide), if_neg (by rw [H.out.2.2]; decide), if_pos H.out.2.2, ← HV.out, if_pos HZ.out]
    rw [e]
    have g1 := H1.out.1.sp.put H.out.2.1 (j := 2) (u := .int .i64 v) (p' := { p with b := v }) (by decide) rfl
    have ht : Turns [q] w1 (w1.setCell ⟨q, n * 4 + 2, none⟩ (.int .i64 v)) := (Turns.refl _ _).setCell (.inl (by simp)) _
    refine ⟨rfl, ?_, (H1.out.2.mono (by simp)).trans (ht.mono (by simp))⟩
    have := H1.out.1.spot g1 (by simp) ht
    simpa using this
set_option maxRecDepth 100000 in
set_option maxHeartbeats 1000000 in
theorem out11 {w : World} {l a g q : Nat} {t : Int} {r : Rg} (h : RgIs w l a g q t r) (n : Nat) (p : Sp) (hp : r.S[n]? = some p) (x : Int) (ho : r.ar.ops + 1 ≤ 1000000000000) (hpc : p.pc = 11) :
    Calls Try.prog 64 #[.pointer (some ⟨l, 0, none⟩), .pointer (some ⟨q, n * 4, none⟩), .int .i64 x] w (StepOk w l a g q t n r p (outR26 r.ar t x p)) := by
  have y : (p.pc == 11) = true := by rw [hpc]; rfl
  have n12 : (p.pc == 12) = false := by rw [hpc]; rfl
  have n14 : (p.pc == 14) = false := by rw [hpc]; rfl
  have n15 : (p.pc == 15) = false := by rw [hpc]; rfl
  have n16 : (p.pc == 16) = false := by rw [hpc]; rfl
  have c0 : w.cell? ⟨l, 0, none⟩ = some (.pointer (some ⟨a, 0, none⟩)) := h.lk.cell 0
  have c1 : w.cell? ⟨l, 1, none⟩ = some (.int .i64 t) := h.lk.cell 1
  have a0 := h.sp.cell hp 0 _ rfl
  have a1 := h.sp.cell hp 1 _ rfl
  have a2 := h.sp.cell hp 2 _ rfl
  have a3 := h.sp.cell hp 3 _ rfl
  simp only [Nat.add_zero] at a0
  have H := Lib.hid (And.intro h (And.intro hp hpc))
  clear h hp hpc
  go_enter Try.func64, Try.ntmps64
  go_wp2
  obtain ⟨v, hv⟩ : ∃ v, v = ldW r.ar.W (nxA t x) := ⟨_, rfl⟩
  have HV := Lib.hid hv
  clear hv
  have HD := Lib.hid H.out.1.drew
  go_region_held3 (fun W => W.cell? ⟨l, 0, none⟩ = some (.pointer (some ⟨a, 0, none⟩)) ∧ W.cell? ⟨l, 1, none⟩ = some (.int .i64 t))
    (first | exact ⟨c0, c1⟩ | exact ⟨k0, k1⟩ | exact hk.out _ _)
    (first
      | (go_at_call 96; go_loud (refine (next_any HD.out x).mono ?_); rintro en w1 ⟨rfl, rfl⟩)
      | (go_at_call 99; go_loud (refine (load_call HD.out.ar (nxA t x) v HV.out ho).mono ?_); rintro en w1 ⟨rfl, h1, t1⟩; have H1 := Lib.hid (And.intro (HD.out.ar_ h1 t1) (Turns.trans ((Turns.refl _ _).drew) t1)); have k0 : w1.cell? ⟨l, 0, none⟩ = some (.pointer (some ⟨a, 0, none⟩)) := H1.out.1.lk.cell 0; have k1 : w1.cell? ⟨l, 1, none⟩ = some (.int .i64 t) := H1.out.1.lk.cell 1; have hk : Hid (∀ (o : Nat) (u : Value), (w1.setCell ⟨q, o, none⟩ u).cell? ⟨l, 0, none⟩ = some (.pointer (some ⟨a, 0, none⟩)) ∧ (w1.setCell ⟨q, o, none⟩ u).cell? ⟨l, 1, none⟩ = some (.int .i64 t)) := Lib.hid fun o u => ⟨(H1.out.1.lk.far (p := ⟨q, o, none⟩) H1.out.1.lq u).cell 0, (H1.out.1.lk.far (p := ⟨q, o, none⟩) H1.out.1.lq u).cell 1⟩; have d0 := H1.out.1.sp.cell H.out.2.1 0 _ rfl; simp only [Nat.add_zero] at d0; have d1 := H1.out.1.sp.cell H.out.2.1 1 _ rfl; have d2 := H1.out.1.sp.cell H.out.2.1 2 _ rfl; have f1 := H1.out.1.sp.free (n * 4 + 1); have f2 := H1.out.1.sp.free (n * 4 + 2)))
  all_goals clear h1 t1
  cases hz : (v != 0)
  · have HZ : Hid (¬ v ≠ 0) := Lib.hid (by simpa using hz)
    go_wp2
    go_ret
    have e : outR26 r.ar t x p = (loadA r.ar (nxA t x), { p with a := v, pc := 12 }) := by unfold outR26; rw [if_neg (by rw [H.out.2.2]; decide), if_neg (by rw [H.out.2.2]; decide), if_neg (by rw [H.out.2.2]; decide), if_neg (by rw [H.out.2.2]; decide), ← HV.out, if_neg HZ.out, if_pos H.out.2.2]
    rw [e]
    have g1 := H1.out.1.sp.put H.out.2.1 (j := 1) (u := .int .i64 v) (p' := { p with a := v }) (by decide) rfl
    have ht : Turns [q] w1 (w1.setCell ⟨q, n * 4 + 1, none⟩ (.int .i64 v)) := (Turns.refl _ _).setCell (.inl (by simp)) _
    refine ⟨rfl, ?_, (H1.out.2.mono (by simp)).trans (ht.mono (by simp))⟩
    have := H1.out.1.spot g1 (by simp) ht
    simpa using this
  · have HZ : Hid (v ≠ 0) := Lib.hid (by simpa using hz)
    go_wp2
    go_ret
    have e : outR26 r.ar t x p = (loadA r.ar (nxA t x), { p with a := v, pc := 14 }) := by unfold outR26; rw [if_neg (by rw [H.out.2.2]; decide), if_neg (by rw [H.out.2.2]; decide), if_neg (by rw [H.out.2.2]; decide), if_neg (by rw [H.out.2.2]; decide), ← HV.out, if_pos HZ.out]
    rw [e]
    have g1 := H1.out.1.sp.put H.out.2.1 (j := 1) (u := .int .i64 v) (p' := { p with a := v }) (by decide) rfl
    have ht : Turns [q] w1 (w1.setCell ⟨q, n * 4 + 1, none⟩ (.int .i64 v)) := (Turns.refl _ _).setCell (.inl (by simp)) _
    refine ⟨rfl, ?_, (H1.out.2.mono (by simp)).trans (ht.mono (by simp))⟩
    have := H1.out.1.spot g1 (by simp) ht
    simpa using this
set_option maxRecDepth 100000 in
set_option maxHeartbeats 1000000 in
theorem out13 {w : World} {l a g q : Nat} {t : Int} {r : Rg} (h : RgIs w l a g q t r) (n : Nat) (p : Sp) (hp : r.S[n]? = some p) (x : Int) (ho : r.ar.ops + 1 ≤ 1000000000000) (hpc : p.pc = 13) :
    Calls Try.prog 64 #[.pointer (some ⟨l, 0, none⟩), .pointer (some ⟨q, n * 4, none⟩), .int .i64 x] w (StepOk w l a g q t n r p (outR26 r.ar t x p)) := by
  have n12 : (p.pc == 12) = false := by rw [beq_eq_false_iff_ne]; omega
  have n14 : (p.pc == 14) = false := by rw [beq_eq_false_iff_ne]; omega
  have n15 : (p.pc == 15) = false := by rw [beq_eq_false_iff_ne]; omega
  have n16 : (p.pc == 16) = false := by rw [beq_eq_false_iff_ne]; omega
  have n11 : (p.pc == 11) = false := by rw [beq_eq_false_iff_ne]; omega
  have c0 : w.cell? ⟨l, 0, none⟩ = some (.pointer (some ⟨a, 0, none⟩)) := h.lk.cell 0
  have c1 : w.cell? ⟨l, 1, none⟩ = some (.int .i64 t) := h.lk.cell 1
  have a0 := h.sp.cell hp 0 _ rfl
  have a1 := h.sp.cell hp 1 _ rfl
  have a2 := h.sp.cell hp 2 _ rfl
  have a3 := h.sp.cell hp 3 _ rfl
  simp only [Nat.add_zero] at a0
  have H := Lib.hid (And.intro h (And.intro hp hpc))
  clear h hp hpc
  go_enter Try.func64, Try.ntmps64
  go_wp2
  obtain ⟨v, hv⟩ : ∃ v, v = ldW r.ar.W (nxA t x) := ⟨_, rfl⟩
  have HV := Lib.hid hv
  clear hv
  have HD := Lib.hid H.out.1.drew
  go_region_held3 (fun W => W.cell? ⟨l, 0, none⟩ = some (.pointer (some ⟨a, 0, none⟩)) ∧ W.cell? ⟨l, 1, none⟩ = some (.int .i64 t))
    (first | exact ⟨c0, c1⟩ | exact ⟨k0, k1⟩ | exact hk.out _ _)
    (first
      | (go_at_call 96; go_loud (refine (next_any HD.out x).mono ?_); rintro en w1 ⟨rfl, rfl⟩)
      | (go_at_call 99; go_loud (refine (load_call HD.out.ar (nxA t x) v HV.out ho).mono ?_); rintro en w1 ⟨rfl, h1, t1⟩; have H1 := Lib.hid (And.intro (HD.out.ar_ h1 t1) (Turns.trans ((Turns.refl _ _).drew) t1)); have k0 : w1.cell? ⟨l, 0, none⟩ = some (.pointer (some ⟨a, 0, none⟩)) := H1.out.1.lk.cell 0; have k1 : w1.cell? ⟨l, 1, none⟩ = some (.int .i64 t) := H1.out.1.lk.cell 1; have hk : Hid (∀ (o : Nat) (u : Value), (w1.setCell ⟨q, o, none⟩ u).cell? ⟨l, 0, none⟩ = some (.pointer (some ⟨a, 0, none⟩)) ∧ (w1.setCell ⟨q, o, none⟩ u).cell? ⟨l, 1, none⟩ = some (.int .i64 t)) := Lib.hid fun o u => ⟨(H1.out.1.lk.far (p := ⟨q, o, none⟩) H1.out.1.lq u).cell 0, (H1.out.1.lk.far (p := ⟨q, o, none⟩) H1.out.1.lq u).cell 1⟩; have d0 := H1.out.1.sp.cell H.out.2.1 0 _ rfl; simp only [Nat.add_zero] at d0; have d1 := H1.out.1.sp.cell H.out.2.1 1 _ rfl; have d2 := H1.out.1.sp.cell H.out.2.1 2 _ rfl; have f1 := H1.out.1.sp.free (n * 4 + 1); have f2 := H1.out.1.sp.free (n * 4 + 2)))
  all_goals clear h1 t1
  cases hz : (v != 0)
  · have HZ : Hid (¬ v ≠ 0) := Lib.hid (by simpa using hz)
    go_wp2
    go_ret
    have e : outR26 r.ar t x p = (loadA r.ar (nxA t x), { p with a := v, pc := 13 }) := by unfold outR26; rw [if_neg (by rw [H.out.2.2]; decide), if_neg (by rw [H.out.2.2]; decide), if_neg (by rw [H.out.2.2]; decide), if_neg (by rw [H.out.2.2]; decide), ← HV.out, if_neg HZ.out, if_neg (by rw [H.out.2.2]; decide)]
    rw [e]
    have g1 := H1.out.1.sp.put H.out.2.1 (j := 1) (u := .int .i64 v) (p' := { p with a := v }) (by decide) rfl
    have ht : Turns [q] w1 (w1.setCell ⟨q, n * 4 + 1, none⟩ (.int .i64 v)) := (Turns.refl _ _).setCell (.inl (by simp)) _
    refine ⟨rfl, ?_, (H1.out.2.mono (by simp)).trans (ht.mono (by simp))⟩
    have := H1.out.1.spot g1 (by simp) ht
    simpa using this
  · have HZ : Hid (v ≠ 0) := Lib.hid (by simpa using hz)
    go_wp2
    go_ret
    have e : outR26 r.ar t x p = (loadA r.ar (nxA t x), { p with a := v, pc := 14 }) := by unfold outR26; rw [if_neg (by rw [H.out.2.2]; decide), if_neg (by rw [H.out.2.2]; decide), if_neg (by rw [H.out.2.2]; decide), if_neg (by rw [H.out.2.2]; decide), ← HV.out, if_pos HZ.out]
    rw [e]
    have g1 := H1.out.1.sp.put H.out.2.1 (j := 1) (u := .int .i64 v) (p' := { p with a := v }) (by decide) rfl
    have ht : Turns [q] w1 (w1.setCell ⟨q, n * 4 + 1, none⟩ (.int .i64 v)) := (Turns.refl _ _).setCell (.inl (by simp)) _
    refine ⟨rfl, ?_, (H1.out.2.mono (by simp)).trans (ht.mono (by simp))⟩
    have := H1.out.1.spot g1 (by simp) ht
    simpa using this
end Go.Proofs.Ythgpjiebeinamaa
