/- Layer 26: the document's rung's steps (written by wip/gen_rr3.py). -/
import Derived.Test.YthgpjiebeinamaaRr2
import Derived.Test.YthgpjiebeinamaaRgG1
import Derived.StillTailTactics
import Derived.Deep.RegionHeld3
namespace Go.Proofs.Ythgpjiebeinamaa
open Go.RowKit

def RrOk (w : World) (y b gw cap q cq : Nat) (t : Int) (x : Rg × Bool) (e : Ending) (w' : World) : Prop := e = .returned (.bool x.2) ∧ RrIs w' y b gw cap q cq t x.1 ∧ Turns [b, gw, q] w w'
theorem same_callsR {P : Program} {f : FuncId} {args : Array Value} {w : World} {v : Value} (h : Calls P f args w fun e w' => e = .returned v ∧ w = w') : Calls P f args w fun e w' => e = .returned v ∧ w' = w :=
  h.mono fun _ _ ⟨a, b⟩ => ⟨a, b.symm⟩
theorem stepRg_at {r : Rg} {t : Int} {n : Nat} {p : Sp} {x : Ar × Sp} {c : Bool} (hp : r.S[n]? = some p) (h0 : p.pc ≠ 0) (h1 : p.pc ≠ 10) (hx : stepP r.ar t ((n : Int) + 1) p = x) (hb : decide (x.2.pc = 0 ∨ x.2.pc = 10) = c) :
    stepRg r t n = (⟨x.1, r.S.set n x.2⟩, c) := by
  have hn : n < r.S.length := (List.getElem?_eq_some_iff.1 hp).1
  have hi : okI r.S n := ⟨by omega, by omega⟩
  have hg : getS r.S n = p := by
    have := getS_in hi
    simp only [Int.toNat_natCast] at this
    rw [hp] at this
    injection this with this
    exact this.symm
  have := stepRg_of (r := r) (t := t) (i := n) (x := x) (b := c) hi (by rw [hg]; exact h0) (by rw [hg]; exact h1) (by rw [hg]; exact hx) hb
  simpa using this
set_option maxRecDepth 100000 in
set_option maxHeartbeats 2000000 in
theorem rstep1 {w : World} {y b gw cap q cq : Nat} {t : Int} {r : Rg} (h : RrIs w y b gw cap q cq t r) (n : Nat) (pa pb pc : Int) (hp : r.S[n]? = some ⟨1, pa, pb, pc⟩) (ho : r.ar.ops + 1 ≤ 1000000000000) :
    Calls Try.prog 40 #[.pointer (some ⟨y, 0, none⟩), .int .i64 n] w (RrOk w y b gw cap q cq t (stepRg r t n)) := by
  have hn : n < r.S.length := (List.getElem?_eq_some_iff.1 hp).1
  have hlen := h.len
  have c0 : w.cell? ⟨y, 0, none⟩ = some (.pointer (some ⟨b, 0, none⟩)) := h.lk.cell 0
  have c1 : w.cell? ⟨y, 1, none⟩ = some (.int .i64 t) := h.lk.cell 1
  have c2 : w.cell? ⟨y, 2, none⟩ = some (.slice (some ⟨q, 0, none⟩) r.S.length cq) := h.lk.cell 2
  have a0 := h.cell hp 0 _ rfl
  have a1 := h.cell hp 1 _ rfl
  have a2 := h.cell hp 2 _ rfl
  have a3 := h.cell hp 3 _ rfl
  simp only [Nat.add_zero] at a0
  have t2 : ¬ (n : Int) < 0 := by omega
  have u2 : decide ((n : Int) < 0) = false := decide_eq_false t2
  have t3 : ¬ ((r.S.length : Nat) : Int) ≤ (n : Int) := by omega
  have t4 : (n : Int) < r.S.length := by omega
  have hyq := h.yq
  have H := Lib.hid (And.intro h hp)
  have HD := Lib.hid h.drew
  clear h hp
  go_enter Try.func40, Try.ntmps40
  go_wp2
  refine wp_region_still_tail 7 (by kernel_rfl) (by kernel_rfl) ?_
  simp only [List.take_succ_cons, List.take_zero, List.drop_succ_cons, List.drop_zero]
  change wpStill _ _ (World.drew _) _ _ _
  repeat still_step
  still_call (same_callsR (rnext_any HD.out ((n : Int) + 1)))
  repeat still_step
  refine wpStill_nil ?_
  change wpList _ _ _ _ _ (World.drew w)
  go_wp2_with fail
  refine (rstore_any HD.out.ar (nxA t ((n : Int) + 1)) 0 ho).mono ?_
  rintro en w1 ⟨rfl, h1, t1⟩
  have H1 := Lib.hid (And.intro (HD.out.ar_ h1 t1) (Turns.trans ((Turns.refl _ _).drew) t1))
  clear h1 t1
  have k0 : w1.cell? ⟨y, 0, none⟩ = some (.pointer (some ⟨b, 0, none⟩)) := H1.out.1.lk.cell 0
  have k1 : w1.cell? ⟨y, 1, none⟩ = some (.int .i64 t) := H1.out.1.lk.cell 1
  have k2 : w1.cell? ⟨y, 2, none⟩ = some (.slice (some ⟨q, 0, none⟩) r.S.length cq) := H1.out.1.lk.cell 2
  have d0 := H1.out.1.cell H.out.2 0 _ rfl
  simp only [Nat.add_zero] at d0
  have d1 := H1.out.1.cell H.out.2 1 _ rfl
  have d2 := H1.out.1.cell H.out.2 2 _ rfl
  have d3 := H1.out.1.cell H.out.2 3 _ rfl
  have f0 := H1.out.1.free (n * 4)
  have f1 := H1.out.1.free (n * 4 + 1)
  have f2 := H1.out.1.free (n * 4 + 2)
  have hq := H1.out.1.lt
  have e : stepP r.ar t ((n : Int) + 1) ⟨1, pa, pb, pc⟩ = (storeA r.ar (nxA t ((n : Int) + 1)) 0, ⟨2, pa, pb, pc⟩) := by
    unfold stepP inR26; rw [if_pos (show (1 : Int) < 10 by decide), if_pos (show (1 : Int) = 1 by rfl)]
  have E := Lib.hid (stepRg_at (c := false) H.out.2 (show (1 : Int) ≠ 0 by decide) (show (1 : Int) ≠ 10 by decide) e rfl)
  clear e
  go_wp2
  go_ret
  rw [E.out]
  have g0 := H1.out.1.put (i := n) (p := ⟨1, pa, pb, pc⟩) (H.out.2) (j := 0) (u := .int .i64 2) (p' := ⟨2, pa, pb, pc⟩) (by decide) rfl
  have ht : Turns [q] w1 (w1.setCell ⟨q, n * 4 + 0, none⟩ (.int .i64 2)) := (Turns.refl _ _).setCell (.inl (by simp)) _
  refine ⟨rfl, ?_, ?_⟩
  · simpa using g0
  · have := (H1.out.2.mono (T := [b, gw, q]) (by simp)).trans (ht.mono (T := [b, gw, q]) (by simp))
    simpa using this
set_option maxRecDepth 100000 in
set_option maxHeartbeats 2000000 in
theorem rstep2 {w : World} {y b gw cap q cq : Nat} {t : Int} {r : Rg} (h : RrIs w y b gw cap q cq t r) (n : Nat) (pa pb pc : Int) (hp : r.S[n]? = some ⟨2, pa, pb, pc⟩) (ho : r.ar.ops + 1 ≤ 1000000000000) :
    Calls Try.prog 40 #[.pointer (some ⟨y, 0, none⟩), .int .i64 n] w (RrOk w y b gw cap q cq t (stepRg r t n)) := by
  have hn : n < r.S.length := (List.getElem?_eq_some_iff.1 hp).1
  have hlen := h.len
  have c0 : w.cell? ⟨y, 0, none⟩ = some (.pointer (some ⟨b, 0, none⟩)) := h.lk.cell 0
  have c1 : w.cell? ⟨y, 1, none⟩ = some (.int .i64 t) := h.lk.cell 1
  have c2 : w.cell? ⟨y, 2, none⟩ = some (.slice (some ⟨q, 0, none⟩) r.S.length cq) := h.lk.cell 2
  have a0 := h.cell hp 0 _ rfl
  have a1 := h.cell hp 1 _ rfl
  have a2 := h.cell hp 2 _ rfl
  have a3 := h.cell hp 3 _ rfl
  simp only [Nat.add_zero] at a0
  have t2 : ¬ (n : Int) < 0 := by omega
  have u2 : decide ((n : Int) < 0) = false := decide_eq_false t2
  have t3 : ¬ ((r.S.length : Nat) : Int) ≤ (n : Int) := by omega
  have t4 : (n : Int) < r.S.length := by omega
  have hyq := h.yq
  have H := Lib.hid (And.intro h hp)
  have HD := Lib.hid h.drew
  clear h hp
  go_enter Try.func40, Try.ntmps40
  go_wp2
  refine wp_region_still_tail 7 (by kernel_rfl) (by kernel_rfl) ?_
  simp only [List.take_succ_cons, List.take_zero, List.drop_succ_cons, List.drop_zero]
  change wpStill _ _ (World.drew _) _ _ _
  repeat still_step
  still_call (same_callsR (rstat_any HD.out ((n : Int) + 1)))
  repeat still_step
  refine wpStill_nil ?_
  change wpList _ _ _ _ _ (World.drew w)
  go_wp2_with fail
  refine (rstore_any HD.out.ar (stA t ((n : Int) + 1)) 0 ho).mono ?_
  rintro en w1 ⟨rfl, h1, t1⟩
  have H1 := Lib.hid (And.intro (HD.out.ar_ h1 t1) (Turns.trans ((Turns.refl _ _).drew) t1))
  clear h1 t1
  have k0 : w1.cell? ⟨y, 0, none⟩ = some (.pointer (some ⟨b, 0, none⟩)) := H1.out.1.lk.cell 0
  have k1 : w1.cell? ⟨y, 1, none⟩ = some (.int .i64 t) := H1.out.1.lk.cell 1
  have k2 : w1.cell? ⟨y, 2, none⟩ = some (.slice (some ⟨q, 0, none⟩) r.S.length cq) := H1.out.1.lk.cell 2
  have d0 := H1.out.1.cell H.out.2 0 _ rfl
  simp only [Nat.add_zero] at d0
  have d1 := H1.out.1.cell H.out.2 1 _ rfl
  have d2 := H1.out.1.cell H.out.2 2 _ rfl
  have d3 := H1.out.1.cell H.out.2 3 _ rfl
  have f0 := H1.out.1.free (n * 4)
  have f1 := H1.out.1.free (n * 4 + 1)
  have f2 := H1.out.1.free (n * 4 + 2)
  have hq := H1.out.1.lt
  have e : stepP r.ar t ((n : Int) + 1) ⟨2, pa, pb, pc⟩ = (storeA r.ar (stA t ((n : Int) + 1)) 0, ⟨3, pa, pb, pc⟩) := by
    unfold stepP inR26; rw [if_pos (show (2 : Int) < 10 by decide), if_neg (show ¬ (2 : Int) = 1 by decide), if_pos (show (2 : Int) = 2 by rfl)]
  have E := Lib.hid (stepRg_at (c := false) H.out.2 (show (2 : Int) ≠ 0 by decide) (show (2 : Int) ≠ 10 by decide) e rfl)
  clear e
  go_wp2
  go_ret
  rw [E.out]
  have g0 := H1.out.1.put (i := n) (p := ⟨2, pa, pb, pc⟩) (H.out.2) (j := 0) (u := .int .i64 3) (p' := ⟨3, pa, pb, pc⟩) (by decide) rfl
  have ht : Turns [q] w1 (w1.setCell ⟨q, n * 4 + 0, none⟩ (.int .i64 3)) := (Turns.refl _ _).setCell (.inl (by simp)) _
  refine ⟨rfl, ?_, ?_⟩
  · simpa using g0
  · have := (H1.out.2.mono (T := [b, gw, q]) (by simp)).trans (ht.mono (T := [b, gw, q]) (by simp))
    simpa using this
set_option maxRecDepth 100000 in
set_option maxHeartbeats 2000000 in
theorem rstep4 {w : World} {y b gw cap q cq : Nat} {t : Int} {r : Rg} (h : RrIs w y b gw cap q cq t r) (n : Nat) (pa pb pc : Int) (hp : r.S[n]? = some ⟨4, pa, pb, pc⟩) (ho : r.ar.ops + 1 ≤ 1000000000000) :
    Calls Try.prog 40 #[.pointer (some ⟨y, 0, none⟩), .int .i64 n] w (RrOk w y b gw cap q cq t (stepRg r t n)) := by
  have hn : n < r.S.length := (List.getElem?_eq_some_iff.1 hp).1
  have hlen := h.len
  have c0 : w.cell? ⟨y, 0, none⟩ = some (.pointer (some ⟨b, 0, none⟩)) := h.lk.cell 0
  have c1 : w.cell? ⟨y, 1, none⟩ = some (.int .i64 t) := h.lk.cell 1
  have c2 : w.cell? ⟨y, 2, none⟩ = some (.slice (some ⟨q, 0, none⟩) r.S.length cq) := h.lk.cell 2
  have a0 := h.cell hp 0 _ rfl
  have a1 := h.cell hp 1 _ rfl
  have a2 := h.cell hp 2 _ rfl
  have a3 := h.cell hp 3 _ rfl
  simp only [Nat.add_zero] at a0
  have t2 : ¬ (n : Int) < 0 := by omega
  have u2 : decide ((n : Int) < 0) = false := decide_eq_false t2
  have t3 : ¬ ((r.S.length : Nat) : Int) ≤ (n : Int) := by omega
  have t4 : (n : Int) < r.S.length := by omega
  have hyq := h.yq
  have H := Lib.hid (And.intro h hp)
  have HD := Lib.hid h.drew
  clear h hp
  go_enter Try.func40, Try.ntmps40
  go_wp2
  refine wp_region_still_tail 15 (by kernel_rfl) (by kernel_rfl) ?_
  simp only [List.take_succ_cons, List.take_zero, List.drop_succ_cons, List.drop_zero]
  change wpStill _ _ (World.drew _) _ _ _
  repeat still_step
  still_call (same_callsR (rnext_any HD.out pa))
  repeat still_step
  refine wpStill_nil ?_
  change wpList _ _ _ _ _ (World.drew w)
  go_wp2_with fail
  refine (rstore_any HD.out.ar (nxA t pa) ((n : Int) + 1) ho).mono ?_
  rintro en w1 ⟨rfl, h1, t1⟩
  have H1 := Lib.hid (And.intro (HD.out.ar_ h1 t1) (Turns.trans ((Turns.refl _ _).drew) t1))
  clear h1 t1
  have k0 : w1.cell? ⟨y, 0, none⟩ = some (.pointer (some ⟨b, 0, none⟩)) := H1.out.1.lk.cell 0
  have k1 : w1.cell? ⟨y, 1, none⟩ = some (.int .i64 t) := H1.out.1.lk.cell 1
  have k2 : w1.cell? ⟨y, 2, none⟩ = some (.slice (some ⟨q, 0, none⟩) r.S.length cq) := H1.out.1.lk.cell 2
  have d0 := H1.out.1.cell H.out.2 0 _ rfl
  simp only [Nat.add_zero] at d0
  have d1 := H1.out.1.cell H.out.2 1 _ rfl
  have d2 := H1.out.1.cell H.out.2 2 _ rfl
  have d3 := H1.out.1.cell H.out.2 3 _ rfl
  have f0 := H1.out.1.free (n * 4)
  have f1 := H1.out.1.free (n * 4 + 1)
  have f2 := H1.out.1.free (n * 4 + 2)
  have hq := H1.out.1.lt
  have e : stepP r.ar t ((n : Int) + 1) ⟨4, pa, pb, pc⟩ = (storeA r.ar (nxA t pa) ((n : Int) + 1), ⟨5, pa, pb, pc⟩) := by
    unfold stepP inR26; rw [if_pos (show (4 : Int) < 10 by decide), if_neg (show ¬ (4 : Int) = 1 by decide), if_neg (show ¬ (4 : Int) = 2 by decide), if_neg (show ¬ (4 : Int) = 3 by decide), if_pos (show (4 : Int) = 4 by rfl)]
  have E := Lib.hid (stepRg_at (c := false) H.out.2 (show (4 : Int) ≠ 0 by decide) (show (4 : Int) ≠ 10 by decide) e rfl)
  clear e
  go_wp2
  go_ret
  rw [E.out]
  have g0 := H1.out.1.put (i := n) (p := ⟨4, pa, pb, pc⟩) (H.out.2) (j := 0) (u := .int .i64 5) (p' := ⟨5, pa, pb, pc⟩) (by decide) rfl
  have ht : Turns [q] w1 (w1.setCell ⟨q, n * 4 + 0, none⟩ (.int .i64 5)) := (Turns.refl _ _).setCell (.inl (by simp)) _
  refine ⟨rfl, ?_, ?_⟩
  · simpa using g0
  · have := (H1.out.2.mono (T := [b, gw, q]) (by simp)).trans (ht.mono (T := [b, gw, q]) (by simp))
    simpa using this
set_option maxRecDepth 100000 in
set_option maxHeartbeats 2000000 in
theorem rstep6 {w : World} {y b gw cap q cq : Nat} {t : Int} {r : Rg} (h : RrIs w y b gw cap q cq t r) (n : Nat) (pa pb pc : Int) (hp : r.S[n]? = some ⟨6, pa, pb, pc⟩) (ho : r.ar.ops + 1 ≤ 1000000000000) :
    Calls Try.prog 40 #[.pointer (some ⟨y, 0, none⟩), .int .i64 n] w (RrOk w y b gw cap q cq t (stepRg r t n)) := by
  have hn : n < r.S.length := (List.getElem?_eq_some_iff.1 hp).1
  have hlen := h.len
  have c0 : w.cell? ⟨y, 0, none⟩ = some (.pointer (some ⟨b, 0, none⟩)) := h.lk.cell 0
  have c1 : w.cell? ⟨y, 1, none⟩ = some (.int .i64 t) := h.lk.cell 1
  have c2 : w.cell? ⟨y, 2, none⟩ = some (.slice (some ⟨q, 0, none⟩) r.S.length cq) := h.lk.cell 2
  have a0 := h.cell hp 0 _ rfl
  have a1 := h.cell hp 1 _ rfl
  have a2 := h.cell hp 2 _ rfl
  have a3 := h.cell hp 3 _ rfl
  simp only [Nat.add_zero] at a0
  have t2 : ¬ (n : Int) < 0 := by omega
  have u2 : decide ((n : Int) < 0) = false := decide_eq_false t2
  have t3 : ¬ ((r.S.length : Nat) : Int) ≤ (n : Int) := by omega
  have t4 : (n : Int) < r.S.length := by omega
  have hyq := h.yq
  have H := Lib.hid (And.intro h hp)
  have HD := Lib.hid h.drew
  clear h hp
  go_enter Try.func40, Try.ntmps40
  go_wp2
  refine wp_region_still_tail 7 (by kernel_rfl) (by kernel_rfl) ?_
  simp only [List.take_succ_cons, List.take_zero, List.drop_succ_cons, List.drop_zero]
  change wpStill _ _ (World.drew _) _ _ _
  repeat still_step
  still_call (same_callsR (rstat_any HD.out ((n : Int) + 1)))
  repeat still_step
  refine wpStill_nil ?_
  change wpList _ _ _ _ _ (World.drew w)
  go_wp2_with fail
  refine (rstore_any HD.out.ar (stA t ((n : Int) + 1)) 1 ho).mono ?_
  rintro en w1 ⟨rfl, h1, t1⟩
  have H1 := Lib.hid (And.intro (HD.out.ar_ h1 t1) (Turns.trans ((Turns.refl _ _).drew) t1))
  clear h1 t1
  have k0 : w1.cell? ⟨y, 0, none⟩ = some (.pointer (some ⟨b, 0, none⟩)) := H1.out.1.lk.cell 0
  have k1 : w1.cell? ⟨y, 1, none⟩ = some (.int .i64 t) := H1.out.1.lk.cell 1
  have k2 : w1.cell? ⟨y, 2, none⟩ = some (.slice (some ⟨q, 0, none⟩) r.S.length cq) := H1.out.1.lk.cell 2
  have d0 := H1.out.1.cell H.out.2 0 _ rfl
  simp only [Nat.add_zero] at d0
  have d1 := H1.out.1.cell H.out.2 1 _ rfl
  have d2 := H1.out.1.cell H.out.2 2 _ rfl
  have d3 := H1.out.1.cell H.out.2 3 _ rfl
  have f0 := H1.out.1.free (n * 4)
  have f1 := H1.out.1.free (n * 4 + 1)
  have f2 := H1.out.1.free (n * 4 + 2)
  have hq := H1.out.1.lt
  have e : stepP r.ar t ((n : Int) + 1) ⟨6, pa, pb, pc⟩ = (storeA r.ar (stA t ((n : Int) + 1)) 1, ⟨10, 1, 1, pc⟩) := by
    unfold stepP inR26; rw [if_pos (show (6 : Int) < 10 by decide), if_neg (show ¬ (6 : Int) = 1 by decide), if_neg (show ¬ (6 : Int) = 2 by decide), if_neg (show ¬ (6 : Int) = 3 by decide), if_neg (show ¬ (6 : Int) = 4 by decide), if_neg (show ¬ (6 : Int) = 5 by decide)]
  have E := Lib.hid (stepRg_at (c := true) H.out.2 (show (6 : Int) ≠ 0 by decide) (show (6 : Int) ≠ 10 by decide) e rfl)
  clear e
  go_wp2
  go_ret
  rw [E.out]
  have g0 := H1.out.1.put (i := n) (p := ⟨6, pa, pb, pc⟩) (H.out.2) (j := 1) (u := .int .i64 1) (p' := ⟨6, 1, pb, pc⟩) (by decide) rfl
  have g1 := g0.put (i := n) (p := ⟨6, 1, pb, pc⟩) (by simp [hn]) (j := 2) (u := .int .i64 1) (p' := ⟨6, 1, 1, pc⟩) (by decide) rfl
  have g2 := g1.put (i := n) (p := ⟨6, 1, 1, pc⟩) (by simp [hn]) (j := 0) (u := .int .i64 10) (p' := ⟨10, 1, 1, pc⟩) (by decide) rfl
  have ht : Turns [q] w1 (((w1.setCell ⟨q, n * 4 + 1, none⟩ (.int .i64 1)).setCell ⟨q, n * 4 + 2, none⟩ (.int .i64 1)).setCell ⟨q, n * 4 + 0, none⟩ (.int .i64 10)) := (((Turns.refl _ _).setCell (.inl (by simp)) _).setCell (.inl (by simp)) _).setCell (.inl (by simp)) _
  refine ⟨rfl, ?_, ?_⟩
  · simpa using g2
  · have := (H1.out.2.mono (T := [b, gw, q]) (by simp)).trans (ht.mono (T := [b, gw, q]) (by simp))
    simpa using this
set_option maxRecDepth 100000 in
set_option maxHeartbeats 2000000 in
theorem rstep3 {w : World} {y b gw cap q cq : Nat} {t : Int} {r : Rg} (h : RrIs w y b gw cap q cq t r) (n : Nat) (pa pb pc : Int) (hp : r.S[n]? = some ⟨3, pa, pb, pc⟩) (ho : r.ar.ops + 1 ≤ 1000000000000) :
    Calls Try.prog 40 #[.pointer (some ⟨y, 0, none⟩), .int .i64 n] w (RrOk w y b gw cap q cq t (stepRg r t n)) := by
  have hn : n < r.S.length := (List.getElem?_eq_some_iff.1 hp).1
  have hlen := h.len
  have c0 : w.cell? ⟨y, 0, none⟩ = some (.pointer (some ⟨b, 0, none⟩)) := h.lk.cell 0
  have c1 : w.cell? ⟨y, 1, none⟩ = some (.int .i64 t) := h.lk.cell 1
  have c2 : w.cell? ⟨y, 2, none⟩ = some (.slice (some ⟨q, 0, none⟩) r.S.length cq) := h.lk.cell 2
  have a0 := h.cell hp 0 _ rfl
  have a1 := h.cell hp 1 _ rfl
  have a2 := h.cell hp 2 _ rfl
  have a3 := h.cell hp 3 _ rfl
  simp only [Nat.add_zero] at a0
  have t2 : ¬ (n : Int) < 0 := by omega
  have u2 : decide ((n : Int) < 0) = false := decide_eq_false t2
  have t3 : ¬ ((r.S.length : Nat) : Int) ≤ (n : Int) := by omega
  have t4 : (n : Int) < r.S.length := by omega
  have hyq := h.yq
  have H := Lib.hid (And.intro h hp)
  have HD := Lib.hid h.drew
  clear h hp
  obtain ⟨v, hv⟩ : ∃ v, v = ldW r.ar.W (t) := ⟨_, rfl⟩
  have HV := Lib.hid hv
  clear hv
  go_enter Try.func40, Try.ntmps40
  go_wp2
  go_region_held3 (fun W => W.cell? ⟨y, 0, none⟩ = some (.pointer (some ⟨b, 0, none⟩)) ∧ W.cell? ⟨y, 1, none⟩ = some (.int .i64 t) ∧ W.cell? ⟨y, 2, none⟩ = some (.slice (some ⟨q, 0, none⟩) r.S.length cq))
    (first | exact ⟨c0, c1, c2⟩ | exact ⟨k0, k1, k2⟩ | exact hk.out _ _)
    (first
      | (go_at_call 68; go_loud (refine (rswap_call HD.out.ar t ((n : Int) + 1) v HV.out ho).mono ?_); rintro en w1 ⟨rfl, h1, t1⟩; have H1 := Lib.hid (And.intro (HD.out.ar_ h1 t1) (Turns.trans ((Turns.refl _ _).drew) t1)); have k0 : w1.cell? ⟨y, 0, none⟩ = some (.pointer (some ⟨b, 0, none⟩)) := H1.out.1.lk.cell 0; have k1 : w1.cell? ⟨y, 1, none⟩ = some (.int .i64 t) := H1.out.1.lk.cell 1; have k2 : w1.cell? ⟨y, 2, none⟩ = some (.slice (some ⟨q, 0, none⟩) r.S.length cq) := H1.out.1.lk.cell 2; have d0 := H1.out.1.cell H.out.2 0 _ rfl; simp only [Nat.add_zero] at d0; have d1 := H1.out.1.cell H.out.2 1 _ rfl; have d2 := H1.out.1.cell H.out.2 2 _ rfl; have d3 := H1.out.1.cell H.out.2 3 _ rfl; have f0 := H1.out.1.free (n * 4); have f1 := H1.out.1.free (n * 4 + 1); have f2 := H1.out.1.free (n * 4 + 2); have hq := H1.out.1.lt; have hk : Hid (∀ (o : Nat) (u : Value), (w1.setCell ⟨q, o, none⟩ u).cell? ⟨y, 0, none⟩ = some (.pointer (some ⟨b, 0, none⟩)) ∧ (w1.setCell ⟨q, o, none⟩ u).cell? ⟨y, 1, none⟩ = some (.int .i64 t) ∧ (w1.setCell ⟨q, o, none⟩ u).cell? ⟨y, 2, none⟩ = some (.slice (some ⟨q, 0, none⟩) r.S.length cq)) := Lib.hid fun o u => ⟨(H1.out.1.lk.far (p := ⟨q, o, none⟩) H1.out.1.yq u).cell 0, (H1.out.1.lk.far (p := ⟨q, o, none⟩) H1.out.1.yq u).cell 1, (H1.out.1.lk.far (p := ⟨q, o, none⟩) H1.out.1.yq u).cell 2⟩))
  all_goals clear h1 t1
  cases hz : (v == 0)
  · have HZ : Hid (¬ v = 0) := Lib.hid (by simpa using hz)
    have e : stepP r.ar t ((n : Int) + 1) ⟨3, pa, pb, pc⟩ = (swapA r.ar t ((n : Int) + 1), ⟨4, v, pb, pc⟩) := by
      unfold stepP inR26; rw [if_pos (show (3 : Int) < 10 by decide), if_neg (show ¬ (3 : Int) = 1 by decide), if_neg (show ¬ (3 : Int) = 2 by decide), if_pos (show (3 : Int) = 3 by rfl)]; rw [← HV.out, if_neg HZ.out]
    have E := Lib.hid (stepRg_at (c := false) H.out.2 (show (3 : Int) ≠ 0 by decide) (show (3 : Int) ≠ 10 by decide) e rfl)
    clear e
    go_wp2
    go_ret
    rw [E.out]
    have g0 := H1.out.1.put (i := n) (p := ⟨3, pa, pb, pc⟩) (H.out.2) (j := 1) (u := .int .i64 v) (p' := ⟨3, v, pb, pc⟩) (by decide) rfl
    have g1 := g0.put (i := n) (p := ⟨3, v, pb, pc⟩) (by simp [hn]) (j := 0) (u := .int .i64 4) (p' := ⟨4, v, pb, pc⟩) (by decide) rfl
    have ht : Turns [q] w1 ((w1.setCell ⟨q, n * 4 + 1, none⟩ (.int .i64 v)).setCell ⟨q, n * 4 + 0, none⟩ (.int .i64 4)) := ((Turns.refl _ _).setCell (.inl (by simp)) _).setCell (.inl (by simp)) _
    refine ⟨rfl, ?_, ?_⟩
    · simpa using g1
    · have := (H1.out.2.mono (T := [b, gw, q]) (by simp)).trans (ht.mono (T := [b, gw, q]) (by simp))
      simpa using this
  · have HZ : Hid (v = 0) := Lib.hid (by simpa using hz)
    have e : stepP r.ar t ((n : Int) + 1) ⟨3, pa, pb, pc⟩ = (swapA r.ar t ((n : Int) + 1), ⟨6, v, pb, pc⟩) := by
      unfold stepP inR26; rw [if_pos (show (3 : Int) < 10 by decide), if_neg (show ¬ (3 : Int) = 1 by decide), if_neg (show ¬ (3 : Int) = 2 by decide), if_pos (show (3 : Int) = 3 by rfl)]; rw [← HV.out, if_pos HZ.out]
    have E := Lib.hid (stepRg_at (c := false) H.out.2 (show (3 : Int) ≠ 0 by decide) (show (3 : Int) ≠ 10 by decide) e rfl)
    clear e
    go_wp2
    go_ret
    rw [E.out]
    have g0 := H1.out.1.put (i := n) (p := ⟨3, pa, pb, pc⟩) (H.out.2) (j := 1) (u := .int .i64 v) (p' := ⟨3, v, pb, pc⟩) (by decide) rfl
    have g1 := g0.put (i := n) (p := ⟨3, v, pb, pc⟩) (by simp [hn]) (j := 0) (u := .int .i64 6) (p' := ⟨6, v, pb, pc⟩) (by decide) rfl
    have ht : Turns [q] w1 ((w1.setCell ⟨q, n * 4 + 1, none⟩ (.int .i64 v)).setCell ⟨q, n * 4 + 0, none⟩ (.int .i64 6)) := ((Turns.refl _ _).setCell (.inl (by simp)) _).setCell (.inl (by simp)) _
    refine ⟨rfl, ?_, ?_⟩
    · simpa using g1
    · have := (H1.out.2.mono (T := [b, gw, q]) (by simp)).trans (ht.mono (T := [b, gw, q]) (by simp))
      simpa using this
set_option maxRecDepth 100000 in
set_option maxHeartbeats 2000000 in
theorem rstep5 {w : World} {y b gw cap q cq : Nat} {t : Int} {r : Rg} (h : RrIs w y b gw cap q cq t r) (n : Nat) (pa pb pc : Int) (hp : r.S[n]? = some ⟨5, pa, pb, pc⟩) (ho : r.ar.ops + 1 ≤ 1000000000000) :
    Calls Try.prog 40 #[.pointer (some ⟨y, 0, none⟩), .int .i64 n] w (RrOk w y b gw cap q cq t (stepRg r t n)) := by
  have hn : n < r.S.length := (List.getElem?_eq_some_iff.1 hp).1
  have hlen := h.len
  have c0 : w.cell? ⟨y, 0, none⟩ = some (.pointer (some ⟨b, 0, none⟩)) := h.lk.cell 0
  have c1 : w.cell? ⟨y, 1, none⟩ = some (.int .i64 t) := h.lk.cell 1
  have c2 : w.cell? ⟨y, 2, none⟩ = some (.slice (some ⟨q, 0, none⟩) r.S.length cq) := h.lk.cell 2
  have a0 := h.cell hp 0 _ rfl
  have a1 := h.cell hp 1 _ rfl
  have a2 := h.cell hp 2 _ rfl
  have a3 := h.cell hp 3 _ rfl
  simp only [Nat.add_zero] at a0
  have t2 : ¬ (n : Int) < 0 := by omega
  have u2 : decide ((n : Int) < 0) = false := decide_eq_false t2
  have t3 : ¬ ((r.S.length : Nat) : Int) ≤ (n : Int) := by omega
  have t4 : (n : Int) < r.S.length := by omega
  have hyq := h.yq
  have H := Lib.hid (And.intro h hp)
  have HD := Lib.hid h.drew
  clear h hp
  obtain ⟨v, hv⟩ : ∃ v, v = ldW r.ar.W (stA t ((n : Int) + 1)) := ⟨_, rfl⟩
  have HV := Lib.hid hv
  clear hv
  go_enter Try.func40, Try.ntmps40
  go_wp2
  go_region_held3 (fun W => W.cell? ⟨y, 0, none⟩ = some (.pointer (some ⟨b, 0, none⟩)) ∧ W.cell? ⟨y, 1, none⟩ = some (.int .i64 t) ∧ W.cell? ⟨y, 2, none⟩ = some (.slice (some ⟨q, 0, none⟩) r.S.length cq))
    (first | exact ⟨c0, c1, c2⟩ | exact ⟨k0, k1, k2⟩ | exact hk.out _ _)
    (first
      | (go_at_call 67; go_loud (refine (rstat_any HD.out ((n : Int) + 1)).mono ?_); rintro en w1 ⟨rfl, rfl⟩)
      | (go_at_call 69; go_loud (refine (rload_call HD.out.ar (stA t ((n : Int) + 1)) v HV.out ho).mono ?_); rintro en w1 ⟨rfl, h1, t1⟩; have H1 := Lib.hid (And.intro (HD.out.ar_ h1 t1) (Turns.trans ((Turns.refl _ _).drew) t1)); have k0 : w1.cell? ⟨y, 0, none⟩ = some (.pointer (some ⟨b, 0, none⟩)) := H1.out.1.lk.cell 0; have k1 : w1.cell? ⟨y, 1, none⟩ = some (.int .i64 t) := H1.out.1.lk.cell 1; have k2 : w1.cell? ⟨y, 2, none⟩ = some (.slice (some ⟨q, 0, none⟩) r.S.length cq) := H1.out.1.lk.cell 2; have d0 := H1.out.1.cell H.out.2 0 _ rfl; simp only [Nat.add_zero] at d0; have d1 := H1.out.1.cell H.out.2 1 _ rfl; have d2 := H1.out.1.cell H.out.2 2 _ rfl; have d3 := H1.out.1.cell H.out.2 3 _ rfl; have f0 := H1.out.1.free (n * 4); have f1 := H1.out.1.free (n * 4 + 1); have f2 := H1.out.1.free (n * 4 + 2); have hq := H1.out.1.lt; have hk : Hid (∀ (o : Nat) (u : Value), (w1.setCell ⟨q, o, none⟩ u).cell? ⟨y, 0, none⟩ = some (.pointer (some ⟨b, 0, none⟩)) ∧ (w1.setCell ⟨q, o, none⟩ u).cell? ⟨y, 1, none⟩ = some (.int .i64 t) ∧ (w1.setCell ⟨q, o, none⟩ u).cell? ⟨y, 2, none⟩ = some (.slice (some ⟨q, 0, none⟩) r.S.length cq)) := Lib.hid fun o u => ⟨(H1.out.1.lk.far (p := ⟨q, o, none⟩) H1.out.1.yq u).cell 0, (H1.out.1.lk.far (p := ⟨q, o, none⟩) H1.out.1.yq u).cell 1, (H1.out.1.lk.far (p := ⟨q, o, none⟩) H1.out.1.yq u).cell 2⟩))
  all_goals clear h1 t1
  by_cases hz : 0 < v
  · have HZ := Lib.hid hz
    have hz2 : ¬ v < 0 := by omega
    have e : stepP r.ar t ((n : Int) + 1) ⟨5, pa, pb, pc⟩ = (loadA r.ar (stA t ((n : Int) + 1)), ⟨10, v, 0, pc⟩) := by
      unfold stepP inR26; rw [if_pos (show (5 : Int) < 10 by decide), if_neg (show ¬ (5 : Int) = 1 by decide), if_neg (show ¬ (5 : Int) = 2 by decide), if_neg (show ¬ (5 : Int) = 3 by decide), if_neg (show ¬ (5 : Int) = 4 by decide), if_pos (show (5 : Int) = 5 by rfl)]; rw [← HV.out, if_pos HZ.out]
    have E := Lib.hid (stepRg_at (c := true) H.out.2 (show (5 : Int) ≠ 0 by decide) (show (5 : Int) ≠ 10 by decide) e rfl)
    clear e
    go_wp2
    go_ret
    rw [E.out]
    have g0 := H1.out.1.put (i := n) (p := ⟨5, pa, pb, pc⟩) (H.out.2) (j := 1) (u := .int .i64 v) (p' := ⟨5, v, pb, pc⟩) (by decide) rfl
    have g1 := g0.put (i := n) (p := ⟨5, v, pb, pc⟩) (by simp [hn]) (j := 2) (u := .int .i64 0) (p' := ⟨5, v, 0, pc⟩) (by decide) rfl
    have g2 := g1.put (i := n) (p := ⟨5, v, 0, pc⟩) (by simp [hn]) (j := 0) (u := .int .i64 10) (p' := ⟨10, v, 0, pc⟩) (by decide) rfl
    have ht : Turns [q] w1 (((w1.setCell ⟨q, n * 4 + 1, none⟩ (.int .i64 v)).setCell ⟨q, n * 4 + 2, none⟩ (.int .i64 0)).setCell ⟨q, n * 4 + 0, none⟩ (.int .i64 10)) := (((Turns.refl _ _).setCell (.inl (by simp)) _).setCell (.inl (by simp)) _).setCell (.inl (by simp)) _
    refine ⟨rfl, ?_, ?_⟩
    · simpa using g2
    · have := (H1.out.2.mono (T := [b, gw, q]) (by simp)).trans (ht.mono (T := [b, gw, q]) (by simp))
      simpa using this
  · by_cases hz2 : v < 0
    · have HZ : Hid (¬ 0 < v ∧ v < 0) := Lib.hid (And.intro hz hz2)
      have e : stepP r.ar t ((n : Int) + 1) ⟨5, pa, pb, pc⟩ = (loadA r.ar (stA t ((n : Int) + 1)), ⟨6, v, pb, pc⟩) := by
        unfold stepP inR26; rw [if_pos (show (5 : Int) < 10 by decide), if_neg (show ¬ (5 : Int) = 1 by decide), if_neg (show ¬ (5 : Int) = 2 by decide), if_neg (show ¬ (5 : Int) = 3 by decide), if_neg (show ¬ (5 : Int) = 4 by decide), if_pos (show (5 : Int) = 5 by rfl)]; rw [← HV.out, if_neg HZ.out.1, if_pos HZ.out.2]
      have E := Lib.hid (stepRg_at (c := false) H.out.2 (show (5 : Int) ≠ 0 by decide) (show (5 : Int) ≠ 10 by decide) e rfl)
      clear e
      go_wp2
      go_ret
      rw [E.out]
      have g0 := H1.out.1.put (i := n) (p := ⟨5, pa, pb, pc⟩) (H.out.2) (j := 1) (u := .int .i64 v) (p' := ⟨5, v, pb, pc⟩) (by decide) rfl
      have g1 := g0.put (i := n) (p := ⟨5, v, pb, pc⟩) (by simp [hn]) (j := 0) (u := .int .i64 6) (p' := ⟨6, v, pb, pc⟩) (by decide) rfl
      have ht : Turns [q] w1 ((w1.setCell ⟨q, n * 4 + 1, none⟩ (.int .i64 v)).setCell ⟨q, n * 4 + 0, none⟩ (.int .i64 6)) := ((Turns.refl _ _).setCell (.inl (by simp)) _).setCell (.inl (by simp)) _
      refine ⟨rfl, ?_, ?_⟩
      · simpa using g1
      · have := (H1.out.2.mono (T := [b, gw, q]) (by simp)).trans (ht.mono (T := [b, gw, q]) (by simp))
        simpa using this
    · have HZ : Hid (¬ 0 < v ∧ ¬ v < 0) := Lib.hid (And.intro hz hz2)
      have e : stepP r.ar t ((n : Int) + 1) ⟨5, pa, pb, pc⟩ = (loadA r.ar (stA t ((n : Int) + 1)), ⟨5, v, pb, pc⟩) := by
        unfold stepP inR26; rw [if_pos (show (5 : Int) < 10 by decide), if_neg (show ¬ (5 : Int) = 1 by decide), if_neg (show ¬ (5 : Int) = 2 by decide), if_neg (show ¬ (5 : Int) = 3 by decide), if_neg (show ¬ (5 : Int) = 4 by decide), if_pos (show (5 : Int) = 5 by rfl)]; rw [← HV.out, if_neg HZ.out.1, if_neg HZ.out.2]
      have E := Lib.hid (stepRg_at (c := false) H.out.2 (show (5 : Int) ≠ 0 by decide) (show (5 : Int) ≠ 10 by decide) e rfl)
      clear e
      go_wp2
      go_ret
      rw [E.out]
      have g0 := H1.out.1.put (i := n) (p := ⟨5, pa, pb, pc⟩) (H.out.2) (j := 1) (u := .int .i64 v) (p' := ⟨5, v, pb, pc⟩) (by decide) rfl
      have g1 := g0.put (i := n) (p := ⟨5, v, pb, pc⟩) (by simp [hn]) (j := 0) (u := .int .i64 5) (p' := ⟨5, v, pb, pc⟩) (by decide) rfl
      have ht : Turns [q] w1 ((w1.setCell ⟨q, n * 4 + 1, none⟩ (.int .i64 v)).setCell ⟨q, n * 4 + 0, none⟩ (.int .i64 5)) := ((Turns.refl _ _).setCell (.inl (by simp)) _).setCell (.inl (by simp)) _
      refine ⟨rfl, ?_, ?_⟩
      · simpa using g1
      · have := (H1.out.2.mono (T := [b, gw, q]) (by simp)).trans (ht.mono (T := [b, gw, q]) (by simp))
        simpa using this
end Go.Proofs.Ythgpjiebeinamaa
