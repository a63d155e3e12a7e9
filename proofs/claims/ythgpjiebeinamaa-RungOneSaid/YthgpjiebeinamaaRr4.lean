/- Layer 26: the steps by which a slot of the document's rung goes out (written by wip/gen_rr3.py). -/
import Derived.Test.YthgpjiebeinamaaRr3
namespace Go.Proofs.Ythgpjiebeinamaa
open Go.RowKit

set_option maxRecDepth 100000 in
set_option maxHeartbeats 2000000 in
theorem rstep12 {w : World} {y b gw cap q cq : Nat} {t : Int} {r : Rg} (h : RrIs w y b gw cap q cq t r) (n : Nat) (pa pb pc : Int) (hp : r.S[n]? = some ⟨12, pa, pb, pc⟩) (ho : r.ar.ops + 1 ≤ 1000000000000) :
    Calls Try.prog 40 #[.pointer (some ⟨y, 0, none⟩), .int .i64 n] w (RrOk w y b gw cap q cq t (stepRg r t n)) := by
  have hn : n < r.S.length := (List.getElem?_eq_some_iff.1 hp).1
  have hlen := h.len
  have c0 : w.cell? ⟨y, 0, none⟩ = some (.pointer (some ⟨b, 0, none⟩)) := h.lk.cell 0
  have c1 : w.cell? ⟨y, 1, none⟩ = some (.int .i64 t) := h.lk.cell 1
  have c2 : w.cell? ⟨y, 2, none⟩ = some (.slice (some ⟨q, 0, none⟩) r.S.length cq) := h.lk.cell 2
  have a0 := h.cell hp 0 _ rfl
  have a1 := h.cell hp 1 _ rfl
  have a2 := h.cell hp 2 _ rfl
  have a3 := h.cell hp 3 _ rfl
  simp only [Nat.add_zero] at a0
  have t2 : ¬ (n : Int) < 0 := by omega
  have u2 : decide ((n : Int) < 0) = false := decide_eq_false t2
  have t3 : ¬ ((r.S.length : Nat) : Int) ≤ (n : Int) := by omega
  have t4 : (n : Int) < r.S.length := by omega
  have hyq := h.yq
  have H := Lib.hid (And.intro h hp)
  have HD := Lib.hid h.drew
  clear h hp
  cases hb : casB r.ar t ((n : Int) + 1)
  · have HB := Lib.hid hb
    clear hb
    go_enter Try.func40, Try.ntmps40
    go_wp2
    refine wp_region_still_tail 9 (by kernel_rfl) (by kernel_rfl) ?_
    simp only [List.take_succ_cons, List.take_zero, List.drop_succ_cons, List.drop_zero]
    change wpStill _ _ (World.drew _) _ _ _
    repeat still_step
    refine wpStill_nil ?_
    change wpList _ _ _ _ _ (World.drew w)
    go_wp2_with fail
    refine (rcas_call HD.out.ar t ((n : Int) + 1) 0 false HB.out ho).mono ?_
    rintro en w1 ⟨rfl, h1, t1⟩
    have H1 := Lib.hid (And.intro (HD.out.ar_ h1 t1) (Turns.trans ((Turns.refl _ _).drew) t1))
    clear h1 t1
    have k0 : w1.cell? ⟨y, 0, none⟩ = some (.pointer (some ⟨b, 0, none⟩)) := H1.out.1.lk.cell 0
    have k1 : w1.cell? ⟨y, 1, none⟩ = some (.int .i64 t) := H1.out.1.lk.cell 1
    have k2 : w1.cell? ⟨y, 2, none⟩ = some (.slice (some ⟨q, 0, none⟩) r.S.length cq) := H1.out.1.lk.cell 2
    have d0 := H1.out.1.cell H.out.2 0 _ rfl
    simp only [Nat.add_zero] at d0
    have d1 := H1.out.1.cell H.out.2 1 _ rfl
    have d2 := H1.out.1.cell H.out.2 2 _ rfl
    have d3 := H1.out.1.cell H.out.2 3 _ rfl
    have f0 := H1.out.1.free (n * 4)
    have f1 := H1.out.1.free (n * 4 + 1)
    have f2 := H1.out.1.free (n * 4 + 2)
    have hq := H1.out.1.lt
    have e : stepP r.ar t ((n : Int) + 1) ⟨12, pa, pb, pc⟩ = (casA r.ar t ((n : Int) + 1) 0, ⟨13, pa, pb, pc⟩) := by
      unfold stepP outR26; rw [if_neg (show ¬ (12 : Int) < 10 by decide), if_pos (show (12 : Int) = 12 by rfl)]; rw [HB.out]; rfl
    have E := Lib.hid (stepRg_at (c := false) H.out.2 (show (12 : Int) ≠ 0 by decide) (show (12 : Int) ≠ 10 by decide) e rfl)
    clear e
    go_wp2
    go_ret
    rw [E.out]
    have g0 := H1.out.1.put (i := n) (p := ⟨12, pa, pb, pc⟩) (H.out.2) (j := 0) (u := .int .i64 13) (p' := ⟨13, pa, pb, pc⟩) (by decide) rfl
    have ht : Turns [q] w1 (w1.setCell ⟨q, n * 4 + 0, none⟩ (.int .i64 13)) := (Turns.refl _ _).setCell (.inl (by simp)) _
    refine ⟨rfl, ?_, ?_⟩
    · simpa using g0
    · have := (H1.out.2.mono (T := [b, gw, q]) (by simp)).trans (ht.mono (T := [b, gw, q]) (by simp))
      simpa using this
  · have HB := Lib.hid hb
    clear hb
    go_enter Try.func40, Try.ntmps40
    go_wp2
    refine wp_region_still_tail 9 (by kernel_rfl) (by kernel_rfl) ?_
    simp only [List.take_succ_cons, List.take_zero, List.drop_succ_cons, List.drop_zero]
    change wpStill _ _ (World.drew _) _ _ _
    repeat still_step
    refine wpStill_nil ?_
    change wpList _ _ _ _ _ (World.drew w)
    go_wp2_with fail
    refine (rcas_call HD.out.ar t ((n : Int) + 1) 0 true HB.out ho).mono ?_
    rintro en w1 ⟨rfl, h1, t1⟩
    have H1 := Lib.hid (And.intro (HD.out.ar_ h1 t1) (Turns.trans ((Turns.refl _ _).drew) t1))
    clear h1 t1
    have k0 : w1.cell? ⟨y, 0, none⟩ = some (.pointer (some ⟨b, 0, none⟩)) := H1.out.1.lk.cell 0
    have k1 : w1.cell? ⟨y, 1, none⟩ = some (.int .i64 t) := H1.out.1.lk.cell 1
    have k2 : w1.cell? ⟨y, 2, none⟩ = some (.slice (some ⟨q, 0, none⟩) r.S.length cq) := H1.out.1.lk.cell 2
    have d0 := H1.out.1.cell H.out.2 0 _ rfl
    simp only [Nat.add_zero] at d0
    have d1 := H1.out.1.cell H.out.2 1 _ rfl
    have d2 := H1.out.1.cell H.out.2 2 _ rfl
    have d3 := H1.out.1.cell H.out.2 3 _ rfl
    have f0 := H1.out.1.free (n * 4)
    have f1 := H1.out.1.free (n * 4 + 1)
    have f2 := H1.out.1.free (n * 4 + 2)
    have hq := H1.out.1.lt
    have e : stepP r.ar t ((n : Int) + 1) ⟨12, pa, pb, pc⟩ = (casA r.ar t ((n : Int) + 1) 0, ⟨0, pa, pb, pc⟩) := by
      unfold stepP outR26; rw [if_neg (show ¬ (12 : Int) < 10 by decide), if_pos (show (12 : Int) = 12 by rfl)]; rw [HB.out]; rfl
    have E := Lib.hid (stepRg_at (c := true) H.out.2 (show (12 : Int) ≠ 0 by decide) (show (12 : Int) ≠ 10 by decide) e rfl)
    clear e
    go_wp2
    go_ret
    rw [E.out]
    have g0 := H1.out.1.put (i := n) (p := ⟨12, pa, pb, pc⟩) (H.out.2) (j := 0) (u := .int .i64 0) (p' := ⟨0, pa, pb, pc⟩) (by decide) rfl
    have ht : Turns [q] w1 (w1.setCell ⟨q, n * 4 + 0, none⟩ (.int .i64 0)) := (Turns.refl _ _).setCell (.inl (by simp)) _
    refine ⟨rfl, ?_, ?_⟩
    · simpa using g0
    · have := (H1.out.2.mono (T := [b, gw, q]) (by simp)).trans (ht.mono (T := [b, gw, q]) (by simp))
      simpa using this
set_option maxRecDepth 100000 in
set_option maxHeartbeats 2000000 in
theorem rstep14 {w : World} {y b gw cap q cq : Nat} {t : Int} {r : Rg} (h : RrIs w y b gw cap q cq t r) (n : Nat) (pa pb pc : Int) (hp : r.S[n]? = some ⟨14, pa, pb, pc⟩) (ho : r.ar.ops + 1 ≤ 1000000000000) :
    Calls Try.prog 40 #[.pointer (some ⟨y, 0, none⟩), .int .i64 n] w (RrOk w y b gw cap q cq t (stepRg r t n)) := by
  have hn : n < r.S.length := (List.getElem?_eq_some_iff.1 hp).1
  have hlen := h.len
  have c0 : w.cell? ⟨y, 0, none⟩ = some (.pointer (some ⟨b, 0, none⟩)) := h.lk.cell 0
  have c1 : w.cell? ⟨y, 1, none⟩ = some (.int .i64 t) := h.lk.cell 1
  have c2 : w.cell? ⟨y, 2, none⟩ = some (.slice (some ⟨q, 0, none⟩) r.S.length cq) := h.lk.cell 2
  have a0 := h.cell hp 0 _ rfl
  have a1 := h.cell hp 1 _ rfl
  have a2 := h.cell hp 2 _ rfl
  have a3 := h.cell hp 3 _ rfl
  simp only [Nat.add_zero] at a0
  have t2 : ¬ (n : Int) < 0 := by omega
  have u2 : decide ((n : Int) < 0) = false := decide_eq_false t2
  have t3 : ¬ ((r.S.length : Nat) : Int) ≤ (n : Int) := by omega
  have t4 : (n : Int) < r.S.length := by omega
  have hyq := h.yq
  have H := Lib.hid (And.intro h hp)
  have HD := Lib.hid h.drew
  clear h hp
  go_enter Try.func40, Try.ntmps40
  go_wp2
  refine wp_region_still_tail 22 (by kernel_rfl) (by kernel_rfl) ?_
  simp only [List.take_succ_cons, List.take_zero, List.drop_succ_cons, List.drop_zero]
  change wpStill _ _ (World.drew _) _ _ _
  repeat still_step
  still_call (same_callsR (rstat_any HD.out pa))
  repeat still_step
  refine wpStill_nil ?_
  change wpList _ _ _ _ _ (World.drew w)
  go_wp2_with fail
  refine (rstore_any HD.out.ar (stA t pa) pc ho).mono ?_
  rintro en w1 ⟨rfl, h1, t1⟩
  have H1 := Lib.hid (And.intro (HD.out.ar_ h1 t1) (Turns.trans ((Turns.refl _ _).drew) t1))
  clear h1 t1
  have k0 : w1.cell? ⟨y, 0, none⟩ = some (.pointer (some ⟨b, 0, none⟩)) := H1.out.1.lk.cell 0
  have k1 : w1.cell? ⟨y, 1, none⟩ = some (.int .i64 t) := H1.out.1.lk.cell 1
  have k2 : w1.cell? ⟨y, 2, none⟩ = some (.slice (some ⟨q, 0, none⟩) r.S.length cq) := H1.out.1.lk.cell 2
  have d0 := H1.out.1.cell H.out.2 0 _ rfl
  simp only [Nat.add_zero] at d0
  have d1 := H1.out.1.cell H.out.2 1 _ rfl
  have d2 := H1.out.1.cell H.out.2 2 _ rfl
  have d3 := H1.out.1.cell H.out.2 3 _ rfl
  have f0 := H1.out.1.free (n * 4)
  have f1 := H1.out.1.free (n * 4 + 1)
  have f2 := H1.out.1.free (n * 4 + 2)
  have hq := H1.out.1.lt
  have e : stepP r.ar t ((n : Int) + 1) ⟨14, pa, pb, pc⟩ = (storeA r.ar (stA t pa) pc, ⟨0, pa, pb, pc⟩) := by
    unfold stepP outR26; rw [if_neg (show ¬ (14 : Int) < 10 by decide), if_neg (show ¬ (14 : Int) = 12 by decide), if_pos (show (14 : Int) = 14 by rfl)]
  have E := Lib.hid (stepRg_at (c := true) H.out.2 (show (14 : Int) ≠ 0 by decide) (show (14 : Int) ≠ 10 by decide) e rfl)
  clear e
  go_wp2
  go_ret
  rw [E.out]
  have g0 := H1.out.1.put (i := n) (p := ⟨14, pa, pb, pc⟩) (H.out.2) (j := 0) (u := .int .i64 0) (p' := ⟨0, pa, pb, pc⟩) (by decide) rfl
  have ht : Turns [q] w1 (w1.setCell ⟨q, n * 4 + 0, none⟩ (.int .i64 0)) := (Turns.refl _ _).setCell (.inl (by simp)) _
  refine ⟨rfl, ?_, ?_⟩
  · simpa using g0
  · have := (H1.out.2.mono (T := [b, gw, q]) (by simp)).trans (ht.mono (T := [b, gw, q]) (by simp))
    simpa using this
set_option maxRecDepth 100000 in
set_option maxHeartbeats 2000000 in
theorem rstep16 {w : World} {y b gw cap q cq : Nat} {t : Int} {r : Rg} (h : RrIs w y b gw cap q cq t r) (n : Nat) (pa pb pc : Int) (hp : r.S[n]? = some ⟨16, pa, pb, pc⟩) (ho : r.ar.ops + 1 ≤ 1000000000000) :
    Calls Try.prog 40 #[.pointer (some ⟨y, 0, none⟩), .int .i64 n] w (RrOk w y b gw cap q cq t (stepRg r t n)) := by
  have hn : n < r.S.length := (List.getElem?_eq_some_iff.1 hp).1
  have hlen := h.len
  have c0 : w.cell? ⟨y, 0, none⟩ = some (.pointer (some ⟨b, 0, none⟩)) := h.lk.cell 0
  have c1 : w.cell? ⟨y, 1, none⟩ = some (.int .i64 t) := h.lk.cell 1
  have c2 : w.cell? ⟨y, 2, none⟩ = some (.slice (some ⟨q, 0, none⟩) r.S.length cq) := h.lk.cell 2
  have a0 := h.cell hp 0 _ rfl
  have a1 := h.cell hp 1 _ rfl
  have a2 := h.cell hp 2 _ rfl
  have a3 := h.cell hp 3 _ rfl
  simp only [Nat.add_zero] at a0
  have t2 : ¬ (n : Int) < 0 := by omega
  have u2 : decide ((n : Int) < 0) = false := decide_eq_false t2
  have t3 : ¬ ((r.S.length : Nat) : Int) ≤ (n : Int) := by omega
  have t4 : (n : Int) < r.S.length := by omega
  have hyq := h.yq
  have H := Lib.hid (And.intro h hp)
  have HD := Lib.hid h.drew
  clear h hp
  go_enter Try.func40, Try.ntmps40
  go_wp2
  refine wp_region_still_tail 22 (by kernel_rfl) (by kernel_rfl) ?_
  simp only [List.take_succ_cons, List.take_zero, List.drop_succ_cons, List.drop_zero]
  change wpStill _ _ (World.drew _) _ _ _
  repeat still_step
  still_call (same_callsR (rstat_any HD.out pb))
  repeat still_step
  refine wpStill_nil ?_
  change wpList _ _ _ _ _ (World.drew w)
  go_wp2_with fail
  refine (rstore_any HD.out.ar (stA t pb) pc ho).mono ?_
  rintro en w1 ⟨rfl, h1, t1⟩
  have H1 := Lib.hid (And.intro (HD.out.ar_ h1 t1) (Turns.trans ((Turns.refl _ _).drew) t1))
  clear h1 t1
  have k0 : w1.cell? ⟨y, 0, none⟩ = some (.pointer (some ⟨b, 0, none⟩)) := H1.out.1.lk.cell 0
  have k1 : w1.cell? ⟨y, 1, none⟩ = some (.int .i64 t) := H1.out.1.lk.cell 1
  have k2 : w1.cell? ⟨y, 2, none⟩ = some (.slice (some ⟨q, 0, none⟩) r.S.length cq) := H1.out.1.lk.cell 2
  have d0 := H1.out.1.cell H.out.2 0 _ rfl
  simp only [Nat.add_zero] at d0
  have d1 := H1.out.1.cell H.out.2 1 _ rfl
  have d2 := H1.out.1.cell H.out.2 2 _ rfl
  have d3 := H1.out.1.cell H.out.2 3 _ rfl
  have f0 := H1.out.1.free (n * 4)
  have f1 := H1.out.1.free (n * 4 + 1)
  have f2 := H1.out.1.free (n * 4 + 2)
  have hq := H1.out.1.lt
  have e : stepP r.ar t ((n : Int) + 1) ⟨16, pa, pb, pc⟩ = (storeA r.ar (stA t pb) pc, ⟨0, pa, pb, pc⟩) := by
    unfold stepP outR26; rw [if_neg (show ¬ (16 : Int) < 10 by decide), if_neg (show ¬ (16 : Int) = 12 by decide), if_neg (show ¬ (16 : Int) = 14 by decide), if_neg (show ¬ (16 : Int) = 15 by decide), if_pos (show (16 : Int) = 16 by rfl)]
  have E := Lib.hid (stepRg_at (c := true) H.out.2 (show (16 : Int) ≠ 0 by decide) (show (16 : Int) ≠ 10 by decide) e rfl)
  clear e
  go_wp2
  go_ret
  rw [E.out]
  have g0 := H1.out.1.put (i := n) (p := ⟨16, pa, pb, pc⟩) (H.out.2) (j := 0) (u := .int .i64 0) (p' := ⟨0, pa, pb, pc⟩) (by decide) rfl
  have ht : Turns [q] w1 (w1.setCell ⟨q, n * 4 + 0, none⟩ (.int .i64 0)) := (Turns.refl _ _).setCell (.inl (by simp)) _
  refine ⟨rfl, ?_, ?_⟩
  · simpa using g0
  · have := (H1.out.2.mono (T := [b, gw, q]) (by simp)).trans (ht.mono (T := [b, gw, q]) (by simp))
    simpa using this
set_option maxRecDepth 100000 in
set_option maxHeartbeats 2000000 in
theorem rstep15 {w : World} {y b gw cap q cq : Nat} {t : Int} {r : Rg} (h : RrIs w y b gw cap q cq t r) (n : Nat) (pa pb pc : Int) (hp : r.S[n]? = some ⟨15, pa, pb, pc⟩) (ho : r.ar.ops + 1 ≤ 1000000000000) :
    Calls Try.prog 40 #[.pointer (some ⟨y, 0, none⟩), .int .i64 n] w (RrOk w y b gw cap q cq t (stepRg r t n)) := by
  have hn : n < r.S.length := (List.getElem?_eq_some_iff.1 hp).1
  have hlen := h.len
  have c0 : w.cell? ⟨y, 0, none⟩ = some (.pointer (some ⟨b, 0, none⟩)) := h.lk.cell 0
  have c1 : w.cell? ⟨y, 1, none⟩ = some (.int .i64 t) := h.lk.cell 1
  have c2 : w.cell? ⟨y, 2, none⟩ = some (.slice (some ⟨q, 0, none⟩) r.S.length cq) := h.lk.cell 2
  have a0 := h.cell hp 0 _ rfl
  have a1 := h.cell hp 1 _ rfl
  have a2 := h.cell hp 2 _ rfl
  have a3 := h.cell hp 3 _ rfl
  simp only [Nat.add_zero] at a0
  have t2 : ¬ (n : Int) < 0 := by omega
  have u2 : decide ((n : Int) < 0) = false := decide_eq_false t2
  have t3 : ¬ ((r.S.length : Nat) : Int) ≤ (n : Int) := by omega
  have t4 : (n : Int) < r.S.length := by omega
  have hyq := h.yq
  have H := Lib.hid (And.intro h hp)
  have HD := Lib.hid h.drew
  clear h hp
  obtain ⟨v, hv⟩ : ∃ v, v = ldW r.ar.W (nxA t ((n : Int) + 1)) := ⟨_, rfl⟩
  have HV := Lib.hid hv
  clear hv
  go_enter Try.func40, Try.ntmps40
  go_wp2
  go_region_held3 (fun W => W.cell? ⟨y, 0, none⟩ = some (.pointer (some ⟨b, 0, none⟩)) ∧ W.cell? ⟨y, 1, none⟩ = some (.int .i64 t) ∧ W.cell? ⟨y, 2, none⟩ = some (.slice (some ⟨q, 0, none⟩) r.S.length cq))
    (first | exact ⟨c0, c1, c2⟩ | exact ⟨k0, k1, k2⟩ | exact hk.out _ _)
    (first
      | (go_at_call 66; go_loud (refine (rnext_any HD.out ((n : Int) + 1)).mono ?_); rintro en w1 ⟨rfl, rfl⟩)
      | (go_at_call 69; go_loud (refine (rload_call HD.out.ar (nxA t ((n : Int) + 1)) v HV.out ho).mono ?_); rintro en w1 ⟨rfl, h1, t1⟩; have H1 := Lib.hid (And.intro (HD.out.ar_ h1 t1) (Turns.trans ((Turns.refl _ _).drew) t1)); have k0 : w1.cell? ⟨y, 0, none⟩ = some (.pointer (some ⟨b, 0, none⟩)) := H1.out.1.lk.cell 0; have k1 : w1.cell? ⟨y, 1, none⟩ = some (.int .i64 t) := H1.out.1.lk.cell 1; have k2 : w1.cell? ⟨y, 2, none⟩ = some (.slice (some ⟨q, 0, none⟩) r.S.length cq) := H1.out.1.lk.cell 2; have d0 := H1.out.1.cell H.out.2 0 _ rfl; simp only [Nat.add_zero] at d0; have d1 := H1.out.1.cell H.out.2 1 _ rfl; have d2 := H1.out.1.cell H.out.2 2 _ rfl; have d3 := H1.out.1.cell H.out.2 3 _ rfl; have f0 := H1.out.1.free (n * 4); have f1 := H1.out.1.free (n * 4 + 1); have f2 := H1.out.1.free (n * 4 + 2); have hq := H1.out.1.lt; have hk : Hid (∀ (o : Nat) (u : Value), (w1.setCell ⟨q, o, none⟩ u).cell? ⟨y, 0, none⟩ = some (.pointer (some ⟨b, 0, none⟩)) ∧ (w1.setCell ⟨q, o, none⟩ u).cell? ⟨y, 1, none⟩ = some (.int .i64 t) ∧ (w1.setCell ⟨q, o, none⟩ u).cell? ⟨y, 2, none⟩ = some (.slice (some ⟨q, 0, none⟩) r.S.length cq)) := Lib.hid fun o u => ⟨(H1.out.1.lk.far (p := ⟨q, o, none⟩) H1.out.1.yq u).cell 0, (H1.out.1.lk.far (p := ⟨q, o, none⟩) H1.out.1.yq u).cell 1, (H1.out.1.lk.far (p := ⟨q, o, none⟩) H1.out.1.yq u).cell 2⟩))
  all_goals clear h1 t1
  cases hz : (v == 0)
  · have HZ : Hid (¬ v = 0) := Lib.hid (by simpa using hz)
    have e : stepP r.ar t ((n : Int) + 1) ⟨15, pa, pb, pc⟩ = (loadA r.ar (nxA t ((n : Int) + 1)), ⟨16, pa, v, pc⟩) := by
      unfold stepP outR26; rw [if_neg (show ¬ (15 : Int) < 10 by decide), if_neg (show ¬ (15 : Int) = 12 by decide), if_neg (show ¬ (15 : Int) = 14 by decide), if_pos (show (15 : Int) = 15 by rfl)]; rw [← HV.out, if_neg HZ.out]
    have E := Lib.hid (stepRg_at (c := false) H.out.2 (show (15 : Int) ≠ 0 by decide) (show (15 : Int) ≠ 10 by decide) e rfl)
    clear e
    go_wp2
    go_ret
    rw [E.out]
    have g0 := H1.out.1.put (i := n) (p := ⟨15, pa, pb, pc⟩) (H.out.2) (j := 2) (u := .int .i64 v) (p' := ⟨15, pa, v, pc⟩) (by decide) rfl
    have g1 := g0.put (i := n) (p := ⟨15, pa, v, pc⟩) (by simp [hn]) (j := 0) (u := .int .i64 16) (p' := ⟨16, pa, v, pc⟩) (by decide) rfl
    have ht : Turns [q] w1 ((w1.setCell ⟨q, n * 4 + 2, none⟩ (.int .i64 v)).setCell ⟨q, n * 4 + 0, none⟩ (.int .i64 16)) := ((Turns.refl _ _).setCell (.inl (by simp)) _).setCell (.inl (by simp)) _
    refine ⟨rfl, ?_, ?_⟩
    · simpa using g1
    · have := (H1.out.2.mono (T := [b, gw, q]) (by simp)).trans (ht.mono (T := [b, gw, q]) (by simp))
      simpa using this
  · have HZ : Hid (v = 0) := Lib.hid (by simpa using hz)
    have e : stepP r.ar t ((n : Int) + 1) ⟨15, pa, pb, pc⟩ = (loadA r.ar (nxA t ((n : Int) + 1)), ⟨10, pa, v, pc⟩) := by
      unfold stepP outR26; rw [if_neg (show ¬ (15 : Int) < 10 by decide), if_neg (show ¬ (15 : Int) = 12 by decide), if_neg (show ¬ (15 : Int) = 14 by decide), if_pos (show (15 : Int) = 15 by rfl)]; rw [← HV.out, if_pos HZ.out]
    have E := Lib.hid (stepRg_at (c := true) H.out.2 (show (15 : Int) ≠ 0 by decide) (show (15 : Int) ≠ 10 by decide) e rfl)
    clear e
    go_wp2
    go_ret
    rw [E.out]
    have g0 := H1.out.1.put (i := n) (p := ⟨15, pa, pb, pc⟩) (H.out.2) (j := 2) (u := .int .i64 v) (p' := ⟨15, pa, v, pc⟩) (by decide) rfl
    have g1 := g0.put (i := n) (p := ⟨15, pa, v, pc⟩) (by simp [hn]) (j := 0) (u := .int .i64 10) (p' := ⟨10, pa, v, pc⟩) (by decide) rfl
    have ht : Turns [q] w1 ((w1.setCell ⟨q, n * 4 + 2, none⟩ (.int .i64 v)).setCell ⟨q, n * 4 + 0, none⟩ (.int .i64 10)) := ((Turns.refl _ _).setCell (.inl (by simp)) _).setCell (.inl (by simp)) _
    refine ⟨rfl, ?_, ?_⟩
    · simpa using g1
    · have := (H1.out.2.mono (T := [b, gw, q]) (by simp)).trans (ht.mono (T := [b, gw, q]) (by simp))
      simpa using this
set_option maxRecDepth 100000 in
set_option maxHeartbeats 2000000 in
theorem rstep11 {w : World} {y b gw cap q cq : Nat} {t : Int} {r : Rg} (h : RrIs w y b gw cap q cq t r) (n : Nat) (pa pb pc : Int) (hp : r.S[n]? = some ⟨11, pa, pb, pc⟩) (ho : r.ar.ops + 1 ≤ 1000000000000) :
    Calls Try.prog 40 #[.pointer (some ⟨y, 0, none⟩), .int .i64 n] w (RrOk w y b gw cap q cq t (stepRg r t n)) := by
  have hn : n < r.S.length := (List.getElem?_eq_some_iff.1 hp).1
  have hlen := h.len
  have c0 : w.cell? ⟨y, 0, none⟩ = some (.pointer (some ⟨b, 0, none⟩)) := h.lk.cell 0
  have c1 : w.cell? ⟨y, 1, none⟩ = some (.int .i64 t) := h.lk.cell 1
  have c2 : w.cell? ⟨y, 2, none⟩ = some (.slice (some ⟨q, 0, none⟩) r.S.length cq) := h.lk.cell 2
  have a0 := h.cell hp 0 _ rfl
  have a1 := h.cell hp 1 _ rfl
  have a2 := h.cell hp 2 _ rfl
  have a3 := h.cell hp 3 _ rfl
  simp only [Nat.add_zero] at a0
  have t2 : ¬ (n : Int) < 0 := by omega
  have u2 : decide ((n : Int) < 0) = false := decide_eq_false t2
  have t3 : ¬ ((r.S.length : Nat) : Int) ≤ (n : Int) := by omega
  have t4 : (n : Int) < r.S.length := by omega
  have hyq := h.yq
  have H := Lib.hid (And.intro h hp)
  have HD := Lib.hid h.drew
  clear h hp
  obtain ⟨v, hv⟩ : ∃ v, v = ldW r.ar.W (nxA t ((n : Int) + 1)) := ⟨_, rfl⟩
  have HV := Lib.hid hv
  clear hv
  go_enter Try.func40, Try.ntmps40
  go_wp2
  go_region_held3 (fun W => W.cell? ⟨y, 0, none⟩ = some (.pointer (some ⟨b, 0, none⟩)) ∧ W.cell? ⟨y, 1, none⟩ = some (.int .i64 t) ∧ W.cell? ⟨y, 2, none⟩ = some (.slice (some ⟨q, 0, none⟩) r.S.length cq))
    (first | exact ⟨c0, c1, c2⟩ | exact ⟨k0, k1, k2⟩ | exact hk.out _ _)
    (first
      | (go_at_call 66; go_loud (refine (rnext_any HD.out ((n : Int) + 1)).mono ?_); rintro en w1 ⟨rfl, rfl⟩)
      | (go_at_call 69; go_loud (refine (rload_call HD.out.ar (nxA t ((n : Int) + 1)) v HV.out ho).mono ?_); rintro en w1 ⟨rfl, h1, t1⟩; have H1 := Lib.hid (And.intro (HD.out.ar_ h1 t1) (Turns.trans ((Turns.refl _ _).drew) t1)); have k0 : w1.cell? ⟨y, 0, none⟩ = some (.pointer (some ⟨b, 0, none⟩)) := H1.out.1.lk.cell 0; have k1 : w1.cell? ⟨y, 1, none⟩ = some (.int .i64 t) := H1.out.1.lk.cell 1; have k2 : w1.cell? ⟨y, 2, none⟩ = some (.slice (some ⟨q, 0, none⟩) r.S.length cq) := H1.out.1.lk.cell 2; have d0 := H1.out.1.cell H.out.2 0 _ rfl; simp only [Nat.add_zero] at d0; have d1 := H1.out.1.cell H.out.2 1 _ rfl; have d2 := H1.out.1.cell H.out.2 2 _ rfl; have d3 := H1.out.1.cell H.out.2 3 _ rfl; have f0 := H1.out.1.free (n * 4); have f1 := H1.out.1.free (n * 4 + 1); have f2 := H1.out.1.free (n * 4 + 2); have hq := H1.out.1.lt; have hk : Hid (∀ (o : Nat) (u : Value), (w1.setCell ⟨q, o, none⟩ u).cell? ⟨y, 0, none⟩ = some (.pointer (some ⟨b, 0, none⟩)) ∧ (w1.setCell ⟨q, o, none⟩ u).cell? ⟨y, 1, none⟩ = some (.int .i64 t) ∧ (w1.setCell ⟨q, o, none⟩ u).cell? ⟨y, 2, none⟩ = some (.slice (some ⟨q, 0, none⟩) r.S.length cq)) := Lib.hid fun o u => ⟨(H1.out.1.lk.far (p := ⟨q, o, none⟩) H1.out.1.yq u).cell 0, (H1.out.1.lk.far (p := ⟨q, o, none⟩) H1.out.1.yq u).cell 1, (H1.out.1.lk.far (p := ⟨q, o, none⟩) H1.out.1.yq u).cell 2⟩))
  all_goals clear h1 t1
  cases hz : (v == 0)
  · have HZ : Hid (v ≠ 0) := Lib.hid (by simpa using hz)
    have e : stepP r.ar t ((n : Int) + 1) ⟨11, pa, pb, pc⟩ = (loadA r.ar (nxA t ((n : Int) + 1)), ⟨14, v, pb, pc⟩) := by
      unfold stepP outR26; rw [if_neg (show ¬ (11 : Int) < 10 by decide), if_neg (show ¬ (11 : Int) = 12 by decide), if_neg (show ¬ (11 : Int) = 14 by decide), if_neg (show ¬ (11 : Int) = 15 by decide), if_neg (show ¬ (11 : Int) = 16 by decide)]; rw [← HV.out, if_pos HZ.out]
    have E := Lib.hid (stepRg_at (c := false) H.out.2 (show (11 : Int) ≠ 0 by decide) (show (11 : Int) ≠ 10 by decide) e rfl)
    clear e
    go_wp2
    go_ret
    rw [E.out]
    have g0 := H1.out.1.put (i := n) (p := ⟨11, pa, pb, pc⟩) (H.out.2) (j := 1) (u := .int .i64 v) (p' := ⟨11, v, pb, pc⟩) (by decide) rfl
    have g1 := g0.put (i := n) (p := ⟨11, v, pb, pc⟩) (by simp [hn]) (j := 0) (u := .int .i64 14) (p' := ⟨14, v, pb, pc⟩) (by decide) rfl
    have ht : Turns [q] w1 ((w1.setCell ⟨q, n * 4 + 1, none⟩ (.int .i64 v)).setCell ⟨q, n * 4 + 0, none⟩ (.int .i64 14)) := ((Turns.refl _ _).setCell (.inl (by simp)) _).setCell (.inl (by simp)) _
    refine ⟨rfl, ?_, ?_⟩
    · simpa using g1
    · have := (H1.out.2.mono (T := [b, gw, q]) (by simp)).trans (ht.mono (T := [b, gw, q]) (by simp))
      simpa using this
  · have HZ : Hid (¬ v ≠ 0) := Lib.hid (by simpa using hz)
    have e : stepP r.ar t ((n : Int) + 1) ⟨11, pa, pb, pc⟩ = (loadA r.ar (nxA t ((n : Int) + 1)), ⟨12, v, pb, pc⟩) := by
      unfold stepP outR26; rw [if_neg (show ¬ (11 : Int) < 10 by decide), if_neg (show ¬ (11 : Int) = 12 by decide), if_neg (show ¬ (11 : Int) = 14 by decide), if_neg (show ¬ (11 : Int) = 15 by decide), if_neg (show ¬ (11 : Int) = 16 by decide)]; rw [← HV.out, if_neg HZ.out, if_pos (show (11 : Int) = 11 by rfl)]
    have E := Lib.hid (stepRg_at (c := false) H.out.2 (show (11 : Int) ≠ 0 by decide) (show (11 : Int) ≠ 10 by decide) e rfl)
    clear e
    go_wp2
    go_ret
    rw [E.out]
    have g0 := H1.out.1.put (i := n) (p := ⟨11, pa, pb, pc⟩) (H.out.2) (j := 1) (u := .int .i64 v) (p' := ⟨11, v, pb, pc⟩) (by decide) rfl
    have g1 := g0.put (i := n) (p := ⟨11, v, pb, pc⟩) (by simp [hn]) (j := 0) (u := .int .i64 12) (p' := ⟨12, v, pb, pc⟩) (by decide) rfl
    have ht : Turns [q] w1 ((w1.setCell ⟨q, n * 4 + 1, none⟩ (.int .i64 v)).setCell ⟨q, n * 4 + 0, none⟩ (.int .i64 12)) := ((Turns.refl _ _).setCell (.inl (by simp)) _).setCell (.inl (by simp)) _
    refine ⟨rfl, ?_, ?_⟩
    · simpa using g1
    · have := (H1.out.2.mono (T := [b, gw, q]) (by simp)).trans (ht.mono (T := [b, gw, q]) (by simp))
      simpa using this
set_option maxRecDepth 100000 in
set_option maxHeartbeats 2000000 in
theorem rstep13 {w : World} {y b gw cap q cq : Nat} {t : Int} {r : Rg} (h : RrIs w y b gw cap q cq t r) (n : Nat) (pa pb pc : Int) (hp : r.S[n]? = some ⟨13, pa, pb, pc⟩) (ho : r.ar.ops + 1 ≤ 1000000000000) :
    Calls Try.prog 40 #[.pointer (some ⟨y, 0, none⟩), .int .i64 n] w (RrOk w y b gw cap q cq t (stepRg r t n)) := by
  have hn : n < r.S.length := (List.getElem?_eq_some_iff.1 hp).1
  have hlen := h.len
  have c0 : w.cell? ⟨y, 0, none⟩ = some (.pointer (some ⟨b, 0, none⟩)) := h.lk.cell 0
  have c1 : w.cell? ⟨y, 1, none⟩ = some (.int .i64 t) := h.lk.cell 1
  have c2 : w.cell? ⟨y, 2, none⟩ = some (.slice (some ⟨q, 0, none⟩) r.S.length cq) := h.lk.cell 2
  have a0 := h.cell hp 0 _ rfl
  have a1 := h.cell hp 1 _ rfl
  have a2 := h.cell hp 2 _ rfl
  have a3 := h.cell hp 3 _ rfl
  simp only [Nat.add_zero] at a0
  have t2 : ¬ (n : Int) < 0 := by omega
  have u2 : decide ((n : Int) < 0) = false := decide_eq_false t2
  have t3 : ¬ ((r.S.length : Nat) : Int) ≤ (n : Int) := by omega
  have t4 : (n : Int) < r.S.length := by omega
  have hyq := h.yq
  have H := Lib.hid (And.intro h hp)
  have HD := Lib.hid h.drew
  clear h hp
  obtain ⟨v, hv⟩ : ∃ v, v = ldW r.ar.W (nxA t ((n : Int) + 1)) := ⟨_, rfl⟩
  have HV := Lib.hid hv
  clear hv
  go_enter Try.func40, Try.ntmps40
  go_wp2
  go_region_held3 (fun W => W.cell? ⟨y, 0, none⟩ = some (.pointer (some ⟨b, 0, none⟩)) ∧ W.cell? ⟨y, 1, none⟩ = some (.int .i64 t) ∧ W.cell? ⟨y, 2, none⟩ = some (.slice (some ⟨q, 0, none⟩) r.S.length cq))
    (first | exact ⟨c0, c1, c2⟩ | exact ⟨k0, k1, k2⟩ | exact hk.out _ _)
    (first
      | (go_at_call 66; go_loud (refine (rnext_any HD.out ((n : Int) + 1)).mono ?_); rintro en w1 ⟨rfl, rfl⟩)
      | (go_at_call 69; go_loud (refine (rload_call HD.out.ar (nxA t ((n : Int) + 1)) v HV.out ho).mono ?_); rintro en w1 ⟨rfl, h1, t1⟩; have H1 := Lib.hid (And.intro (HD.out.ar_ h1 t1) (Turns.trans ((Turns.refl _ _).drew) t1)); have k0 : w1.cell? ⟨y, 0, none⟩ = some (.pointer (some ⟨b, 0, none⟩)) := H1.out.1.lk.cell 0; have k1 : w1.cell? ⟨y, 1, none⟩ = some (.int .i64 t) := H1.out.1.lk.cell 1; have k2 : w1.cell? ⟨y, 2, none⟩ = some (.slice (some ⟨q, 0, none⟩) r.S.length cq) := H1.out.1.lk.cell 2; have d0 := H1.out.1.cell H.out.2 0 _ rfl; simp only [Nat.add_zero] at d0; have d1 := H1.out.1.cell H.out.2 1 _ rfl; have d2 := H1.out.1.cell H.out.2 2 _ rfl; have d3 := H1.out.1.cell H.out.2 3 _ rfl; have f0 := H1.out.1.free (n * 4); have f1 := H1.out.1.free (n * 4 + 1); have f2 := H1.out.1.free (n * 4 + 2); have hq := H1.out.1.lt; have hk : Hid (∀ (o : Nat) (u : Value), (w1.setCell ⟨q, o, none⟩ u).cell? ⟨y, 0, none⟩ = some (.pointer (some ⟨b, 0, none⟩)) ∧ (w1.setCell ⟨q, o, none⟩ u).cell? ⟨y, 1, none⟩ = some (.int .i64 t) ∧ (w1.setCell ⟨q, o, none⟩ u).cell? ⟨y, 2, none⟩ = some (.slice (some ⟨q, 0, none⟩) r.S.length cq)) := Lib.hid fun o u => ⟨(H1.out.1.lk.far (p := ⟨q, o, none⟩) H1.out.1.yq u).cell 0, (H1.out.1.lk.far (p := ⟨q, o, none⟩) H1.out.1.yq u).cell 1, (H1.out.1.lk.far (p := ⟨q, o, none⟩) H1.out.1.yq u).cell 2⟩))
  all_goals clear h1 t1
  cases hz : (v != 0)
  · have HZ : Hid (¬ v ≠ 0) := Lib.hid (by simpa using hz)
    have e : stepP r.ar t ((n : Int) + 1) ⟨13, pa, pb, pc⟩ = (loadA r.ar (nxA t ((n : Int) + 1)), ⟨13, v, pb, pc⟩) := by
      unfold stepP outR26; rw [if_neg (show ¬ (13 : Int) < 10 by decide), if_neg (show ¬ (13 : Int) = 12 by decide), if_neg (show ¬ (13 : Int) = 14 by decide), if_neg (show ¬ (13 : Int) = 15 by decide), if_neg (show ¬ (13 : Int) = 16 by decide)]; rw [← HV.out, if_neg HZ.out, if_neg (show ¬ (13 : Int) = 11 by decide)]
    have E := Lib.hid (stepRg_at (c := false) H.out.2 (show (13 : Int) ≠ 0 by decide) (show (13 : Int) ≠ 10 by decide) e rfl)
    clear e
    go_wp2
    go_ret
    rw [E.out]
    have g0 := H1.out.1.put (i := n) (p := ⟨13, pa, pb, pc⟩) (H.out.2) (j := 1) (u := .int .i64 v) (p' := ⟨13, v, pb, pc⟩) (by decide) rfl
    have g1 := g0.put (i := n) (p := ⟨13, v, pb, pc⟩) (by simp [hn]) (j := 0) (u := .int .i64 13) (p' := ⟨13, v, pb, pc⟩) (by decide) rfl
    have ht : Turns [q] w1 ((w1.setCell ⟨q, n * 4 + 1, none⟩ (.int .i64 v)).setCell ⟨q, n * 4 + 0, none⟩ (.int .i64 13)) := ((Turns.refl _ _).setCell (.inl (by simp)) _).setCell (.inl (by simp)) _
    refine ⟨rfl, ?_, ?_⟩
    · simpa using g1
    · have := (H1.out.2.mono (T := [b, gw, q]) (by simp)).trans (ht.mono (T := [b, gw, q]) (by simp))
      simpa using this
  · have HZ : Hid (v ≠ 0) := Lib.hid (by simpa using hz)
    have e : stepP r.ar t ((n : Int) + 1) ⟨13, pa, pb, pc⟩ = (loadA r.ar (nxA t ((n : Int) + 1)), ⟨14, v, pb, pc⟩) := by
      unfold stepP outR26; rw [if_neg (show ¬ (13 : Int) < 10 by decide), if_neg (show ¬ (13 : Int) = 12 by decide), if_neg (show ¬ (13 : Int) = 14 by decide), if_neg (show ¬ (13 : Int) = 15 by decide), if_neg (show ¬ (13 : Int) = 16 by decide)]; rw [← HV.out, if_pos HZ.out]
    have E := Lib.hid (stepRg_at (c := false) H.out.2 (show (13 : Int) ≠ 0 by decide) (show (13 : Int) ≠ 10 by decide) e rfl)
    clear e
    go_wp2
    go_ret
    rw [E.out]
    have g0 := H1.out.1.put (i := n) (p := ⟨13, pa, pb, pc⟩) (H.out.2) (j := 1) (u := .int .i64 v) (p' := ⟨13, v, pb, pc⟩) (by decide) rfl
    have g1 := g0.put (i := n) (p := ⟨13, v, pb, pc⟩) (by simp [hn]) (j := 0) (u := .int .i64 14) (p' := ⟨14, v, pb, pc⟩) (by decide) rfl
    have ht : Turns [q] w1 ((w1.setCell ⟨q, n * 4 + 1, none⟩ (.int .i64 v)).setCell ⟨q, n * 4 + 0, none⟩ (.int .i64 14)) := ((Turns.refl _ _).setCell (.inl (by simp)) _).setCell (.inl (by simp)) _
    refine ⟨rfl, ?_, ?_⟩
    · simpa using g1
    · have := (H1.out.2.mono (T := [b, gw, q]) (by simp)).trans (ht.mono (T := [b, gw, q]) (by simp))
      simpa using this
end Go.Proofs.Ythgpjiebeinamaa
