/- Layer 26: the document's rung: how it lies in memory; its small functions. -/
import Derived.Test.YthgpjiebeinamaaRg5
import Derived.Test.YthgpjiebeinamaaRa2
namespace Go.Proofs.Ythgpjiebeinamaa
open Go.RowKit

structure RrIs (w : World) (y b gw cap q cq : Nat) (t : Int) (r : Rg) : Prop where
  ar : RaIs w b gw cap r.ar
  lk : Blk w y 58 #[.pointer (some ⟨b, 0, none⟩), .int .i64 t, .slice (some ⟨q, 0, none⟩) r.S.length cq]
  sp : w.ownsRow 0 33 4 (.slice (some ⟨q, 0, none⟩) r.S.length cq) r.S.length (r.S.flatMap encP4)
  yb : y ≠ b
  yg : y ≠ gw
  yq : y ≠ q
  qb : q ≠ b
  qg : q ≠ gw
  len : r.S.length ≤ 32
section
variable {w w' : World} {y b gw cap q cq : Nat} {t : Int} {r : Rg}
theorem RrIs.turns {T : List Nat} (h : RrIs w y b gw cap q cq t r) (k : Turns T w w') (h1 : y ∉ T) (h2 : b ∉ T) (h3 : gw ∉ T) (h4 : q ∉ T) : RrIs w' y b gw cap q cq t r :=
  ⟨h.ar.turns k h2 h3, k.blk h.lk h1, Turns.own h.sp k (by simpa [Value.ownBlock] using h4), h.yb, h.yg, h.yq, h.qb, h.qg, h.len⟩
theorem RrIs.below (h : RrIs w y b gw cap q cq t r) (k : Below w.heap.size w w') : RrIs w' y b gw cap q cq t r :=
  h.turns (T := []) (Turns.of_below k) (by simp) (by simp) (by simp) (by simp)
theorem RrIs.drew (h : RrIs w y b gw cap q cq t r) : RrIs w.drew y b gw cap q cq t r := h.turns (T := []) ((Turns.refl _ _).drew) (by simp) (by simp) (by simp) (by simp)
theorem RrIs.ar_ (h : RrIs w y b gw cap q cq t r) {s' : Ar} (hs : RaIs w' b gw cap s') (k : Turns [b, gw] w w') : RrIs w' y b gw cap q cq t ⟨s', r.S⟩ :=
  ⟨hs, k.blk h.lk (by simp [h.yb, h.yg]), Turns.own h.sp k (by simp [Value.ownBlock, h.qb, h.qg]), h.yb, h.yg, h.yq, h.qb, h.qg, h.len⟩
theorem RrIs.cell (h : RrIs w y b gw cap q cq t r) {i : Nat} {p : Sp} (hp : r.S[i]? = some p) (j : Nat) (u : Value) (hu : (encP4 p)[j]? = some u) : w.cell? ⟨q, i * 4 + j, none⟩ = some u := by
  have hi : i < r.S.length := (List.getElem?_eq_some_iff.1 hp).1
  have hj : j < 4 := by have := (List.getElem?_eq_some_iff.1 hu).1; rw [encP4_len] at this; exact this
  rw [h.sp.cellAt _ (by omega)]
  exact getElem?_flatMap encP4 4 encP4_len r.S i p j u hp hu
theorem RrIs.free (h : RrIs w y b gw cap q cq t r) (i : Nat) : w.frozen? ⟨q, i, none⟩ = false := h.sp.frozenAt i
theorem RrIs.lt (h : RrIs w y b gw cap q cq t r) : q < w.heap.size := (h.sp.lt q rfl).2
theorem RrIs.put (h : RrIs w y b gw cap q cq t r) {i : Nat} {p p' : Sp} (hp : r.S[i]? = some p) {j : Nat} {u : Value} (hj : j < 4) (he : (encP4 p).set j u = encP4 p') :
    RrIs (w.setCell ⟨q, i * 4 + j, none⟩ u) y b gw cap q cq t ⟨r.ar, r.S.set i p'⟩ := by
  have ht : Turns [q] w (w.setCell ⟨q, i * 4 + j, none⟩ u) := (Turns.refl _ _).setCell (.inl (by simp)) _
  have h1 := (h.sp.stored (i * 4 + j) u).1
  rw [flatSet encP4 4 encP4_len r.S i p p' j u hp hj he] at h1
  refine ⟨h.ar.turns ht (by simpa using fun e => h.qb e.symm) (by simpa using fun e => h.qg e.symm), ?_, ?_, h.yb, h.yg, h.yq, h.qb, h.qg, by simpa using h.len⟩
  · have := ht.blk h.lk (by simpa using h.yq)
    simpa using this
  · simpa using h1
end
theorem nxR_eq (t x : Int) : wrap64 (wrap64 (t + 1) + wrap64 (2 * wrap64 (x - 1))) = nxA t x := by unfold nxA wrap64; omega
theorem stR_eq (t x : Int) : wrap64 (wrap64 (t + 2) + wrap64 (2 * wrap64 (x - 1))) = stA t x := by unfold stA wrap64; omega
theorem rnext_any {w : World} {y b gw cap q cq : Nat} {t : Int} {r : Rg} (h : RrIs w y b gw cap q cq t r) (x : Int) :
    Calls Try.prog 66 #[.pointer (some ⟨y, 0, none⟩), .int .i64 x] w fun e w' => e = .returned (.int .i64 (nxA t x)) ∧ w = w' := by
  have c1 : w.cell? ⟨y, 1, none⟩ = some (.int .i64 t) := h.lk.cell 1
  clear h
  go_enter Try.func66, Try.ntmps66
  go_wp2
  go_ret
  exact ⟨ret_int (nxR_eq t x), rfl⟩
theorem rstat_any {w : World} {y b gw cap q cq : Nat} {t : Int} {r : Rg} (h : RrIs w y b gw cap q cq t r) (x : Int) :
    Calls Try.prog 67 #[.pointer (some ⟨y, 0, none⟩), .int .i64 x] w fun e w' => e = .returned (.int .i64 (stA t x)) ∧ w = w' := by
  have c1 : w.cell? ⟨y, 1, none⟩ = some (.int .i64 t) := h.lk.cell 1
  clear h
  go_enter Try.func67, Try.ntmps67
  go_wp2
  go_ret
  exact ⟨ret_int (stR_eq t x), rfl⟩
theorem rload_call {w : World} {b gw cap : Nat} {s : Ar} (h : RaIs w b gw cap s) (x r : Int) (hr : r = ldW s.W x) (ho : s.ops + 1 ≤ 1000000000000) :
    Calls Try.prog 69 #[.pointer (some ⟨b, 0, none⟩), .int .i64 x] w (RopOk w b gw cap (loadA s x) (.int .i64 r)) := by rw [hr]; exact rload_any h x ho
theorem rswap_call {w : World} {b gw cap : Nat} {s : Ar} (h : RaIs w b gw cap s) (x v r : Int) (hr : r = ldW s.W x) (ho : s.ops + 1 ≤ 1000000000000) :
    Calls Try.prog 68 #[.pointer (some ⟨b, 0, none⟩), .int .i64 x, .int .i64 v] w (RopOk w b gw cap (swapA s x v) (.int .i64 r)) := by rw [hr]; exact rswap_any h x v ho
theorem rcas_call {w : World} {b gw cap : Nat} {s : Ar} (h : RaIs w b gw cap s) (x old v : Int) (c : Bool) (hb : casB s x old = c) (ho : s.ops + 1 ≤ 1000000000000) :
    Calls Try.prog 70 #[.pointer (some ⟨b, 0, none⟩), .int .i64 x, .int .i64 old, .int .i64 v] w (RopOk w b gw cap (casA s x old v) (.bool c)) := by rw [← hb]; exact rcas_any h x old v ho
set_option maxHeartbeats 400000 in
theorem rspot_any {w : World} {y b gw cap q cq : Nat} {t : Int} {r : Rg} (h : RrIs w y b gw cap q cq t r) (i : Int) :
    Calls Try.prog 23 #[.pointer (some ⟨y, 0, none⟩), .int .i64 i] w fun e w' => e = .returned (spotV (getS r.S i)) ∧ Below w.heap.size w w' := by
  have hlen := h.len
  have c2 : w.cell? ⟨y, 2, none⟩ = some (.slice (some ⟨q, 0, none⟩) r.S.length cq) := h.lk.cell 2
  have hs1 := h.lk.lt
  by_cases hi : okI r.S i
  · have hp := getS_in hi
    obtain ⟨p, hpp⟩ : ∃ p, p = getS r.S i := ⟨_, rfl⟩
    rw [← hpp] at hp ⊢
    have a0 := h.cell hp 0 _ rfl
    have a1 := h.cell hp 1 _ rfl
    have a2 := h.cell hp 2 _ rfl
    have a3 := h.cell hp 3 _ rfl
    simp only [Nat.add_zero] at a0
    obtain ⟨h0, h1⟩ := hi
    obtain ⟨n, rfl⟩ := Int.eq_ofNat_of_zero_le h0
    simp only [Int.toNat_natCast] at a0 a1 a2 a3
    have hs2 := h.lt
    have t2 : ¬ (n : Int) < 0 := by omega
    have t3 : ¬ ((r.S.length : Nat) : Int) ≤ (n : Int) := by omega
    have t4 : n < r.S.length := by omega
    have u2 : decide ((n : Int) < 0) = false := decide_eq_false t2
    clear h hp hpp h0 h1
    go_enter Try.func23, Try.ntmps23
    go_wp2
    exact bodyPost_ret (results_cell_row (by rfl) _ _ w.heap.size 33 _ (0, 0) _ (by rfl) (heap_alloc_new w _) Try.underlying33 rfl (by kernel_rfl)) rfl ⟨rfl, (Below.refl _ _).alloc (Nat.le_refl _) _⟩
  · rw [getS_out hi]
    unfold okI at hi
    clear h
    by_cases h0 : i < 0
    · go_enter Try.func23, Try.ntmps23
      go_wp2
      exact bodyPost_ret (results_cell_row (by rfl) _ _ w.heap.size 33 _ (0, 0) _ (by rfl) (heap_alloc_new w _) Try.underlying33 rfl (by kernel_rfl)) rfl ⟨rfl, (Below.refl _ _).alloc (Nat.le_refl _) _⟩
    · have t3 : ((r.S.length : Nat) : Int) ≤ i := by omega
      clear hi
      go_enter Try.func23, Try.ntmps23
      go_wp2
      exact bodyPost_ret (results_cell_row (by rfl) _ _ w.heap.size 33 _ (0, 0) _ (by rfl) (heap_alloc_new w _) Try.underlying33 rfl (by kernel_rfl)) rfl ⟨rfl, (Below.refl _ _).alloc (Nat.le_refl _) _⟩
def RrBeg (w : World) (y b gw cap q cq : Nat) (t : Int) (x : Rg × Bool) (e : Ending) (w' : World) : Prop := e = .returned (.bool x.2) ∧ RrIs w' y b gw cap q cq t x.1 ∧ Turns [q] w w'
end Go.Proofs.Ythgpjiebeinamaa
