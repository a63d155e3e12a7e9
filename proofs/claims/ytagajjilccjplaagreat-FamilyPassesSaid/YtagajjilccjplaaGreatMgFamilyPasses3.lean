/- Joined: FlA, FlT. -/
import Derived.Deep.AppendLies
import Derived.Deep.RegionHeld3
import Derived.Test.YtagajjilccjplaaGreatMgFamilyPasses2
section
set_option linter.unusedVariables false
set_option linter.unusedSimpArgs false
/- Layers 15 to 19: Slots, spot, Spot, turn, Ask, Leave of the five kinds (printed by gen_fla.py). -/
namespace Go.Proofs.YtagajjilccjplaaGreat
open Go.RowKit

section
variable {w w' : World} {a g : Nat} {x : Fx} {s : Ar} {S : List Sp}
theorem slots_tas (h : KIs w a g 1 x s S) : Calls Tryz.prog 366 #[.pointer (some ⟨x.l, 0, none⟩)] w fun e w' => e = .returned (.int .i64 x.n) ∧ w = w' := by
  have c2 : w.cell? ⟨x.l, 3, none⟩ = some (.slice (some ⟨x.q, 0, none⟩) x.n x.cap) := h.lk.cell 3
  clear h
  go_enter Tryz.func366, Tryz.ntmps366
  go_wp2
  go_ret
  exact ⟨rfl, rfl⟩
theorem spot_tas (h : KIs w a g 1 x s S) (i : Nat) (hi : i < x.n) : Calls Tryz.prog 369 #[.pointer (some ⟨x.l, 0, none⟩), .int .i64 i] w fun e w' => e = .returned (.pointer (some ⟨x.q, i * 4, none⟩)) ∧ w = w' := by
  have c2 : w.cell? ⟨x.l, 3, none⟩ = some (.slice (some ⟨x.q, 0, none⟩) x.n x.cap) := h.lk.cell 3
  have hn := h.n32
  have t2 : ¬ (i : Int) < 0 := by omega
  have t3 : ¬ ((x.n : Nat) : Int) ≤ (i : Int) := by omega
  have H := Lib.hid h
  clear h
  go_enter Tryz.func369, Tryz.ntmps369
  go_wp2_with (go_at_call 366; refine (slots_tas H.out).mono ?_; rintro e w' ⟨rfl, rfl⟩)
  go_ret
  exact ⟨by simp, rfl⟩
set_option maxHeartbeats 400000 in
theorem Spot_tas (h : KIs w a g 1 x s S) (i : Nat) (p : Sp) (hp : S[i]? = some p) : Calls Tryz.prog 367 #[.pointer (some ⟨x.l, 0, none⟩), .int .i64 i] w fun e w' => e = .returned (spotV p) ∧ Below w.heap.size w w' := by
  have hi : i < x.n := by have := (List.getElem?_eq_some_iff.1 hp).1; rw [h.n] at this; exact this
  have a0 := h.sp.cell hp 0 _ rfl
  have a1 := h.sp.cell hp 1 _ rfl
  have a2 := h.sp.cell hp 2 _ rfl
  have a3 := h.sp.cell hp 3 _ rfl
  simp only [Nat.add_zero] at a0
  have hs2 := h.sp.lt
  have H : Hid (KIs (w.alloc (.cells #[.int .i64 0, .int .i64 0, .int .i64 0, .int .i64 0] 145)) a g 1 x s S) := Lib.hid (h.below ((Below.refl _ _).alloc (Nat.le_refl _) _))
  clear h hp
  go_enter Tryz.func367, Tryz.ntmps367
  go_wp2_with (go_at_call 369; refine (spot_tas H.out i hi).mono ?_; rintro e w' ⟨rfl, rfl⟩)
  exact bodyPost_ret (results_cell_row (by rfl) _ _ w.heap.size 145 _ (0, 0) _ (by rfl) (heap_alloc_new w _) Tryz.underlying145 rfl (by kernel_rfl)) rfl ⟨rfl, (Below.refl _ _).alloc (Nat.le_refl _) _⟩
set_option maxHeartbeats 400000 in
theorem ask_tas (h : KIs w a g 1 x s S) (i : Nat) (p : Sp) (hp : S[i]? = some p) : Calls Tryz.prog 364 #[.pointer (some ⟨x.l, 0, none⟩), .int .i64 i] w fun e w' => e = .returned (.bool (decide (p.pc = 0))) ∧ KIs w' a g 1 x s (S.set i (askK 1 p)) ∧ Turns [x.q] w w' := by
  have hi : i < x.n := by have := (List.getElem?_eq_some_iff.1 hp).1; rw [h.n] at this; exact this
  have a0 := h.sp.cell hp 0 _ rfl
  have a1 := h.sp.cell hp 1 _ rfl
  have f0 := h.sp.free (i * 4)
  have f1 := h.sp.free (i * 4 + 1)
  simp only [Nat.add_zero] at a0
  have H := Lib.hid h
  have HP := Lib.hid hp
  clear h hp
  cases hc : (p.pc != 0)
  · have e : p.pc = 0 := by simpa using hc
    go_enter Tryz.func364, Tryz.ntmps364
    go_wp2_with (go_at_call 369; refine (spot_tas H.out i hi).mono ?_; rintro e w' ⟨rfl, rfl⟩)
    go_ret
    have k1 := (H.out.put0 HP.out (p' := { p with pc := 1 }) rfl).put (getS_set HP.out _) (j := 1) (p' := { p with pc := 1, a := 1 }) (by decide) rfl
    try rw [setS_set] at k1
    refine ⟨by first | rfl | (rw [decide_eq_true e]; rfl), ?_, (turns_q _ _ _).trans (turns_q _ _ _)⟩
    unfold askK
    rw [if_pos e]
    exact k1
  · have e : ¬ p.pc = 0 := by simpa using hc
    go_enter Tryz.func364, Tryz.ntmps364
    go_wp2_with (go_at_call 369; refine (spot_tas H.out i hi).mono ?_; rintro e w' ⟨rfl, rfl⟩)
    go_ret
    refine ⟨by first | rfl | (rw [decide_eq_false e]; rfl), ?_, Turns.refl _ _⟩
    unfold askK
    rw [if_neg e, setS_id HP.out]
    exact H.out
set_option maxHeartbeats 400000 in
theorem leave_tas (h : KIs w a g 1 x s S) (i : Nat) (p : Sp) (hp : S[i]? = some p) : Calls Tryz.prog 365 #[.pointer (some ⟨x.l, 0, none⟩), .int .i64 i] w fun e w' => e = .returned (.bool (decide (p.pc = 10))) ∧ KIs w' a g 1 x s (S.set i (leaveK p)) ∧ Turns [x.q] w w' := by
  have hi : i < x.n := by have := (List.getElem?_eq_some_iff.1 hp).1; rw [h.n] at this; exact this
  have a0 := h.sp.cell hp 0 _ rfl
  have a1 := h.sp.cell hp 1 _ rfl
  have f0 := h.sp.free (i * 4)
  have f1 := h.sp.free (i * 4 + 1)
  simp only [Nat.add_zero] at a0
  have H := Lib.hid h
  have HP := Lib.hid hp
  clear h hp
  cases hc : (p.pc != 10)
  · have e : p.pc = 10 := by simpa using hc
    go_enter Tryz.func365, Tryz.ntmps365
    go_wp2_with (go_at_call 369; refine (spot_tas H.out i hi).mono ?_; rintro e w' ⟨rfl, rfl⟩)
    go_ret
    have k1 := H.out.put0 HP.out (p' := { p with pc := 11 }) rfl
    try rw [setS_set] at k1
    refine ⟨by first | rfl | (rw [decide_eq_true e]; rfl), ?_, turns_q _ _ _⟩
    unfold leaveK
    rw [if_pos e]
    exact k1
  · have e : ¬ p.pc = 10 := by simpa using hc
    go_enter Tryz.func365, Tryz.ntmps365
    go_wp2_with (go_at_call 369; refine (spot_tas H.out i hi).mono ?_; rintro e w' ⟨rfl, rfl⟩)
    go_ret
    refine ⟨by first | rfl | (rw [decide_eq_false e]; rfl), ?_, Turns.refl _ _⟩
    unfold leaveK
    rw [if_neg e, setS_id HP.out]
    exact H.out
theorem slots_parted (h : KIs w a g 3 x s S) : Calls Tryz.prog 386 #[.pointer (some ⟨x.l, 0, none⟩)] w fun e w' => e = .returned (.int .i64 x.n) ∧ w = w' := by
  have c2 : w.cell? ⟨x.l, 3, none⟩ = some (.slice (some ⟨x.q, 0, none⟩) x.n x.cap) := h.lk.cell 3
  clear h
  go_enter Tryz.func386, Tryz.ntmps386
  go_wp2
  go_ret
  exact ⟨rfl, rfl⟩
theorem spot_parted (h : KIs w a g 3 x s S) (i : Nat) (hi : i < x.n) : Calls Tryz.prog 392 #[.pointer (some ⟨x.l, 0, none⟩), .int .i64 i] w fun e w' => e = .returned (.pointer (some ⟨x.q, i * 4, none⟩)) ∧ w = w' := by
  have c2 : w.cell? ⟨x.l, 3, none⟩ = some (.slice (some ⟨x.q, 0, none⟩) x.n x.cap) := h.lk.cell 3
  have hn := h.n32
  have t2 : ¬ (i : Int) < 0 := by omega
  have t3 : ¬ ((x.n : Nat) : Int) ≤ (i : Int) := by omega
  have H := Lib.hid h
  clear h
  go_enter Tryz.func392, Tryz.ntmps392
  go_wp2_with (go_at_call 386; refine (slots_parted H.out).mono ?_; rintro e w' ⟨rfl, rfl⟩)
  go_ret
  exact ⟨by simp, rfl⟩
set_option maxHeartbeats 400000 in
theorem Spot_parted (h : KIs w a g 3 x s S) (i : Nat) (p : Sp) (hp : S[i]? = some p) : Calls Tryz.prog 387 #[.pointer (some ⟨x.l, 0, none⟩), .int .i64 i] w fun e w' => e = .returned (spotV p) ∧ Below w.heap.size w w' := by
  have hi : i < x.n := by have := (List.getElem?_eq_some_iff.1 hp).1; rw [h.n] at this; exact this
  have a0 := h.sp.cell hp 0 _ rfl
  have a1 := h.sp.cell hp 1 _ rfl
  have a2 := h.sp.cell hp 2 _ rfl
  have a3 := h.sp.cell hp 3 _ rfl
  simp only [Nat.add_zero] at a0
  have hs2 := h.sp.lt
  have H : Hid (KIs (w.alloc (.cells #[.int .i64 0, .int .i64 0, .int .i64 0, .int .i64 0] 145)) a g 3 x s S) := Lib.hid (h.below ((Below.refl _ _).alloc (Nat.le_refl _) _))
  clear h hp
  go_enter Tryz.func387, Tryz.ntmps387
  go_wp2_with (go_at_call 392; refine (spot_parted H.out i hi).mono ?_; rintro e w' ⟨rfl, rfl⟩)
  exact bodyPost_ret (results_cell_row (by rfl) _ _ w.heap.size 145 _ (0, 0) _ (by rfl) (heap_alloc_new w _) Tryz.underlying145 rfl (by kernel_rfl)) rfl ⟨rfl, (Below.refl _ _).alloc (Nat.le_refl _) _⟩
set_option maxHeartbeats 400000 in
theorem turn_parted (h : KIs w a g 3 x s S) (i : Nat) (p : Sp) (hp : S[i]? = some p) (from_ to_ : Int) : Calls Tryz.prog 391 #[.pointer (some ⟨x.l, 0, none⟩), .int .i64 i, .int .i64 from_, .int .i64 to_] w fun e w' => e = .returned (.bool (decide (p.pc = from_))) ∧ KIs w' a g 3 x s (if p.pc = from_ then S.set i { p with pc := to_ } else S) ∧ Turns [x.q] w w' := by
  have hi : i < x.n := by have := (List.getElem?_eq_some_iff.1 hp).1; rw [h.n] at this; exact this
  have a0 := h.sp.cell hp 0 _ rfl
  have f0 := h.sp.free (i * 4)
  simp only [Nat.add_zero] at a0
  have H := Lib.hid h
  have HP := Lib.hid hp
  clear h hp
  cases hc : (p.pc != from_)
  · have e : p.pc = from_ := by simpa using hc
    go_enter Tryz.func391, Tryz.ntmps391
    go_wp2_with (go_at_call 392; refine (spot_parted H.out i hi).mono ?_; rintro e w' ⟨rfl, rfl⟩)
    go_ret
    exact ⟨by first | rfl | (rw [decide_eq_true e]; rfl), by first | exact H.out.put0 HP.out rfl | (rw [if_pos e]; exact H.out.put0 HP.out rfl), turns_q _ _ _⟩
  · have e : ¬ p.pc = from_ := by simpa using hc
    go_enter Tryz.func391, Tryz.ntmps391
    go_wp2_with (go_at_call 392; refine (spot_parted H.out i hi).mono ?_; rintro e w' ⟨rfl, rfl⟩)
    go_ret
    exact ⟨by first | rfl | (rw [decide_eq_false e]; rfl), by first | exact H.out | (rw [if_neg e]; exact H.out), Turns.refl _ _⟩
theorem ask_parted (h : KIs w a g 3 x s S) (i : Nat) (p : Sp) (hp : S[i]? = some p) : Calls Tryz.prog 384 #[.pointer (some ⟨x.l, 0, none⟩), .int .i64 i] w fun e w' => e = .returned (.bool (decide (p.pc = 0))) ∧ KIs w' a g 3 x s (S.set i (askK 3 p)) ∧ Turns [x.q] w w' := by
  have HT := Lib.hid (turn_parted h i p hp 0 1)
  have HP := Lib.hid hp
  clear h hp
  go_enter Tryz.func384, Tryz.ntmps384
  go_wp2_with (go_at_call 391; refine HT.out.mono ?_; rintro e w' ⟨rfl, k1, t1⟩; have HK := Lib.hid (And.intro k1 t1); clear k1 t1)
  go_ret
  refine ⟨rfl, ?_, HK.out.2⟩
  have k1 := HK.out.1
  unfold askK
  split
  · rename_i e
    rw [if_pos e] at k1
    exact k1
  · rename_i e
    rw [if_neg e] at k1
    rw [setS_id HP.out]
    exact k1
theorem leave_parted (h : KIs w a g 3 x s S) (i : Nat) (p : Sp) (hp : S[i]? = some p) : Calls Tryz.prog 385 #[.pointer (some ⟨x.l, 0, none⟩), .int .i64 i] w fun e w' => e = .returned (.bool (decide (p.pc = 10))) ∧ KIs w' a g 3 x s (S.set i (leaveK p)) ∧ Turns [x.q] w w' := by
  have HT := Lib.hid (turn_parted h i p hp 10 11)
  have HP := Lib.hid hp
  clear h hp
  go_enter Tryz.func385, Tryz.ntmps385
  go_wp2_with (go_at_call 391; refine HT.out.mono ?_; rintro e w' ⟨rfl, k1, t1⟩; have HK := Lib.hid (And.intro k1 t1); clear k1 t1)
  go_ret
  refine ⟨rfl, ?_, HK.out.2⟩
  have k1 := HK.out.1
  unfold leaveK
  split
  · rename_i e
    rw [if_pos e] at k1
    exact k1
  · rename_i e
    rw [if_neg e] at k1
    rw [setS_id HP.out]
    exact k1
theorem slots_mcs (h : KIs w a g 4 x s S) : Calls Tryz.prog 397 #[.pointer (some ⟨x.l, 0, none⟩)] w fun e w' => e = .returned (.int .i64 x.n) ∧ w = w' := by
  have c2 : w.cell? ⟨x.l, 2, none⟩ = some (.slice (some ⟨x.q, 0, none⟩) x.n x.cap) := h.lk.cell 2
  clear h
  go_enter Tryz.func397, Tryz.ntmps397
  go_wp2
  go_ret
  exact ⟨rfl, rfl⟩
theorem spot_mcs (h : KIs w a g 4 x s S) (i : Nat) (hi : i < x.n) : Calls Tryz.prog 402 #[.pointer (some ⟨x.l, 0, none⟩), .int .i64 i] w fun e w' => e = .returned (.pointer (some ⟨x.q, i * 4, none⟩)) ∧ w = w' := by
  have c2 : w.cell? ⟨x.l, 2, none⟩ = some (.slice (some ⟨x.q, 0, none⟩) x.n x.cap) := h.lk.cell 2
  have hn := h.n32
  have t2 : ¬ (i : Int) < 0 := by omega
  have t3 : ¬ ((x.n : Nat) : Int) ≤ (i : Int) := by omega
  have H := Lib.hid h
  clear h
  go_enter Tryz.func402, Tryz.ntmps402
  go_wp2_with (go_at_call 397; refine (slots_mcs H.out).mono ?_; rintro e w' ⟨rfl, rfl⟩)
  go_ret
  exact ⟨by simp, rfl⟩
set_option maxHeartbeats 400000 in
theorem Spot_mcs (h : KIs w a g 4 x s S) (i : Nat) (p : Sp) (hp : S[i]? = some p) : Calls Tryz.prog 398 #[.pointer (some ⟨x.l, 0, none⟩), .int .i64 i] w fun e w' => e = .returned (spotV p) ∧ Below w.heap.size w w' := by
  have hi : i < x.n := by have := (List.getElem?_eq_some_iff.1 hp).1; rw [h.n] at this; exact this
  have a0 := h.sp.cell hp 0 _ rfl
  have a1 := h.sp.cell hp 1 _ rfl
  have a2 := h.sp.cell hp 2 _ rfl
  have a3 := h.sp.cell hp 3 _ rfl
  simp only [Nat.add_zero] at a0
  have hs2 := h.sp.lt
  have H : Hid (KIs (w.alloc (.cells #[.int .i64 0, .int .i64 0, .int .i64 0, .int .i64 0] 145)) a g 4 x s S) := Lib.hid (h.below ((Below.refl _ _).alloc (Nat.le_refl _) _))
  clear h hp
  go_enter Tryz.func398, Tryz.ntmps398
  go_wp2_with (go_at_call 402; refine (spot_mcs H.out i hi).mono ?_; rintro e w' ⟨rfl, rfl⟩)
  exact bodyPost_ret (results_cell_row (by rfl) _ _ w.heap.size 145 _ (0, 0) _ (by rfl) (heap_alloc_new w _) Tryz.underlying145 rfl (by kernel_rfl)) rfl ⟨rfl, (Below.refl _ _).alloc (Nat.le_refl _) _⟩
set_option maxHeartbeats 400000 in
theorem turn_mcs (h : KIs w a g 4 x s S) (i : Nat) (p : Sp) (hp : S[i]? = some p) (from_ to_ : Int) : Calls Tryz.prog 401 #[.pointer (some ⟨x.l, 0, none⟩), .int .i64 i, .int .i64 from_, .int .i64 to_] w fun e w' => e = .returned (.bool (decide (p.pc = from_))) ∧ KIs w' a g 4 x s (if p.pc = from_ then S.set i { p with pc := to_ } else S) ∧ Turns [x.q] w w' := by
  have hi : i < x.n := by have := (List.getElem?_eq_some_iff.1 hp).1; rw [h.n] at this; exact this
  have a0 := h.sp.cell hp 0 _ rfl
  have f0 := h.sp.free (i * 4)
  simp only [Nat.add_zero] at a0
  have H := Lib.hid h
  have HP := Lib.hid hp
  clear h hp
  cases hc : (p.pc != from_)
  · have e : p.pc = from_ := by simpa using hc
    go_enter Tryz.func401, Tryz.ntmps401
    go_wp2_with (go_at_call 402; refine (spot_mcs H.out i hi).mono ?_; rintro e w' ⟨rfl, rfl⟩)
    go_ret
    exact ⟨by first | rfl | (rw [decide_eq_true e]; rfl), by first | exact H.out.put0 HP.out rfl | (rw [if_pos e]; exact H.out.put0 HP.out rfl), turns_q _ _ _⟩
  · have e : ¬ p.pc = from_ := by simpa using hc
    go_enter Tryz.func401, Tryz.ntmps401
    go_wp2_with (go_at_call 402; refine (spot_mcs H.out i hi).mono ?_; rintro e w' ⟨rfl, rfl⟩)
    go_ret
    exact ⟨by first | rfl | (rw [decide_eq_false e]; rfl), by first | exact H.out | (rw [if_neg e]; exact H.out), Turns.refl _ _⟩
theorem ask_mcs (h : KIs w a g 4 x s S) (i : Nat) (p : Sp) (hp : S[i]? = some p) : Calls Tryz.prog 395 #[.pointer (some ⟨x.l, 0, none⟩), .int .i64 i] w fun e w' => e = .returned (.bool (decide (p.pc = 0))) ∧ KIs w' a g 4 x s (S.set i (askK 4 p)) ∧ Turns [x.q] w w' := by
  have HT := Lib.hid (turn_mcs h i p hp 0 1)
  have HP := Lib.hid hp
  clear h hp
  go_enter Tryz.func395, Tryz.ntmps395
  go_wp2_with (go_at_call 401; refine HT.out.mono ?_; rintro e w' ⟨rfl, k1, t1⟩; have HK := Lib.hid (And.intro k1 t1); clear k1 t1)
  go_ret
  refine ⟨rfl, ?_, HK.out.2⟩
  have k1 := HK.out.1
  unfold askK
  split
  · rename_i e
    rw [if_pos e] at k1
    exact k1
  · rename_i e
    rw [if_neg e] at k1
    rw [setS_id HP.out]
    exact k1
theorem leave_mcs (h : KIs w a g 4 x s S) (i : Nat) (p : Sp) (hp : S[i]? = some p) : Calls Tryz.prog 396 #[.pointer (some ⟨x.l, 0, none⟩), .int .i64 i] w fun e w' => e = .returned (.bool (decide (p.pc = 10))) ∧ KIs w' a g 4 x s (S.set i (leaveK p)) ∧ Turns [x.q] w w' := by
  have HT := Lib.hid (turn_mcs h i p hp 10 11)
  have HP := Lib.hid hp
  clear h hp
  go_enter Tryz.func396, Tryz.ntmps396
  go_wp2_with (go_at_call 401; refine HT.out.mono ?_; rintro e w' ⟨rfl, k1, t1⟩; have HK := Lib.hid (And.intro k1 t1); clear k1 t1)
  go_ret
  refine ⟨rfl, ?_, HK.out.2⟩
  have k1 := HK.out.1
  unfold leaveK
  split
  · rename_i e
    rw [if_pos e] at k1
    exact k1
  · rename_i e
    rw [if_neg e] at k1
    rw [setS_id HP.out]
    exact k1
theorem slots_clh (h : KIs w a g 5 x s S) : Calls Tryz.prog 410 #[.pointer (some ⟨x.l, 0, none⟩)] w fun e w' => e = .returned (.int .i64 x.n) ∧ w = w' := by
  have c2 : w.cell? ⟨x.l, 2, none⟩ = some (.slice (some ⟨x.q, 0, none⟩) x.n x.cap) := h.lk.cell 2
  clear h
  go_enter Tryz.func410, Tryz.ntmps410
  go_wp2
  go_ret
  exact ⟨rfl, rfl⟩
theorem spot_clh (h : KIs w a g 5 x s S) (i : Nat) (hi : i < x.n) : Calls Tryz.prog 414 #[.pointer (some ⟨x.l, 0, none⟩), .int .i64 i] w fun e w' => e = .returned (.pointer (some ⟨x.q, i * 4, none⟩)) ∧ w = w' := by
  have c2 : w.cell? ⟨x.l, 2, none⟩ = some (.slice (some ⟨x.q, 0, none⟩) x.n x.cap) := h.lk.cell 2
  have hn := h.n32
  have t2 : ¬ (i : Int) < 0 := by omega
  have t3 : ¬ ((x.n : Nat) : Int) ≤ (i : Int) := by omega
  have H := Lib.hid h
  clear h
  go_enter Tryz.func414, Tryz.ntmps414
  go_wp2_with (go_at_call 410; refine (slots_clh H.out).mono ?_; rintro e w' ⟨rfl, rfl⟩)
  go_ret
  exact ⟨by simp, rfl⟩
set_option maxHeartbeats 400000 in
theorem Spot_clh (h : KIs w a g 5 x s S) (i : Nat) (p : Sp) (hp : S[i]? = some p) : Calls Tryz.prog 411 #[.pointer (some ⟨x.l, 0, none⟩), .int .i64 i] w fun e w' => e = .returned (spotV p) ∧ Below w.heap.size w w' := by
  have hi : i < x.n := by have := (List.getElem?_eq_some_iff.1 hp).1; rw [h.n] at this; exact this
  have a0 := h.sp.cell hp 0 _ rfl
  have a1 := h.sp.cell hp 1 _ rfl
  have a2 := h.sp.cell hp 2 _ rfl
  have a3 := h.sp.cell hp 3 _ rfl
  simp only [Nat.add_zero] at a0
  have hs2 := h.sp.lt
  have H : Hid (KIs (w.alloc (.cells #[.int .i64 0, .int .i64 0, .int .i64 0, .int .i64 0] 145)) a g 5 x s S) := Lib.hid (h.below ((Below.refl _ _).alloc (Nat.le_refl _) _))
  clear h hp
  go_enter Tryz.func411, Tryz.ntmps411
  go_wp2_with (go_at_call 414; refine (spot_clh H.out i hi).mono ?_; rintro e w' ⟨rfl, rfl⟩)
  exact bodyPost_ret (results_cell_row (by rfl) _ _ w.heap.size 145 _ (0, 0) _ (by rfl) (heap_alloc_new w _) Tryz.underlying145 rfl (by kernel_rfl)) rfl ⟨rfl, (Below.refl _ _).alloc (Nat.le_refl _) _⟩
set_option maxHeartbeats 400000 in
theorem turn_clh (h : KIs w a g 5 x s S) (i : Nat) (p : Sp) (hp : S[i]? = some p) (from_ to_ : Int) : Calls Tryz.prog 413 #[.pointer (some ⟨x.l, 0, none⟩), .int .i64 i, .int .i64 from_, .int .i64 to_] w fun e w' => e = .returned (.bool (decide (p.pc = from_))) ∧ KIs w' a g 5 x s (if p.pc = from_ then S.set i { p with pc := to_ } else S) ∧ Turns [x.q] w w' := by
  have hi : i < x.n := by have := (List.getElem?_eq_some_iff.1 hp).1; rw [h.n] at this; exact this
  have a0 := h.sp.cell hp 0 _ rfl
  have f0 := h.sp.free (i * 4)
  simp only [Nat.add_zero] at a0
  have H := Lib.hid h
  have HP := Lib.hid hp
  clear h hp
  cases hc : (p.pc != from_)
  · have e : p.pc = from_ := by simpa using hc
    go_enter Tryz.func413, Tryz.ntmps413
    go_wp2_with (go_at_call 414; refine (spot_clh H.out i hi).mono ?_; rintro e w' ⟨rfl, rfl⟩)
    go_ret
    exact ⟨by first | rfl | (rw [decide_eq_true e]; rfl), by first | exact H.out.put0 HP.out rfl | (rw [if_pos e]; exact H.out.put0 HP.out rfl), turns_q _ _ _⟩
  · have e : ¬ p.pc = from_ := by simpa using hc
    go_enter Tryz.func413, Tryz.ntmps413
    go_wp2_with (go_at_call 414; refine (spot_clh H.out i hi).mono ?_; rintro e w' ⟨rfl, rfl⟩)
    go_ret
    exact ⟨by first | rfl | (rw [decide_eq_false e]; rfl), by first | exact H.out | (rw [if_neg e]; exact H.out), Turns.refl _ _⟩
theorem ask_clh (h : KIs w a g 5 x s S) (i : Nat) (p : Sp) (hp : S[i]? = some p) : Calls Tryz.prog 408 #[.pointer (some ⟨x.l, 0, none⟩), .int .i64 i] w fun e w' => e = .returned (.bool (decide (p.pc = 0))) ∧ KIs w' a g 5 x s (S.set i (askK 5 p)) ∧ Turns [x.q] w w' := by
  have HT := Lib.hid (turn_clh h i p hp 0 1)
  have HP := Lib.hid hp
  clear h hp
  go_enter Tryz.func408, Tryz.ntmps408
  go_wp2_with (go_at_call 413; refine HT.out.mono ?_; rintro e w' ⟨rfl, k1, t1⟩; have HK := Lib.hid (And.intro k1 t1); clear k1 t1)
  go_ret
  refine ⟨rfl, ?_, HK.out.2⟩
  have k1 := HK.out.1
  unfold askK
  split
  · rename_i e
    rw [if_pos e] at k1
    exact k1
  · rename_i e
    rw [if_neg e] at k1
    rw [setS_id HP.out]
    exact k1
theorem leave_clh (h : KIs w a g 5 x s S) (i : Nat) (p : Sp) (hp : S[i]? = some p) : Calls Tryz.prog 409 #[.pointer (some ⟨x.l, 0, none⟩), .int .i64 i] w fun e w' => e = .returned (.bool (decide (p.pc = 10))) ∧ KIs w' a g 5 x s (S.set i (leaveK p)) ∧ Turns [x.q] w w' := by
  have HT := Lib.hid (turn_clh h i p hp 10 11)
  have HP := Lib.hid hp
  clear h hp
  go_enter Tryz.func409, Tryz.ntmps409
  go_wp2_with (go_at_call 413; refine HT.out.mono ?_; rintro e w' ⟨rfl, k1, t1⟩; have HK := Lib.hid (And.intro k1 t1); clear k1 t1)
  go_ret
  refine ⟨rfl, ?_, HK.out.2⟩
  have k1 := HK.out.1
  unfold leaveK
  split
  · rename_i e
    rw [if_pos e] at k1
    exact k1
  · rename_i e
    rw [if_neg e] at k1
    rw [setS_id HP.out]
    exact k1
theorem slots_ticket (h : KIs w a g 2 x s S) : Calls Tryz.prog 382 #[.pointer (some ⟨x.l, 0, none⟩)] w fun e w' => e = .returned (.int .i64 x.n) ∧ w = w' := by
  have c2 : w.cell? ⟨x.l, 0, none⟩ = some (.slice (some ⟨x.q, 0, none⟩) x.n x.cap) := h.lk.cell 0
  clear h
  go_enter Tryz.func382, Tryz.ntmps382
  go_wp2
  go_ret
  exact ⟨rfl, rfl⟩
theorem spot_ticket (h : KIs w a g 2 x s S) (i : Nat) (hi : i < x.n) : Calls Tryz.prog 381 #[.pointer (some ⟨x.l, 0, none⟩), .int .i64 i] w fun e w' => e = .returned (.pointer (some ⟨x.q, i * 4, none⟩)) ∧ w = w' := by
  have c2 : w.cell? ⟨x.l, 0, none⟩ = some (.slice (some ⟨x.q, 0, none⟩) x.n x.cap) := h.lk.cell 0
  have hn := h.n32
  have t2 : ¬ (i : Int) < 0 := by omega
  have t3 : ¬ ((x.n : Nat) : Int) ≤ (i : Int) := by omega
  have H := Lib.hid h
  clear h
  go_enter Tryz.func381, Tryz.ntmps381
  go_wp2_with (go_at_call 382; refine (slots_ticket H.out).mono ?_; rintro e w' ⟨rfl, rfl⟩)
  go_ret
  exact ⟨by simp, rfl⟩
set_option maxHeartbeats 400000 in
theorem at_ticket (h : KIs w a g 2 x s S) (i : Nat) (p : Sp) (hp : S[i]? = some p) (pc : Int) : Calls Tryz.prog 378 #[.pointer (some ⟨x.l, 0, none⟩), .int .i64 i, .int .i64 pc] w fun e w' => e = .returned (.pointer (if p.pc = pc then some ⟨x.q, i * 4, none⟩ else none)) ∧ w = w' := by
  have hi : i < x.n := by have := (List.getElem?_eq_some_iff.1 hp).1; rw [h.n] at this; exact this
  have a0 := h.sp.cell hp 0 _ rfl
  simp only [Nat.add_zero] at a0
  have H := Lib.hid h
  clear h hp
  cases hc : (p.pc != pc)
  · have e : p.pc = pc := by simpa using hc
    go_enter Tryz.func378, Tryz.ntmps378
    go_wp2_with (go_at_call 381; refine (spot_ticket H.out i hi).mono ?_; rintro e w' ⟨rfl, rfl⟩)
    go_ret
    exact ⟨by first | rfl | (rw [if_pos e]; rfl), rfl⟩
  · have e : ¬ p.pc = pc := by simpa using hc
    go_enter Tryz.func378, Tryz.ntmps378
    go_wp2_with (go_at_call 381; refine (spot_ticket H.out i hi).mono ?_; rintro e w' ⟨rfl, rfl⟩)
    go_ret
    exact ⟨by first | rfl | (rw [if_neg e]; rfl), rfl⟩
set_option maxHeartbeats 400000 in
theorem turn_ticket (h : KIs w a g 2 x s S) (i : Nat) (p : Sp) (hp : S[i]? = some p) (from_ to_ : Int) : Calls Tryz.prog 379 #[.pointer (some ⟨x.l, 0, none⟩), .int .i64 i, .int .i64 from_, .int .i64 to_] w fun e w' => e = .returned (.bool (decide (p.pc = from_))) ∧ KIs w' a g 2 x s (if p.pc = from_ then S.set i { p with pc := to_ } else S) ∧ Turns [x.q] w w' := by
  have f0 := h.sp.free (i * 4)
  have a0 := h.sp.cell hp 0 _ rfl
  simp only [Nat.add_zero] at a0
  have HA := Lib.hid (at_ticket h i p hp from_)
  have H := Lib.hid h
  have HP := Lib.hid hp
  clear h hp
  by_cases e : p.pc = from_
  · rw [if_pos e] at HA
    have HE := Lib.hid e
    clear e
    go_enter Tryz.func379, Tryz.ntmps379
    go_wp2_with (go_at_call 378; refine HA.out.mono ?_; rintro e w' ⟨rfl, rfl⟩)
    go_ret
    exact ⟨by first | rfl | (rw [decide_eq_true HE.out]; rfl), by first | exact H.out.put0 HP.out rfl | (rw [if_pos HE.out]; exact H.out.put0 HP.out rfl), turns_q _ _ _⟩
  · rw [if_neg e] at HA
    have HE := Lib.hid e
    clear e
    go_enter Tryz.func379, Tryz.ntmps379
    go_wp2_with (go_at_call 378; refine HA.out.mono ?_; rintro e w' ⟨rfl, rfl⟩)
    go_ret
    exact ⟨by first | rfl | (rw [decide_eq_false HE.out]; rfl), by first | exact H.out | (rw [if_neg HE.out]; exact H.out), Turns.refl _ _⟩
theorem of_ticket (w : World) (l : Nat) : Calls Tryz.prog 377 #[.pointer (some ⟨l, 0, none⟩)] w fun e w' => e = .returned (.pointer (some ⟨l, 0, none⟩)) ∧ w = w' := by
  go_enter Tryz.func377, Tryz.ntmps377
  go_wp2
  go_ret
  exact ⟨rfl, rfl⟩
theorem ask_ticket (h : KIs w a g 2 x s S) (i : Nat) (p : Sp) (hp : S[i]? = some p) : Calls Tryz.prog 372 #[.pointer (some ⟨x.l, 0, none⟩), .int .i64 i] w fun e w' => e = .returned (.bool (decide (p.pc = 0))) ∧ KIs w' a g 2 x s (S.set i (askK 2 p)) ∧ Turns [x.q] w w' := by
  have HT := Lib.hid (turn_ticket h i p hp 0 1)
  have HP := Lib.hid hp
  clear h hp
  go_enter Tryz.func372, Tryz.ntmps372
  go_wp2_with (go_at_call 377; refine (of_ticket _ _).mono ?_; rintro e w' ⟨rfl, rfl⟩)
  go_wp2_with (go_at_call 379; refine HT.out.mono ?_; rintro e w' ⟨rfl, k1, t1⟩; have HK := Lib.hid (And.intro k1 t1); clear k1 t1)
  go_ret
  refine ⟨rfl, ?_, HK.out.2⟩
  have k1 := HK.out.1
  unfold askK
  split
  · rename_i e
    rw [if_pos e] at k1
    exact k1
  · rename_i e
    rw [if_neg e] at k1
    rw [setS_id HP.out]
    exact k1
theorem leave_ticket (h : KIs w a g 2 x s S) (i : Nat) (p : Sp) (hp : S[i]? = some p) : Calls Tryz.prog 373 #[.pointer (some ⟨x.l, 0, none⟩), .int .i64 i] w fun e w' => e = .returned (.bool (decide (p.pc = 10))) ∧ KIs w' a g 2 x s (S.set i (leaveK p)) ∧ Turns [x.q] w w' := by
  have HT := Lib.hid (turn_ticket h i p hp 10 11)
  have HP := Lib.hid hp
  clear h hp
  go_enter Tryz.func373, Tryz.ntmps373
  go_wp2_with (go_at_call 377; refine (of_ticket _ _).mono ?_; rintro e w' ⟨rfl, rfl⟩)
  go_wp2_with (go_at_call 379; refine HT.out.mono ?_; rintro e w' ⟨rfl, k1, t1⟩; have HK := Lib.hid (And.intro k1 t1); clear k1 t1)
  go_ret
  refine ⟨rfl, ?_, HK.out.2⟩
  have k1 := HK.out.1
  unfold leaveK
  split
  · rename_i e
    rw [if_pos e] at k1
    exact k1
  · rename_i e
    rw [if_neg e] at k1
    rw [setS_id HP.out]
    exact k1
theorem turnZ_ticket (i : Nat) (p0 p : Sp) (hp : S[i]? = some p0) (h : KIs w a g 2 x s (S.set i p)) (to_ : Int) : Calls Tryz.prog 379 #[.pointer (some ⟨x.l, 0, none⟩), .int .i64 i, .int .i64 p.pc, .int .i64 to_] w fun e w' => e = .returned (.bool true) ∧ KIs w' a g 2 x s (S.set i { p with pc := to_ }) ∧ Turns [x.q] w w' := by
  refine (turn_ticket h i p (getS_set hp p) p.pc to_).mono ?_
  rintro e w' ⟨rfl, k, t⟩
  rw [if_pos rfl, setS_set] at k
  exact ⟨by rw [decide_eq_true rfl], k, t⟩
theorem turnZ_parted (i : Nat) (p0 p : Sp) (hp : S[i]? = some p0) (h : KIs w a g 3 x s (S.set i p)) (to_ : Int) : Calls Tryz.prog 391 #[.pointer (some ⟨x.l, 0, none⟩), .int .i64 i, .int .i64 p.pc, .int .i64 to_] w fun e w' => e = .returned (.bool true) ∧ KIs w' a g 3 x s (S.set i { p with pc := to_ }) ∧ Turns [x.q] w w' := by
  refine (turn_parted h i p (getS_set hp p) p.pc to_).mono ?_
  rintro e w' ⟨rfl, k, t⟩
  rw [if_pos rfl, setS_set] at k
  exact ⟨by rw [decide_eq_true rfl], k, t⟩
theorem turnZ_clh (i : Nat) (p0 p : Sp) (hp : S[i]? = some p0) (h : KIs w a g 5 x s (S.set i p)) (to_ : Int) : Calls Tryz.prog 413 #[.pointer (some ⟨x.l, 0, none⟩), .int .i64 i, .int .i64 p.pc, .int .i64 to_] w fun e w' => e = .returned (.bool true) ∧ KIs w' a g 5 x s (S.set i { p with pc := to_ }) ∧ Turns [x.q] w w' := by
  refine (turn_clh h i p (getS_set hp p) p.pc to_).mono ?_
  rintro e w' ⟨rfl, k, t⟩
  rw [if_pos rfl, setS_set] at k
  exact ⟨by rw [decide_eq_true rfl], k, t⟩
end
end Go.Proofs.YtagajjilccjplaaGreat
end
section
set_option linter.unusedVariables false
set_option linter.unusedSimpArgs false
/- Layer 16 (ticket): Step and Alone. -/
namespace Go.Proofs.YtagajjilccjplaaGreat
open Go.RowKit

section
variable {w w' : World} {a g k : Nat} {x : Fx} {s : Ar} {S : List Sp}
def StOk (w : World) (a g k : Nat) (x : Fx) (s : Ar) (S : List Sp) (i : Nat) (p : Sp) (e : Ending) (w' : World) : Prop :=
  e = .returned (.bool (cameK p (stepK k x.t x.m s i p).2)) ∧ KIs w' a g k x (stepK k x.t x.m s i p).1 (S.set i (stepK k x.t x.m s i p).2) ∧ Turns [a, g, x.q] w w'
def AlOk (w : World) (a g k : Nat) (x : Fx) (s : Ar) (S : List Sp) (i : Nat) (p : Sp) (e : Ending) (w' : World) : Prop :=
  e = .returned (.bool (aloneK k x.t s i p).2) ∧ KIs w' a g k x (aloneK k x.t s i p).1 S ∧ Turns [a, g, x.q] w w'
theorem turns_agq {q : Nat} (h : Turns [a, g] w w') : Turns [a, g, q] w w' := h.mono (by simp)
theorem turns_qag {q : Nat} (h : Turns [q] w w') : Turns [a, g, q] w w' := h.mono (by simp)
theorem KIs.ti (h : KIs w a g 2 x s S) : w.cell? ⟨x.l, 1, none⟩ = some (.pointer (some ⟨a, 0, none⟩)) ∧ w.cell? ⟨x.l, 2, none⟩ = some (.int .i64 x.t) := ⟨h.lk.cell 1, h.lk.cell 2⟩
set_option maxRecDepth 100000 in
set_option maxHeartbeats 2000000 in
theorem step_tick1 (h : KIs w a g 2 x s S) (i : Nat) (u b z : Int) (hp : S[i]? = some (⟨1, u, b, z⟩ : Sp)) (ho : s.ops + 1 ≤ 1000000000000) (hw : inR s.W x.t = true) (hv0 : 0 ≤ ldW s.W x.t) (hv1 : ldW s.W x.t ≤ 10000000000000) :
    Calls Tryz.prog 376 #[.pointer (some ⟨x.l, 0, none⟩), .int .i64 i] w (StOk w a g 2 x s S i ⟨1, u, b, z⟩) := by
  have hi : i < x.n := by have := (List.getElem?_eq_some_iff.1 hp).1; rw [h.n] at this; exact this
  have a0 := h.sp.cell hp 0 _ rfl
  simp only [Nat.add_zero] at a0
  obtain ⟨ar', har⟩ : ∃ q, q = addA s x.t 1 := ⟨_, rfl⟩
  obtain ⟨v, hv⟩ : ∃ v, v = ldW s.W x.t := ⟨_, rfl⟩
  have HX : Hid (stepK 2 x.t x.m s i ⟨1, u, b, z⟩ = (ar', ⟨2, v, b, z⟩)) := Lib.hid (by rw [har, hv]; rfl)
  have HO0 := (fun W (k : KIs W a g 2 x s S) => add_any k.ar x.t 1 ho)
  rw [if_pos hw, ← har, ← hv] at HO0
  rw [← hv] at hv0 hv1
  have e1 : IntKind.i64.wrap (v + 1) = v + 1 := IntWalk.i64_in _ (by omega)
  have e2 : IntKind.i64.wrap v = v := IntWalk.i64_in _ (by omega)
  rw [e1] at HO0
  have HO := Lib.hid HO0
  have HP := Lib.hid hp
  have K0 := Lib.hid h
  have K1 := Lib.hid (h.below ((Below.refl _ w).drew))
  clear HO0 h hp har hv e1
  go_enter Tryz.func376, Tryz.ntmps376
  go_wp2_with (go_at_call 377; refine (of_ticket _ _).mono ?_; rintro e w' ⟨rfl, rfl⟩)
  go_wp2_with (go_at_call 381; refine (spot_ticket K0.out i hi).mono ?_; rintro e w' ⟨rfl, rfl⟩)
  go_region_held3 (fun W => W.cell? ⟨x.l, 1, none⟩ = some (.pointer (some ⟨a, 0, none⟩)) ∧ W.cell? ⟨x.l, 2, none⟩ = some (.int .i64 x.t))
    (first | with_reducible exact K1.out.ti | with_reducible exact K2.out.ti | with_reducible exact K3.out.ti)
    (first
      | (go_at_call 256; go_loud (refine (HO.out _ K1.out).mono ?_); rintro en w3 ⟨rfl, a3, t3⟩; have K2 := Lib.hid (K1.out.op t3 a3); have T2 := Lib.hid (((Turns.refl [a, g, x.q] w).drew).trans (turns_agq t3)); have K3 := Lib.hid (K2.out.put (p' := (⟨1, v, b, z⟩ : Sp)) HP.out (j := 1) (u := .int .i64 v) (by decide) rfl); have e4 := K2.out.sp.cell HP.out 1 _ rfl; have z1 := K2.out.sp.free (i * 4 + 1); clear a3 t3))
  all_goals
    have HT := Lib.hid (turnZ_ticket i _ _ HP.out K3.out 2)
    go_wp2_with (go_at_call 379; refine HT.out.mono ?_; rintro e w' ⟨rfl, k4, t4⟩; have K4 := Lib.hid (And.intro k4 t4); clear k4 t4)
    go_ret
    rw [StOk, HX.out]
    exact ⟨rfl, K4.out.1, (T2.out.trans (turns_qag (turns_q _ _ _))).trans (turns_qag K4.out.2)⟩
set_option maxRecDepth 100000 in
set_option maxHeartbeats 2000000 in
theorem step_tick2 (h : KIs w a g 2 x s S) (i : Nat) (u b z : Int) (hp : S[i]? = some (⟨2, u, b, z⟩ : Sp)) (ho : s.ops + 1 ≤ 1000000000000) :
    Calls Tryz.prog 376 #[.pointer (some ⟨x.l, 0, none⟩), .int .i64 i] w (StOk w a g 2 x s S i ⟨2, u, b, z⟩) := by
  have hi : i < x.n := by have := (List.getElem?_eq_some_iff.1 hp).1; rw [h.n] at this; exact this
  have a0 := h.sp.cell hp 0 _ rfl
  simp only [Nat.add_zero] at a0
  have t1 := h.t1
  obtain ⟨ar', har⟩ : ∃ q, q = loadA s ((x.t : Int) + 1) := ⟨_, rfl⟩
  obtain ⟨v, hv⟩ : ∃ v, v = ldW s.W ((x.t : Int) + 1) := ⟨_, rfl⟩
  have HX : Hid (stepK 2 x.t x.m s i ⟨2, u, b, z⟩ = (ar', ⟨if v = u then 10 else 2, u, b, z⟩)) := Lib.hid (by rw [har, hv]; rfl)
  have HO0 := (fun W (k : KIs W a g 2 x s S) => load_any k.ar ((x.t : Int) + 1) ho)
  rw [← har, ← hv] at HO0
  have e1 : IntKind.i64.wrap ((x.t : Int) + 1) = (x.t : Int) + 1 := IntWalk.i64_in _ (by omega)
  have HO := Lib.hid HO0
  have HC : Hid (∀ W s (S' : List Sp) (c : Int), KIs W a g 2 x s S' → S'[i]? = some (⟨c, u, b, z⟩ : Sp) → W.cell? ⟨x.l, 1, none⟩ = some (.pointer (some ⟨a, 0, none⟩)) ∧ W.cell? ⟨x.l, 2, none⟩ = some (.int .i64 x.t) ∧ W.cell? ⟨x.q, i * 4 + 1, none⟩ = some (.int .i64 u)) := Lib.hid (fun W s S' c k hp => ⟨k.ti.1, k.ti.2, k.sp.cell hp 1 _ rfl⟩)
  have HP := Lib.hid hp
  have K0 := Lib.hid h
  have K1 := Lib.hid (h.below ((Below.refl _ w).drew))
  clear HO0 h hp har hv
  cases hc : (v == u)
  · go_enter Tryz.func376, Tryz.ntmps376
    go_wp2_with (go_at_call 377; refine (of_ticket _ _).mono ?_; rintro e w' ⟨rfl, rfl⟩)
    go_wp2_with (go_at_call 381; refine (spot_ticket K0.out i hi).mono ?_; rintro e w' ⟨rfl, rfl⟩)
    refine wp_region_held_drew (S := (fun W => W.cell? ⟨x.l, 1, none⟩ = some (.pointer (some ⟨a, 0, none⟩)) ∧ W.cell? ⟨x.l, 2, none⟩ = some (.int .i64 x.t) ∧ W.cell? ⟨x.q, i * 4 + 1, none⟩ = some (.int .i64 u))) (by kernel_rfl) (by exact HC.out _ _ _ _ K1.out HP.out) (fun hHeld => ?_)
    refine wpAnyH_take (i := 0) (v := ?v0) rfl (by kernel_rfl) (by kernel_rfl) (by kernel_rfl) (fun _ _ _ h => h) (Or.inl ⟨by rfl, ?hy0⟩) (by assumption) ?_
    case hy0 => (intro W hSw; (try dsimp only at hSw); go_simp; try with_reducible rfl)
    try simp only [Act.put, List.setIfInBounds_toArray, List.set_cons_zero, List.set_cons_succ, List.getElem_toArray, List.getElem_cons_zero, List.getElem_cons_succ]
    refine wpAnyH_take (i := 1) (v := ?v1) rfl (by kernel_rfl) (by kernel_rfl) (by kernel_rfl) (fun _ _ _ h => h) (Or.inl ⟨by rfl, ?hy1⟩) (by assumption) ?_
    case hy1 => (intro W hSw; (try dsimp only at hSw); go_simp; try with_reducible rfl)
    try simp only [Act.put, List.setIfInBounds_toArray, List.set_cons_zero, List.set_cons_succ, List.getElem_toArray, List.getElem_cons_zero, List.getElem_cons_succ]
    refine wpAnyH_take (i := 2) (v := ?v2) rfl (by kernel_rfl) (by kernel_rfl) (by kernel_rfl) (fun _ _ _ h => h) (Or.inl ⟨by rfl, ?hy2⟩) (by assumption) ?_
    case hy2 => (intro W hSw; (try dsimp only at hSw); go_simp; try with_reducible rfl)
    try simp only [Act.put, List.setIfInBounds_toArray, List.set_cons_zero, List.set_cons_succ, List.getElem_toArray, List.getElem_cons_zero, List.getElem_cons_succ]
    refine wpAnyH_take (i := 3) (v := ?v3) rfl (by kernel_rfl) (by kernel_rfl) (by kernel_rfl) (fun _ _ _ h => h) (Or.inl ⟨by rfl, ?hy3⟩) (by assumption) ?_
    case hy3 => (intro W hSw; (try dsimp only at hSw); go_simp; try with_reducible rfl)
    try simp only [Act.put, List.setIfInBounds_toArray, List.set_cons_zero, List.set_cons_succ, List.getElem_toArray, List.getElem_cons_zero, List.getElem_cons_succ]
    refine wpAnyH_take (i := 4) (v := ?v4) rfl (by kernel_rfl) (by kernel_rfl) (by kernel_rfl) (fun _ _ _ h => h) (Or.inl ⟨by rfl, ?hy4⟩) (by assumption) ?_
    case hy4 => (intro W hSw; (try dsimp only at hSw); go_simp; try with_reducible rfl)
    try simp only [Act.put, List.setIfInBounds_toArray, List.set_cons_zero, List.set_cons_succ, List.getElem_toArray, List.getElem_cons_zero, List.getElem_cons_succ]
    refine wpAnyH_take (i := 5) (v := ?v5) rfl (by kernel_rfl) (by kernel_rfl) (by kernel_rfl) (fun _ _ _ h => h) (Or.inl ⟨by rfl, ?hy5⟩) (by assumption) ?_
    case hy5 => (intro W hSw; (try dsimp only at hSw); go_simp; try with_reducible rfl)
    try simp only [Act.put, List.setIfInBounds_toArray, List.set_cons_zero, List.set_cons_succ, List.getElem_toArray, List.getElem_cons_zero, List.getElem_cons_succ]
    refine wpAnyH_take (i := 6) (v := ?v6) rfl (by kernel_rfl) (by kernel_rfl) (by kernel_rfl) (fun _ _ _ h => h) (Or.inl ⟨by rfl, ?hy6⟩) (by assumption) ?_
    case hy6 => (intro W hSw; (try dsimp only at hSw); go_simp; try with_reducible rfl)
    try simp only [Act.put, List.setIfInBounds_toArray, List.set_cons_zero, List.set_cons_succ, List.getElem_toArray, List.getElem_cons_zero, List.getElem_cons_succ]
    refine wpAnyH_take (i := 7) (v := ?v7) rfl (by kernel_rfl) (by kernel_rfl) (by kernel_rfl) (fun _ _ _ h => h) (Or.inl ⟨by rfl, ?hy7⟩) (by assumption) ?_
    case hy7 => (intro W hSw; (try dsimp only at hSw); go_simp; try with_reducible rfl)
    try simp only [Act.put, List.setIfInBounds_toArray, List.set_cons_zero, List.set_cons_succ, List.getElem_toArray, List.getElem_cons_zero, List.getElem_cons_succ]
    refine wpAnyH_take (i := 8) (v := ?v8) rfl (by kernel_rfl) (by kernel_rfl) (by kernel_rfl) (fun _ _ _ h => h) (Or.inl ⟨by rfl, ?hy8⟩) (by assumption) ?_
    case hy8 => (intro W hSw; (try dsimp only at hSw); go_simp; try with_reducible rfl)
    try simp only [Act.put, List.setIfInBounds_toArray, List.set_cons_zero, List.set_cons_succ, List.getElem_toArray, List.getElem_cons_zero, List.getElem_cons_succ]
    refine wpAnyH_take (i := 10) (v := ?v10) rfl (by kernel_rfl) (by kernel_rfl) (by kernel_rfl) (fun _ _ _ h => h) (Or.inl ⟨by rfl, ?hy10⟩) (by assumption) ?_
    case hy10 => (intro W hSw; (try dsimp only at hSw); go_simp; try with_reducible rfl)
    try simp only [Act.put, List.setIfInBounds_toArray, List.set_cons_zero, List.set_cons_succ, List.getElem_toArray, List.getElem_cons_zero, List.getElem_cons_succ]
    refine wpAnyH_take (i := 11) (v := ?v11) rfl (by kernel_rfl) (by kernel_rfl) (by kernel_rfl) (fun _ _ _ h => h) (Or.inl ⟨by rfl, ?hy11⟩) (by assumption) ?_
    case hy11 => (intro W hSw; (try dsimp only at hSw); go_simp; try with_reducible rfl)
    try simp only [Act.put, List.setIfInBounds_toArray, List.set_cons_zero, List.set_cons_succ, List.getElem_toArray, List.getElem_cons_zero, List.getElem_cons_succ]
    refine wpAnyH_take (i := 12) (v := ?v12) rfl (by kernel_rfl) (by kernel_rfl) (by kernel_rfl) (fun _ _ _ h => h) (Or.inl ⟨by rfl, ?hy12⟩) (by assumption) ?_
    case hy12 => (intro W hSw; (try dsimp only at hSw); go_simp; try with_reducible rfl)
    try simp only [Act.put, List.setIfInBounds_toArray, List.set_cons_zero, List.set_cons_succ, List.getElem_toArray, List.getElem_cons_zero, List.getElem_cons_succ]
    refine wpAnyH_take (i := 13) (v := ?v13) rfl (by kernel_rfl) (by kernel_rfl) (by kernel_rfl) (fun _ _ _ h => h) (Or.inl ⟨by rfl, ?hy13⟩) (by assumption) ?_
    case hy13 => (intro W hSw; (try dsimp only at hSw); go_simp; try with_reducible rfl)
    try simp only [Act.put, List.setIfInBounds_toArray, List.set_cons_zero, List.set_cons_succ, List.getElem_toArray, List.getElem_cons_zero, List.getElem_cons_succ]
    refine wpAnyH_ready (rs := [9]) (by kernel_rfl) (by simp) ?_
    refine AllReadyH.cons rfl (fun K hK => ?_) AllReadyH.nil
    go_simp
    go_at_call 140
    refine (HO.out _ K1.out).mono ?_
    rintro en w3 ⟨rfl, a3, t3⟩
    have K2 := Lib.hid (K1.out.op t3 a3)
    have T2 := Lib.hid (((Turns.refl [a, g, x.q] w).drew).trans (turns_agq t3))
    clear a3 t3
    refine hK.out _ _ ?_ (fun hHeld => ?_)
    · exact HC.out _ _ _ _ K2.out HP.out
    clear hK K
    try simp only [Act.put, List.setIfInBounds_toArray, List.set_cons_zero, List.set_cons_succ, List.getElem_toArray, List.getElem_cons_zero, List.getElem_cons_succ]
    refine wpAnyH_take (i := 14) (v := ?v14) rfl (by kernel_rfl) (by kernel_rfl) (by kernel_rfl) (fun _ _ _ h => h) (Or.inl ⟨by rfl, ?hy14⟩) (by assumption) ?_
    case hy14 => (intro W hSw; (try dsimp only at hSw); go_simp; try with_reducible rfl)
    try simp only [Act.put, List.setIfInBounds_toArray, List.set_cons_zero, List.set_cons_succ, List.getElem_toArray, List.getElem_cons_zero, List.getElem_cons_succ]
    refine wpAnyH_take (i := 15) (v := ?v15) rfl (by kernel_rfl) (by kernel_rfl) (by kernel_rfl) (fun _ _ _ h => h) (Or.inl ⟨by rfl, ?hy15⟩) (by assumption) ?_
    case hy15 => (intro W hSw; (try dsimp only at hSw); go_simp; try with_reducible rfl)
    try simp only [Act.put, List.setIfInBounds_toArray, List.set_cons_zero, List.set_cons_succ, List.getElem_toArray, List.getElem_cons_zero, List.getElem_cons_succ]
    refine wpAnyH_take (i := 16) (v := undef) rfl (by kernel_rfl) (by kernel_rfl) (by kernel_rfl) (fun _ _ _ h => h) (Or.inr ⟨by rfl, rfl⟩) (by assumption) ?_
    try simp only [Act.put, List.setIfInBounds_toArray, List.set_cons_zero, List.set_cons_succ, List.getElem_toArray, List.getElem_cons_zero, List.getElem_cons_succ]
    refine wpAnyH_take (i := 17) (v := undef) rfl (by kernel_rfl) (by kernel_rfl) (by kernel_rfl) (fun _ _ _ h => h) (Or.inr ⟨by rfl, rfl⟩) (by assumption) ?_
    try simp only [Act.put, List.setIfInBounds_toArray, List.set_cons_zero, List.set_cons_succ, List.getElem_toArray, List.getElem_cons_zero, List.getElem_cons_succ]
    refine wpAnyH_take (i := 18) (v := undef) rfl (by kernel_rfl) (by kernel_rfl) (by kernel_rfl) (fun _ _ _ h => h) (Or.inr ⟨by rfl, rfl⟩) (by assumption) ?_
    try simp only [Act.put, List.setIfInBounds_toArray, List.set_cons_zero, List.set_cons_succ, List.getElem_toArray, List.getElem_cons_zero, List.getElem_cons_succ]
    refine wpAnyH_take (i := 19) (v := undef) rfl (by kernel_rfl) (by kernel_rfl) (by kernel_rfl) (fun _ _ _ h => h) (Or.inr ⟨by rfl, rfl⟩) (by assumption) ?_
    try simp only [Act.put, List.setIfInBounds_toArray, List.set_cons_zero, List.set_cons_succ, List.getElem_toArray, List.getElem_cons_zero, List.getElem_cons_succ]
    refine wpAnyH_take (i := 20) (v := undef) rfl (by kernel_rfl) (by kernel_rfl) (by kernel_rfl) (fun _ _ _ h => h) (Or.inr ⟨by rfl, rfl⟩) (by assumption) ?_
    try simp only [Act.put, List.setIfInBounds_toArray, List.set_cons_zero, List.set_cons_succ, List.getElem_toArray, List.getElem_cons_zero, List.getElem_cons_succ]
    refine wpAnyH_take (i := 21) (v := ?v21) rfl (by kernel_rfl) (by kernel_rfl) (by kernel_rfl) (fun _ _ _ h => h) (Or.inl ⟨by rfl, ?hy21⟩) (by assumption) ?_
    case hy21 => (intro W hSw; (try dsimp only at hSw); go_simp; try with_reducible rfl)
    try simp only [Act.put, List.setIfInBounds_toArray, List.set_cons_zero, List.set_cons_succ, List.getElem_toArray, List.getElem_cons_zero, List.getElem_cons_succ]
    refine wpAnyH_take (i := 22) (v := ?v22) rfl (by kernel_rfl) (by kernel_rfl) (by kernel_rfl) (fun _ _ _ h => h) (Or.inl ⟨by rfl, ?hy22⟩) (by assumption) ?_
    case hy22 => (intro W hSw; (try dsimp only at hSw); go_simp; try with_reducible rfl)
    try simp only [Act.put, List.setIfInBounds_toArray, List.set_cons_zero, List.set_cons_succ, List.getElem_toArray, List.getElem_cons_zero, List.getElem_cons_succ]
    refine wpAnyH_done (by kernel_rfl) ?_ _
    go_wp2
    go_ret
    rw [StOk, HX.out]
    rw [if_neg (by simpa using hc), setS_id HP.out]
    exact ⟨rfl, K2.out, T2.out⟩
  · go_enter Tryz.func376, Tryz.ntmps376
    go_wp2_with (go_at_call 377; refine (of_ticket _ _).mono ?_; rintro e w' ⟨rfl, rfl⟩)
    go_wp2_with (go_at_call 381; refine (spot_ticket K0.out i hi).mono ?_; rintro e w' ⟨rfl, rfl⟩)
    first
    | (go_region_held3 (fun W => W.cell? ⟨x.l, 1, none⟩ = some (.pointer (some ⟨a, 0, none⟩)) ∧ W.cell? ⟨x.l, 2, none⟩ = some (.int .i64 x.t) ∧ W.cell? ⟨x.q, i * 4 + 1, none⟩ = some (.int .i64 u))
        (first | with_reducible exact HC.out _ _ _ _ K1.out HP.out | with_reducible exact HC.out _ _ _ _ K2.out HP.out | with_reducible exact HC.out _ _ _ _ K4.out.1 (getS_set HP.out _))
        (first
          | (go_at_call 140; go_loud (refine (HO.out _ K1.out).mono ?_); rintro en w3 ⟨rfl, a3, t3⟩; have K2 := Lib.hid (K1.out.op t3 a3); have T2 := Lib.hid (((Turns.refl [a, g, x.q] w).drew).trans (turns_agq t3)); have HT := Lib.hid (turnZ_ticket i _ _ HP.out (by rw [setS_id HP.out]; exact K2.out) 10); clear a3 t3)
          | (go_at_call 379; go_loud (refine HT.out.mono ?_); rintro en w4 ⟨rfl, k4, t4⟩; have K4 := Lib.hid (And.intro k4 t4); clear k4 t4)))
    | fail "held"
    all_goals
      go_wp2
      go_ret
      rw [StOk, HX.out]
      rw [if_pos (by simpa using hc)]
      exact ⟨rfl, K4.out.1, T2.out.trans (turns_qag K4.out.2)⟩
set_option maxRecDepth 100000 in
set_option maxHeartbeats 2000000 in
theorem step_tick11 (h : KIs w a g 2 x s S) (i : Nat) (u b z : Int) (hp : S[i]? = some (⟨11, u, b, z⟩ : Sp)) (ho : s.ops + 1 ≤ 1000000000000) (hu0 : -10 ≤ u) (hu1 : u ≤ 10000000000000) :
    Calls Tryz.prog 376 #[.pointer (some ⟨x.l, 0, none⟩), .int .i64 i] w (StOk w a g 2 x s S i ⟨11, u, b, z⟩) := by
  have hi : i < x.n := by have := (List.getElem?_eq_some_iff.1 hp).1; rw [h.n] at this; exact this
  have a0 := h.sp.cell hp 0 _ rfl
  simp only [Nat.add_zero] at a0
  have t1 := h.t1
  obtain ⟨ar', har⟩ : ∃ q, q = storeA s ((x.t : Int) + 1) (u + 1) := ⟨_, rfl⟩
  have HX : Hid (stepK 2 x.t x.m s i ⟨11, u, b, z⟩ = (ar', ⟨0, u, b, z⟩)) := Lib.hid (by rw [har]; rfl)
  have HO0 := (fun W (k : KIs W a g 2 x s S) => store_any k.ar ((x.t : Int) + 1) (u + 1) ho)
  rw [← har] at HO0
  have e1 : IntKind.i64.wrap ((x.t : Int) + 1) = (x.t : Int) + 1 := IntWalk.i64_in _ (by omega)
  have e2 : IntKind.i64.wrap (u + 1) = u + 1 := IntWalk.i64_in _ (by omega)
  have HO := Lib.hid HO0
  have HC : Hid (∀ W s (S' : List Sp) (c : Int), KIs W a g 2 x s S' → S'[i]? = some (⟨c, u, b, z⟩ : Sp) → W.cell? ⟨x.l, 1, none⟩ = some (.pointer (some ⟨a, 0, none⟩)) ∧ W.cell? ⟨x.l, 2, none⟩ = some (.int .i64 x.t) ∧ W.cell? ⟨x.q, i * 4 + 1, none⟩ = some (.int .i64 u)) := Lib.hid (fun W s S' c k hp => ⟨k.ti.1, k.ti.2, k.sp.cell hp 1 _ rfl⟩)
  have HP := Lib.hid hp
  have K0 := Lib.hid h
  have K1 := Lib.hid (h.below ((Below.refl _ w).drew))
  clear HO0 h hp har
  go_enter Tryz.func376, Tryz.ntmps376
  go_wp2_with (go_at_call 377; refine (of_ticket _ _).mono ?_; rintro e w' ⟨rfl, rfl⟩)
  go_wp2_with (go_at_call 381; refine (spot_ticket K0.out i hi).mono ?_; rintro e w' ⟨rfl, rfl⟩)
  go_region_held3 (fun W => W.cell? ⟨x.l, 1, none⟩ = some (.pointer (some ⟨a, 0, none⟩)) ∧ W.cell? ⟨x.l, 2, none⟩ = some (.int .i64 x.t) ∧ W.cell? ⟨x.q, i * 4 + 1, none⟩ = some (.int .i64 u))
    (first | with_reducible exact HC.out _ _ _ _ K1.out HP.out | with_reducible exact HC.out _ _ _ _ K2.out HP.out)
    (first
      | (go_at_call 144; go_loud (refine (HO.out _ K1.out).mono ?_); rintro en w3 ⟨rfl, a3, t3⟩; have K2 := Lib.hid (K1.out.op t3 a3); have T2 := Lib.hid (((Turns.refl [a, g, x.q] w).drew).trans (turns_agq t3)); clear a3 t3))
  all_goals
    have HT := Lib.hid (turnZ_ticket i _ _ HP.out (by rw [setS_id HP.out]; exact K2.out) 0)
    go_wp2_with (go_at_call 379; refine HT.out.mono ?_; rintro e w' ⟨rfl, k4, t4⟩; have K4 := Lib.hid (And.intro k4 t4); clear k4 t4)
    go_ret
    rw [StOk, HX.out]
    exact ⟨rfl, K4.out.1, T2.out.trans (turns_qag K4.out.2)⟩
/-- a slot that is at no step stays -/
theorem step_tick0 (h : KIs w a g 2 x s S) (i : Nat) (p : Sp) (hp : S[i]? = some p) (h0 : p.pc = 0 ∨ p.pc = 10) :
    Calls Tryz.prog 376 #[.pointer (some ⟨x.l, 0, none⟩), .int .i64 i] w (StOk w a g 2 x s S i p) := by
  have hi : i < x.n := by have := (List.getElem?_eq_some_iff.1 hp).1; rw [h.n] at this; exact this
  obtain ⟨c, u, b, z⟩ := p
  have a0 := h.sp.cell hp 0 _ rfl
  simp only [Nat.add_zero] at a0
  have HP := Lib.hid hp
  have K0 := Lib.hid h
  clear h hp
  simp only at h0
  rcases h0 with rfl | rfl
  all_goals
    go_enter Tryz.func376, Tryz.ntmps376
    go_wp2_with (go_at_call 377; refine (of_ticket _ _).mono ?_; rintro e w' ⟨rfl, rfl⟩)
    go_wp2_with (go_at_call 381; refine (spot_ticket K0.out i hi).mono ?_; rintro e w' ⟨rfl, rfl⟩)
    go_ret
    refine ⟨rfl, ?_, Turns.refl _ _⟩
    have k := K0.out
    rw [← setS_id HP.out] at k
    exact k
set_option maxRecDepth 100000 in
set_option maxHeartbeats 2000000 in
theorem alone_tick (h : KIs w a g 2 x s S) (i : Nat) (p : Sp) (hp : S[i]? = some p) (hpc : p.pc = 10) (ho : s.ops + 1 ≤ 1000000000000) (hu0 : -10 ≤ p.a) (hu1 : p.a ≤ 10000000000000) :
    Calls Tryz.prog 371 #[.pointer (some ⟨x.l, 0, none⟩), .int .i64 i] w (AlOk w a g 2 x s S i p) := by
  obtain ⟨c, u, b, z⟩ := p
  simp only at hu0 hu1 hpc
  subst hpc
  obtain ⟨ar', har⟩ : ∃ q, q = loadA s x.t := ⟨_, rfl⟩
  obtain ⟨v, hv⟩ : ∃ v, v = ldW s.W x.t := ⟨_, rfl⟩
  have HX : Hid (aloneK 2 x.t s i ⟨10, u, b, z⟩ = (ar', decide (v = u + 1))) := Lib.hid (by rw [har, hv]; rfl)
  have HO0 := (fun W (k : KIs W a g 2 x s S) => load_any k.ar x.t ho)
  rw [← har, ← hv] at HO0
  have e2 : IntKind.i64.wrap (u + 1) = u + 1 := IntWalk.i64_in _ (by omega)
  have HO := Lib.hid HO0
  have HC : Hid (∀ W s (S' : List Sp) (c : Int), KIs W a g 2 x s S' → S'[i]? = some (⟨c, u, b, z⟩ : Sp) → W.cell? ⟨x.l, 1, none⟩ = some (.pointer (some ⟨a, 0, none⟩)) ∧ W.cell? ⟨x.l, 2, none⟩ = some (.int .i64 x.t) ∧ W.cell? ⟨x.q, i * 4 + 1, none⟩ = some (.int .i64 u)) := Lib.hid (fun W s S' c k hp => ⟨k.ti.1, k.ti.2, k.sp.cell hp 1 _ rfl⟩)
  have HA := Lib.hid (at_ticket h i _ hp 10)
  have HP := Lib.hid hp
  have K0 := Lib.hid h
  have K1 := Lib.hid (h.below ((Below.refl _ w).drew))
  clear HO0 h hp har hv
  rw [show (⟨10, u, b, z⟩ : Sp).pc = 10 from rfl, if_pos rfl] at HA
  cases hd : (v == u + 1)
  all_goals
    go_enter Tryz.func371, Tryz.ntmps371
    go_wp2_with (go_at_call 377; refine (of_ticket _ _).mono ?_; rintro e w' ⟨rfl, rfl⟩)
    go_wp2_with (go_at_call 378; refine HA.out.mono ?_; rintro e w' ⟨rfl, rfl⟩)
    go_region_held3 (fun W => W.cell? ⟨x.l, 1, none⟩ = some (.pointer (some ⟨a, 0, none⟩)) ∧ W.cell? ⟨x.l, 2, none⟩ = some (.int .i64 x.t) ∧ W.cell? ⟨x.q, i * 4 + 1, none⟩ = some (.int .i64 u))
      (first | with_reducible exact HC.out _ _ _ _ K1.out HP.out | with_reducible exact HC.out _ _ _ _ K2.out HP.out)
      (first
        | (go_at_call 140; go_loud (refine (HO.out _ K1.out).mono ?_); rintro en w3 ⟨rfl, a3, t3⟩; have K2 := Lib.hid (K1.out.op t3 a3); have T2 := Lib.hid (((Turns.refl [a, g, x.q] w).drew).trans (turns_agq t3)); clear a3 t3))
  all_goals
    go_wp2
    go_ret
    rw [AlOk, HX.out]
    first
      | exact ⟨by rw [decide_eq_true (by simpa using hd)]; rfl, K2.out, T2.out⟩
      | exact ⟨by rw [decide_eq_false (by simpa using hd)]; rfl, K2.out, T2.out⟩
end
end Go.Proofs.YtagajjilccjplaaGreat
end
